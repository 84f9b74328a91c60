/- The law FnExactEarlyAt over whole numbers alone: what the call computes is true; then its walk. -/
import Derived.Test.YtelbflefjllfiaaEa10
namespace Go.Proofs.Ytelbflefjllfiaa.Pure
open Go.RowKit Go.Proofs.Ytelbflefjllfiaa.PFnExactEarlyAt Go.Proofs.YtelbflefjllfiaaW.PrintWords Go.Proofs.YtelbflefjllfiaaW.PrintLast
theorem within_some (a b c : Int) : ∃ r, impl_within.f a b c = some r := by
  unfold impl_within.f; split <;> exact ⟨_, rfl⟩
theorem place_some (x y : Int) : ∃ r, impl_PlaceOk.f x y = some r := by
  obtain ⟨r1, h1⟩ := within_some x (-10000) 10000
  obtain ⟨r2, h2⟩ := within_some y (-10000) 10000
  unfold impl_PlaceOk.f
  rw [h1, h2]
  cases r1 <;> exact ⟨_, rfl⟩
theorem line_some (x y z t : Int) : ∃ r, impl_LineOk.f x y z t = some r := by
  obtain ⟨r1, h1⟩ := place_some x y
  obtain ⟨r2, h2⟩ := place_some z t
  unfold impl_LineOk.f
  rw [h1, h2]
  cases r1 <;> cases r2 <;> exact ⟨_, rfl⟩
theorem height_same (a b c d x y : Int) : spec_l09Height.f a b c d x y = impl_height.f a b c d x y := by
  unfold spec_l09Height.f spec_l09Cross.f impl_height.f impl_Place_less.f impl_Place_cross.f
  rfl
theorem height_some (a b c d x y : Int) : ∃ r, impl_height.f a b c d x y = some r := by
  unfold impl_height.f impl_Place_less.f impl_Place_cross.f
  exact ⟨_, rfl⟩

theorem time_some (x : Int) : ∃ r, impl_timeOk.f x = some r := by
  obtain ⟨r, h⟩ := within_some x 0 10000000
  unfold impl_timeOk.f
  rw [h]; exact ⟨_, rfl⟩
/-- 'toSightS' makes the same list again. -/
def cp (x : S52) : S55 := ⟨⟨x.f0.f0, x.f0.f1⟩, x.f1⟩
theorem wrap_in {n : Int} (h0 : 0 ≤ n) (h : n ≤ 11728124029610) : wrap64 n = n := by unfold wrap64; omega
theorem copy_loop (l : List S52) (hl : l.length ≤ 1048576) : ∀ (d k i : Nat) (acc : List S55), i + d = l.length → d < k → acc.length = l.length → acc.take i = (l.map cp).take i →
    laws_toSightS.l0 k l acc i = some (l.map cp) := by
  intro d
  induction d with
  | zero =>
    intro k i acc hi hk ha ht
    obtain ⟨k, rfl⟩ : ∃ m, k = m + 1 := ⟨k - 1, by omega⟩
    simp only [laws_toSightS.l0]
    rw [if_neg (by omega)]
    rw [List.take_of_length_le (by omega), List.take_of_length_le (by simp; omega)] at ht
    rw [ht]
  | succ d ih =>
    intro k i acc hi hk ha ht
    obtain ⟨k, rfl⟩ : ∃ m, k = m + 1 := ⟨k - 1, by omega⟩
    simp only [laws_toSightS.l0, laws_toSight.f, laws_toPlace.f, Option.bind_some]
    rw [if_pos (by omega), if_pos (by omega), if_pos (by omega), wrap_in (by omega) (by omega)]
    have hil : i < l.length := by omega
    have e : rd_T52 l (i : Int) = l[i] := by
      unfold rd_T52
      rw [List.getD_eq_getElem?_getD, Int.toNat_natCast, List.getElem?_eq_getElem hil]
      rfl
    rw [e, Int.toNat_natCast]
    refine ih k (i + 1) _ (by omega) (by omega) (by simpa using ha) ?_
    rw [List.take_succ_eq_append_getElem (by simpa using (by omega : i < acc.length)), List.take_succ_eq_append_getElem (by simpa using hil)]
    rw [List.take_set_of_le (by omega), ht]
    simp [cp]
theorem copy_some (l : List S52) (hl : l.length ≤ 1048576) (k : Nat) (hk : l.length < k) : laws_toSightS.f k l = some (l.map cp) := by
  unfold laws_toSightS.f
  rw [if_pos (by omega), if_pos (by simp; omega)]
  exact copy_loop l hl l.length k 0 _ (by omega) hk (by simp) (by simp)
theorem rd_at (l : List S55) (i : Nat) (h : i < l.length) : rd_T55 l (i : Int) = l[i] := by
  unfold rd_T55
  rw [List.getD_eq_getElem?_getD, Int.toNat_natCast, List.getElem?_eq_getElem h]
  rfl
theorem eq_loop (l : List S55) (hl : l.length ≤ 1048576) : ∀ (d k i : Nat), i + d = l.length → d < k → laws_eqSightS.l0 k l l i = some true := by
  intro d
  induction d with
  | zero =>
    intro k i hi hk
    obtain ⟨k, rfl⟩ : ∃ m, k = m + 1 := ⟨k - 1, by omega⟩
    simp only [laws_eqSightS.l0]
    rw [if_neg (by omega)]
  | succ d ih =>
    intro k i hi hk
    obtain ⟨k, rfl⟩ : ∃ m, k = m + 1 := ⟨k - 1, by omega⟩
    simp only [laws_eqSightS.l0, laws_eqSight.f, laws_eqPlace.f, if_true, Option.bind_some]
    rw [if_pos (by omega), if_pos (by omega), if_pos (by omega), wrap_in (by omega) (by omega)]
    exact ih k (i + 1) (by omega) (by omega)
theorem eq_some (l : List S55) (hl : l.length ≤ 1048576) (k : Nat) (hk : l.length < k) : laws_eqSightS.f k l l = some true := by
  unfold laws_eqSightS.f
  rw [if_pos rfl]
  exact eq_loop l hl l.length k 0 (by omega) hk
/-- What both of them tell of a track from some sight on. -/
def good (l : List S55) (i : Nat) : Bool :=
  match l[i]? with
  | none => true
  | some s => (impl_PlaceOk.f s.f0.f0 s.f0.f1 == some true) && (impl_timeOk.f s.f1 == some true) && (i == 0 || (match l[i - 1]? with | some q => decide (q.f1 < s.f1) | none => true))
def goods (l : List S55) : Nat → Nat → Bool
  | 0, _ => true
  | d + 1, i => good l i && goods l d (i + 1)
theorem spec_loop (l : List S55) (hl : l.length ≤ 1048576) : ∀ (d k i : Nat), i + d = l.length → d < k → spec_TrackOk.l0 k l i = some (goods l d i && decide ((l.length : Int) ≤ 200)) := by
  intro d
  induction d with
  | zero =>
    intro k i hi hk
    obtain ⟨k, rfl⟩ : ∃ m, k = m + 1 := ⟨k - 1, by omega⟩
    simp only [spec_TrackOk.l0]
    rw [if_neg (by omega)]
    simp [goods]
  | succ d ih =>
    intro k i hi hk
    obtain ⟨k, rfl⟩ : ∃ m, k = m + 1 := ⟨k - 1, by omega⟩
    have hil : i < l.length := by omega
    have e1 : spec_PlaceOk.f = impl_PlaceOk.f := rfl
    have e2 : ∀ x, spec_l01In.f x 0 10000000 = impl_timeOk.f x := by intro x; unfold impl_timeOk.f; show impl_within.f _ _ _ = _; cases impl_within.f x 0 10000000 <;> rfl
    simp only [spec_TrackOk.l0, e1, e2]
    rw [if_pos (by omega), if_pos (by omega), rd_at l i hil]
    obtain ⟨b, hb⟩ := place_some l[i].f0.f0 l[i].f0.f1
    obtain ⟨c, hc⟩ := time_some l[i].f1
    rw [hb, hc, Option.bind_some]
    have hih := ih k (i + 1) (by omega) (by omega)
    have hw : wrap64 ((i : Int) + 1) = ((i + 1 : Nat) : Int) := by rw [wrap_in (by omega) (by omega)]; omega
    rw [hw, hih]
    simp only [goods, good, List.getElem?_eq_getElem hil, hb, hc]
    cases b
    · simp
    · cases c
      · simp
      · simp only [if_true, Option.bind_some]
        by_cases h0 : i = 0
        · subst h0; simp
        · have hw2 : wrap64 ((i : Int) - 1) = ((i - 1 : Nat) : Int) := by rw [wrap_in (by omega) (by omega)]; omega
          rw [if_pos (by omega), hw2, if_pos (by omega), if_pos (by omega), rd_at l (i - 1) (by omega)]
          simp only [List.getElem?_eq_getElem (show i - 1 < l.length by omega)]
          by_cases hlt : l[i].f1 ≤ l[i - 1].f1
          · rw [if_pos hlt]; simp [h0, Int.not_lt.2 hlt]
          · rw [if_neg hlt]; simp [Int.lt_of_not_ge hlt]
theorem impl_loop (l : List S55) (hl : l.length ≤ 1048576) : ∀ (d k i : Nat), i + d = l.length → d < k → impl_TrackOk.l0 k l l l.length i = some (goods l d i) := by
  intro d
  induction d with
  | zero =>
    intro k i hi hk
    obtain ⟨k, rfl⟩ : ∃ m, k = m + 1 := ⟨k - 1, by omega⟩
    simp only [impl_TrackOk.l0]
    rw [if_neg (by omega)]
    simp [goods]
  | succ d ih =>
    intro k i hi hk
    obtain ⟨k, rfl⟩ : ∃ m, k = m + 1 := ⟨k - 1, by omega⟩
    have hil : i < l.length := by omega
    simp only [impl_TrackOk.l0]
    rw [if_pos (by omega), if_pos (by omega), if_pos (by omega), rd_at l i hil]
    obtain ⟨b, hb⟩ := place_some l[i].f0.f0 l[i].f0.f1
    obtain ⟨c, hc⟩ := time_some l[i].f1
    rw [hb, hc, Option.bind_some]
    have hih := ih k (i + 1) (by omega) (by omega)
    have hw : wrap64 ((i : Int) + 1) = ((i + 1 : Nat) : Int) := by rw [wrap_in (by omega) (by omega)]; omega
    rw [hw, hih]
    simp only [goods, good, List.getElem?_eq_getElem hil, hb, hc]
    cases b
    · simp
    · cases c
      · simp
      · simp only [if_true, Option.bind_some]
        by_cases h0 : i = 0
        · subst h0; simp
        · have hw2 : wrap64 ((i : Int) - 1) = ((i - 1 : Nat) : Int) := by rw [wrap_in (by omega) (by omega)]; omega
          rw [if_pos (by omega), hw2, if_pos (by omega), if_pos (by omega), rd_at l (i - 1) (by omega)]
          simp only [List.getElem?_eq_getElem (show i - 1 < l.length by omega)]
          by_cases hlt : l[i].f1 ≤ l[i - 1].f1
          · rw [if_pos hlt]; simp [h0, Int.not_lt.2 hlt]
          · rw [if_neg hlt]; simp [Int.lt_of_not_ge hlt]
def trackOk (l : List S55) : Bool := goods l l.length 0 && decide ((l.length : Int) ≤ 200)
theorem spec_track (l : List S55) (hl : l.length ≤ 1048576) (k : Nat) (hk : l.length < k) : spec_TrackOk.f k l = some (trackOk l) := by
  unfold spec_TrackOk.f
  exact spec_loop l hl l.length k 0 (by omega) hk
theorem impl_track (l : List S55) (hl : l.length ≤ 1048576) (k : Nat) (hk : l.length < k) : impl_TrackOk.f k l = some (trackOk l) := by
  unfold impl_TrackOk.f trackOk
  by_cases h : (l.length : Int) > 200
  · rw [if_pos h, show decide ((l.length : Int) ≤ 200) = false by simp; omega]; simp
  · rw [if_neg h, show decide ((l.length : Int) ≤ 200) = true by simp; omega, Bool.and_true]
    exact impl_loop l hl l.length k 0 (by omega) hk

theorem size_tells (l : List S52) (hn : l.length ≤ 9223372036854775807) : (1048576 < l.length ∧ laws_szSightS.f l 1048576 = some (-1)) ∨ (l.length ≤ 1048576 ∧ ∃ r, laws_szSightS.f l 1048576 = some r ∧ ¬ r < 0) := by
  have hw : wrap64 (1048576 - (l.length : Int)) = 1048576 - (l.length : Int) := by unfold wrap64; omega
  unfold laws_szSightS.f
  rw [hw]
  by_cases h : 1048576 < l.length
  · exact Or.inl ⟨h, by rw [if_pos (by omega)]⟩
  · exact Or.inr ⟨by omega, _, by rw [if_neg (by omega)], by omega⟩

theorem early_l0 (l : List S55) (g a b c d : Int) : ∀ (k : Nat) (i : Int), spec_EarlyAt.l0 k l g i a b c d = impl_EarlyAt.l0 k l g i a b c d := by
  intro k
  induction k with
  | zero => intro i; rfl
  | succ k ih =>
    intro i
    have e : spec_l01In.f = impl_within.f := rfl
    simp only [spec_EarlyAt.l0, impl_EarlyAt.l0, height_same, e, ih]
theorem early_some (l : List S55) (hl : l.length ≤ 1048576) (g a b c d : Int) : ∀ (n k i : Nat), i + n = l.length → n < k → ∃ r, impl_EarlyAt.l0 k l g i a b c d = some r := by
  intro n
  induction n with
  | zero =>
    intro k i hi hk
    obtain ⟨k, rfl⟩ : ∃ m, k = m + 1 := ⟨k - 1, by omega⟩
    have hw : wrap64 ((i : Int) + 1) = ((i + 1 : Nat) : Int) := by rw [wrap_in (by omega) (by omega)]; omega
    simp only [impl_EarlyAt.l0]
    rw [hw, if_neg (by omega)]
    exact ⟨_, rfl⟩
  | succ n ih =>
    intro k i hi hk
    obtain ⟨k, rfl⟩ : ∃ m, k = m + 1 := ⟨k - 1, by omega⟩
    have hw : wrap64 ((i : Int) + 1) = ((i + 1 : Nat) : Int) := by rw [wrap_in (by omega) (by omega)]; omega
    simp only [impl_EarlyAt.l0]
    rw [hw]
    obtain ⟨r, hr⟩ := ih k (i + 1) (by omega) (by omega)
    by_cases hlt : i + 1 < l.length
    · rw [if_pos (by omega), if_pos (by omega), if_pos (by omega), if_pos (by omega), rd_at l i (by omega), rd_at l (i + 1) hlt, hr]
      obtain ⟨q, hq⟩ := within_some g l[i].f1 l[i + 1].f1
      obtain ⟨u, hu⟩ := height_some a b c d l[i].f0.f0 l[i].f0.f1
      obtain ⟨v, hv⟩ := height_some a b c d l[i + 1].f0.f0 l[i + 1].f0.f1
      rw [hq, hu, hv, Option.bind_some, Option.bind_some, Option.bind_some]
      split
      · split <;> exact ⟨_, rfl⟩
      · exact ⟨_, rfl⟩
    · rw [if_neg (by omega)]; exact ⟨_, rfl⟩
theorem early_same (l : List S55) (hl : l.length ≤ 1048576) (g a b c d : Int) : ∃ r, impl_EarlyAt.f (l.length + 2) a b c d l g = some r ∧ spec_EarlyAt.f (l.length + 2) a b c d l g = some r := by
  have e1 : spec_LineOk.f = impl_LineOk.f := rfl
  obtain ⟨z, hz⟩ := early_some l hl g a b c d l.length (l.length + 1) 0 (by omega) (by omega)
  have hz' : impl_EarlyAt.l0 (l.length + 1) l g 0 a b c d = some z := hz
  have hj : ∀ s, ∃ r, impl_EarlyAt.j0 (l.length + 2) l g s a b c d = some r ∧ spec_EarlyAt.j0 (l.length + 2) l g s a b c d = some r := by
    intro s
    simp only [impl_EarlyAt.j0, spec_EarlyAt.j0]
    rw [early_l0, hz']
    cases s
    · exact ⟨_, rfl, rfl⟩
    · exact ⟨_, rfl, rfl⟩
  obtain ⟨r1, h1⟩ := line_some a b c d
  unfold impl_EarlyAt.f spec_EarlyAt.f
  rw [e1, h1, impl_track l hl _ (by omega), spec_track l hl _ (by omega), Option.bind_some, Option.bind_some, Option.bind_some, Option.bind_some]
  cases r1
  · exact hj true
  · exact hj _

theorem FnExactEarlyAt (a b c d : Int) (l : List S52) (g : Int) (hn : l.length ≤ 9223372036854775807) : ∃ k, laws_FnExactEarlyAt.f k a b c d l g = some true := by
  unfold laws_FnExactEarlyAt.f
  rcases size_tells l hn with ⟨_, h⟩ | ⟨hl, r, h, hr⟩
  · exact ⟨0, by rw [h]; rfl⟩
  · refine ⟨l.length + 2, ?_⟩
    have hm : (l.map cp).length = l.length := by simp
    obtain ⟨z, z1, z2⟩ := early_same (l.map cp) (by omega) g a b c d
    rw [hm] at z1 z2
    rw [h, Option.bind_some, if_neg hr, copy_some l hl _ (by omega)]
    simp only [laws_toLine.f, laws_toPlace.f, Option.bind_some]
    rw [z1, z2]
    simp only [Option.bind_some, bne_self_eq_false, Bool.false_eq_true, if_false]
    rw [eq_some (l.map cp) (by omega) _ (by omega)]
    rfl
theorem FnExactEarlyAtWalk (a b c d : Int) (A1 : Option Addr) (c1 : Nat) (l1 : List S52) (g : Int) (w : World) (_ : (Lit.int .i64 a).wf = true) (_ : (Lit.int .i64 b).wf = true) (_ : (Lit.int .i64 c).wf = true) (_ : (Lit.int .i64 d).wf = true) (hc : l1.length ≤ c1) (hr : ReadsRow (k52.K w) 3 w A1 l1.length l1) (_ : (Lit.int .i64 g).wf = true) :
    Calls Try.prog 12 #[.agg #[.int .i64 a, .int .i64 b, .int .i64 c, .int .i64 d], .slice A1 l1.length c1, .int .i64 g] w fun e w' => e = .returned (.bool true) ∧ Below w.heap.size w w' := by
  obtain ⟨k, h⟩ := FnExactEarlyAt a b c d l1 g hr.2.1
  exact laws_FnExactEarlyAt.calls k a b c d A1 c1 l1 g true w hr hc h
end Go.Proofs.Ytelbflefjllfiaa.Pure
