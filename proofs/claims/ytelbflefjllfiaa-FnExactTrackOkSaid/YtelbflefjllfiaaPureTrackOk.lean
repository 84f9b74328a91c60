/- The law FnExactTrackOk over whole numbers alone: what the call computes is true; then its walk. -/
import Derived.Test.YtelbflefjllfiaaPFnExactTrackOkx5
namespace Go.Proofs.Ytelbflefjllfiaa.Pure
open Go.RowKit Go.Proofs.Ytelbflefjllfiaa.PFnExactTrackOk Go.Proofs.YtelbflefjllfiaaW.PrintWords Go.Proofs.YtelbflefjllfiaaW.PrintLast
theorem within_some (a b c : Int) : ∃ r, impl_within.f a b c = some r := by
  unfold impl_within.f; split <;> exact ⟨_, rfl⟩
theorem place_some (x y : Int) : ∃ r, impl_PlaceOk.f x y = some r := by
  obtain ⟨r1, h1⟩ := within_some x (-10000) 10000
  obtain ⟨r2, h2⟩ := within_some y (-10000) 10000
  unfold impl_PlaceOk.f
  rw [h1, h2]
  cases r1 <;> exact ⟨_, rfl⟩

theorem time_some (x : Int) : ∃ r, impl_timeOk.f x = some r := by
  obtain ⟨r, h⟩ := within_some x 0 10000000
  unfold impl_timeOk.f
  rw [h]; exact ⟨_, rfl⟩
/-- 'toSightS' makes the same list again. -/
def cp (x : S52) : S55 := ⟨⟨x.f0.f0, x.f0.f1⟩, x.f1⟩
theorem wrap_in {n : Int} (h0 : 0 ≤ n) (h : n ≤ 11728124029610) : wrap64 n = n := by unfold wrap64; omega
theorem copy_loop (l : List S52) (hl : l.length ≤ 1048576) : ∀ (d k i : Nat) (acc : List S55), i + d = l.length → d < k → acc.length = l.length → acc.take i = (l.map cp).take i →
    laws_toSightS.l0 k l acc i = some (l.map cp) := by
  intro d
  induction d with
  | zero =>
    intro k i acc hi hk ha ht
    obtain ⟨k, rfl⟩ : ∃ m, k = m + 1 := ⟨k - 1, by omega⟩
    simp only [laws_toSightS.l0]
    rw [if_neg (by omega)]
    rw [List.take_of_length_le (by omega), List.take_of_length_le (by simp; omega)] at ht
    rw [ht]
  | succ d ih =>
    intro k i acc hi hk ha ht
    obtain ⟨k, rfl⟩ : ∃ m, k = m + 1 := ⟨k - 1, by omega⟩
    simp only [laws_toSightS.l0, laws_toSight.f, laws_toPlace.f, Option.bind_some]
    rw [if_pos (by omega), if_pos (by omega), if_pos (by omega), wrap_in (by omega) (by omega)]
    have hil : i < l.length := by omega
    have e : rd_T52 l (i : Int) = l[i] := by
      unfold rd_T52
      rw [List.getD_eq_getElem?_getD, Int.toNat_natCast, List.getElem?_eq_getElem hil]
      rfl
    rw [e, Int.toNat_natCast]
    refine ih k (i + 1) _ (by omega) (by omega) (by simpa using ha) ?_
    rw [List.take_succ_eq_append_getElem (by simpa using (by omega : i < acc.length)), List.take_succ_eq_append_getElem (by simpa using hil)]
    rw [List.take_set_of_le (by omega), ht]
    simp [cp]
theorem copy_some (l : List S52) (hl : l.length ≤ 1048576) (k : Nat) (hk : l.length < k) : laws_toSightS.f k l = some (l.map cp) := by
  unfold laws_toSightS.f
  rw [if_pos (by omega), if_pos (by simp; omega)]
  exact copy_loop l hl l.length k 0 _ (by omega) hk (by simp) (by simp)
theorem rd_at (l : List S55) (i : Nat) (h : i < l.length) : rd_T55 l (i : Int) = l[i] := by
  unfold rd_T55
  rw [List.getD_eq_getElem?_getD, Int.toNat_natCast, List.getElem?_eq_getElem h]
  rfl
theorem eq_loop (l : List S55) (hl : l.length ≤ 1048576) : ∀ (d k i : Nat), i + d = l.length → d < k → laws_eqSightS.l0 k l l i = some true := by
  intro d
  induction d with
  | zero =>
    intro k i hi hk
    obtain ⟨k, rfl⟩ : ∃ m, k = m + 1 := ⟨k - 1, by omega⟩
    simp only [laws_eqSightS.l0]
    rw [if_neg (by omega)]
  | succ d ih =>
    intro k i hi hk
    obtain ⟨k, rfl⟩ : ∃ m, k = m + 1 := ⟨k - 1, by omega⟩
    simp only [laws_eqSightS.l0, laws_eqSight.f, laws_eqPlace.f, if_true, Option.bind_some]
    rw [if_pos (by omega), if_pos (by omega), if_pos (by omega), wrap_in (by omega) (by omega)]
    exact ih k (i + 1) (by omega) (by omega)
theorem eq_some (l : List S55) (hl : l.length ≤ 1048576) (k : Nat) (hk : l.length < k) : laws_eqSightS.f k l l = some true := by
  unfold laws_eqSightS.f
  rw [if_pos rfl]
  exact eq_loop l hl l.length k 0 (by omega) hk
/-- What both of them tell of a track from some sight on. -/
def good (l : List S55) (i : Nat) : Bool :=
  match l[i]? with
  | none => true
  | some s => (impl_PlaceOk.f s.f0.f0 s.f0.f1 == some true) && (impl_timeOk.f s.f1 == some true) && (i == 0 || (match l[i - 1]? with | some q => decide (q.f1 < s.f1) | none => true))
def goods (l : List S55) : Nat → Nat → Bool
  | 0, _ => true
  | d + 1, i => good l i && goods l d (i + 1)
theorem spec_loop (l : List S55) (hl : l.length ≤ 1048576) : ∀ (d k i : Nat), i + d = l.length → d < k → spec_TrackOk.l0 k l i = some (goods l d i && decide ((l.length : Int) ≤ 200)) := by
  intro d
  induction d with
  | zero =>
    intro k i hi hk
    obtain ⟨k, rfl⟩ : ∃ m, k = m + 1 := ⟨k - 1, by omega⟩
    simp only [spec_TrackOk.l0]
    rw [if_neg (by omega)]
    simp [goods]
  | succ d ih =>
    intro k i hi hk
    obtain ⟨k, rfl⟩ : ∃ m, k = m + 1 := ⟨k - 1, by omega⟩
    have hil : i < l.length := by omega
    have e1 : spec_PlaceOk.f = impl_PlaceOk.f := rfl
    have e2 : ∀ x, spec_l01In.f x 0 10000000 = impl_timeOk.f x := by intro x; unfold impl_timeOk.f; show impl_within.f _ _ _ = _; cases impl_within.f x 0 10000000 <;> rfl
    simp only [spec_TrackOk.l0, e1, e2]
    rw [if_pos (by omega), if_pos (by omega), rd_at l i hil]
    obtain ⟨b, hb⟩ := place_some l[i].f0.f0 l[i].f0.f1
    obtain ⟨c, hc⟩ := time_some l[i].f1
    rw [hb, hc, Option.bind_some]
    have hih := ih k (i + 1) (by omega) (by omega)
    have hw : wrap64 ((i : Int) + 1) = ((i + 1 : Nat) : Int) := by rw [wrap_in (by omega) (by omega)]; omega
    rw [hw, hih]
    simp only [goods, good, List.getElem?_eq_getElem hil, hb, hc]
    cases b
    · simp
    · cases c
      · simp
      · simp only [if_true, Option.bind_some]
        by_cases h0 : i = 0
        · subst h0; simp
        · have hw2 : wrap64 ((i : Int) - 1) = ((i - 1 : Nat) : Int) := by rw [wrap_in (by omega) (by omega)]; omega
          rw [if_pos (by omega), hw2, if_pos (by omega), if_pos (by omega), rd_at l (i - 1) (by omega)]
          simp only [List.getElem?_eq_getElem (show i - 1 < l.length by omega)]
          by_cases hlt : l[i].f1 ≤ l[i - 1].f1
          · rw [if_pos hlt]; simp [h0, Int.not_lt.2 hlt]
          · rw [if_neg hlt]; simp [Int.lt_of_not_ge hlt]
theorem impl_loop (l : List S55) (hl : l.length ≤ 1048576) : ∀ (d k i : Nat), i + d = l.length → d < k → impl_TrackOk.l0 k l l l.length i = some (goods l d i) := by
  intro d
  induction d with
  | zero =>
    intro k i hi hk
    obtain ⟨k, rfl⟩ : ∃ m, k = m + 1 := ⟨k - 1, by omega⟩
    simp only [impl_TrackOk.l0]
    rw [if_neg (by omega)]
    simp [goods]
  | succ d ih =>
    intro k i hi hk
    obtain ⟨k, rfl⟩ : ∃ m, k = m + 1 := ⟨k - 1, by omega⟩
    have hil : i < l.length := by omega
    simp only [impl_TrackOk.l0]
    rw [if_pos (by omega), if_pos (by omega), if_pos (by omega), rd_at l i hil]
    obtain ⟨b, hb⟩ := place_some l[i].f0.f0 l[i].f0.f1
    obtain ⟨c, hc⟩ := time_some l[i].f1
    rw [hb, hc, Option.bind_some]
    have hih := ih k (i + 1) (by omega) (by omega)
    have hw : wrap64 ((i : Int) + 1) = ((i + 1 : Nat) : Int) := by rw [wrap_in (by omega) (by omega)]; omega
    rw [hw, hih]
    simp only [goods, good, List.getElem?_eq_getElem hil, hb, hc]
    cases b
    · simp
    · cases c
      · simp
      · simp only [if_true, Option.bind_some]
        by_cases h0 : i = 0
        · subst h0; simp
        · have hw2 : wrap64 ((i : Int) - 1) = ((i - 1 : Nat) : Int) := by rw [wrap_in (by omega) (by omega)]; omega
          rw [if_pos (by omega), hw2, if_pos (by omega), if_pos (by omega), rd_at l (i - 1) (by omega)]
          simp only [List.getElem?_eq_getElem (show i - 1 < l.length by omega)]
          by_cases hlt : l[i].f1 ≤ l[i - 1].f1
          · rw [if_pos hlt]; simp [h0, Int.not_lt.2 hlt]
          · rw [if_neg hlt]; simp [Int.lt_of_not_ge hlt]
def trackOk (l : List S55) : Bool := goods l l.length 0 && decide ((l.length : Int) ≤ 200)
theorem spec_track (l : List S55) (hl : l.length ≤ 1048576) (k : Nat) (hk : l.length < k) : spec_TrackOk.f k l = some (trackOk l) := by
  unfold spec_TrackOk.f
  exact spec_loop l hl l.length k 0 (by omega) hk
theorem impl_track (l : List S55) (hl : l.length ≤ 1048576) (k : Nat) (hk : l.length < k) : impl_TrackOk.f k l = some (trackOk l) := by
  unfold impl_TrackOk.f trackOk
  by_cases h : (l.length : Int) > 200
  · rw [if_pos h, show decide ((l.length : Int) ≤ 200) = false by simp; omega]; simp
  · rw [if_neg h, show decide ((l.length : Int) ≤ 200) = true by simp; omega, Bool.and_true]
    exact impl_loop l hl l.length k 0 (by omega) hk

theorem size_tells (l : List S52) (hn : l.length ≤ 9223372036854775807) : (1048576 < l.length ∧ laws_szSightS.f l 1048576 = some (-1)) ∨ (l.length ≤ 1048576 ∧ ∃ r, laws_szSightS.f l 1048576 = some r ∧ ¬ r < 0) := by
  have hw : wrap64 (1048576 - (l.length : Int)) = 1048576 - (l.length : Int) := by unfold wrap64; omega
  unfold laws_szSightS.f
  rw [hw]
  by_cases h : 1048576 < l.length
  · exact Or.inl ⟨h, by rw [if_pos (by omega)]⟩
  · exact Or.inr ⟨by omega, _, by rw [if_neg (by omega)], by omega⟩

theorem FnExactTrackOk (l : List S52) (hn : l.length ≤ 9223372036854775807) : ∃ k, laws_FnExactTrackOk.f k l = some true := by
  unfold laws_FnExactTrackOk.f
  rcases size_tells l hn with ⟨_, h⟩ | ⟨hl, r, h, hr⟩
  · exact ⟨0, by rw [h]; rfl⟩
  · refine ⟨l.length + 1, ?_⟩
    have hm : (l.map cp).length = l.length := by simp
    rw [h, Option.bind_some, if_neg hr, copy_some l hl _ (by omega), Option.bind_some, spec_track (l.map cp) (by omega) _ (by omega), Option.bind_some, Option.bind_some,
      impl_track (l.map cp) (by omega) _ (by omega), Option.bind_some, if_neg (by simp), Option.bind_some, eq_some (l.map cp) (by omega) _ (by omega)]
    rfl
theorem FnExactTrackOkWalk (A0 : Option Addr) (c0 : Nat) (l0 : List S52) (w : World) (hc : l0.length ≤ c0) (hr : ReadsRow (k52.K w) 3 w A0 l0.length l0) :
    Calls Try.prog 9 #[.slice A0 l0.length c0] w fun e w' => e = .returned (.bool true) ∧ Below w.heap.size w w' := by
  obtain ⟨k, h⟩ := FnExactTrackOk l0 hr.2.1
  exact laws_FnExactTrackOk.calls k A0 c0 l0 true w hr hc h
end Go.Proofs.Ytelbflefjllfiaa.Pure
