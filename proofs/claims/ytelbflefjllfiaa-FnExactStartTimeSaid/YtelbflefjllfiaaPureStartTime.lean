/- The law FnExactStartTime over whole numbers alone: what the call computes is true; then its walk. -/
import Derived.Test.YtelbflefjllfiaaSt14
namespace Go.Proofs.Ytelbflefjllfiaa.Pure
open Go.RowKit Go.Proofs.Ytelbflefjllfiaa.PFnExactStartTime Go.Proofs.YtelbflefjllfiaaW.PrintWords Go.Proofs.YtelbflefjllfiaaW.PrintLast
theorem within_some (a b c : Int) : ∃ r, impl_within.f a b c = some r := by
  unfold impl_within.f; split <;> exact ⟨_, rfl⟩
theorem place_some (x y : Int) : ∃ r, impl_PlaceOk.f x y = some r := by
  obtain ⟨r1, h1⟩ := within_some x (-10000) 10000
  obtain ⟨r2, h2⟩ := within_some y (-10000) 10000
  unfold impl_PlaceOk.f
  rw [h1, h2]
  cases r1 <;> exact ⟨_, rfl⟩
theorem line_some (x y z t : Int) : ∃ r, impl_LineOk.f x y z t = some r := by
  obtain ⟨r1, h1⟩ := place_some x y
  obtain ⟨r2, h2⟩ := place_some z t
  unfold impl_LineOk.f
  rw [h1, h2]
  cases r1 <;> cases r2 <;> exact ⟨_, rfl⟩
theorem height_same (a b c d x y : Int) : spec_l09Height.f a b c d x y = impl_height.f a b c d x y := by
  unfold spec_l09Height.f spec_l09Cross.f impl_height.f impl_Place_less.f impl_Place_cross.f
  rfl
theorem side_same (k : Nat) (a b c d x y : Int) : spec_SideOf.f k a b c d x y = impl_SideOf.f k a b c d x y := by
  have e1 : spec_LineOk.f = impl_LineOk.f := rfl
  have e2 : spec_PlaceOk.f = impl_PlaceOk.f := rfl
  have e3 : ∀ s a b c d x y, spec_SideOf.j0 k s a b c d x y = impl_SideOf.j0 k s a b c d x y := by
    intro s a b c d x y
    cases k with
    | zero => rfl
    | succ k => simp only [spec_SideOf.j0, impl_SideOf.j0, height_same]
  unfold spec_SideOf.f impl_SideOf.f
  rw [e1, e2]
  simp only [e3]
theorem height_some (a b c d x y : Int) : ∃ r, impl_height.f a b c d x y = some r := by
  unfold impl_height.f impl_Place_less.f impl_Place_cross.f
  exact ⟨_, rfl⟩
theorem side_some (k : Nat) (a b c d x y : Int) : ∃ r, impl_SideOf.f (k + 1) a b c d x y = some r := by
  have e3 : ∀ s a b c d x y, ∃ r, impl_SideOf.j0 (k + 1) s a b c d x y = some r := by
    intro s a b c d x y
    obtain ⟨h, hh⟩ := height_some a b c d x y
    simp only [impl_SideOf.j0, hh, Option.bind_some]
    split
    · exact ⟨_, rfl⟩
    · split
      · exact ⟨_, rfl⟩
      · split <;> exact ⟨_, rfl⟩
  obtain ⟨r1, h1⟩ := line_some a b c d
  obtain ⟨r2, h2⟩ := place_some x y
  unfold impl_SideOf.f
  rw [h1, h2]
  cases r1
  · simpa using e3 true a b c d x y
  · simpa using e3 (!r2) a b c d x y

theorem cross_j2 (k : Nat) (s t : Int) (b : Bool) : spec_Crossing.j2 k s t b = impl_Crossing.j2 k s t b := by
  cases k <;> rfl
theorem cross_j2_some (k : Nat) (s t : Int) (b : Bool) : ∃ r, impl_Crossing.j2 (k + 1) s t b = some r := by
  simp only [impl_Crossing.j2]
  split
  · exact ⟨_, rfl⟩
  · split
    · split <;> exact ⟨_, rfl⟩
    · exact ⟨_, rfl⟩
theorem cross_j1 (k : Nat) (s : Bool) (a b c d x y u v : Int) : spec_Crossing.j1 k s a b c d x y u v = impl_Crossing.j1 k s a b c d x y u v := by
  cases k with
  | zero => rfl
  | succ k => simp only [spec_Crossing.j1, impl_Crossing.j1, side_same, cross_j2]
theorem cross_j1_some (k : Nat) (s : Bool) (a b c d x y u v : Int) : ∃ r, impl_Crossing.j1 (k + 2) s a b c d x y u v = some r := by
  simp only [impl_Crossing.j1]
  obtain ⟨r1, h1⟩ := side_some k a b c d x y
  obtain ⟨r2, h2⟩ := side_some k a b c d u v
  rw [h1, h2, Option.bind_some, Option.bind_some]
  split
  · exact ⟨_, rfl⟩
  · split <;> exact cross_j2_some _ _ _ _
theorem cross_j0 (k : Nat) (s : Bool) (a b c d x y u v : Int) : spec_Crossing.j0 k s a b c d x y u v = impl_Crossing.j0 k s a b c d x y u v := by
  cases k with
  | zero => rfl
  | succ k => simp only [spec_Crossing.j0, impl_Crossing.j0, spec_l09Cross.f, impl_Place_less.f, impl_Place_cross.f, Option.bind_some, cross_j1]
theorem cross_j0_some (k : Nat) (s : Bool) (a b c d x y u v : Int) : ∃ r, impl_Crossing.j0 (k + 3) s a b c d x y u v = some r := by
  simp only [impl_Crossing.j0, impl_Place_less.f, impl_Place_cross.f, Option.bind_some]
  split
  · exact ⟨_, rfl⟩
  · repeat' split
    all_goals exact cross_j1_some _ _ _ _ _ _ _ _ _ _
theorem cross_same (k : Nat) (a b c d x y u v : Int) : spec_Crossing.f k a b c d x y u v = impl_Crossing.f k a b c d x y u v := by
  have e1 : spec_LineOk.f = impl_LineOk.f := rfl
  have e2 : spec_PlaceOk.f = impl_PlaceOk.f := rfl
  unfold spec_Crossing.f impl_Crossing.f
  simp only [e1, e2, cross_j0]
theorem cross_some (k : Nat) (a b c d x y u v : Int) : ∃ r, impl_Crossing.f (k + 3) a b c d x y u v = some r := by
  obtain ⟨r1, h1⟩ := line_some a b c d
  obtain ⟨r2, h2⟩ := place_some x y
  obtain ⟨r3, h3⟩ := place_some u v
  unfold impl_Crossing.f
  rw [h1, h2, h3]
  cases r1
  · simpa using cross_j0_some k true a b c d x y u v
  · cases r2
    · simpa using cross_j0_some k true a b c d x y u v
    · simpa using cross_j0_some k (!r3) a b c d x y u v

theorem time_some (x : Int) : ∃ r, impl_timeOk.f x = some r := by
  obtain ⟨r, h⟩ := within_some x 0 10000000
  unfold impl_timeOk.f
  rw [h]; exact ⟨_, rfl⟩
/-- 'toSightS' makes the same list again. -/
def cp (x : S52) : S55 := ⟨⟨x.f0.f0, x.f0.f1⟩, x.f1⟩
theorem wrap_in {n : Int} (h0 : 0 ≤ n) (h : n ≤ 11728124029610) : wrap64 n = n := by unfold wrap64; omega
theorem copy_loop (l : List S52) (hl : l.length ≤ 1048576) : ∀ (d k i : Nat) (acc : List S55), i + d = l.length → d < k → acc.length = l.length → acc.take i = (l.map cp).take i →
    laws_toSightS.l0 k l acc i = some (l.map cp) := by
  intro d
  induction d with
  | zero =>
    intro k i acc hi hk ha ht
    obtain ⟨k, rfl⟩ : ∃ m, k = m + 1 := ⟨k - 1, by omega⟩
    simp only [laws_toSightS.l0]
    rw [if_neg (by omega)]
    rw [List.take_of_length_le (by omega), List.take_of_length_le (by simp; omega)] at ht
    rw [ht]
  | succ d ih =>
    intro k i acc hi hk ha ht
    obtain ⟨k, rfl⟩ : ∃ m, k = m + 1 := ⟨k - 1, by omega⟩
    simp only [laws_toSightS.l0, laws_toSight.f, laws_toPlace.f, Option.bind_some]
    rw [if_pos (by omega), if_pos (by omega), if_pos (by omega), wrap_in (by omega) (by omega)]
    have hil : i < l.length := by omega
    have e : rd_T52 l (i : Int) = l[i] := by
      unfold rd_T52
      rw [List.getD_eq_getElem?_getD, Int.toNat_natCast, List.getElem?_eq_getElem hil]
      rfl
    rw [e, Int.toNat_natCast]
    refine ih k (i + 1) _ (by omega) (by omega) (by simpa using ha) ?_
    rw [List.take_succ_eq_append_getElem (by simpa using (by omega : i < acc.length)), List.take_succ_eq_append_getElem (by simpa using hil)]
    rw [List.take_set_of_le (by omega), ht]
    simp [cp]
theorem copy_some (l : List S52) (hl : l.length ≤ 1048576) (k : Nat) (hk : l.length < k) : laws_toSightS.f k l = some (l.map cp) := by
  unfold laws_toSightS.f
  rw [if_pos (by omega), if_pos (by simp; omega)]
  exact copy_loop l hl l.length k 0 _ (by omega) hk (by simp) (by simp)
theorem rd_at (l : List S55) (i : Nat) (h : i < l.length) : rd_T55 l (i : Int) = l[i] := by
  unfold rd_T55
  rw [List.getD_eq_getElem?_getD, Int.toNat_natCast, List.getElem?_eq_getElem h]
  rfl
theorem eq_loop (l : List S55) (hl : l.length ≤ 1048576) : ∀ (d k i : Nat), i + d = l.length → d < k → laws_eqSightS.l0 k l l i = some true := by
  intro d
  induction d with
  | zero =>
    intro k i hi hk
    obtain ⟨k, rfl⟩ : ∃ m, k = m + 1 := ⟨k - 1, by omega⟩
    simp only [laws_eqSightS.l0]
    rw [if_neg (by omega)]
  | succ d ih =>
    intro k i hi hk
    obtain ⟨k, rfl⟩ : ∃ m, k = m + 1 := ⟨k - 1, by omega⟩
    simp only [laws_eqSightS.l0, laws_eqSight.f, laws_eqPlace.f, if_true, Option.bind_some]
    rw [if_pos (by omega), if_pos (by omega), if_pos (by omega), wrap_in (by omega) (by omega)]
    exact ih k (i + 1) (by omega) (by omega)
theorem eq_some (l : List S55) (hl : l.length ≤ 1048576) (k : Nat) (hk : l.length < k) : laws_eqSightS.f k l l = some true := by
  unfold laws_eqSightS.f
  rw [if_pos rfl]
  exact eq_loop l hl l.length k 0 (by omega) hk
/-- What both of them tell of a track from some sight on. -/
def good (l : List S55) (i : Nat) : Bool :=
  match l[i]? with
  | none => true
  | some s => (impl_PlaceOk.f s.f0.f0 s.f0.f1 == some true) && (impl_timeOk.f s.f1 == some true) && (i == 0 || (match l[i - 1]? with | some q => decide (q.f1 < s.f1) | none => true))
def goods (l : List S55) : Nat → Nat → Bool
  | 0, _ => true
  | d + 1, i => good l i && goods l d (i + 1)
theorem spec_loop (l : List S55) (hl : l.length ≤ 1048576) : ∀ (d k i : Nat), i + d = l.length → d < k → spec_TrackOk.l0 k l i = some (goods l d i && decide ((l.length : Int) ≤ 200)) := by
  intro d
  induction d with
  | zero =>
    intro k i hi hk
    obtain ⟨k, rfl⟩ : ∃ m, k = m + 1 := ⟨k - 1, by omega⟩
    simp only [spec_TrackOk.l0]
    rw [if_neg (by omega)]
    simp [goods]
  | succ d ih =>
    intro k i hi hk
    obtain ⟨k, rfl⟩ : ∃ m, k = m + 1 := ⟨k - 1, by omega⟩
    have hil : i < l.length := by omega
    have e1 : spec_PlaceOk.f = impl_PlaceOk.f := rfl
    have e2 : ∀ x, spec_l01In.f x 0 10000000 = impl_timeOk.f x := by intro x; unfold impl_timeOk.f; show impl_within.f _ _ _ = _; cases impl_within.f x 0 10000000 <;> rfl
    simp only [spec_TrackOk.l0, e1, e2]
    rw [if_pos (by omega), if_pos (by omega), rd_at l i hil]
    obtain ⟨b, hb⟩ := place_some l[i].f0.f0 l[i].f0.f1
    obtain ⟨c, hc⟩ := time_some l[i].f1
    rw [hb, hc, Option.bind_some]
    have hih := ih k (i + 1) (by omega) (by omega)
    have hw : wrap64 ((i : Int) + 1) = ((i + 1 : Nat) : Int) := by rw [wrap_in (by omega) (by omega)]; omega
    rw [hw, hih]
    simp only [goods, good, List.getElem?_eq_getElem hil, hb, hc]
    cases b
    · simp
    · cases c
      · simp
      · simp only [if_true, Option.bind_some]
        by_cases h0 : i = 0
        · subst h0; simp
        · have hw2 : wrap64 ((i : Int) - 1) = ((i - 1 : Nat) : Int) := by rw [wrap_in (by omega) (by omega)]; omega
          rw [if_pos (by omega), hw2, if_pos (by omega), if_pos (by omega), rd_at l (i - 1) (by omega)]
          simp only [List.getElem?_eq_getElem (show i - 1 < l.length by omega)]
          by_cases hlt : l[i].f1 ≤ l[i - 1].f1
          · rw [if_pos hlt]; simp [h0, Int.not_lt.2 hlt]
          · rw [if_neg hlt]; simp [Int.lt_of_not_ge hlt]
theorem impl_loop (l : List S55) (hl : l.length ≤ 1048576) : ∀ (d k i : Nat), i + d = l.length → d < k → impl_TrackOk.l0 k l l l.length i = some (goods l d i) := by
  intro d
  induction d with
  | zero =>
    intro k i hi hk
    obtain ⟨k, rfl⟩ : ∃ m, k = m + 1 := ⟨k - 1, by omega⟩
    simp only [impl_TrackOk.l0]
    rw [if_neg (by omega)]
    simp [goods]
  | succ d ih =>
    intro k i hi hk
    obtain ⟨k, rfl⟩ : ∃ m, k = m + 1 := ⟨k - 1, by omega⟩
    have hil : i < l.length := by omega
    simp only [impl_TrackOk.l0]
    rw [if_pos (by omega), if_pos (by omega), if_pos (by omega), rd_at l i hil]
    obtain ⟨b, hb⟩ := place_some l[i].f0.f0 l[i].f0.f1
    obtain ⟨c, hc⟩ := time_some l[i].f1
    rw [hb, hc, Option.bind_some]
    have hih := ih k (i + 1) (by omega) (by omega)
    have hw : wrap64 ((i : Int) + 1) = ((i + 1 : Nat) : Int) := by rw [wrap_in (by omega) (by omega)]; omega
    rw [hw, hih]
    simp only [goods, good, List.getElem?_eq_getElem hil, hb, hc]
    cases b
    · simp
    · cases c
      · simp
      · simp only [if_true, Option.bind_some]
        by_cases h0 : i = 0
        · subst h0; simp
        · have hw2 : wrap64 ((i : Int) - 1) = ((i - 1 : Nat) : Int) := by rw [wrap_in (by omega) (by omega)]; omega
          rw [if_pos (by omega), hw2, if_pos (by omega), if_pos (by omega), rd_at l (i - 1) (by omega)]
          simp only [List.getElem?_eq_getElem (show i - 1 < l.length by omega)]
          by_cases hlt : l[i].f1 ≤ l[i - 1].f1
          · rw [if_pos hlt]; simp [h0, Int.not_lt.2 hlt]
          · rw [if_neg hlt]; simp [Int.lt_of_not_ge hlt]
def trackOk (l : List S55) : Bool := goods l l.length 0 && decide ((l.length : Int) ≤ 200)
theorem spec_track (l : List S55) (hl : l.length ≤ 1048576) (k : Nat) (hk : l.length < k) : spec_TrackOk.f k l = some (trackOk l) := by
  unfold spec_TrackOk.f
  exact spec_loop l hl l.length k 0 (by omega) hk
theorem impl_track (l : List S55) (hl : l.length ≤ 1048576) (k : Nat) (hk : l.length < k) : impl_TrackOk.f k l = some (trackOk l) := by
  unfold impl_TrackOk.f trackOk
  by_cases h : (l.length : Int) > 200
  · rw [if_pos h, show decide ((l.length : Int) ≤ 200) = false by simp; omega]; simp
  · rw [if_neg h, show decide ((l.length : Int) ≤ 200) = true by simp; omega, Bool.and_true]
    exact impl_loop l hl l.length k 0 (by omega) hk

theorem size_tells (l : List S52) (hn : l.length ≤ 9223372036854775807) : (1048576 < l.length ∧ laws_szSightS.f l 1048576 = some (-1)) ∨ (l.length ≤ 1048576 ∧ ∃ r, laws_szSightS.f l 1048576 = some r ∧ ¬ r < 0) := by
  have hw : wrap64 (1048576 - (l.length : Int)) = 1048576 - (l.length : Int) := by unfold wrap64; omega
  unfold laws_szSightS.f
  rw [hw]
  by_cases h : 1048576 < l.length
  · exact Or.inl ⟨h, by rw [if_pos (by omega)]⟩
  · exact Or.inr ⟨by omega, _, by rw [if_neg (by omega)], by omega⟩

def placeB (x y : Int) : Bool := decide (-10000 ≤ x) && decide (x ≤ 10000) && decide (-10000 ≤ y) && decide (y ≤ 10000)
theorem place_is (x y : Int) : impl_PlaceOk.f x y = some (placeB x y) := by
  unfold impl_PlaceOk.f impl_within.f placeB
  by_cases h1 : x ≥ -10000
  · rw [if_pos h1, Option.bind_some]
    by_cases h2 : x ≤ 10000
    · rw [if_pos (by simpa using h2)]
      by_cases h3 : y ≥ -10000
      · rw [if_pos h3, Option.bind_some]; simp [h2, show (-10000 : Int) ≤ x from h1, show (-10000 : Int) ≤ y from h3]
      · rw [if_neg h3, Option.bind_some]; simp [h2, show (-10000 : Int) ≤ x from h1, show ¬ (-10000 : Int) ≤ y from h3]
    · rw [if_neg (by simpa using h2)]; simp [h2]
  · rw [if_neg h1, Option.bind_some]
    simp [show ¬ (-10000 : Int) ≤ x from h1]
theorem placeB_iff {x y : Int} : placeB x y = true ↔ -10000 ≤ x ∧ x ≤ 10000 ∧ -10000 ≤ y ∧ y ≤ 10000 := by
  unfold placeB; simp; omega
def lineB (a b c d : Int) : Bool := placeB a b && (placeB c d && (!(a == c) || !(b == d)))
theorem line_is (a b c d : Int) : impl_LineOk.f a b c d = some (lineB a b c d) := by
  unfold impl_LineOk.f lineB
  rw [place_is, place_is, Option.bind_some, Option.bind_some]
  cases placeB a b <;> cases placeB c d <;> simp
/-- the height of a place over a line -/
def ht (a b c d x y : Int) : Int := (c - a) * (y - b) - (d - b) * (x - a)
theorem mul_bound {p q M : Int} (h1 : -M ≤ p) (h2 : p ≤ M) (h3 : -M ≤ q) (h4 : q ≤ M) : -(M * M) ≤ p * q ∧ p * q ≤ M * M := by
  have a : p.natAbs ≤ M.natAbs := by omega
  have b : q.natAbs ≤ M.natAbs := by omega
  have c := Nat.mul_le_mul a b
  rw [← Int.natAbs_mul, ← Int.natAbs_mul] at c
  have d : 0 ≤ M * M := Int.mul_nonneg (by omega) (by omega)
  omega
theorem ht_bound {a b c d x y : Int} (h1 : placeB a b = true) (h2 : placeB c d = true) (h3 : placeB x y = true) : -800000000 ≤ ht a b c d x y ∧ ht a b c d x y ≤ 800000000 := by
  rw [placeB_iff] at h1 h2 h3
  unfold ht
  have e1 := mul_bound (M := 20000) (p := c - a) (q := y - b) (by omega) (by omega) (by omega) (by omega)
  have e2 := mul_bound (M := 20000) (p := d - b) (q := x - a) (by omega) (by omega) (by omega) (by omega)
  omega
theorem w64 {n : Int} (h1 : -9000000000000000000 ≤ n) (h2 : n ≤ 9000000000000000000) : wrap64 n = n := by unfold wrap64; omega
theorem height_is {a b c d x y : Int} (h1 : placeB a b = true) (h2 : placeB c d = true) (h3 : placeB x y = true) : impl_height.f a b c d x y = some (ht a b c d x y) := by
  have hb := ht_bound h1 h2 h3
  rw [placeB_iff] at h1 h2 h3
  unfold impl_height.f impl_Place_less.f impl_Place_cross.f
  simp only [Option.bind_some]
  rw [w64 (n := c - a) (by omega) (by omega), w64 (n := d - b) (by omega) (by omega), w64 (n := x - a) (by omega) (by omega), w64 (n := y - b) (by omega) (by omega)]
  have e1 := mul_bound (M := 20000) (p := c - a) (q := y - b) (by omega) (by omega) (by omega) (by omega)
  have e2 := mul_bound (M := 20000) (p := d - b) (q := x - a) (by omega) (by omega) (by omega) (by omega)
  rw [w64 (n := (c - a) * (y - b)) (by omega) (by omega), w64 (n := (d - b) * (x - a)) (by omega) (by omega)]
  unfold ht at *
  rw [w64 (by omega) (by omega)]
def sideI (a b c d x y : Int) : Int := if (lineB a b c d && placeB x y) = true then (if ht a b c d x y < 0 then 1 else if ht a b c d x y > 0 then -1 else 0) else 0
theorem side_is (k : Nat) (a b c d x y : Int) : impl_SideOf.f (k + 1) a b c d x y = some (sideI a b c d x y) := by
  unfold impl_SideOf.f sideI
  rw [line_is, place_is, Option.bind_some, Option.bind_some]
  cases hl : lineB a b c d
  · simp [impl_SideOf.j0]
  · cases hp : placeB x y
    · simp [impl_SideOf.j0]
    · have hl' : placeB a b = true ∧ placeB c d = true := by unfold lineB at hl; simp at hl; exact ⟨hl.1, hl.2.1⟩
      simp only [impl_SideOf.j0, height_is hl'.1 hl'.2 hp, Bool.not_true, Bool.false_eq_true, if_false, if_true, Option.bind_some, Bool.and_self]
      repeat' split
      all_goals rfl

/-- what a crossing that is not nought tells -/
theorem cross_tells (k : Nat) (a b c d x y u v : Int) {r : Int} (h : impl_Crossing.f (k + 3) a b c d x y u v = some r) (hr : r ≠ 0) :
    lineB a b c d = true ∧ placeB x y = true ∧ placeB u v = true ∧ ((0 ≤ ht a b c d x y ∧ ht a b c d u v < 0) ∨ (ht a b c d x y < 0 ∧ 0 ≤ ht a b c d u v)) := by
  unfold impl_Crossing.f at h
  rw [line_is, place_is, place_is, Option.bind_some, Option.bind_some, Option.bind_some] at h
  cases hl : lineB a b c d
  · simp [hl, impl_Crossing.j0] at h; omega
  · cases hp : placeB x y
    · simp [hl, hp, impl_Crossing.j0] at h; omega
    · cases hq : placeB u v
      · simp [hl, hp, hq, impl_Crossing.j0] at h; omega
      · refine ⟨rfl, rfl, rfl, ?_⟩
        simp only [hl, hp, hq, if_true, Bool.not_true] at h
        have e1 : sideI a b c d x y = if ht a b c d x y < 0 then 1 else if ht a b c d x y > 0 then -1 else 0 := by unfold sideI; rw [hl, hp]; rfl
        have e2 : sideI a b c d u v = if ht a b c d u v < 0 then 1 else if ht a b c d u v > 0 then -1 else 0 := by unfold sideI; rw [hl, hq]; rfl
        have hj1 : ∀ s, impl_Crossing.j1 (k + 2) s a b c d x y u v = some r → (0 ≤ ht a b c d x y ∧ ht a b c d u v < 0) ∨ (ht a b c d x y < 0 ∧ 0 ≤ ht a b c d u v) := by
          intro s h
          simp only [impl_Crossing.j1, side_is, Option.bind_some, impl_Crossing.j2] at h
          cases s
          · simp only [Bool.false_eq_true, if_false] at h
            have f1 : sideI a b c d x y ≤ 0 ↔ 0 ≤ ht a b c d x y := by rw [e1]; split <;> (try split) <;> omega
            have f2 : sideI a b c d x y = 1 ↔ ht a b c d x y < 0 := by rw [e1]; split <;> (try split) <;> omega
            have g1 : sideI a b c d u v ≤ 0 ↔ 0 ≤ ht a b c d u v := by rw [e2]; split <;> (try split) <;> omega
            have g2 : sideI a b c d u v = 1 ↔ ht a b c d u v < 0 := by rw [e2]; split <;> (try split) <;> omega
            by_cases c1 : sideI a b c d x y ≤ 0
            · rw [if_pos c1] at h
              by_cases c2 : sideI a b c d u v = 1
              · exact Or.inl ⟨f1.1 c1, g2.1 c2⟩
              · rw [if_neg (by simpa using c2), if_neg (by omega)] at h
                simp at h; omega
            · rw [if_neg c1] at h
              by_cases c2 : sideI a b c d x y = 1
              · rw [if_pos c2] at h
                by_cases c3 : sideI a b c d u v ≤ 0
                · exact Or.inr ⟨f2.1 c2, g1.1 c3⟩
                · rw [if_neg c3] at h; simp at h; omega
              · rw [if_neg c2] at h; simp at h; omega
          · simp at h; omega
        simp only [impl_Crossing.j0, impl_Place_less.f, impl_Place_cross.f, Option.bind_some, Bool.false_eq_true, if_false] at h
        repeat' split at h
        all_goals exact hj1 _ h
theorem ceil_same {n d : Int} (hd : 0 < d) (hn : 0 ≤ n) (hn2 : n ≤ 8000000000000000) (hd2 : d ≤ 1600000000) :
    (if n.tmod d > 0 then some (wrap64 (wrap64 (n.tdiv d) + 1)) else some (wrap64 (n.tdiv d))) = some (wrap64 ((wrap64 (wrap64 (n + d) - 1)).tdiv d)) := by
  have h1 : 0 ≤ n / d := Int.ediv_nonneg hn (by omega)
  have h2 : n / d ≤ n := Int.ediv_le_self _ hn
  have h3 := Int.emod_nonneg n (show d ≠ 0 by omega)
  have h4 := Int.emod_lt_of_pos n hd
  have h5 := Int.mul_ediv_add_emod n d
  rw [w64 (n := n + d) (by omega) (by omega), w64 (n := n + d - 1) (by omega) (by omega), Int.tmod_eq_emod_of_nonneg hn, Int.tdiv_eq_ediv_of_nonneg hn, Int.tdiv_eq_ediv_of_nonneg (by omega)]
  by_cases hm : n % d > 0
  · rw [if_pos hm, w64 (n := n / d) (by omega) (by omega)]
    have : (n + d - 1) / d = n / d + 1 := by
      have e : n + d - 1 = (n % d - 1) + (n / d + 1) * d := by rw [Int.add_mul, Int.mul_comm (n / d) d]; omega
      rw [e, Int.add_mul_ediv_right _ _ (by omega), Int.ediv_eq_zero_of_lt (by omega) (by omega)]; omega
    rw [this]
  · rw [if_neg hm]
    have : (n + d - 1) / d = n / d := by
      have e : n + d - 1 = (d - 1) + (n / d) * d := by rw [Int.mul_comm (n / d) d]; omega
      rw [e, Int.add_mul_ediv_right _ _ (by omega), Int.ediv_eq_zero_of_lt (by omega) (by omega)]; omega
    rw [this]
/-- the time of a crossing, told by both alike -/
theorem ceiling_same {T h k : Int} (hT : 0 ≤ T ∧ T ≤ 10000000) (hh : -800000000 ≤ h ∧ h ≤ 800000000) (hk : -800000000 ≤ k ∧ k ≤ 800000000) (hc : (0 ≤ h ∧ k < 0) ∨ (h < 0 ∧ 0 ≤ k)) :
    ∃ q, impl_ceiling.f (wrap64 (T * h)) (wrap64 (h - k)) = some q ∧
    (if (wrap64 (h - k)) < 0 then (if (wrap64 (-(wrap64 (h - k)))) = 0 then (none) else (some (wrap64 (Int.tdiv (wrap64 ((wrap64 ((wrap64 (-(wrap64 (T * h)))) + (wrap64 (-(wrap64 (h - k)))))) - 1)) (wrap64 (-(wrap64 (h - k)))))))) else (if (wrap64 (h - k)) = 0 then (none) else (some (wrap64 (Int.tdiv (wrap64 ((wrap64 ((wrap64 (T * h)) + (wrap64 (h - k)))) - 1)) (wrap64 (h - k))))))) = some q := by
  have hm : -(8000000000000000) ≤ T * h ∧ T * h ≤ 8000000000000000 := by
    have a : T.natAbs ≤ 10000000 := by omega
    have b : h.natAbs ≤ 800000000 := by omega
    have c := Nat.mul_le_mul a b
    rw [← Int.natAbs_mul] at c
    omega
  rw [w64 (n := T * h) (by omega) (by omega), w64 (n := h - k) (by omega) (by omega), w64 (n := -(h - k)) (by omega) (by omega), w64 (n := -(T * h)) (by omega) (by omega)]
  unfold impl_ceiling.f
  rcases hc with ⟨c1, c2⟩ | ⟨c1, c2⟩
  · have hn : 0 ≤ T * h := Int.mul_nonneg hT.1 c1
    refine ⟨wrap64 ((wrap64 (wrap64 (T * h + (h - k)) - 1)).tdiv (h - k)), ?_, ?_⟩
    · rw [if_neg (by omega), if_neg (by omega)]
      exact ceil_same (by omega) hn (by omega) (by omega)
    · rw [if_neg (by omega), if_neg (by omega)]
  · have hn : 0 ≤ -(T * h) := by
      have := Int.mul_nonneg hT.1 (show 0 ≤ -h by omega)
      rw [Int.mul_neg] at this; exact this
    refine ⟨wrap64 ((wrap64 (wrap64 (-(T * h) + -(h - k)) - 1)).tdiv (-(h - k))), ?_, ?_⟩
    · rw [if_pos (by omega), w64 (n := -(h - k)) (by omega) (by omega), w64 (n := -(T * h)) (by omega) (by omega), if_neg (by omega)]
      exact ceil_same (by omega) hn (by omega) (by omega)
    · rw [if_pos (by omega), if_neg (by omega)]

def pair (x y s u v t : Int) : List S55 := [⟨⟨x, y⟩, s⟩, ⟨⟨u, v⟩, t⟩]
theorem pair_tells {x y s u v t : Int} (h : trackOk (pair x y s u v t) = true) : 0 ≤ s ∧ s < t ∧ t ≤ 10000000 := by
  have ht : ∀ x, impl_timeOk.f x = some (decide (0 ≤ x) && decide (x ≤ 10000000)) := by
    intro x
    unfold impl_timeOk.f impl_within.f
    by_cases h : x ≥ 0
    · rw [if_pos h]; simp [show 0 ≤ x from h]
    · rw [if_neg h]; simp [show ¬ 0 ≤ x from h]
  unfold trackOk pair at h
  simp [goods, good, ht] at h
  omega
theorem crossTime_same (k : Nat) (a b c d x y s u v t : Int) : ∃ r, impl_CrossTime.f (k + 4) a b c d x y s u v t = some r ∧ spec_CrossTime.f (k + 4) a b c d x y s u v t = some r := by
  obtain ⟨q, hq⟩ := cross_some (k + 1) a b c d x y u v
  have hq' : impl_Crossing.f (k + 4) a b c d x y u v = some q := hq
  unfold impl_CrossTime.f spec_CrossTime.f
  rw [cross_same, hq', Option.bind_some, Option.bind_some]
  by_cases h0 : q = 0
  · rw [if_pos h0, if_pos h0]
    exact ⟨_, rfl, rfl⟩
  · rw [if_neg h0, if_neg h0]
    have hlen : (pair x y s u v t).length = 2 := rfl
    have e1 := impl_track (pair x y s u v t) (by omega) (k + 4) (by omega)
    have e2 := spec_track (pair x y s u v t) (by omega) (k + 4) (by omega)
    unfold pair at e1 e2
    rw [e1, e2, Option.bind_some, Option.bind_some]
    cases htr : trackOk (pair x y s u v t)
    · unfold pair at htr; rw [htr]; exact ⟨_, rfl, rfl⟩
    · have htl := pair_tells htr
      unfold pair at htr; rw [htr]
      obtain ⟨hl, hp, hu, hc⟩ := cross_tells (k + 1) a b c d x y u v hq h0
      have hl' : placeB a b = true ∧ placeB c d = true := by unfold lineB at hl; simp at hl; exact ⟨hl.1, hl.2.1⟩
      simp only [impl_CrossTime.j0, spec_CrossTime.j0, Bool.not_true, Bool.false_eq_true, if_false, height_same, height_is hl'.1 hl'.2 hp, height_is hl'.1 hl'.2 hu, Option.bind_some]
      rw [w64 (n := t - s) (by omega) (by omega)]
      obtain ⟨z, z1, z2⟩ := ceiling_same (T := t - s) (by omega) (ht_bound hl'.1 hl'.2 hp) (ht_bound hl'.1 hl'.2 hu) hc
      rw [z1, Option.bind_some]
      refine ⟨_, rfl, ?_⟩
      by_cases g1 : wrap64 (ht a b c d x y - ht a b c d u v) < 0
      · rw [if_pos g1] at z2 ⊢
        by_cases g2 : wrap64 (-wrap64 (ht a b c d x y - ht a b c d u v)) = 0
        · rw [if_pos g2] at z2; cases z2
        · rw [if_neg g2] at z2 ⊢; rw [Option.some.inj z2]
      · rw [if_neg g1] at z2 ⊢
        by_cases g2 : wrap64 (ht a b c d x y - ht a b c d u v) = 0
        · rw [if_pos g2] at z2; cases z2
        · rw [if_neg g2] at z2 ⊢; rw [Option.some.inj z2]

theorem start_loop (l : List S55) (hl : l.length ≤ 1048576) (g a b c d : Int) : ∀ (n k i : Nat), i + n = l.length → n + 5 < k →
    ∃ j t, impl_crossed.l0 k l g i a b c d = some (j, t) ∧ spec_StartTime.l0 k l g i a b c d = some (t, decide (j ≥ 0)) := by
  intro n
  induction n with
  | zero =>
    intro k i hi hk
    obtain ⟨k, rfl⟩ : ∃ m, k = m + 1 := ⟨k - 1, by omega⟩
    have hw : wrap64 ((i : Int) + 1) = ((i + 1 : Nat) : Int) := by rw [wrap_in (by omega) (by omega)]; omega
    simp only [impl_crossed.l0, spec_StartTime.l0]
    rw [hw, if_neg (by omega), if_neg (by omega)]
    exact ⟨-1, 0, rfl, rfl⟩
  | succ n ih =>
    intro k i hi hk
    obtain ⟨k, rfl⟩ : ∃ m, k = m + 1 := ⟨k - 1, by omega⟩
    have hw : wrap64 ((i : Int) + 1) = ((i + 1 : Nat) : Int) := by rw [wrap_in (by omega) (by omega)]; omega
    simp only [impl_crossed.l0, spec_StartTime.l0]
    rw [hw]
    obtain ⟨k, rfl⟩ : ∃ m, k = m + 4 := ⟨k - 4, by omega⟩
    by_cases hlt : i + 1 < l.length
    · obtain ⟨j, t, h1, h2⟩ := ih (k + 4) (i + 1) (by omega) (by omega)
      rw [if_pos (by omega), if_pos (by omega), if_pos (by omega), if_pos (by omega), if_pos (by omega), if_pos (by omega), if_pos (by omega), if_pos (by omega), rd_at l i (by omega), rd_at l (i + 1) hlt, h1, h2]
      obtain ⟨r, r1, r2⟩ := crossTime_same k a b c d l[i].f0.f0 l[i].f0.f1 l[i].f1 l[i + 1].f0.f0 l[i + 1].f0.f1 l[i + 1].f1
      obtain ⟨q, hq⟩ := cross_some (k + 1) a b c d l[i].f0.f0 l[i].f0.f1 l[i + 1].f0.f0 l[i + 1].f0.f1
      have hq' : impl_Crossing.f (k + 4) a b c d l[i].f0.f0 l[i].f0.f1 l[i + 1].f0.f0 l[i + 1].f0.f1 = some q := hq
      rw [r1, r2, cross_same, hq', Option.bind_some, Option.bind_some, Option.bind_some, Option.bind_some]
      by_cases e1 : q = 1
      · rw [if_pos e1, if_pos e1]
        by_cases e2 : r.2 = true
        · rw [if_pos e2, if_pos e2]
          by_cases e3 : r.1 ≥ g
          · rw [if_pos e3, if_pos e3]
            refine ⟨_, _, rfl, ?_⟩
            rw [show decide ((i : Int) ≥ 0) = true by simp]
          · rw [if_neg e3, if_neg e3]; exact ⟨j, t, rfl, rfl⟩
        · rw [if_neg e2, if_neg e2]; exact ⟨j, t, rfl, rfl⟩
      · rw [if_neg e1, if_neg e1]
        refine ⟨j, t, rfl, ?_⟩
        split
        · split <;> rfl
        · rfl
    · rw [if_neg (by omega), if_neg (by omega)]
      exact ⟨-1, 0, rfl, rfl⟩
theorem start_same (l : List S55) (hl : l.length ≤ 1048576) (g a b c d : Int) : ∃ r, impl_StartTime.f (l.length + 6) a b c d l g = some r ∧ spec_StartTime.f (l.length + 6) a b c d l g = some r := by
  obtain ⟨j, t, h1, h2⟩ := start_loop l hl g a b c d l.length (l.length + 6) 0 (by omega) (by omega)
  unfold impl_StartTime.f spec_StartTime.f impl_crossed.f
  rw [impl_track l hl _ (by omega), spec_track l hl _ (by omega), Option.bind_some, Option.bind_some]
  by_cases h : trackOk l = true
  · rw [if_pos h, if_pos h]
    have h1' : impl_crossed.l0 (l.length + 6) l g 0 a b c d = some (j, t) := h1
    have h2' : spec_StartTime.l0 (l.length + 6) l g 0 a b c d = some (t, decide (j ≥ 0)) := h2
    rw [h1', h2', Option.bind_some]
    exact ⟨_, rfl, rfl⟩
  · rw [if_neg h, if_neg h]; exact ⟨_, rfl, rfl⟩

theorem FnExactStartTime (a b c d : Int) (l : List S52) (g : Int) (hn : l.length ≤ 9223372036854775807) : ∃ k, laws_FnExactStartTime.f k a b c d l g = some true := by
  unfold laws_FnExactStartTime.f
  rcases size_tells l hn with ⟨_, h⟩ | ⟨hl, r, h, hr⟩
  · exact ⟨0, by rw [h]; rfl⟩
  · refine ⟨l.length + 6, ?_⟩
    have hm : (l.map cp).length = l.length := by simp
    obtain ⟨z, z1, z2⟩ := start_same (l.map cp) (by omega) g a b c d
    rw [hm] at z1 z2
    rw [h, Option.bind_some, if_neg hr, copy_some l hl _ (by omega)]
    simp only [laws_toLine.f, laws_toPlace.f, Option.bind_some]
    rw [z1, z2]
    simp only [Option.bind_some, if_true, bne_self_eq_false, laws_FnExactStartTime.j0, Bool.false_eq_true, if_false]
    rw [copy_some l hl _ (by omega), Option.bind_some, eq_some (l.map cp) (by omega) _ (by omega)]
    rfl
theorem FnExactStartTimeWalk (a b c d : Int) (A1 : Option Addr) (c1 : Nat) (l1 : List S52) (g : Int) (w : World) (_ : (Lit.int .i64 a).wf = true) (_ : (Lit.int .i64 b).wf = true) (_ : (Lit.int .i64 c).wf = true) (_ : (Lit.int .i64 d).wf = true) (hc : l1.length ≤ c1) (hr : ReadsRow (k52.K w) 3 w A1 l1.length l1) (_ : (Lit.int .i64 g).wf = true) :
    Calls Try.prog 13 #[.agg #[.int .i64 a, .int .i64 b, .int .i64 c, .int .i64 d], .slice A1 l1.length c1, .int .i64 g] w fun e w' => e = .returned (.bool true) ∧ Below w.heap.size w w' := by
  obtain ⟨k, h⟩ := FnExactStartTime a b c d l1 g hr.2.1
  exact laws_FnExactStartTime.calls k a b c d A1 c1 l1 g true w hr hc h
end Go.Proofs.Ytelbflefjllfiaa.Pure
