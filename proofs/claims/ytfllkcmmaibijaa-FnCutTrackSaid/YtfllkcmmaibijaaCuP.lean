/- The law FnCutTrack over whole numbers alone: a step that is cut in its middle crosses a line alike, and at the same second. No condition but a track and a line that are valid. -/
import Derived.Test.YtfllkcmmaibijaaCu14
import Derived.Test.YtfllkcmmaibijaaCu3
import Derived.Test.YtfllkcmmaibijaaCu4
import Derived.Test.YtfllkcmmaibijaaCu8
import Derived.Test.YtfllkcmmaibijaaCu15
namespace Go.Proofs.Ytfllkcmmaibijaa.Cup
open Go.RowKit Go.Proofs.Ytfllkcmmaibijaa.PFnCutTrack Go.Proofs.YtfllkcmmaibijaaW.PrintWords Go.Proofs.YtfllkcmmaibijaaW.PrintLast
theorem w64 {n : Int} (h1 : -9000000000000000000 ≤ n) (h2 : n ≤ 9000000000000000000) : wrap64 n = n := by unfold wrap64; omega
theorem within_some (a b c : Int) : ∃ r, impl_within.f a b c = some r := by
  unfold impl_within.f; split <;> exact ⟨_, rfl⟩
theorem place_some (x y : Int) : ∃ r, impl_PlaceOk.f x y = some r := by
  obtain ⟨r1, h1⟩ := within_some x (-10000) 10000
  obtain ⟨r2, h2⟩ := within_some y (-10000) 10000
  unfold impl_PlaceOk.f
  rw [h1, h2]
  cases r1 <;> exact ⟨_, rfl⟩
theorem line_some (x y z t : Int) : ∃ r, impl_LineOk.f x y z t = some r := by
  obtain ⟨r1, h1⟩ := place_some x y
  obtain ⟨r2, h2⟩ := place_some z t
  unfold impl_LineOk.f
  rw [h1, h2]
  cases r1 <;> cases r2 <;> exact ⟨_, rfl⟩
theorem height_same (a b c d x y : Int) : spec_l09Height.f a b c d x y = impl_height.f a b c d x y := by
  unfold spec_l09Height.f spec_l09Cross.f impl_height.f impl_Place_less.f impl_Place_cross.f
  rfl
theorem side_same (k : Nat) (a b c d x y : Int) : spec_SideOf.f k a b c d x y = impl_SideOf.f k a b c d x y := by
  have e1 : spec_LineOk.f = impl_LineOk.f := rfl
  have e2 : spec_PlaceOk.f = impl_PlaceOk.f := rfl
  have e3 : ∀ s a b c d x y, spec_SideOf.j0 k s a b c d x y = impl_SideOf.j0 k s a b c d x y := by
    intro s a b c d x y
    cases k with
    | zero => rfl
    | succ k => simp only [spec_SideOf.j0, impl_SideOf.j0, height_same]
  unfold spec_SideOf.f impl_SideOf.f
  rw [e1, e2]
  simp only [e3]
theorem height_some (a b c d x y : Int) : ∃ r, impl_height.f a b c d x y = some r := by
  unfold impl_height.f impl_Place_less.f impl_Place_cross.f
  exact ⟨_, rfl⟩
theorem side_some (k : Nat) (a b c d x y : Int) : ∃ r, impl_SideOf.f (k + 1) a b c d x y = some r := by
  have e3 : ∀ s a b c d x y, ∃ r, impl_SideOf.j0 (k + 1) s a b c d x y = some r := by
    intro s a b c d x y
    obtain ⟨h, hh⟩ := height_some a b c d x y
    simp only [impl_SideOf.j0, hh, Option.bind_some]
    split
    · exact ⟨_, rfl⟩
    · split
      · exact ⟨_, rfl⟩
      · split <;> exact ⟨_, rfl⟩
  obtain ⟨r1, h1⟩ := line_some a b c d
  obtain ⟨r2, h2⟩ := place_some x y
  unfold impl_SideOf.f
  rw [h1, h2]
  cases r1
  · simpa using e3 true a b c d x y
  · simpa using e3 (!r2) a b c d x y

def placeB (x y : Int) : Bool := decide (-10000 ≤ x) && decide (x ≤ 10000) && decide (-10000 ≤ y) && decide (y ≤ 10000)
theorem place_is (x y : Int) : impl_PlaceOk.f x y = some (placeB x y) := by
  unfold impl_PlaceOk.f impl_within.f placeB
  by_cases h1 : x ≥ -10000
  · rw [if_pos h1, Option.bind_some]
    by_cases h2 : x ≤ 10000
    · rw [if_pos (by simpa using h2)]
      by_cases h3 : y ≥ -10000
      · rw [if_pos h3, Option.bind_some]; simp [h2, show (-10000 : Int) ≤ x from h1, show (-10000 : Int) ≤ y from h3]
      · rw [if_neg h3, Option.bind_some]; simp [h2, show (-10000 : Int) ≤ x from h1, show ¬ (-10000 : Int) ≤ y from h3]
    · rw [if_neg (by simpa using h2)]; simp [h2]
  · rw [if_neg h1, Option.bind_some]
    simp [show ¬ (-10000 : Int) ≤ x from h1]
theorem placeB_iff {x y : Int} : placeB x y = true ↔ -10000 ≤ x ∧ x ≤ 10000 ∧ -10000 ≤ y ∧ y ≤ 10000 := by
  unfold placeB; simp; omega
def lineB (a b c d : Int) : Bool := placeB a b && (placeB c d && (!(a == c) || !(b == d)))
theorem line_is (a b c d : Int) : impl_LineOk.f a b c d = some (lineB a b c d) := by
  unfold impl_LineOk.f lineB
  rw [place_is, place_is, Option.bind_some, Option.bind_some]
  cases placeB a b <;> cases placeB c d <;> simp
/-- the height of a place over a line -/
def ht (a b c d x y : Int) : Int := (c - a) * (y - b) - (d - b) * (x - a)
theorem mul_bound {p q M : Int} (h1 : -M ≤ p) (h2 : p ≤ M) (h3 : -M ≤ q) (h4 : q ≤ M) : -(M * M) ≤ p * q ∧ p * q ≤ M * M := by
  have a : p.natAbs ≤ M.natAbs := by omega
  have b : q.natAbs ≤ M.natAbs := by omega
  have c := Nat.mul_le_mul a b
  rw [← Int.natAbs_mul, ← Int.natAbs_mul] at c
  have d : 0 ≤ M * M := Int.mul_nonneg (by omega) (by omega)
  omega
theorem ht_bound {a b c d x y : Int} (h1 : placeB a b = true) (h2 : placeB c d = true) (h3 : placeB x y = true) : -800000000 ≤ ht a b c d x y ∧ ht a b c d x y ≤ 800000000 := by
  rw [placeB_iff] at h1 h2 h3
  unfold ht
  have e1 := mul_bound (M := 20000) (p := c - a) (q := y - b) (by omega) (by omega) (by omega) (by omega)
  have e2 := mul_bound (M := 20000) (p := d - b) (q := x - a) (by omega) (by omega) (by omega) (by omega)
  omega
theorem height_is {a b c d x y : Int} (h1 : placeB a b = true) (h2 : placeB c d = true) (h3 : placeB x y = true) : impl_height.f a b c d x y = some (ht a b c d x y) := by
  have hb := ht_bound h1 h2 h3
  rw [placeB_iff] at h1 h2 h3
  unfold impl_height.f impl_Place_less.f impl_Place_cross.f
  simp only [Option.bind_some]
  rw [w64 (n := c - a) (by omega) (by omega), w64 (n := d - b) (by omega) (by omega), w64 (n := x - a) (by omega) (by omega), w64 (n := y - b) (by omega) (by omega)]
  have e1 := mul_bound (M := 20000) (p := c - a) (q := y - b) (by omega) (by omega) (by omega) (by omega)
  have e2 := mul_bound (M := 20000) (p := d - b) (q := x - a) (by omega) (by omega) (by omega) (by omega)
  rw [w64 (n := (c - a) * (y - b)) (by omega) (by omega), w64 (n := (d - b) * (x - a)) (by omega) (by omega)]
  unfold ht at *
  rw [w64 (by omega) (by omega)]
def sideI (a b c d x y : Int) : Int := if (lineB a b c d && placeB x y) = true then (if ht a b c d x y < 0 then 1 else if ht a b c d x y > 0 then -1 else 0) else 0
theorem side_is (k : Nat) (a b c d x y : Int) : impl_SideOf.f (k + 1) a b c d x y = some (sideI a b c d x y) := by
  unfold impl_SideOf.f sideI
  rw [line_is, place_is, Option.bind_some, Option.bind_some]
  cases hl : lineB a b c d
  · simp [impl_SideOf.j0]
  · cases hp : placeB x y
    · simp [impl_SideOf.j0]
    · have hl' : placeB a b = true ∧ placeB c d = true := by unfold lineB at hl; simp at hl; exact ⟨hl.1, hl.2.1⟩
      simp only [impl_SideOf.j0, height_is hl'.1 hl'.2 hp, Bool.not_true, Bool.false_eq_true, if_false, if_true, Option.bind_some, Bool.and_self]
      repeat' split
      all_goals rfl

theorem cross_j2 (k : Nat) (s t : Int) (b : Bool) : spec_Crossing.j2 k s t b = impl_Crossing.j2 k s t b := by
  cases k <;> rfl
theorem cross_j2_some (k : Nat) (s t : Int) (b : Bool) : ∃ r, impl_Crossing.j2 (k + 1) s t b = some r := by
  simp only [impl_Crossing.j2]
  split
  · exact ⟨_, rfl⟩
  · split
    · split <;> exact ⟨_, rfl⟩
    · exact ⟨_, rfl⟩
theorem cross_j1 (k : Nat) (s : Bool) (a b c d x y u v : Int) : spec_Crossing.j1 k s a b c d x y u v = impl_Crossing.j1 k s a b c d x y u v := by
  cases k with
  | zero => rfl
  | succ k => simp only [spec_Crossing.j1, impl_Crossing.j1, side_same, cross_j2]
theorem cross_j1_some (k : Nat) (s : Bool) (a b c d x y u v : Int) : ∃ r, impl_Crossing.j1 (k + 2) s a b c d x y u v = some r := by
  simp only [impl_Crossing.j1]
  obtain ⟨r1, h1⟩ := side_some k a b c d x y
  obtain ⟨r2, h2⟩ := side_some k a b c d u v
  rw [h1, h2, Option.bind_some, Option.bind_some]
  split
  · exact ⟨_, rfl⟩
  · split <;> exact cross_j2_some _ _ _ _
theorem cross_j0 (k : Nat) (s : Bool) (a b c d x y u v : Int) : spec_Crossing.j0 k s a b c d x y u v = impl_Crossing.j0 k s a b c d x y u v := by
  cases k with
  | zero => rfl
  | succ k => simp only [spec_Crossing.j0, impl_Crossing.j0, spec_l09Cross.f, impl_Place_less.f, impl_Place_cross.f, Option.bind_some, cross_j1]
theorem cross_j0_some (k : Nat) (s : Bool) (a b c d x y u v : Int) : ∃ r, impl_Crossing.j0 (k + 3) s a b c d x y u v = some r := by
  simp only [impl_Crossing.j0, impl_Place_less.f, impl_Place_cross.f, Option.bind_some]
  split
  · exact ⟨_, rfl⟩
  · repeat' split
    all_goals exact cross_j1_some _ _ _ _ _ _ _ _ _ _
theorem cross_same (k : Nat) (a b c d x y u v : Int) : spec_Crossing.f k a b c d x y u v = impl_Crossing.f k a b c d x y u v := by
  have e1 : spec_LineOk.f = impl_LineOk.f := rfl
  have e2 : spec_PlaceOk.f = impl_PlaceOk.f := rfl
  unfold spec_Crossing.f impl_Crossing.f
  simp only [e1, e2, cross_j0]
theorem cross_some (k : Nat) (a b c d x y u v : Int) : ∃ r, impl_Crossing.f (k + 3) a b c d x y u v = some r := by
  obtain ⟨r1, h1⟩ := line_some a b c d
  obtain ⟨r2, h2⟩ := place_some x y
  obtain ⟨r3, h3⟩ := place_some u v
  unfold impl_Crossing.f
  rw [h1, h2, h3]
  cases r1
  · simpa using cross_j0_some k true a b c d x y u v
  · cases r2
    · simpa using cross_j0_some k true a b c d x y u v
    · simpa using cross_j0_some k (!r3) a b c d x y u v

theorem time_some (x : Int) : ∃ r, impl_timeOk.f x = some r := by
  obtain ⟨r, h⟩ := within_some x 0 10000000
  unfold impl_timeOk.f
  rw [h]; exact ⟨_, rfl⟩
theorem wrap_in {n : Int} (h0 : 0 ≤ n) (h : n ≤ 11728124029610) : wrap64 n = n := by unfold wrap64; omega
theorem rd_at (l : List S44) (i : Nat) (h : i < l.length) : rd_T44 l (i : Int) = l[i] := by
  unfold rd_T44
  rw [List.getD_eq_getElem?_getD, Int.toNat_natCast, List.getElem?_eq_getElem h]
  rfl
/-- What both of them tell of a track from some sight on. -/
def good (l : List S44) (i : Nat) : Bool :=
  match l[i]? with
  | none => true
  | some s => (impl_PlaceOk.f s.f0.f0 s.f0.f1 == some true) && (impl_timeOk.f s.f1 == some true) && (i == 0 || (match l[i - 1]? with | some q => decide (q.f1 < s.f1) | none => true))
def goods (l : List S44) : Nat → Nat → Bool
  | 0, _ => true
  | d + 1, i => good l i && goods l d (i + 1)
theorem spec_loop (l : List S44) (hl : l.length ≤ 1048576) : ∀ (d k i : Nat), i + d = l.length → d < k → spec_TrackOk.l0 k l i = some (goods l d i && decide ((l.length : Int) ≤ 200)) := by
  intro d
  induction d with
  | zero =>
    intro k i hi hk
    obtain ⟨k, rfl⟩ : ∃ m, k = m + 1 := ⟨k - 1, by omega⟩
    simp only [spec_TrackOk.l0]
    rw [if_neg (by omega)]
    simp [goods]
  | succ d ih =>
    intro k i hi hk
    obtain ⟨k, rfl⟩ : ∃ m, k = m + 1 := ⟨k - 1, by omega⟩
    have hil : i < l.length := by omega
    have e1 : spec_PlaceOk.f = impl_PlaceOk.f := rfl
    have e2 : ∀ x, spec_l01In.f x 0 10000000 = impl_timeOk.f x := by intro x; unfold impl_timeOk.f; show impl_within.f _ _ _ = _; cases impl_within.f x 0 10000000 <;> rfl
    simp only [spec_TrackOk.l0, e1, e2]
    rw [if_pos (by omega), if_pos (by omega), rd_at l i hil]
    obtain ⟨b, hb⟩ := place_some l[i].f0.f0 l[i].f0.f1
    obtain ⟨c, hc⟩ := time_some l[i].f1
    rw [hb, hc, Option.bind_some]
    have hih := ih k (i + 1) (by omega) (by omega)
    have hw : wrap64 ((i : Int) + 1) = ((i + 1 : Nat) : Int) := by rw [wrap_in (by omega) (by omega)]; omega
    rw [hw, hih]
    simp only [goods, good, List.getElem?_eq_getElem hil, hb, hc]
    cases b
    · simp
    · cases c
      · simp
      · simp only [if_true, Option.bind_some]
        by_cases h0 : i = 0
        · subst h0; simp
        · have hw2 : wrap64 ((i : Int) - 1) = ((i - 1 : Nat) : Int) := by rw [wrap_in (by omega) (by omega)]; omega
          rw [if_pos (by omega), hw2, if_pos (by omega), if_pos (by omega), rd_at l (i - 1) (by omega)]
          simp only [List.getElem?_eq_getElem (show i - 1 < l.length by omega)]
          by_cases hlt : l[i].f1 ≤ l[i - 1].f1
          · rw [if_pos hlt]; simp [h0, Int.not_lt.2 hlt]
          · rw [if_neg hlt]; simp [Int.lt_of_not_ge hlt]
theorem impl_loop (l : List S44) (hl : l.length ≤ 1048576) : ∀ (d k i : Nat), i + d = l.length → d < k → impl_TrackOk.l0 k l l l.length i = some (goods l d i) := by
  intro d
  induction d with
  | zero =>
    intro k i hi hk
    obtain ⟨k, rfl⟩ : ∃ m, k = m + 1 := ⟨k - 1, by omega⟩
    simp only [impl_TrackOk.l0]
    rw [if_neg (by omega)]
    simp [goods]
  | succ d ih =>
    intro k i hi hk
    obtain ⟨k, rfl⟩ : ∃ m, k = m + 1 := ⟨k - 1, by omega⟩
    have hil : i < l.length := by omega
    simp only [impl_TrackOk.l0]
    rw [if_pos (by omega), if_pos (by omega), if_pos (by omega), rd_at l i hil]
    obtain ⟨b, hb⟩ := place_some l[i].f0.f0 l[i].f0.f1
    obtain ⟨c, hc⟩ := time_some l[i].f1
    rw [hb, hc, Option.bind_some]
    have hih := ih k (i + 1) (by omega) (by omega)
    have hw : wrap64 ((i : Int) + 1) = ((i + 1 : Nat) : Int) := by rw [wrap_in (by omega) (by omega)]; omega
    rw [hw, hih]
    simp only [goods, good, List.getElem?_eq_getElem hil, hb, hc]
    cases b
    · simp
    · cases c
      · simp
      · simp only [if_true, Option.bind_some]
        by_cases h0 : i = 0
        · subst h0; simp
        · have hw2 : wrap64 ((i : Int) - 1) = ((i - 1 : Nat) : Int) := by rw [wrap_in (by omega) (by omega)]; omega
          rw [if_pos (by omega), hw2, if_pos (by omega), if_pos (by omega), rd_at l (i - 1) (by omega)]
          simp only [List.getElem?_eq_getElem (show i - 1 < l.length by omega)]
          by_cases hlt : l[i].f1 ≤ l[i - 1].f1
          · rw [if_pos hlt]; simp [h0, Int.not_lt.2 hlt]
          · rw [if_neg hlt]; simp [Int.lt_of_not_ge hlt]
def trackOk (l : List S44) : Bool := goods l l.length 0 && decide ((l.length : Int) ≤ 200)
theorem spec_track (l : List S44) (hl : l.length ≤ 1048576) (k : Nat) (hk : l.length < k) : spec_TrackOk.f k l = some (trackOk l) := by
  unfold spec_TrackOk.f
  exact spec_loop l hl l.length k 0 (by omega) hk
theorem impl_track (l : List S44) (hl : l.length ≤ 1048576) (k : Nat) (hk : l.length < k) : impl_TrackOk.f k l = some (trackOk l) := by
  unfold impl_TrackOk.f trackOk
  by_cases h : (l.length : Int) > 200
  · rw [if_pos h, show decide ((l.length : Int) ≤ 200) = false by simp; omega]; simp
  · rw [if_neg h, show decide ((l.length : Int) ≤ 200) = true by simp; omega, Bool.and_true]
    exact impl_loop l hl l.length k 0 (by omega) hk

theorem time_is (x : Int) : impl_timeOk.f x = some (decide (0 ≤ x) && decide (x ≤ 10000000)) := by
  unfold impl_timeOk.f impl_within.f
  by_cases h : x ≥ 0
  · rw [if_pos h]; simp [show 0 ≤ x from h]
  · rw [if_neg h]; simp [show ¬ 0 ≤ x from h]
theorem lineB_of {a b c d : Int} (h : lineB a b c d = true) : placeB a b = true ∧ placeB c d = true := by
  unfold lineB at h; simp at h; exact ⟨h.1, h.2.1⟩

/-! ### a crossing -/
theorem less_is {x y u v : Int} (h1 : placeB x y = true) (h2 : placeB u v = true) : impl_Place_less.f u v x y = some (u - x, v - y) := by
  rw [placeB_iff] at h1 h2
  unfold impl_Place_less.f
  rw [w64 (n := u - x) (by omega) (by omega), w64 (n := v - y) (by omega) (by omega)]
theorem product_is {x y u v a b : Int} (h1 : placeB x y = true) (h2 : placeB u v = true) (h3 : placeB a b = true) : impl_Place_cross.f (u - x) (v - y) (a - x) (b - y) = some (ht x y u v a b) := by
  have hb := ht_bound h1 h2 h3
  rw [placeB_iff] at h1 h2 h3
  unfold impl_Place_cross.f
  have e1 := mul_bound (M := 20000) (p := u - x) (q := b - y) (by omega) (by omega) (by omega) (by omega)
  have e2 := mul_bound (M := 20000) (p := v - y) (q := a - x) (by omega) (by omega) (by omega) (by omega)
  rw [w64 (n := (u - x) * (b - y)) (by omega) (by omega), w64 (n := (v - y) * (a - x)) (by omega) (by omega)]
  unfold ht at *
  rw [w64 (by omega) (by omega)]
def turnI (h k : Int) : Int := if 0 ≤ h ∧ k < 0 then 1 else if h < 0 ∧ 0 ≤ k then -1 else 0
def crI (X Y h k : Int) : Int := if (0 < X ∧ 0 < Y) ∨ (X < 0 ∧ Y < 0) then 0 else turnI h k
theorem side_in {a b c d x y : Int} (hL : lineB a b c d = true) (hp : placeB x y = true) : sideI a b c d x y = if ht a b c d x y < 0 then 1 else if ht a b c d x y > 0 then -1 else 0 := by
  unfold sideI; rw [hL, hp]; rfl
theorem j1_is {a b c d x y u v : Int} (hL : lineB a b c d = true) (hp : placeB x y = true) (hq : placeB u v = true) (k : Nat) :
    impl_Crossing.j1 (k + 2) false a b c d x y u v = some (turnI (ht a b c d x y) (ht a b c d u v)) := by
  simp only [impl_Crossing.j1, side_is, Option.bind_some, impl_Crossing.j2, Bool.false_eq_true, if_false, side_in hL hp, side_in hL hq]
  generalize ht a b c d x y = h
  generalize ht a b c d u v = g
  unfold turnI
  by_cases h1 : h < 0
  · rw [if_pos h1, if_neg (by omega), if_pos rfl, if_neg (show ¬ (0 ≤ h ∧ g < 0) by omega)]
    by_cases h2 : g < 0
    · rw [if_pos h2, if_neg (by omega), if_neg (by omega)]
    · rw [if_neg h2, if_pos (show h < 0 ∧ 0 ≤ g by omega)]
      split
      · rw [if_pos (by omega)]
      · rw [if_pos (by omega)]
  · rw [if_neg h1]
    have h3 : (if h > 0 then (-1 : Int) else 0) ≤ 0 := by split <;> omega
    have h4 : ¬ (if h > 0 then (-1 : Int) else 0) = 1 := by split <;> omega
    rw [if_pos h3, if_neg h4, if_neg (show ¬ (h < 0 ∧ 0 ≤ g) by omega)]
    by_cases h2 : g < 0
    · rw [if_pos h2, if_pos (show 0 ≤ h ∧ g < 0 by omega)]
      rfl
    · rw [if_neg h2, if_neg (show ¬ (0 ≤ h ∧ g < 0) by omega)]
      have h5 : ((if g > 0 then (-1 : Int) else 0) == 1) = false := by split <;> rfl
      rw [h5]
      rfl
theorem cross_is {a b c d x y u v : Int} (hL : lineB a b c d = true) (hp : placeB x y = true) (hq : placeB u v = true) (k : Nat) :
    impl_Crossing.f (k + 3) a b c d x y u v = some (crI (ht x y u v a b) (ht x y u v c d) (ht a b c d x y) (ht a b c d u v)) := by
  have ha := (lineB_of hL).1
  have hc := (lineB_of hL).2
  have j1t : impl_Crossing.j1 (k + 2) true a b c d x y u v = some 0 := by simp only [impl_Crossing.j1, if_true]
  unfold impl_Crossing.f
  rw [line_is, place_is, place_is, hL, hp, hq]
  simp only [Option.bind_some, if_true, Bool.not_true, impl_Crossing.j0, Bool.false_eq_true, if_false, less_is hp hq, less_is hp ha, less_is hp hc, product_is hp hq ha, product_is hp hq hc]
  generalize ht x y u v a b = X
  generalize ht x y u v c d = Y
  unfold crI
  by_cases h1 : X > 0
  · rw [if_pos h1]
    by_cases h2 : Y > 0
    · rw [if_pos h2, if_pos (Or.inl ⟨h1, h2⟩), j1t]
    · rw [if_neg h2, if_neg (show ¬ X < 0 by omega), if_neg (by omega), j1_is hL hp hq]
  · rw [if_neg h1]
    by_cases h2 : X < 0
    · rw [if_pos h2]
      by_cases h3 : Y < 0
      · rw [decide_eq_true h3, j1t, if_pos (Or.inr ⟨h2, h3⟩)]
      · rw [decide_eq_false h3, j1_is hL hp hq, if_neg (by omega)]
    · rw [if_neg h2, j1_is hL hp hq, if_neg (by omega)]

/-! ### a track of two sights, and of three -/
theorem track2 {x y s u v t : Int} : trackOk [⟨⟨x, y⟩, s⟩, ⟨⟨u, v⟩, t⟩] = true ↔ placeB x y = true ∧ placeB u v = true ∧ 0 ≤ s ∧ s < t ∧ t ≤ 10000000 := by
  unfold trackOk
  simp only [goods, good, place_is, time_is, List.length_cons, List.length_nil]
  simp
  constructor
  · rintro ⟨⟨h1, h2, h3⟩, ⟨h4, h5, h6⟩, h7⟩
    exact ⟨h1, h4, h2, h7, h6⟩
  · rintro ⟨h1, h4, h2, h7, h6⟩
    exact ⟨⟨h1, h2, by omega⟩, ⟨h4, by omega, h6⟩, h7⟩
theorem track3 {x y s p q r u v t : Int} : trackOk [⟨⟨x, y⟩, s⟩, ⟨⟨p, q⟩, r⟩, ⟨⟨u, v⟩, t⟩] = true ↔ placeB x y = true ∧ placeB p q = true ∧ placeB u v = true ∧ 0 ≤ s ∧ s < r ∧ r < t ∧ t ≤ 10000000 := by
  unfold trackOk
  simp only [goods, good, place_is, time_is, List.length_cons, List.length_nil]
  simp
  constructor
  · rintro ⟨⟨h1, h2, h3⟩, ⟨⟨h4, h5, h6⟩, h7⟩, ⟨h8, h9, h10⟩, h11⟩
    exact ⟨h1, h4, h8, h2, h7, h11, h10⟩
  · rintro ⟨h1, h4, h8, h2, h7, h11, h10⟩
    exact ⟨⟨h1, h2, by omega⟩, ⟨⟨h4, by omega, by omega⟩, h7⟩, ⟨h8, by omega, h10⟩, h11⟩

/-! ### the time of a crossing -/
/-- a quotient, rounded up -/
def cdiv (n d : Int) : Int := (n + d - 1) / d
theorem cdiv_nonneg {n d : Int} (hd : 0 < d) (hn : 0 ≤ n) : 0 ≤ cdiv n d := Int.ediv_nonneg (by omega) (by omega)
theorem cdiv_le {n d : Int} (hd : 0 < d) (hn : 0 ≤ n) : cdiv n d ≤ n := by
  unfold cdiv
  have h1 : n + d - 1 < (n + 1) * d := by
    have : 0 ≤ n * (d - 1) := Int.mul_nonneg hn (by omega)
    have e : (n + 1) * d = n * (d - 1) + n + d := by grind
    omega
  have := Int.ediv_lt_of_lt_mul hd h1
  omega
theorem cdiv_add {n d : Int} (m : Int) (hd : 0 < d) : cdiv (n + m * d) d = cdiv n d + m := by
  unfold cdiv
  rw [show n + m * d + d - 1 = n + d - 1 + m * d by omega, Int.add_mul_ediv_right _ _ (by omega)]
theorem cdiv_two {n d : Int} (hd : 0 < d) : cdiv (2 * n) (2 * d) = cdiv n d := by
  have e := Int.mul_ediv_add_emod (n + d - 1) d
  have r0 := Int.emod_nonneg (n + d - 1) (show d ≠ 0 by omega)
  have r1 := Int.emod_lt_of_pos (n + d - 1) hd
  unfold cdiv
  generalize (n + d - 1) / d = q at *
  generalize (n + d - 1) % d = r at *
  rw [show 2 * n + 2 * d - 1 = (2 * r + 1) + q * (2 * d) by
    have : q * (2 * d) = 2 * (d * q) := by grind
    omega, Int.add_mul_ediv_right _ _ (by omega), Int.ediv_eq_zero_of_lt (by omega) (by omega)]
  omega
theorem ceiling_is {n d : Int} (hd : 0 < d) (hn : 0 ≤ n) (hn2 : n ≤ 8000000000000000) (hd2 : d ≤ 1600000000) : impl_ceiling.f n d = some (cdiv n d) := by
  have h1 : 0 ≤ n / d := Int.ediv_nonneg hn (by omega)
  have h2 : n / d ≤ n := Int.ediv_le_self _ hn
  have h3 := Int.emod_nonneg n (show d ≠ 0 by omega)
  have h4 := Int.emod_lt_of_pos n hd
  have h5 := Int.mul_ediv_add_emod n d
  unfold impl_ceiling.f cdiv
  rw [if_neg (by omega), if_neg (by omega), Int.tmod_eq_emod_of_nonneg hn, Int.tdiv_eq_ediv_of_nonneg hn]
  by_cases hm : n % d > 0
  · have e : (n + d - 1) / d = n / d + 1 := by
      rw [show n + d - 1 = (n % d - 1) + (n / d + 1) * d by
        have : (n / d + 1) * d = d * (n / d) + d := by grind
        omega, Int.add_mul_ediv_right _ _ (by omega), Int.ediv_eq_zero_of_lt (a := n % d - 1) (by omega) (by omega)]
      omega
    rw [if_pos hm, w64 (n := n / d) (by omega) (by omega), w64 (n := n / d + 1) (by omega) (by omega), e]
  · have e : (n + d - 1) / d = n / d := by
      rw [show n + d - 1 = (d - 1) + (n / d) * d by
        have : (n / d) * d = d * (n / d) := by grind
        omega, Int.add_mul_ediv_right _ _ (by omega), Int.ediv_eq_zero_of_lt (a := d - 1) (by omega) (by omega)]
      omega
    rw [if_neg hm, w64 (n := n / d) (by omega) (by omega), e]
theorem turn_one {h k : Int} (e : turnI h k = 1) : 0 ≤ h ∧ k < 0 := by
  unfold turnI at e
  split at e
  · assumption
  · split at e <;> omega
theorem cr_one {X Y h k : Int} (e : crI X Y h k = 1) : 0 ≤ h ∧ k < 0 := by
  unfold crI at e
  split at e
  · omega
  · exact turn_one e
theorem time_cross {a b c d x y s u v t : Int} (hL : lineB a b c d = true) (hT : trackOk [⟨⟨x, y⟩, s⟩, ⟨⟨u, v⟩, t⟩] = true) (hc : crI (ht x y u v a b) (ht x y u v c d) (ht a b c d x y) (ht a b c d u v) = 1) (k : Nat) :
    impl_CrossTime.f (k + 3) a b c d x y s u v t = some (s + cdiv ((t - s) * ht a b c d x y) (ht a b c d x y - ht a b c d u v), true) := by
  have hT' := hT
  rw [track2] at hT
  obtain ⟨hp, hq, t0, t1, t2⟩ := hT
  have ha := (lineB_of hL).1
  have hcc := (lineB_of hL).2
  obtain ⟨h0, k0⟩ := cr_one hc
  have b1 := ht_bound ha hcc hp
  have b2 := ht_bound ha hcc hq
  unfold impl_CrossTime.f
  rw [cross_is hL hp hq, hc, Option.bind_some, if_neg (by omega), impl_track _ (by simp) _ (by simp), hT', Option.bind_some]
  simp only [impl_CrossTime.j0, Bool.not_true, Bool.false_eq_true, if_false, height_is ha hcc hp, height_is ha hcc hq, Option.bind_some]
  generalize ht a b c d x y = h at *
  generalize ht a b c d u v = g at *
  have m0 : 0 ≤ (t - s) * h := Int.mul_nonneg (by omega) h0
  have m1 : (t - s) * h ≤ 8000000000000000 := by
    have e1 := Int.mul_le_mul_of_nonneg_right (show t - s ≤ 10000000 by omega) h0
    have e2 : 10000000 * h ≤ 8000000000000000 := by omega
    omega
  rw [w64 (n := t - s) (by omega) (by omega), w64 (n := h - g) (by omega) (by omega), w64 (n := (t - s) * h) (by omega) (by omega), ceiling_is (by omega) m0 m1 (by omega), Option.bind_some]
  have c0 := cdiv_nonneg (show 0 < h - g by omega) m0
  have c1 := cdiv_le (show 0 < h - g by omega) m0
  rw [w64 (by omega) (by omega)]

/-! ### the search for a start -/
theorem crossed_yes {a b c d gun n : Int} {l : List S44} {i k : Nat} (hl : l.length ≤ 1000) (hi : i + 1 < l.length)
    (h1 : impl_Crossing.f k a b c d (l[i]'(by omega)).f0.f0 (l[i]'(by omega)).f0.f1 l[i + 1].f0.f0 l[i + 1].f0.f1 = some 1)
    (h2 : impl_CrossTime.f k a b c d (l[i]'(by omega)).f0.f0 (l[i]'(by omega)).f0.f1 (l[i]'(by omega)).f1 l[i + 1].f0.f0 l[i + 1].f0.f1 l[i + 1].f1 = some (n, true)) (h3 : gun ≤ n) :
    impl_crossed.l0 (k + 1) l gun (i : Int) a b c d = some ((i : Int), n) := by
  have hw : wrap64 ((i : Int) + 1) = ((i + 1 : Nat) : Int) := by rw [w64 (by omega) (by omega)]; omega
  simp only [impl_crossed.l0]
  rw [hw, if_pos (by omega), if_pos (by omega), if_pos (by omega), if_pos (by omega), rd_at l i (by omega), rd_at l (i + 1) hi, h1, Option.bind_some, if_pos rfl, h2, Option.bind_some, if_pos rfl, if_pos h3]
theorem crossed_no {a b c d gun r : Int} {l : List S44} {i k : Nat} (hl : l.length ≤ 1000) (hi : i + 1 < l.length)
    (h1 : impl_Crossing.f k a b c d (l[i]'(by omega)).f0.f0 (l[i]'(by omega)).f0.f1 l[i + 1].f0.f0 l[i + 1].f0.f1 = some r) (hr : r ≠ 1) :
    impl_crossed.l0 (k + 1) l gun (i : Int) a b c d = impl_crossed.l0 k l gun ((i + 1 : Nat) : Int) a b c d := by
  have hw : wrap64 ((i : Int) + 1) = ((i + 1 : Nat) : Int) := by rw [w64 (by omega) (by omega)]; omega
  conv => lhs; simp only [impl_crossed.l0]
  rw [hw, if_pos (by omega), if_pos (by omega), if_pos (by omega), if_pos (by omega), rd_at l i (by omega), rd_at l (i + 1) hi, h1, Option.bind_some, if_neg hr]
theorem crossed_end {a b c d gun : Int} {l : List S44} {i k : Nat} (hi : ¬ i + 1 < l.length) (h2 : i ≤ 1000) :
    impl_crossed.l0 (k + 1) l gun (i : Int) a b c d = some (-1, 0) := by
  have hw : wrap64 ((i : Int) + 1) = ((i + 1 : Nat) : Int) := by rw [w64 (by omega) (by omega)]; omega
  simp only [impl_crossed.l0]
  rw [hw, if_neg (by omega)]

/-! ### a step that is cut in its middle -/
theorem mid_turn (X Y h g : Int) : crI (2 * X) (2 * Y) h (h + 2 * g) = crI X Y h (h + g) + crI X Y (h + g) (h + 2 * g) ∧ (crI X Y h (h + g) = 1 → crI (2 * X) (2 * Y) h (h + 2 * g) = 1) ∧ (crI X Y (h + g) (h + 2 * g) = 1 → crI (2 * X) (2 * Y) h (h + 2 * g) = 1) ∧ -2 ≤ crI X Y h (h + g) + crI X Y (h + g) (h + 2 * g) ∧ crI X Y h (h + g) + crI X Y (h + g) (h + 2 * g) ≤ 2 := by
  have e : ((0 < 2 * X ∧ 0 < 2 * Y) ∨ (2 * X < 0 ∧ 2 * Y < 0)) = ((0 < X ∧ 0 < Y) ∨ (X < 0 ∧ Y < 0)) := by
    rw [eq_iff_iff]; omega
  unfold crI
  simp only [e]
  by_cases hq : (0 < X ∧ 0 < Y) ∨ (X < 0 ∧ Y < 0)
  · simp only [if_pos hq]; omega
  · simp only [if_neg hq]
    have t : ∀ p q : Int, (turnI p q = 1 ∧ 0 ≤ p ∧ q < 0) ∨ (turnI p q = -1 ∧ p < 0 ∧ 0 ≤ q) ∨ (turnI p q = 0 ∧ ((0 ≤ p ∧ 0 ≤ q) ∨ (p < 0 ∧ q < 0))) := by
      intro p q; unfold turnI
      by_cases h1 : 0 ≤ p <;> by_cases h2 : q < 0 <;> simp [h1, h2] <;> omega
    have t1 := t h (h + 2 * g)
    have t2 := t h (h + g)
    have t3 := t (h + g) (h + 2 * g)
    generalize turnI h (h + 2 * g) = r1 at *
    generalize turnI h (h + g) = r2 at *
    generalize turnI (h + g) (h + 2 * g) = r3 at *
    omega
theorem ht_line (a b c d x y p q m : Int) : ht a b c d (x + m * p) (y + m * q) = ht a b c d x y + m * ((c - a) * q - (d - b) * p) := by unfold ht; grind
theorem ht_two (x y p q a b : Int) : ht x y (x + 2 * p) (y + 2 * q) a b = 2 * (p * (b - y) - q * (a - x)) := by unfold ht; grind
theorem ht_one (x y p q a b : Int) : ht x y (x + p) (y + q) a b = p * (b - y) - q * (a - x) := by unfold ht; grind
theorem ht_half (x y p q a b : Int) : ht (x + p) (y + q) (x + 2 * p) (y + 2 * q) a b = p * (b - y) - q * (a - x) := by unfold ht; grind
/-- What is told of a line (a b c d) and of a step from (x, y) at s, by (p, q) twice, in H seconds twice. -/
structure Step (a b c d x y p q s H : Int) : Prop where
  line : lineB a b c d = true
  here : placeB x y = true
  mid : placeB (x + p) (y + q) = true
  there : placeB (x + 2 * p) (y + 2 * q) = true
  s0 : 0 ≤ s
  h1 : 1 ≤ H
  s1 : s + 2 * H ≤ 10000000
variable {a b c d x y p q s H : Int}
def gI (a b c d p q : Int) : Int := (c - a) * q - (d - b) * p
def xI (x y p q a b : Int) : Int := p * (b - y) - q * (a - x)
theorem Step.whole (h : Step a b c d x y p q s H) (k : Nat) : impl_Crossing.f (k + 3) a b c d x y (x + 2 * p) (y + 2 * q) = some (crI (2 * xI x y p q a b) (2 * xI x y p q c d) (ht a b c d x y) (ht a b c d x y + 2 * gI a b c d p q)) := by
  rw [cross_is h.line h.here h.there, ht_two, ht_two, ht_line a b c d x y p q 2]; rfl
theorem Step.first (h : Step a b c d x y p q s H) (k : Nat) : impl_Crossing.f (k + 3) a b c d x y (x + p) (y + q) = some (crI (xI x y p q a b) (xI x y p q c d) (ht a b c d x y) (ht a b c d x y + gI a b c d p q)) := by
  have e := ht_line a b c d x y p q 1
  rw [Int.one_mul, Int.one_mul, Int.one_mul] at e
  rw [cross_is h.line h.here h.mid, ht_one, ht_one, e]; rfl
theorem Step.second (h : Step a b c d x y p q s H) (k : Nat) : impl_Crossing.f (k + 3) a b c d (x + p) (y + q) (x + 2 * p) (y + 2 * q) = some (crI (xI x y p q a b) (xI x y p q c d) (ht a b c d x y + gI a b c d p q) (ht a b c d x y + 2 * gI a b c d p q)) := by
  have e := ht_line a b c d x y p q 1
  rw [Int.one_mul, Int.one_mul, Int.one_mul] at e
  rw [cross_is h.line h.mid h.there, ht_half, ht_half, e, ht_line a b c d x y p q 2]; rfl
/-- the crossings: of the whole step, told by both alike, and of its parts -/
theorem cut_cross (h : Step a b c d x y p q s H) (k : Nat) : ∃ r r1 r2 : Int, impl_Crossing.f (k + 3) a b c d x y (x + 2 * p) (y + 2 * q) = some r ∧ spec_Crossing.f (k + 3) a b c d x y (x + 2 * p) (y + 2 * q) = some r ∧ impl_Crossing.f (k + 3) a b c d x y (x + p) (y + q) = some r1 ∧ impl_Crossing.f (k + 3) a b c d (x + p) (y + q) (x + 2 * p) (y + 2 * q) = some r2 ∧ wrap64 (r1 + r2) = r := by
  obtain ⟨m1, m2, m3, m4, m5⟩ := mid_turn (xI x y p q a b) (xI x y p q c d) (ht a b c d x y) (gI a b c d p q)
  exact ⟨_, _, _, h.whole k, by rw [cross_same, h.whole k], h.first k, h.second k, by rw [w64 (by omega) (by omega), m1]⟩
theorem Step.track2 (h : Step a b c d x y p q s H) : trackOk [⟨⟨x, y⟩, s⟩, ⟨⟨x + 2 * p, y + 2 * q⟩, s + 2 * H⟩] = true := by
  rw [Cup.track2]; exact ⟨h.here, h.there, h.s0, by have := h.h1; omega, h.s1⟩
theorem Step.track3 (h : Step a b c d x y p q s H) : trackOk [⟨⟨x, y⟩, s⟩, ⟨⟨x + p, y + q⟩, s + H⟩, ⟨⟨x + 2 * p, y + 2 * q⟩, s + 2 * H⟩] = true := by
  rw [Cup.track3]; exact ⟨h.here, h.mid, h.there, h.s0, by have := h.h1; omega, by have := h.h1; omega, h.s1⟩
theorem Step.trackA (h : Step a b c d x y p q s H) : trackOk [⟨⟨x, y⟩, s⟩, ⟨⟨x + p, y + q⟩, s + H⟩] = true := by
  rw [Cup.track2]; exact ⟨h.here, h.mid, h.s0, by have := h.h1; omega, by have := h.h1; have := h.s1; omega⟩
theorem Step.trackB (h : Step a b c d x y p q s H) : trackOk [⟨⟨x + p, y + q⟩, s + H⟩, ⟨⟨x + 2 * p, y + 2 * q⟩, s + 2 * H⟩] = true := by
  rw [Cup.track2]; exact ⟨h.mid, h.there, by have := h.h1; have := h.s0; omega, by have := h.h1; omega, h.s1⟩
theorem start_of {l : List S44} {gun i n : Int} {k : Nat} (hl : l.length ≤ 1000) (hk : l.length < k) (hT : trackOk l = true) (hc : impl_crossed.l0 k l gun 0 a b c d = some (i, n)) : impl_StartTime.f k a b c d l gun = some (n, decide (i ≥ 0)) := by
  unfold impl_StartTime.f impl_crossed.f
  rw [impl_track l (by omega) k hk, hT, Option.bind_some, if_pos rfl, hc, Option.bind_some]
/-- the start: at the same second, or none -/
theorem cut_start (h : Step a b c d x y p q s H) : ∃ (n : Int) (r : Bool), impl_StartTime.f 9 a b c d [⟨⟨x, y⟩, s⟩, ⟨⟨x + 2 * p, y + 2 * q⟩, s + 2 * H⟩] s = some (n, r) ∧ impl_StartTime.f 9 a b c d [⟨⟨x, y⟩, s⟩, ⟨⟨x + p, y + q⟩, s + H⟩, ⟨⟨x + 2 * p, y + 2 * q⟩, s + 2 * H⟩] s = some (n, r) := by
  obtain ⟨m1, m2, m3, m4, m5⟩ := mid_turn (xI x y p q a b) (xI x y p q c d) (ht a b c d x y) (gI a b c d p q)
  have e1 := ht_line a b c d x y p q 1
  rw [Int.one_mul, Int.one_mul, Int.one_mul] at e1
  have e2 := ht_line a b c d x y p q 2
  have hW := h.whole
  have hA := h.first
  have hB := h.second
  have h1 := h.h1
  have tW := time_cross (k := 5) h.line h.track2
  have tA := time_cross (k := 5) h.line h.trackA
  have tB := time_cross (k := 4) h.line h.trackB
  rw [ht_two, ht_two, e2] at tW
  rw [ht_one, ht_one, e1] at tA
  rw [ht_half, ht_half, e1, e2] at tB
  change crI (2 * xI x y p q a b) (2 * xI x y p q c d) (ht a b c d x y) (ht a b c d x y + 2 * gI a b c d p q) = 1 → impl_CrossTime.f 8 a b c d x y s (x + 2 * p) (y + 2 * q) (s + 2 * H) = some (s + cdiv ((s + 2 * H - s) * ht a b c d x y) (ht a b c d x y - (ht a b c d x y + 2 * gI a b c d p q)), true) at tW
  change crI (xI x y p q a b) (xI x y p q c d) (ht a b c d x y) (ht a b c d x y + gI a b c d p q) = 1 → impl_CrossTime.f 8 a b c d x y s (x + p) (y + q) (s + H) = some (s + cdiv ((s + H - s) * ht a b c d x y) (ht a b c d x y - (ht a b c d x y + gI a b c d p q)), true) at tA
  change crI (xI x y p q a b) (xI x y p q c d) (ht a b c d x y + gI a b c d p q) (ht a b c d x y + 2 * gI a b c d p q) = 1 → impl_CrossTime.f 7 a b c d (x + p) (y + q) (s + H) (x + 2 * p) (y + 2 * q) (s + 2 * H) = some (s + H + cdiv ((s + 2 * H - (s + H)) * (ht a b c d x y + gI a b c d p q)) (ht a b c d x y + gI a b c d p q - (ht a b c d x y + 2 * gI a b c d p q)), true) at tB
  have T2 := h.track2
  have T3 := h.track3
  generalize xI x y p q a b = X at *
  generalize xI x y p q c d = Y at *
  generalize ht a b c d x y = f at *
  generalize gI a b c d p q = g at *
  by_cases cW : crI (2 * X) (2 * Y) f (f + 2 * g) = 1
  · obtain ⟨f0, g0⟩ := cr_one cW
    have n0 : 0 ≤ H * f := Int.mul_nonneg (by omega) f0
    have c0 := cdiv_nonneg (show 0 < -g by omega) n0
    have vW : cdiv ((s + 2 * H - s) * f) (f - (f + 2 * g)) = cdiv (H * f) (-g) := by
      rw [← cdiv_two (show 0 < -g by omega)]; congr 1
      · grind
      · omega
    refine ⟨s + cdiv (H * f) (-g), true, ?_, ?_⟩
    · refine start_of (k := 9) (i := 0) (by simp) (by simp) T2 ?_
      exact crossed_yes (i := 0) (k := 8) (by simp) (by simp) (by rw [← cW]; exact hW 5) (by rw [← vW]; exact tW cW) (by omega)
    · by_cases cA : crI X Y f (f + g) = 1
      · have vA : cdiv ((s + H - s) * f) (f - (f + g)) = cdiv (H * f) (-g) := by
          congr 1
          · grind
          · omega
        refine start_of (k := 9) (i := 0) (by simp) (by simp) T3 ?_
        exact crossed_yes (i := 0) (k := 8) (by simp) (by simp) (by rw [← cA]; exact hA 5) (by rw [← vA]; exact tA cA) (by omega)
      · have cB : crI X Y (f + g) (f + 2 * g) = 1 := by
          have : crI X Y f (f + g) ≤ 1 ∧ crI X Y (f + g) (f + 2 * g) ≤ 1 := by
            unfold crI turnI
            refine ⟨?_, ?_⟩ <;> repeat' split
            all_goals omega
          have : -1 ≤ crI X Y f (f + g) := by unfold crI turnI; repeat' split
                                              all_goals omega
          rw [m1] at cW
          omega
        obtain ⟨f1, g1⟩ := cr_one cB
        have vB : s + H + cdiv ((s + 2 * H - (s + H)) * (f + g)) (f + g - (f + 2 * g)) = s + cdiv (H * f) (-g) := by
          have := cdiv_add (n := H * (f + g)) (d := -g) H (by omega)
          rw [show (s + 2 * H - (s + H)) * (f + g) = H * (f + g) by grind, show f + g - (f + 2 * g) = -g by omega]
          rw [show H * (f + g) + H * -g = H * f by grind] at this
          omega
        refine start_of (k := 9) (i := 1) (by simp) (by simp) T3 ?_
        have := crossed_no (gun := s) (i := 0) (k := 8) (l := [⟨⟨x, y⟩, s⟩, ⟨⟨x + p, y + q⟩, s + H⟩, ⟨⟨x + 2 * p, y + 2 * q⟩, s + 2 * H⟩]) (by simp) (by simp) (hA 5) cA
        refine this.trans ?_
        exact crossed_yes (i := 1) (k := 7) (by simp) (by simp) (by rw [← cB]; exact hB 4) (by rw [← vB]; exact tB cB) (by omega)
  · refine ⟨0, false, ?_, ?_⟩
    · refine start_of (k := 9) (i := -1) (by simp) (by simp) T2 ?_
      have := crossed_no (gun := s) (i := 0) (k := 8) (l := [⟨⟨x, y⟩, s⟩, ⟨⟨x + 2 * p, y + 2 * q⟩, s + 2 * H⟩]) (by simp) (by simp) (hW 5) cW
      exact this.trans (crossed_end (i := 1) (k := 7) (by simp) (by simp))
    · refine start_of (k := 9) (i := -1) (by simp) (by simp) T3 ?_
      have w1 := crossed_no (gun := s) (i := 0) (k := 8) (l := [⟨⟨x, y⟩, s⟩, ⟨⟨x + p, y + q⟩, s + H⟩, ⟨⟨x + 2 * p, y + 2 * q⟩, s + 2 * H⟩]) (by simp) (by simp) (hA 5) (fun e => cW (m2 e))
      have w2 := crossed_no (gun := s) (i := 1) (k := 7) (l := [⟨⟨x, y⟩, s⟩, ⟨⟨x + p, y + q⟩, s + H⟩, ⟨⟨x + 2 * p, y + 2 * q⟩, s + 2 * H⟩]) (by simp) (by simp) (hB 4) (fun e => cW (m3 e))
      exact w1.trans (w2.trans (crossed_end (i := 2) (k := 6) (by simp) (by simp)))
/-- early in the middle, exactly if the middle is ahead -/
theorem cut_early (h : Step a b c d x y p q s H) : ∃ r : Int, impl_EarlyAt.f 9 a b c d [⟨⟨x, y⟩, s⟩, ⟨⟨x + 2 * p, y + 2 * q⟩, s + 2 * H⟩] (s + H) = some (r == 1) ∧ impl_SideOf.f 9 a b c d (x + p) (y + q) = some r := by
  refine ⟨_, ?_, side_is 8 a b c d _ _⟩
  rw [side_in h.line h.mid]
  have e1 := ht_line a b c d x y p q 1
  rw [Int.one_mul, Int.one_mul, Int.one_mul] at e1
  have e2 := ht_line a b c d x y p q 2
  have ha := (lineB_of h.line).1
  have hc := (lineB_of h.line).2
  have b1 := ht_bound ha hc h.here
  have b2 := ht_bound ha hc h.there
  have h1 := h.h1
  have s0 := h.s0
  have s1 := h.s1
  unfold impl_EarlyAt.f
  rw [line_is, h.line, impl_track _ (by simp) _ (by simp), h.track2]
  simp only [Option.bind_some, if_true, Bool.not_true, impl_EarlyAt.j0, Bool.false_eq_true, if_false]
  have step : ∀ k, impl_EarlyAt.l0 (k + 1) [⟨⟨x, y⟩, s⟩, ⟨⟨x + 2 * p, y + 2 * q⟩, s + 2 * H⟩] (s + H) 0 a b c d = if ht a b c d x y * H + ht a b c d (x + 2 * p) (y + 2 * q) * H < 0 then some true else impl_EarlyAt.l0 k [⟨⟨x, y⟩, s⟩, ⟨⟨x + 2 * p, y + 2 * q⟩, s + 2 * H⟩] (s + H) 1 a b c d := by
    intro k
    conv => lhs; simp only [impl_EarlyAt.l0]
    have hw : wrap64 ((0 : Int) + 1) = 1 := by rw [w64 (by omega) (by omega)]; rfl
    rw [hw, if_pos (by simp), if_pos (by omega), if_pos (by simp), if_pos (by omega)]
    have hin : impl_within.f (s + H) s (s + 2 * H) = some true := by
      unfold impl_within.f
      rw [if_pos (by omega), decide_eq_true (by omega)]
    change ((impl_within.f (s + H) s (s + 2 * H)).bind fun t303 => if t303 = true then ((impl_height.f a b c d x y).bind fun t304 => (impl_height.f a b c d (x + 2 * p) (y + 2 * q)).bind fun t305 => if wrap64 (wrap64 (t304 * wrap64 (s + 2 * H - (s + H))) + wrap64 (t305 * wrap64 (s + H - s))) < 0 then some true else _) else _) = _
    rw [hin, Option.bind_some, if_pos rfl, height_is ha hc h.here, height_is ha hc h.there, Option.bind_some, Option.bind_some]
    generalize ht a b c d x y = f at *
    generalize ht a b c d (x + 2 * p) (y + 2 * q) = g at *
    rw [show s + 2 * H - (s + H) = H by omega, show s + H - s = H by omega, w64 (n := H) (by omega) (by omega)]
    have m1 := mul_bound (M := 800000000) (p := f) (q := H) (by omega) (by omega) (by omega) (by omega)
    have m2 := mul_bound (M := 800000000) (p := g) (q := H) (by omega) (by omega) (by omega) (by omega)
    rw [w64 (n := f * H) (by omega) (by omega), w64 (n := g * H) (by omega) (by omega), w64 (n := f * H + g * H) (by omega) (by omega)]
  have last : impl_EarlyAt.l0 7 [⟨⟨x, y⟩, s⟩, ⟨⟨x + 2 * p, y + 2 * q⟩, s + 2 * H⟩] (s + H) 1 a b c d = some false := by
    have hw : wrap64 ((1 : Int) + 1) = 2 := by rw [w64 (by omega) (by omega)]; rfl
    simp only [impl_EarlyAt.l0]
    rw [hw, if_neg (by simp)]
  rw [step 7, last, e1, e2]
  change (if ht a b c d x y * H + (ht a b c d x y + 2 * gI a b c d p q) * H < 0 then some true else some false) = some ((if ht a b c d x y + gI a b c d p q < 0 then (1 : Int) else if ht a b c d x y + gI a b c d p q > 0 then -1 else 0) == 1)
  generalize ht a b c d x y = f at *
  generalize gI a b c d p q = g at *
  rw [show f * H + (f + 2 * g) * H = 2 * ((f + g) * H) by grind]
  by_cases hn : f + g < 0
  · have := Int.mul_neg_of_neg_of_pos hn (show 0 < H by omega)
    rw [if_pos (by omega), if_pos hn]; rfl
  · have := Int.mul_nonneg (show 0 ≤ f + g by omega) (show 0 ≤ H by omega)
    rw [if_neg (by omega), if_neg hn]
    split <;> rfl
theorem half_in {x u p : Int} (e : p = Int.tdiv (u - x) 2) : (0 ≤ p ∧ 2 * p ≤ u - x) ∨ (p ≤ 0 ∧ u - x ≤ 2 * p) := by
  subst e
  by_cases h : 0 ≤ u - x
  · rw [Int.tdiv_eq_ediv_of_nonneg h]; omega
  · have : (u - x).tdiv 2 = -((-(u - x)).tdiv 2) := by rw [← Int.neg_tdiv]; congr 1; omega
    rw [this, Int.tdiv_eq_ediv_of_nonneg (by omega)]; omega
theorem middle_is {u v t : Int} (hL : lineB a b c d = true) (hT : trackOk [⟨⟨x, y⟩, s⟩, ⟨⟨u, v⟩, t⟩] = true) (hH : ¬ Int.tdiv (t - s) 2 < 1) :
    Step a b c d x y (Int.tdiv (u - x) 2) (Int.tdiv (v - y) 2) s (Int.tdiv (t - s) 2) ∧ laws_middle.f x y u v = some (x + Int.tdiv (u - x) 2, y + Int.tdiv (v - y) 2, x + 2 * Int.tdiv (u - x) 2, y + 2 * Int.tdiv (v - y) 2) := by
  rw [Cup.track2] at hT
  obtain ⟨hp, hq, t0, t1, t2⟩ := hT
  have hp' := placeB_iff.1 hp
  have hq' := placeB_iff.1 hq
  unfold laws_middle.f
  rw [w64 (n := u - x) (by omega) (by omega), w64 (n := v - y) (by omega) (by omega)]
  have e1 := half_in (x := x) (u := u) (p := Int.tdiv (u - x) 2) rfl
  have e2 := half_in (x := y) (u := v) (p := Int.tdiv (v - y) 2) rfl
  have e3 := half_in (x := s) (u := t) (p := Int.tdiv (t - s) 2) rfl
  generalize Int.tdiv (u - x) 2 = p at *
  generalize Int.tdiv (v - y) 2 = q at *
  generalize Int.tdiv (t - s) 2 = H at *
  refine ⟨⟨hL, hp, placeB_iff.2 (by omega), placeB_iff.2 (by omega), t0, by omega, by omega⟩, ?_⟩
  rw [w64 (n := p) (by omega) (by omega), w64 (n := q) (by omega) (by omega), w64 (n := x + p) (by omega) (by omega), w64 (n := y + q) (by omega) (by omega), w64 (n := 2 * p) (by omega) (by omega), w64 (n := 2 * q) (by omega) (by omega), w64 (n := x + 2 * p) (by omega) (by omega), w64 (n := y + 2 * q) (by omega) (by omega)]
/-- what the guards of the law let in -/
theorem step_of {u v t K m1 m2 m3 m4 : Int} (hK : wrap64 ((wrap64 (t - s)).tdiv 2) = K) (hT : trackOk [⟨⟨x, y⟩, s⟩, ⟨⟨u, v⟩, t⟩] = true) (hL : lineB a b c d = true) (hm : laws_middle.f x y u v = some (m1, m2, m3, m4)) (h1 : ¬ K < 1) :
    ∃ p q : Int, m1 = x + p ∧ m2 = y + q ∧ m3 = x + 2 * p ∧ m4 = y + 2 * q ∧ Step a b c d x y p q s K := by
  have hT' := hT
  rw [Cup.track2] at hT'
  have e3 := half_in (x := s) (u := t) (p := Int.tdiv (t - s) 2) rfl
  rw [w64 (n := t - s) (by omega) (by omega), w64 (n := (t - s).tdiv 2) (by omega) (by omega)] at hK
  subst hK
  obtain ⟨h2, h3⟩ := middle_is hL hT h1
  rw [h3] at hm
  simp only [Option.some.injEq, Prod.mk.injEq] at hm
  obtain ⟨e1, e2, e3, e4⟩ := hm
  exact ⟨_, _, e1.symm, e2.symm, e3.symm, e4.symm, h2⟩
end Go.Proofs.Ytfllkcmmaibijaa.Cup
