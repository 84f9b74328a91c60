/- The law FnSidesTurn over whole numbers alone: whatever is drawn, what the call computes is true. -/
import Derived.Test.YtfllkcmmaibijaaSi4
namespace Go.Proofs.Ytfllkcmmaibijaa.Pure
open Go.RowKit Go.Proofs.Ytfllkcmmaibijaa.PFnSidesTurn Go.Proofs.YtfllkcmmaibijaaW.PrintWords Go.Proofs.YtfllkcmmaibijaaW.PrintLast

theorem w64 {n : Int} (h1 : -9000000000000000000 ≤ n) (h2 : n ≤ 9000000000000000000) : wrap64 n = n := by unfold wrap64; omega

/-! ### what is drawn -/
theorem new_loop (l : List Int) (hl : l.length ≤ 1048576) : ∀ (d k i : Nat) (h : Int), i + d = l.length → d < k → ∃ h', spec_l01New.l0 k l h i = some (l, 0, h') := by
  intro d
  induction d with
  | zero =>
    intro k i h hi hk
    obtain ⟨k, rfl⟩ : ∃ m, k = m + 1 := ⟨k - 1, by omega⟩
    simp only [spec_l01New.l0]
    rw [if_neg (by omega)]
    exact ⟨_, rfl⟩
  | succ d ih =>
    intro k i h hi hk
    obtain ⟨k, rfl⟩ : ∃ m, k = m + 1 := ⟨k - 1, by omega⟩
    simp only [spec_l01New.l0]
    rw [if_pos (by omega)]
    split
    · rw [if_pos (by omega), w64 (n := (i : Int) + 1) (by omega) (by omega)]
      exact ih k (i + 1) _ (by omega) (by omega)
    · exact ⟨_, rfl⟩
theorem new_some (l : List Int) (hl : l.length ≤ 1048576) (k : Nat) (hk : l.length < k) : ∃ h, spec_l01New.f k l = some (l, 0, h) := by
  unfold spec_l01New.f
  exact new_loop l hl l.length k 0 _ (by omega) hk
theorem bits_and (x n : Int) (hn : 0 ≤ n) (hn2 : n ≤ 9223372036854775807) : 0 ≤ Go.bits .and .i64 x n ∧ Go.bits .and .i64 x n ≤ n := by
  obtain ⟨m, rfl⟩ := Int.eq_ofNat_of_zero_le hn
  have hm : m < 2 ^ 63 := by omega
  unfold Go.bits
  simp only []
  have hb : (BitVec.ofInt IntKind.i64.bits x &&& BitVec.ofInt IntKind.i64.bits (m : Int)).toNat ≤ m := by
    rw [BitVec.toNat_and]
    refine Nat.le_trans Nat.and_le_right ?_
    simp [IntKind.bits]
    omega
  generalize (BitVec.ofInt IntKind.i64.bits x &&& BitVec.ofInt IntKind.i64.bits (m : Int)) = v at *
  have hv : (v.toNat : Int) ≤ m := by exact_mod_cast hb
  rw [IntKind.wrap_i64]
  omega

/-- A cursor: the bytes, a place within them or behind. -/
theorem byte_some (l : List Int) (i h : Int) (hi : 0 ≤ i ∧ i ≤ 2097152) : ∃ x i' h', spec_l01Byte.f l i h = some (x, i', h') ∧ 0 ≤ i' ∧ i' ≤ i + 1 ∧ 0 ≤ x ∧ x ≤ 255 := by
  unfold spec_l01Byte.f
  split
  · rw [if_pos hi.1]
    exact ⟨_, _, _, rfl, by rw [w64 (by omega) (by omega)]; omega, by rw [w64 (by omega) (by omega)]; omega, bits_and _ _ (by omega) (by omega)⟩
  · exact ⟨_, _, _, rfl, hi.1, by omega, bits_and _ _ (by omega) (by omega)⟩
theorem below_some (l : List Int) (i h n : Int) (hi : 0 ≤ i ∧ i ≤ 2000000) (hn : n ≤ 4294967296) : ∃ x i' h', spec_l01Below.f l i h n = some (x, i', h') ∧ 0 ≤ i' ∧ i' ≤ i + 4 ∧ 0 ≤ x ∧ (0 < n → x < n) ∧ x ≤ 4294967295 := by
  unfold spec_l01Below.f
  split
  · exact ⟨_, _, _, rfl, hi.1, by omega, by omega, by omega, by omega⟩
  · split
    · obtain ⟨x, j, g, e, j0, j1, x0, x1⟩ := byte_some l i h (by omega)
      rw [e, Option.bind_some, if_neg (by omega)]
      refine ⟨_, _, _, rfl, j0, by simp only []; omega, ?_, ?_, ?_⟩
      · rw [Int.tmod_eq_emod_of_nonneg x0]; exact Int.emod_nonneg _ (by omega)
      · intro _; rw [Int.tmod_eq_emod_of_nonneg x0]; exact Int.emod_lt_of_pos _ (by omega)
      · rw [Int.tmod_eq_emod_of_nonneg x0]; have := Int.emod_lt_of_pos x (show 0 < n by omega); omega
    · obtain ⟨x1, j1, g1, e1, a1, b1, c1, d1⟩ := byte_some l i h (by omega)
      obtain ⟨x2, j2, g2, e2, a2, b2, c2, d2⟩ := byte_some l j1 g1 (by omega)
      obtain ⟨x3, j3, g3, e3, a3, b3, c3, d3⟩ := byte_some l j2 g2 (by omega)
      obtain ⟨x4, j4, g4, e4, a4, b4, c4, d4⟩ := byte_some l j3 g3 (by omega)
      rw [e1, Option.bind_some, e2, Option.bind_some, e3, Option.bind_some, e4, Option.bind_some, if_neg (by omega)]
      have hx : wrap64 (wrap64 (wrap64 (wrap64 (x1 * 16777216) + wrap64 (x2 * 65536)) + wrap64 (x3 * 256)) + x4) = x1 * 16777216 + x2 * 65536 + x3 * 256 + x4 := by
        rw [w64 (n := x1 * 16777216) (by omega) (by omega), w64 (n := x2 * 65536) (by omega) (by omega), w64 (n := x3 * 256) (by omega) (by omega), w64 (n := x1 * 16777216 + x2 * 65536) (by omega) (by omega), w64 (n := x1 * 16777216 + x2 * 65536 + x3 * 256) (by omega) (by omega), w64 (by omega) (by omega)]
      refine ⟨_, _, _, rfl, a4, by simp only []; omega, ?_, ?_, ?_⟩
      · simp only []
        rw [hx, Int.tmod_eq_emod_of_nonneg (by omega)]; exact Int.emod_nonneg _ (by omega)
      · intro _; simp only []; rw [hx, Int.tmod_eq_emod_of_nonneg (by omega)]; exact Int.emod_lt_of_pos _ (by omega)
      · simp only []; rw [hx, Int.tmod_eq_emod_of_nonneg (by omega)]
        have := Int.emod_lt_of_pos (x1 * 16777216 + x2 * 65536 + x3 * 256 + x4) (show 0 < n by omega); omega

theorem once_some (l : List Int) (i h n : Int) (hi : 0 ≤ i ∧ i ≤ 2000000) (hn : n ≤ 4294967296) : ∃ x i' h', spec_l01Once.f l i h n = some (x, i', h') ∧ 0 ≤ i' ∧ i' ≤ i + 4 := by
  obtain ⟨x, j, g, e, a, b, _⟩ := below_some l i h n hi hn
  unfold spec_l01Once.f
  rw [e, Option.bind_some]
  exact ⟨_, _, _, rfl, a, b⟩

theorem pick_some (l : List Int) (i h : Int) (q : List Int) (hi : 0 ≤ i ∧ i ≤ 2000000) (hq : 0 < q.length ∧ q.length ≤ 4294967296) : ∃ i' h', ∃ j : Nat, ∃ hj : j < q.length, spec_l01PickInt.f l i h q = some (q[j], i', h') ∧ 0 ≤ i' ∧ i' ≤ i + 4 := by
  obtain ⟨x, j, g, e, a, b, c, d, _⟩ := below_some l i h q.length hi (by omega)
  have d' := d (by omega)
  unfold spec_l01PickInt.f
  rw [e, Option.bind_some, if_pos c, if_pos d']
  have hx : x.toNat < q.length := by omega
  refine ⟨_, _, x.toNat, hx, by unfold rd; rw [List.getD_eq_getElem?_getD, List.getElem?_eq_getElem hx]; rfl, a, b⟩

theorem place_draw (l : List Int) (i h : Int) (hi : 0 ≤ i ∧ i ≤ 1900000) : ∃ x y i' h', spec_l09Place.f l i h = some (x, y, i', h') ∧ 0 ≤ i' ∧ i' ≤ i + 16 := by
  obtain ⟨b, i1, g1, e1, a1, b1⟩ := once_some l i h 40 (by omega) (by omega)
  unfold spec_l09Place.f
  rw [e1, Option.bind_some]
  split
  · obtain ⟨i2, g2, _, _, e2, a2, b2⟩ := pick_some l i1 g1 [10000, -10000, 10001, 9223372036854775807] (by omega) (by simp)
    obtain ⟨i3, g3, _, _, e3, a3, b3⟩ := pick_some l i2 g2 [10000, 0, -10001] (by omega) (by simp)
    rw [e2, Option.bind_some, e3, Option.bind_some]
    exact ⟨_, _, _, _, rfl, a3, by simp only []; omega⟩
  · obtain ⟨i2, g2, j, hj, e2, a2, b2⟩ := pick_some l i1 g1 [4, 20, 400] (by omega) (by simp)
    have hv : 4 ≤ [(4 : Int), 20, 400][j] ∧ [(4 : Int), 20, 400][j] ≤ 400 := by
      simp at hj
      match j, hj with
      | 0, _ => simp
      | 1, _ => simp
      | 2, _ => simp
    generalize [(4 : Int), 20, 400][j] = n at *
    have hw : wrap64 (wrap64 (2 * n) + 1) = 2 * n + 1 := by rw [w64 (n := 2 * n) (by omega) (by omega), w64 (by omega) (by omega)]
    obtain ⟨x3, i3, g3, e3, a3, b3, _⟩ := below_some l i2 g2 (2 * n + 1) (by omega) (by omega)
    obtain ⟨x4, i4, g4, e4, a4, b4, _⟩ := below_some l i3 g3 (2 * n + 1) (by omega) (by omega)
    rw [e2, Option.bind_some, hw, e3, Option.bind_some, e4, Option.bind_some]
    exact ⟨_, _, _, _, rfl, a4, by simp only []; omega⟩

theorem line_draw (l : List Int) (i h : Int) (hi : 0 ≤ i ∧ i ≤ 1800000) : ∃ a b c d i' h', spec_l09Line.f l i h = some (a, b, c, d, i', h') ∧ 0 ≤ i' ∧ i' ≤ i + 32 := by
  obtain ⟨x1, y1, i1, g1, e1, a1, b1⟩ := place_draw l i h (by omega)
  obtain ⟨x2, y2, i2, g2, e2, a2, b2⟩ := place_draw l i1 g1 (by omega)
  unfold spec_l09Line.f
  rw [e1, Option.bind_some, e2, Option.bind_some]
  exact ⟨_, _, _, _, _, _, rfl, a2, by simp only []; omega⟩

theorem within_some (a b c : Int) : ∃ r, impl_within.f a b c = some r := by
  unfold impl_within.f; split <;> exact ⟨_, rfl⟩
theorem place_some (x y : Int) : ∃ r, impl_PlaceOk.f x y = some r := by
  obtain ⟨r1, h1⟩ := within_some x (-10000) 10000
  obtain ⟨r2, h2⟩ := within_some y (-10000) 10000
  unfold impl_PlaceOk.f
  rw [h1, h2]
  cases r1 <;> exact ⟨_, rfl⟩
theorem line_some (x y z t : Int) : ∃ r, impl_LineOk.f x y z t = some r := by
  obtain ⟨r1, h1⟩ := place_some x y
  obtain ⟨r2, h2⟩ := place_some z t
  unfold impl_LineOk.f
  rw [h1, h2]
  cases r1 <;> cases r2 <;> exact ⟨_, rfl⟩
theorem height_same (a b c d x y : Int) : spec_l09Height.f a b c d x y = impl_height.f a b c d x y := by
  unfold spec_l09Height.f spec_l09Cross.f impl_height.f impl_Place_less.f impl_Place_cross.f
  rfl
theorem side_same (k : Nat) (a b c d x y : Int) : spec_SideOf.f k a b c d x y = impl_SideOf.f k a b c d x y := by
  have e1 : spec_LineOk.f = impl_LineOk.f := rfl
  have e2 : spec_PlaceOk.f = impl_PlaceOk.f := rfl
  have e3 : ∀ s a b c d x y, spec_SideOf.j0 k s a b c d x y = impl_SideOf.j0 k s a b c d x y := by
    intro s a b c d x y
    cases k with
    | zero => rfl
    | succ k => simp only [spec_SideOf.j0, impl_SideOf.j0, height_same]
  unfold spec_SideOf.f impl_SideOf.f
  rw [e1, e2]
  simp only [e3]
theorem height_some (a b c d x y : Int) : ∃ r, impl_height.f a b c d x y = some r := by
  unfold impl_height.f impl_Place_less.f impl_Place_cross.f
  exact ⟨_, rfl⟩
theorem side_some (k : Nat) (a b c d x y : Int) : ∃ r, impl_SideOf.f (k + 1) a b c d x y = some r := by
  have e3 : ∀ s a b c d x y, ∃ r, impl_SideOf.j0 (k + 1) s a b c d x y = some r := by
    intro s a b c d x y
    obtain ⟨h, hh⟩ := height_some a b c d x y
    simp only [impl_SideOf.j0, hh, Option.bind_some]
    split
    · exact ⟨_, rfl⟩
    · split
      · exact ⟨_, rfl⟩
      · split <;> exact ⟨_, rfl⟩
  obtain ⟨r1, h1⟩ := line_some a b c d
  obtain ⟨r2, h2⟩ := place_some x y
  unfold impl_SideOf.f
  rw [h1, h2]
  cases r1
  · simpa using e3 true a b c d x y
  · simpa using e3 (!r2) a b c d x y

def placeB (x y : Int) : Bool := decide (-10000 ≤ x) && decide (x ≤ 10000) && decide (-10000 ≤ y) && decide (y ≤ 10000)
theorem place_is (x y : Int) : impl_PlaceOk.f x y = some (placeB x y) := by
  unfold impl_PlaceOk.f impl_within.f placeB
  by_cases h1 : x ≥ -10000
  · rw [if_pos h1, Option.bind_some]
    by_cases h2 : x ≤ 10000
    · rw [if_pos (by simpa using h2)]
      by_cases h3 : y ≥ -10000
      · rw [if_pos h3, Option.bind_some]; simp [h2, show (-10000 : Int) ≤ x from h1, show (-10000 : Int) ≤ y from h3]
      · rw [if_neg h3, Option.bind_some]; simp [h2, show (-10000 : Int) ≤ x from h1, show ¬ (-10000 : Int) ≤ y from h3]
    · rw [if_neg (by simpa using h2)]; simp [h2]
  · rw [if_neg h1, Option.bind_some]
    simp [show ¬ (-10000 : Int) ≤ x from h1]
theorem placeB_iff {x y : Int} : placeB x y = true ↔ -10000 ≤ x ∧ x ≤ 10000 ∧ -10000 ≤ y ∧ y ≤ 10000 := by
  unfold placeB; simp; omega
def lineB (a b c d : Int) : Bool := placeB a b && (placeB c d && (!(a == c) || !(b == d)))
theorem line_is (a b c d : Int) : impl_LineOk.f a b c d = some (lineB a b c d) := by
  unfold impl_LineOk.f lineB
  rw [place_is, place_is, Option.bind_some, Option.bind_some]
  cases placeB a b <;> cases placeB c d <;> simp
/-- the height of a place over a line -/
def ht (a b c d x y : Int) : Int := (c - a) * (y - b) - (d - b) * (x - a)
theorem mul_bound {p q M : Int} (h1 : -M ≤ p) (h2 : p ≤ M) (h3 : -M ≤ q) (h4 : q ≤ M) : -(M * M) ≤ p * q ∧ p * q ≤ M * M := by
  have a : p.natAbs ≤ M.natAbs := by omega
  have b : q.natAbs ≤ M.natAbs := by omega
  have c := Nat.mul_le_mul a b
  rw [← Int.natAbs_mul, ← Int.natAbs_mul] at c
  have d : 0 ≤ M * M := Int.mul_nonneg (by omega) (by omega)
  omega
theorem ht_bound {a b c d x y : Int} (h1 : placeB a b = true) (h2 : placeB c d = true) (h3 : placeB x y = true) : -800000000 ≤ ht a b c d x y ∧ ht a b c d x y ≤ 800000000 := by
  rw [placeB_iff] at h1 h2 h3
  unfold ht
  have e1 := mul_bound (M := 20000) (p := c - a) (q := y - b) (by omega) (by omega) (by omega) (by omega)
  have e2 := mul_bound (M := 20000) (p := d - b) (q := x - a) (by omega) (by omega) (by omega) (by omega)
  omega
theorem height_is {a b c d x y : Int} (h1 : placeB a b = true) (h2 : placeB c d = true) (h3 : placeB x y = true) : impl_height.f a b c d x y = some (ht a b c d x y) := by
  have hb := ht_bound h1 h2 h3
  rw [placeB_iff] at h1 h2 h3
  unfold impl_height.f impl_Place_less.f impl_Place_cross.f
  simp only [Option.bind_some]
  rw [w64 (n := c - a) (by omega) (by omega), w64 (n := d - b) (by omega) (by omega), w64 (n := x - a) (by omega) (by omega), w64 (n := y - b) (by omega) (by omega)]
  have e1 := mul_bound (M := 20000) (p := c - a) (q := y - b) (by omega) (by omega) (by omega) (by omega)
  have e2 := mul_bound (M := 20000) (p := d - b) (q := x - a) (by omega) (by omega) (by omega) (by omega)
  rw [w64 (n := (c - a) * (y - b)) (by omega) (by omega), w64 (n := (d - b) * (x - a)) (by omega) (by omega)]
  unfold ht at *
  rw [w64 (by omega) (by omega)]
def sideI (a b c d x y : Int) : Int := if (lineB a b c d && placeB x y) = true then (if ht a b c d x y < 0 then 1 else if ht a b c d x y > 0 then -1 else 0) else 0
theorem side_is (k : Nat) (a b c d x y : Int) : impl_SideOf.f (k + 1) a b c d x y = some (sideI a b c d x y) := by
  unfold impl_SideOf.f sideI
  rw [line_is, place_is, Option.bind_some, Option.bind_some]
  cases hl : lineB a b c d
  · simp [impl_SideOf.j0]
  · cases hp : placeB x y
    · simp [impl_SideOf.j0]
    · have hl' : placeB a b = true ∧ placeB c d = true := by unfold lineB at hl; simp at hl; exact ⟨hl.1, hl.2.1⟩
      simp only [impl_SideOf.j0, height_is hl'.1 hl'.2 hp, Bool.not_true, Bool.false_eq_true, if_false, if_true, Option.bind_some, Bool.and_self]
      repeat' split
      all_goals rfl

theorem side_turn (a b c d x y : Int) : sideI a b c d x y = -sideI c d a b x y := by
  unfold sideI
  have hl : lineB c d a b = lineB a b c d := by
    unfold lineB
    have e1 : (c == a) = (a == c) := by rw [Bool.eq_iff_iff]; simp; omega
    have e2 : (d == b) = (b == d) := by rw [Bool.eq_iff_iff]; simp; omega
    rw [e1, e2]
    cases placeB a b <;> cases placeB c d <;> rfl
  rw [hl]
  have hh : ht c d a b x y = -ht a b c d x y := by unfold ht; grind
  rw [hh]
  split
  · repeat' split
    all_goals omega
  · rfl
theorem draw_some (l : List Int) (hl : l.length ≤ 1048576) (k : Nat) (hk : l.length < k) : ∃ a b c d x y, spec_DrawSideOf.f k l = some (a, b, c, d, x, y) := by
  obtain ⟨h0, e0⟩ := new_some l hl k hk
  obtain ⟨a, b, c, d, i1, g1, e1, a1, b1⟩ := line_draw l 0 h0 (by omega)
  obtain ⟨x, y, i2, g2, e2, a2, b2⟩ := place_draw l i1 g1 (by omega)
  unfold spec_DrawSideOf.f
  rw [e0, Option.bind_some, e1, Option.bind_some, e2, Option.bind_some]
  exact ⟨_, _, _, _, _, _, rfl⟩
theorem FnSidesTurn : laws_FnSidesTurn.Pure := by
  intro l h1 _ _
  by_cases hl : l.length ≤ 1048576
  · obtain ⟨a, b, c, d, x, y, hd⟩ := draw_some l hl (l.length + 1) (by omega)
    refine ⟨l.length + 1, ?_⟩
    have hb : laws_big.f l = some false := by unfold laws_big.f; simp; omega
    have hs : -1 ≤ sideI c d a b x y ∧ sideI c d a b x y ≤ 1 := by unfold sideI; repeat' split
                                                                   all_goals omega
    unfold laws_FnSidesTurn.f
    rw [hb, Option.bind_some, if_neg (by simp), hd, Option.bind_some]
    simp only [side_same, side_is, Option.bind_some, if_true]
    rw [side_turn, w64 (by omega) (by omega)]
    simp
  · refine ⟨0, ?_⟩
    unfold laws_FnSidesTurn.f laws_big.f
    have : decide ((l.length : Int) > 1048576) = true := by simp; omega
    rw [this]; rfl
end Go.Proofs.Ytfllkcmmaibijaa.Pure
