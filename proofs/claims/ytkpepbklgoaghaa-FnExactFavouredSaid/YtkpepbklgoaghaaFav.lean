/- The favoured end of a line: both sides come to the same product of floats; no condition. -/
import Derived.Test.YtkpepbklgoaghaaTurn
import Derived.Test.YtkpepbklgoaghaaBd
import Derived.Test.YtkpepbklgoaghaaPFnExactFavouredx2
namespace Go.Proofs.Ytkpepbklgoaghaa.Fv
open Go.RowKit Kit Tn Fl Bd
def placeB (x y : Int) : Bool := (decide (-10000 ≤ x) && decide (x ≤ 10000)) && (decide (-10000 ≤ y) && decide (y ≤ 10000))
def lineB (a b c d : Int) : Bool := placeB a b && (placeB c d && !(decide (a = c) && decide (b = d)))
theorem impl_Dot (a b c d : Nat) (h1 : (floatBits .mul .f64 a c).isSome = true) (h2 : (floatBits .mul .f64 b d).isSome = true) (h3 : (floatBits .add .f64 (fl .mul .f64 a c) (fl .mul .f64 b d)).isSome = true) (w : World) : Calls Try.prog 21 #[.complex .f64 a b, .complex .f64 c d] w fun e w' => e = .returned (.float .f64 (fl .add .f64 (fl .mul .f64 a c) (fl .mul .f64 b d))) ∧ w = w' := by
  go_enter Try.func21, Try.ntmps21
  go_wp2
  go_ret
  exact ⟨rfl, rfl⟩
theorem spec_Dot (a b c d : Nat) (h1 : (floatBits .mul .f64 a c).isSome = true) (h2 : (floatBits .mul .f64 b d).isSome = true) (h3 : (floatBits .add .f64 (fl .mul .f64 a c) (fl .mul .f64 b d)).isSome = true) (w : World) : Calls Try.prog 17 #[.complex .f64 a b, .complex .f64 c d] w fun e w' => e = .returned (.float .f64 (fl .add .f64 (fl .mul .f64 a c) (fl .mul .f64 b d))) ∧ w = w' := by
  go_enter Try.func17, Try.ntmps17
  go_wp2
  go_ret
  exact ⟨rfl, rfl⟩
theorem impl_less (a b x y : Int) (w : World) (h1 : -10000 ≤ a ∧ a ≤ 10000) (h2 : -10000 ≤ b ∧ b ≤ 10000) (h5 : -10000 ≤ x ∧ x ≤ 10000) (h6 : -10000 ≤ y ∧ y ≤ 10000) :
    Calls Try.prog 20 #[.agg #[.int .i64 a, .int .i64 b], .agg #[.int .i64 x, .int .i64 y]] w fun e w' => e = .returned (.agg #[.int .i64 (a - x), .int .i64 (b - y)]) ∧ Below w.heap.size w w' := by
  go_enter Try.func20, Try.ntmps20
  go_wp2
  exact bodyPost_ret (v := .agg #[.int .i64 (a - x), .int .i64 (b - y)]) (by simp [results, Try.results20, go_sem]) rfl ⟨rfl, by
    repeat (first | exact Below.refl _ _ | refine Below.setCell ?_ (by simp; try omega) _ | refine Below.alloc ?_ (by simp; try omega) _)⟩
theorem f_iPlaceOk (x y : Int) : PFnExactFavoured.impl_PlaceOk.f x y = some (placeB x y) := by
  unfold PFnExactFavoured.impl_PlaceOk.f PFnExactFavoured.impl_within.f placeB
  by_cases h1 : -10000 ≤ x <;> by_cases h2 : x ≤ 10000 <;> by_cases h3 : -10000 ≤ y <;> simp [h1, h2, h3]
theorem f_sPlaceOk (x y : Int) : PFnExactFavoured.spec_PlaceOk.f x y = some (placeB x y) := by
  unfold PFnExactFavoured.spec_PlaceOk.f PFnExactFavoured.spec_l01In.f placeB
  by_cases h1 : -10000 ≤ x <;> by_cases h2 : x ≤ 10000 <;> by_cases h3 : -10000 ≤ y <;> simp [h1, h2, h3]
theorem f_iLineOk (a b c d : Int) : PFnExactFavoured.impl_LineOk.f a b c d = some (lineB a b c d) := by
  unfold PFnExactFavoured.impl_LineOk.f lineB
  rw [f_iPlaceOk, Option.bind_some, f_iPlaceOk]
  cases placeB a b <;> cases placeB c d <;> simp
  by_cases h1 : a = c <;> by_cases h2 : b = d <;> simp [h1, h2]
theorem f_sLineOk (a b c d : Int) : PFnExactFavoured.spec_LineOk.f a b c d = some (lineB a b c d) := by
  unfold PFnExactFavoured.spec_LineOk.f lineB
  rw [f_sPlaceOk, Option.bind_some, f_sPlaceOk]
  cases placeB a b <;> cases placeB c d <;> simp
  by_cases h1 : a = c <;> by_cases h2 : b = d <;> simp [h1, h2]
/-- both parts of a turn are within two -/
def okT (z : Nat × Nat) : Bool := bndB .f64 1 z.1 && bndB .f64 1 z.2
def chkT : Nat → Nat × Nat → Bool
  | 0, _ => true
  | n + 1, z => okT z && chkT n (st z)
theorem chkT_all : chkT 360 (tb 0) = true := by decide +kernel
theorem chkT_get : ∀ (n i k : Nat), chkT n (tb k) = true → i < n → okT (tb (k + i)) = true := by
  intro n
  induction n with
  | zero => intro i k _ h; omega
  | succ n ih =>
    intro i k h hi
    simp only [chkT, Bool.and_eq_true] at h
    cases i with
    | zero => exact h.1
    | succ i =>
      have := ih i (k + 1) h.2 (by omega)
      rw [show k + (i + 1) = k + 1 + i by omega]; exact this
theorem okT_tb (i : Nat) (h : i < 360) : Bnd .f64 1 (tb i).1 ∧ Bnd .f64 1 (tb i).2 := by
  have := chkT_get 360 i 0 chkT_all h
  rw [Nat.zero_add] at this
  unfold okT at this
  rw [Bool.and_eq_true] at this
  exact ⟨bnd_lit (e := 1) this.1, bnd_lit (e := 1) this.2⟩
/-- the product of a line's way and the wind's -/
def pr (a b c d : Int) (k : Nat) : Nat := fl .add .f64 (fl .mul .f64 (floatOfInt .f64 (c - a)) (tb k).1) (fl .mul .f64 (floatOfInt .f64 (d - b)) (tb k).2)
def favB (a b c d : Int) (k : Nat) : Int := if (FloatKind.f64.format.order (pr a b c d k) 0 == some .gt) = true then 1 else if (FloatKind.f64.format.order (pr a b c d k) 0 == some .lt) = true then -1 else 0
theorem line_range {a b c d : Int} (h : lineB a b c d = true) : (-10000 ≤ a ∧ a ≤ 10000) ∧ (-10000 ≤ b ∧ b ≤ 10000) ∧ (-10000 ≤ c ∧ c ≤ 10000) ∧ (-10000 ≤ d ∧ d ≤ 10000) := by
  simp [lineB, placeB] at h
  omega
theorem firm_pr {a b c d : Int} {k : Nat} (h : lineB a b c d = true) (hk : k < 360) : (floatBits .mul .f64 (floatOfInt .f64 (c - a)) (tb k).1).isSome = true ∧ (floatBits .mul .f64 (floatOfInt .f64 (d - b)) (tb k).2).isSome = true ∧
    (floatBits .add .f64 (fl .mul .f64 (floatOfInt .f64 (c - a)) (tb k).1) (fl .mul .f64 (floatOfInt .f64 (d - b)) (tb k).2)).isSome = true := by
  have hr := line_range h
  obtain ⟨t1, t2⟩ := okT_tb k hk
  have x1 := (ofInt (k := .f64) (n := c - a) (e := 15) (by simp; omega) (by simp; omega) (by decide +kernel)).1
  have x2 := (ofInt (k := .f64) (n := d - b) (e := 15) (by simp; omega) (by simp; omega) (by decide +kernel)).1
  exact ⟨x1.mulS t1, x2.mulS t2, (x1.mul t1 (by decide +kernel) (by decide +kernel)).addS (x2.mul t2 (by decide +kernel) (by decide +kernel))⟩
theorem impl_Favoured_no (a b c d k : Int) (h : lineB a b c d = false) (w : World) :
    Calls Try.prog 10 #[.agg #[.int .i64 a, .int .i64 b, .int .i64 c, .int .i64 d], .int .i64 k] w fun e w' => e = .returned (.int .i64 0) ∧ Below w.heap.size w w' := by
  have H := Lib.hid h
  clear h
  go_enter Try.func10, Try.ntmps10
  go_wp2_with fail
  refine (PFnExactFavoured.impl_LineOk.calls _ _ _ _ _ _ ((f_iLineOk a b c d).trans (congrArg some H.out))).mono ?_
  rintro e w1 ⟨rfl, hb1⟩
  go_wp2_with fail
  go_ret
  exact ⟨rfl, ((Below.refl _ _).alloc (Nat.le_refl _) _).trans (hb1.mono (by simp))⟩
theorem spec_Favoured_no (a b c d k : Int) (h : lineB a b c d = false) (w : World) :
    Calls Try.prog 8 #[.agg #[.int .i64 a, .int .i64 b, .int .i64 c, .int .i64 d], .int .i64 k] w fun e w' => e = .returned (.int .i64 0) ∧ Below w.heap.size w w' := by
  have H := Lib.hid h
  clear h
  go_enter Try.func8, Try.ntmps8
  go_wp2_with fail
  refine (PFnExactFavoured.spec_LineOk.calls _ _ _ _ _ _ ((f_sLineOk a b c d).trans (congrArg some H.out))).mono ?_
  rintro e w1 ⟨rfl, hb1⟩
  go_wp2_with fail
  go_ret
  exact ⟨rfl, ((Below.refl _ _).alloc (Nat.le_refl _) _).trans (hb1.mono (by simp))⟩
theorem impl_Favoured_yes (a b c d k : Int) (h : lineB a b c d = true) (w : World) :
    Calls Try.prog 10 #[.agg #[.int .i64 a, .int .i64 b, .int .i64 c, .int .i64 d], .int .i64 k] w fun e w' => e = .returned (.int .i64 (favB a b c d (deg k))) ∧ Below w.heap.size w w' := by
  have R := Lib.hid (line_range h)
  have F := Lib.hid (firm_pr h (deg_lt k))
  have H := Lib.hid h
  clear h
  go_enter Try.func10, Try.ntmps10
  go_wp2_with fail
  refine (PFnExactFavoured.impl_LineOk.calls _ _ _ _ _ _ ((f_iLineOk a b c d).trans (congrArg some H.out))).mono ?_
  rintro e w1 ⟨rfl, hb1⟩
  obtain ⟨hc1, hf1⟩ := bcell hb1
  have hz1 := hb1.size
  simp at hz1
  go_wp2_with fail
  refine (impl_less _ _ _ _ _ (by have := R.out; omega) (by have := R.out; omega) (by have := R.out; omega) (by have := R.out; omega)).mono ?_
  rintro e w2 ⟨rfl, hb2⟩
  obtain ⟨hc2, hf2⟩ := bcell hb2
  have hz2 := hb2.size
  have hB : Below w.heap.size w w2 := (((Below.refl _ _).alloc (Nat.le_refl _) _).trans (hb1.mono (by simp))).trans (hb2.mono (by omega))
  have hs : w.heap.size ≤ w2.heap.size := by omega
  go_wp2_with fail
  clear hc1 hf1 hz1 hc2 hf2 hz2 hb1 hb2
  obtain ⟨F1, F2, F3⟩ := F.out
  go_region_held3 (fun w' => w'.cell? ⟨w2.heap.size, 0, none⟩ = some (.int .i64 (c - a)) ∧ w'.cell? ⟨w2.heap.size, 1, none⟩ = some (.int .i64 (d - b)) ∧ Below w.heap.size w w')
    (first | (refine ⟨by go_simp, by go_simp, (hB.alloc (by omega) _).drew⟩) | (assumption))
    (first | (go_at_call 14; refine (impl_Turn _ _).mono ?_; rintro e w1 ⟨rfl, rfl⟩) | (go_at_call 21; refine (impl_Dot _ _ _ _ F1 F2 F3 _).mono ?_; rintro e w1 ⟨rfl, rfl⟩))
  all_goals (rename_i hH; replace hH := Lib.hid hH.2.2)
  all_goals go_wp2
  all_goals go_ret
  all_goals (refine ⟨congrArg (fun b => Ending.returned (.int .i64 b)) ?_, hH.out⟩; simp_all [favB, pr])
theorem spec_Favoured_yes (a b c d k : Int) (h : lineB a b c d = true) (w : World) :
    Calls Try.prog 8 #[.agg #[.int .i64 a, .int .i64 b, .int .i64 c, .int .i64 d], .int .i64 k] w fun e w' => e = .returned (.int .i64 (favB a b c d (deg k))) ∧ Below w.heap.size w w' := by
  have R := Lib.hid (line_range h)
  have F := Lib.hid (firm_pr h (deg_lt k))
  have H := Lib.hid h
  clear h
  go_enter Try.func8, Try.ntmps8
  go_wp2_with fail
  refine (PFnExactFavoured.spec_LineOk.calls _ _ _ _ _ _ ((f_sLineOk a b c d).trans (congrArg some H.out))).mono ?_
  rintro e w1 ⟨rfl, hb1⟩
  obtain ⟨hc1, hf1⟩ := bcell hb1
  have hz1 := hb1.size
  simp at hz1
  have hB : Below w.heap.size w w1 := ((Below.refl _ _).alloc (Nat.le_refl _) _).trans (hb1.mono (by simp))
  go_wp2_with fail
  obtain ⟨F1, F2, F3⟩ := F.out
  have e0 : w1.cell? ⟨w.heap.size, 0, none⟩ = some (.int .i64 a) := (hc1 _ _ (by simp)).trans (by go_simp)
  have e1 : w1.cell? ⟨w.heap.size, 1, none⟩ = some (.int .i64 b) := (hc1 _ _ (by simp)).trans (by go_simp)
  have e2 : w1.cell? ⟨w.heap.size, 2, none⟩ = some (.int .i64 c) := (hc1 _ _ (by simp)).trans (by go_simp)
  have e3 : w1.cell? ⟨w.heap.size, 3, none⟩ = some (.int .i64 d) := (hc1 _ _ (by simp)).trans (by go_simp)
  clear hc1 hf1 hz1 hb1
  have q1 : wrap64 (c - a) = c - a := by have := R.out; unfold wrap64; omega
  have q2 : wrap64 (d - b) = d - b := by have := R.out; unfold wrap64; omega
  simp only [q1, q2]
  refine (spec_Turn _ _).mono ?_
  rintro e w' ⟨rfl, rfl⟩
  go_wp2_with fail
  refine (spec_Dot _ _ _ _ F1 F2 F3 _).mono ?_
  rintro e w' ⟨rfl, rfl⟩
  have hB := Lib.hid hB
  go_wp2_with fail
  all_goals go_ret
  all_goals (refine ⟨congrArg (fun b => Ending.returned (.int .i64 b)) ?_, hB.out⟩; simp_all [favB, pr])
theorem law_of (a b c d k r : Int) (w : World)
    (hi : ∀ w, Calls Try.prog 10 #[.agg #[.int .i64 a, .int .i64 b, .int .i64 c, .int .i64 d], .int .i64 k] w fun e w' => e = .returned (.int .i64 r) ∧ Below w.heap.size w w')
    (hs : ∀ w, Calls Try.prog 8 #[.agg #[.int .i64 a, .int .i64 b, .int .i64 c, .int .i64 d], .int .i64 k] w fun e w' => e = .returned (.int .i64 r) ∧ Below w.heap.size w w') :
    Calls Try.prog 4 #[.agg #[.int .i64 a, .int .i64 b, .int .i64 c, .int .i64 d], .int .i64 k] w fun e w' => e = .returned (.bool true) ∧ Below w.heap.size w w' := by
  go_enter Try.func4, Try.ntmps4
  go_wp2_with fail
  refine (PFnExactFavoured.laws_toLine.calls a b c d a b c d _ rfl).mono ?_
  rintro e w1 ⟨rfl, hb1⟩
  obtain ⟨hc1, hf1⟩ := bcell hb1
  have hz1 : w.heap.size < w1.heap.size := by have := hb1.size; simp at this; omega
  go_wp2_with fail
  refine (hs _).mono ?_
  rintro e w2 ⟨rfl, hb2⟩
  obtain ⟨hc2, hf2⟩ := bcell hb2
  have hz2 : w.heap.size < w2.heap.size := by have := hb2.size; omega
  go_wp2_with fail
  refine (PFnExactFavoured.laws_toLine.calls a b c d a b c d _ rfl).mono ?_
  rintro e w3 ⟨rfl, hb3⟩
  have hz3 := hb3.size
  go_wp2_with fail
  refine (hi _).mono ?_
  rintro e w4 ⟨rfl, hb4⟩
  have hB : Below w.heap.size w w4 := (((Below.refl _ _).alloc (Nat.le_refl _) _).trans (hb1.mono (by simp))).trans ((hb2.mono (by omega)).trans ((hb3.mono (by omega)).trans (hb4.mono (by omega))))
  have hB := Lib.hid hB
  go_wp2_with fail
  go_ret
  exact ⟨rfl, hB.out⟩
end Go.Proofs.Ytkpepbklgoaghaa.Fv
namespace Go.Proofs.Ytkpepbklgoaghaa.Pure
open Go.RowKit Kit Fv
theorem FnExactFavouredWalk (a b c d k : Int) (w : World) (_ : (Lit.int .i64 a).wf = true) (_ : (Lit.int .i64 b).wf = true) (_ : (Lit.int .i64 c).wf = true) (_ : (Lit.int .i64 d).wf = true) (_ : (Lit.int .i64 k).wf = true) :
    Calls Try.prog 4 #[.agg #[.int .i64 a, .int .i64 b, .int .i64 c, .int .i64 d], .int .i64 k] w fun e w' => e = .returned (.bool true) ∧ Below w.heap.size w w' := by
  cases h : lineB a b c d
  · exact law_of a b c d k _ w (impl_Favoured_no a b c d k h) (spec_Favoured_no a b c d k h)
  · exact law_of a b c d k _ w (impl_Favoured_yes a b c d k h) (spec_Favoured_yes a b c d k h)
end Go.Proofs.Ytkpepbklgoaghaa.Pure
