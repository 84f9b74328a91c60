/- Floats within a power of two: sums and products of such are firm, and again within one. Nothing of the program. -/
import Derived.Test.YtjohpjmfnghkoaaKit
import Derived.Test.YtjohpjmfnghkoaaFl
import Derived.Test.YtjohpjmfnghkoaaSm
namespace Go.Proofs.Ytjohpjmfnghkoaa.Bd
open Go.RowKit Kit Fl
theorem mul_within {x y A B : Rat} (h1 : -A ≤ x) (h2 : x ≤ A) (h3 : -B ≤ y) (h4 : y ≤ B) : -(A * B) ≤ x * y ∧ x * y ≤ A * B := by
  have a := Rat.mul_nonneg (show 0 ≤ A - x by grind) (show 0 ≤ B + y by grind)
  have b := Rat.mul_nonneg (show 0 ≤ A + x by grind) (show 0 ≤ B - y by grind)
  have c := Rat.mul_nonneg (show 0 ≤ A - x by grind) (show 0 ≤ B - y by grind)
  have d := Rat.mul_nonneg (show 0 ≤ A + x by grind) (show 0 ≤ B + y by grind)
  constructor <;> grind
/-- a number whose amount is at most 2 ^ e -/
structure Bnd (k : FloatKind) (e : Int) (x : Nat) : Prop where
  num : Num k.format x
  lo : -(p2 e) ≤ V k.format x
  hi : V k.format x ≤ p2 e
theorem Bnd.mono {k : FloatKind} {e e' : Int} {x : Nat} (h : Bnd k e x) (he : e ≤ e') : Bnd k e' x := by
  have := p2_mono he
  exact ⟨h.num, by have := h.lo; grind, by have := h.hi; grind⟩
theorem Bnd.mul {k : FloatKind} {a b : Int} {x y : Nat} (hx : Bnd k a x) (hy : Bnd k b y) (h1 : k.format.leastPlace ≤ a + b) (h2 : a + b < reach k.format) : Bnd k (a + b) (fl .mul k x y) := by
  have hm := mul_within hx.lo hx.hi hy.lo hy.hi
  rw [← p2_add] at hm
  have hr := p2_lt h2
  obtain ⟨z, e1, e2, e3⟩ := mul_num (Sm.kx k) hx.num hy.num (by grind) (by grind)
  have : fl .mul k x y = z := fl_eq e1
  rw [this]
  exact ⟨e2, e3.ge_p2 _ h1 hm.1, e3.le_p2 _ h1 hm.2⟩
theorem Bnd.add {k : FloatKind} {a : Int} {x y : Nat} (hx : Bnd k a x) (hy : Bnd k a y) (h1 : k.format.leastPlace ≤ a + 1) (h2 : a + 1 < reach k.format) : Bnd k (a + 1) (fl .add k x y) := by
  have hs := p2_succ a
  have hr := p2_lt h2
  have := hx.lo; have := hx.hi; have := hy.lo; have := hy.hi
  obtain ⟨z, e1, e2, e3⟩ := add_num (Sm.kx k) hx.num hy.num (by grind) (by grind)
  have e : fl .add k x y = z := fl_eq e1
  rw [e]
  exact ⟨e2, e3.ge_p2 _ h1 (by grind), e3.le_p2 _ h1 (by grind)⟩
theorem Bnd.sub {k : FloatKind} {a : Int} {x y : Nat} (hx : Bnd k a x) (hy : Bnd k a y) (h1 : k.format.leastPlace ≤ a + 1) (h2 : a + 1 < reach k.format) : Bnd k (a + 1) (fl .sub k x y) := by
  have hs := p2_succ a
  have hr := p2_lt h2
  have := hx.lo; have := hx.hi; have := hy.lo; have := hy.hi
  obtain ⟨z, e1, e2, e3⟩ := sub_num (Sm.kx k) hx.num hy.num (by grind) (by grind)
  have e : fl .sub k x y = z := fl_eq e1
  rw [e]
  exact ⟨e2, e3.ge_p2 _ h1 (by grind), e3.le_p2 _ h1 (by grind)⟩
/-- firmness, read off the bounds -/
theorem Bnd.mulS {k : FloatKind} {a b : Int} {x y : Nat} (hx : Bnd k a x) (hy : Bnd k b y) : (floatBits .mul k x y).isSome = true := Sm.isSome_mul hx.num hy.num
theorem Bnd.addS {k : FloatKind} {a b : Int} {x y : Nat} (hx : Bnd k a x) (hy : Bnd k b y) : (floatBits .add k x y).isSome = true := Sm.isSome_add hx.num hy.num
theorem Bnd.subS {k : FloatKind} {a b : Int} {x y : Nat} (hx : Bnd k a x) (hy : Bnd k b y) : (floatBits .sub k x y).isSome = true := Sm.isSome_sub hx.num hy.num
/-- a whole number, converted -/
theorem ofInt {k : FloatKind} {n : Int} {e : Nat} (h1 : -(2 ^ e : Nat) ≤ n) (h2 : n ≤ (2 ^ e : Nat)) (h3 : (e : Int) < reach k.format) : Bnd k e (floatOfInt k n) ∧ SRd k.format (n : Rat) (V k.format (floatOfInt k n)) := by
  have hL : k.format.leastPlace ≤ e := by cases k <;> simp [FloatKind.format, Ieee.single, Ieee.double, Ieee.Format.leastPlace] <;> omega
  have hv : sval (decide (n < 0)) n.natAbs 0 = (n : Rat) := by
    rw [natAbs_val n _ (fun _ => rfl), p2_zero]; grind
  have hlo : -(p2 e) ≤ (n : Rat) := by
    have a : ((-((2 ^ e : Nat) : Int) : Int) : Rat) ≤ (n : Rat) := by exact_mod_cast h1
    rw [p2_nat]
    push_cast at a ⊢
    exact a
  have hhi : (n : Rat) ≤ p2 e := by rw [p2_nat]; exact_mod_cast h2
  have hr := p2_lt h3
  have hw := write_num k.format (Sm.kx k) (decide (n < 0)) n.natAbs 0 (sval_abs _ _ _ _ (by rw [hv]; grind) (by rw [hv]; grind))
  have he : floatOfInt k n = k.format.write (.number (decide (n < 0)) n.natAbs 0) := rfl
  rw [hv, ← he] at hw
  exact ⟨⟨hw.1, hw.2.ge_p2 _ hL hlo, hw.2.le_p2 _ hL hhi⟩, hw.2⟩
/-- the bounds of a literal, by reckoning -/
def bndB (k : FloatKind) (e : Nat) (x : Nat) : Bool := match k.format.read x with
  | .number _ m p => decide (m ≤ 2 ^ (e - p).toNat) && decide (p ≤ e)
  | _ => false
theorem bnd_lit {k : FloatKind} {e : Nat} {x : Nat} (h : bndB k e x = true) : Bnd k e x := by
  unfold bndB at h
  split at h
  · rename_i s m p hx
    simp only [Bool.and_eq_true, decide_eq_true_eq] at h
    have h1 : (m : Rat) * p2 p ≤ p2 e := by
      have a : (m : Rat) ≤ p2 (((e : Int) - p).toNat : Int) := by rw [p2_nat]; exact_mod_cast h.1
      have b := mul_le_of (Rat.le_of_lt (p2_pos p)) a
      rw [← p2_add, show (((e : Int) - p).toNat : Int) + p = e by omega] at b
      exact b
    have h0 : 0 ≤ (m : Rat) * p2 p := Rat.mul_nonneg (by exact_mod_cast Nat.zero_le m) (Rat.le_of_lt (p2_pos p))
    have hp := p2_pos (e : Int)
    refine ⟨⟨s, m, p, hx⟩, ?_, ?_⟩ <;> rw [V_of hx] <;> unfold sval <;> cases s <;> simp <;> grind
  · cases h
/-- comparisons of numbers, in numbers -/
theorem lss_num {k : FloatKind} {x y : Nat} (hx : Num k.format x) (hy : Num k.format y) : (k.format.order x y == some .lt) = decide (V k.format x < V k.format y) := by
  rw [order_num hx hy]
  by_cases h : V k.format x < V k.format y
  · rw [if_pos h]; simp [h]
  · rw [if_neg h]
    split <;> simp [h]
theorem gtr_num {k : FloatKind} {x y : Nat} (hx : Num k.format x) (hy : Num k.format y) : (k.format.order x y == some .gt) = decide (V k.format y < V k.format x) := by
  rw [order_num hx hy]
  by_cases h : V k.format x < V k.format y
  · rw [if_pos h]; simp; grind
  · rw [if_neg h]
    split <;> simp <;> grind
theorem eql_num {k : FloatKind} {x y : Nat} (hx : Num k.format x) (hy : Num k.format y) : (k.format.order x y == some .eq) = decide (V k.format x = V k.format y) := by
  rw [order_num hx hy]
  by_cases h : V k.format x < V k.format y
  · rw [if_pos h]; simp; grind
  · rw [if_neg h]
    split <;> simp <;> grind
end Go.Proofs.Ytjohpjmfnghkoaa.Bd
