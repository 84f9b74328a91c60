/- The laws' own look at two floats: of one and the same bits it says yes, whatever they are. -/
import Derived.Test.YtjohpjmfnghkoaaKit
import Derived.Test.YtjohpjmfnghkoaaFl
namespace Go.Proofs.Ytjohpjmfnghkoaa.Sm
open Go.RowKit Kit
theorem kx (k : FloatKind) : 2 ≤ k.format.exponentBits := by cases k <;> decide
theorem isSome_mul {k : FloatKind} {x y : Nat} (hx : Fl.Num k.format x) (hy : Fl.Num k.format y) : (floatBits .mul k x y).isSome = true := Fl.mul_some hx hy
theorem isSome_add {k : FloatKind} {x y : Nat} (hx : Fl.Num k.format x) (hy : Fl.Num k.format y) : (floatBits .add k x y).isSome = true := Fl.add_some hx hy
theorem isSome_sub {k : FloatKind} {x y : Nat} (hx : Fl.Num k.format x) (hy : Fl.Num k.format y) : (floatBits .sub k x y).isSome = true := Fl.sub_some hx hy
theorem isSome_quo {k : FloatKind} {x y : Nat} (hx : Fl.Num k.format x) (hy : Fl.Num k.format y) (h0 : Fl.V k.format y ≠ 0 ∨ Fl.V k.format x ≠ 0) : (floatBits .quo k x y).isSome = true := Fl.div_some hx hy h0
theorem firm_mul {k : FloatKind} {x y : Nat} (hx : Fl.Num k.format x) (hy : Fl.Num k.format y) : Fl.Firm k.format (fl .mul k x y) := Fl.mul_firm (kx k) hx hy (fl_some (isSome_mul hx hy))
theorem firm_add {k : FloatKind} {x y : Nat} (hx : Fl.Num k.format x) (hy : Fl.Num k.format y) : Fl.Firm k.format (fl .add k x y) := Fl.add_firm (kx k) hx hy (fl_some (isSome_add hx hy))
/-- what is no NaN is widened or narrowed firmly, if the kind is wide enough -/
theorem cv_wide {x : Nat} (h : Fl.Firm FloatKind.f32.format x) : (floatToFloatBits .f32 x .f64).isSome = true := by
  unfold floatToFloatBits
  rw [if_neg (by decide)]
  cases hx : FloatKind.f32.decode x with
  | nan s t => exact absurd hx (h s t)
  | infinity s => rfl
  | number s m e =>
    simp only []
    have hno : (FloatKind.f64.decode (FloatKind.f64.encode (.number s m e))).isInfinity = false := by
      have hr : (m : Rat) * Fl.p2 e < Fl.p2 (Fl.reach FloatKind.f64.format) := by
        have hb : m < 2 ^ 24 ∧ e ≤ 104 := by
          unfold FloatKind.decode Ieee.Format.read at hx
          simp only [] at hx
          have hB : FloatKind.f32.format.binade = 8388608 := by decide
          have hI : FloatKind.f32.format.infRung = 2139095040 := by decide
          have hL : FloatKind.f32.format.leastPlace = -149 := by decide
          rw [hB, hI, hL] at hx
          generalize x % FloatKind.f32.format.signWeight = r at hx
          by_cases h1 : r < 8388608
          · rw [if_pos h1] at hx
            simp only [Ieee.Datum.number.injEq] at hx
            omega
          · rw [if_neg h1] at hx
            by_cases h2 : r < 2139095040
            · rw [if_pos h2] at hx
              simp only [Ieee.Datum.number.injEq] at hx
              obtain ⟨_, a, b⟩ := hx
              omega
            · rw [if_neg h2] at hx
              split at hx <;> cases hx
        have h1 : (m : Rat) ≤ Fl.p2 ((24 : Nat) : Int) := by
          rw [Fl.p2_nat]; exact_mod_cast Nat.le_of_lt hb.1
        have h2 := Fl.p2_mono hb.2
        have h3 := Fl.mul_le_of (Rat.le_of_lt (Fl.p2_pos e)) h1
        have h4 := Fl.mul_le_of (Rat.le_of_lt (Fl.p2_pos ((24 : Nat) : Int))) h2
        have h5 : Fl.p2 104 * Fl.p2 ((24 : Nat) : Int) = Fl.p2 128 := by rw [← Fl.p2_add]; rfl
        have h6 : Fl.p2 128 < Fl.p2 (Fl.reach FloatKind.f64.format) := Fl.p2_lt (by decide)
        grind
      obtain ⟨⟨s', m', e', hn⟩, _⟩ := Fl.write_num FloatKind.f64.format (kx _) s m e hr
      have : FloatKind.f64.decode (FloatKind.f64.encode (.number s m e)) = .number s' m' e' := hn
      rw [this]; rfl
    rw [hno]; rfl
end Go.Proofs.Ytjohpjmfnghkoaa.Sm
