/- Floats near a rational number: what sums, differences, products and quotients of such are near to. Nothing of the program. -/
import Derived.Test.YtjohpjmfnghkoaaBd
namespace Go.Proofs.Ytjohpjmfnghkoaa.Ap
open Go.RowKit Kit Fl Bd
/-- 'x' stands for a number within e of v; both are at most b in amount -/
structure Ap (k : FloatKind) (v e b : Rat) (x : Nat) : Prop where
  num : Num k.format x
  lo : v - e ≤ V k.format x
  hi : V k.format x ≤ v + e
  bl : -b ≤ V k.format x
  bh : V k.format x ≤ b
  vl : -b ≤ v
  vh : v ≤ b
/-- half the gap between floats about b, and the least gap -/
def gap (k : FloatKind) (b : Rat) : Rat := b * p2 (-(k.format.fractionBits : Int)) + p2 k.format.leastPlace
theorem Ap.rnd {k : FloatKind} {v e b t r : Rat} (h : SRd k.format t r) (h1 : v - e ≤ t) (h2 : t ≤ v + e) (h3 : -b ≤ t) (h4 : t ≤ b) : 2 * (v - r) ≤ 2 * e + gap k b ∧ 2 * (r - v) ≤ 2 * e + gap k b ∧ 2 * r ≤ 2 * b + gap k b ∧ -(2 * r) ≤ 2 * b + gap k b := by
  have := h.err b h4 h3
  unfold gap
  refine ⟨?_, ?_, ?_, ?_⟩ <;> grind
theorem Ap.b0 {k : FloatKind} {v e b : Rat} {x : Nat} (h : Ap k v e b x) : 0 ≤ b := by
  have := h.bl; have := h.bh; grind
theorem Ap.e0 {k : FloatKind} {v e b : Rat} {x : Nat} (h : Ap k v e b x) : 0 ≤ e := by
  have := h.lo; have := h.hi; grind
theorem gap_pos (k : FloatKind) {b : Rat} (h : 0 ≤ b) : 0 ≤ gap k b := by
  unfold gap
  have h1 := p2_pos (-(k.format.fractionBits : Int))
  have h2 := p2_pos k.format.leastPlace
  have := Rat.mul_nonneg h (Rat.le_of_lt h1)
  grind
/-- how far a product of near numbers is off -/
theorem prod_off {x y v w e d a b : Rat} (h1 : v - e ≤ x) (h2 : x ≤ v + e) (h3 : w - d ≤ y) (h4 : y ≤ w + d) (h5 : -b ≤ y) (h6 : y ≤ b) (h7 : -a ≤ v) (h8 : v ≤ a) : v * w - (e * b + a * d) ≤ x * y ∧ x * y ≤ v * w + (e * b + a * d) := by
  have m1 := mul_within (show -e ≤ x - v by grind) (show x - v ≤ e by grind) h5 h6
  have m2 := mul_within h7 h8 (show -d ≤ y - w by grind) (show y - w ≤ d by grind)
  have e1 : x * y - v * w = (x - v) * y + v * (y - w) := by grind
  constructor <;> grind
theorem Ap.mul {k : FloatKind} {v e a w d b : Rat} {x y : Nat} (hx : Ap k v e a x) (hy : Ap k w d b y) (E B : Rat) (hr : a * b < p2 (reach k.format)) (hE : 2 * (e * b + a * d) + gap k (a * b) ≤ 2 * E) (hB : 2 * (a * b) + gap k (a * b) ≤ 2 * B) : Ap k (v * w) E B (fl .mul k x y) := by
  have hm := mul_within hx.bl hx.bh hy.bl hy.bh
  have hv := mul_within hx.vl hx.vh hy.vl hy.vh
  have ho := prod_off hx.lo hx.hi hy.lo hy.hi hy.bl hy.bh hx.vl hx.vh
  obtain ⟨z, e1, e2, e3⟩ := mul_num (Sm.kx k) hx.num hy.num (by grind) (by grind)
  have : fl .mul k x y = z := fl_eq e1
  rw [this]
  have g := gap_pos k (Rat.mul_nonneg hx.b0 hy.b0)
  have := Ap.rnd e3 ho.1 ho.2 hm.1 hm.2
  exact ⟨e2, by grind, by grind, by grind, by grind, by grind, by grind⟩
theorem Ap.add {k : FloatKind} {v e a w d b : Rat} {x y : Nat} (hx : Ap k v e a x) (hy : Ap k w d b y) (E B : Rat) (hr : a + b < p2 (reach k.format)) (hE : 2 * (e + d) + gap k (a + b) ≤ 2 * E) (hB : 2 * (a + b) + gap k (a + b) ≤ 2 * B) : Ap k (v + w) E B (fl .add k x y) := by
  obtain ⟨a1, a2, a3, a4, a5, a6, a7⟩ := hx
  obtain ⟨b1, b2, b3, b4, b5, b6, b7⟩ := hy
  obtain ⟨z, e1, e2, e3⟩ := add_num (Sm.kx k) a1 b1 (by grind) (by grind)
  have : fl .add k x y = z := fl_eq e1
  rw [this]
  have g := gap_pos k (show 0 ≤ a + b by grind)
  have := Ap.rnd (v := v + w) (e := e + d) (b := a + b) e3 (by grind) (by grind) (by grind) (by grind)
  exact ⟨e2, by grind, by grind, by grind, by grind, by grind, by grind⟩
theorem Ap.sub {k : FloatKind} {v e a w d b : Rat} {x y : Nat} (hx : Ap k v e a x) (hy : Ap k w d b y) (E B : Rat) (hr : a + b < p2 (reach k.format)) (hE : 2 * (e + d) + gap k (a + b) ≤ 2 * E) (hB : 2 * (a + b) + gap k (a + b) ≤ 2 * B) : Ap k (v - w) E B (fl .sub k x y) := by
  obtain ⟨a1, a2, a3, a4, a5, a6, a7⟩ := hx
  obtain ⟨b1, b2, b3, b4, b5, b6, b7⟩ := hy
  obtain ⟨z, e1, e2, e3⟩ := sub_num (Sm.kx k) a1 b1 (by grind) (by grind)
  have : fl .sub k x y = z := fl_eq e1
  rw [this]
  have g := gap_pos k (show 0 ≤ a + b by grind)
  have := Ap.rnd (v := v - w) (e := e + d) (b := a + b) e3 (by grind) (by grind) (by grind) (by grind)
  exact ⟨e2, by grind, by grind, by grind, by grind, by grind, by grind⟩
/-- a quotient: 'm' is the true one -/
theorem Ap.quo {k : FloatKind} {v e a w d b m : Rat} {x y : Nat} (hx : Ap k v e a x) (hy : Ap k w d b y) (hm : m * w = v) (c M Q E B : Rat) (hc : 0 < c) (hw : c ≤ V k.format y ∨ V k.format y ≤ -c) (hM : -M ≤ m ∧ m ≤ M) (hQ : a ≤ Q * c) (hr : 2 * Q < p2 (reach k.format)) (hE : 2 * (e + M * d) + c * gap k Q ≤ 2 * (E * c)) (hB : 2 * Q + gap k Q ≤ 2 * B) (hMB : M ≤ B) : Ap k m E B (fl .quo k x y) := by
  obtain ⟨q, hq⟩ : ∃ q : Rat, q * V k.format y = V k.format x := ⟨V k.format x / V k.format y, by rw [Rat.div_mul_cancel]; grind⟩
  have small : ∀ u t : Rat, 0 ≤ t → -(t * c) ≤ u * V k.format y → u * V k.format y ≤ t * c → -t ≤ u ∧ u ≤ t := fun u t h0 h1 h2 => by
    rcases hw with h | h
    · have hp : 0 < V k.format y := by grind
      have g := Rat.mul_le_mul_of_nonneg_left h h0
      exact ⟨le_of_mul hp (by grind), le_of_mul hp (by grind)⟩
    · have hp : 0 < -(V k.format y) := by grind
      have g := Rat.mul_le_mul_of_nonneg_left (show c ≤ -(V k.format y) by grind) h0
      exact ⟨le_of_mul hp (by grind), le_of_mul hp (by grind)⟩
  have Q0 : 0 ≤ Q := by
    refine le_of_mul hc ?_
    have := hx.b0
    grind
  obtain ⟨q1, q2⟩ := small q Q Q0 (by have := hx.bl; grind) (by have := hx.bh; grind)
  have d0 := hy.e0
  have off := mul_within hM.1 hM.2 (show -d ≤ w - V k.format y by have := hy.hi; grind) (show w - V k.format y ≤ d by have := hy.lo; grind)
  have T0 : 0 ≤ (e + M * d) := by
    have := hx.e0
    have := Rat.mul_nonneg (show 0 ≤ M by grind) d0
    grind
  obtain ⟨T, hT⟩ : ∃ T : Rat, T * c = e + M * d := ⟨(e + M * d) / c, by rw [Rat.div_mul_cancel]; grind⟩
  have T1 : 0 ≤ T := by refine le_of_mul hc ?_; grind
  have lo := hx.lo
  have hi := hx.hi
  obtain ⟨t1, t2⟩ := small (q - m) T T1 (by grind) (by grind)
  have hne : V k.format y ≠ 0 := by grind
  obtain ⟨z, e1, e2, e3⟩ := div_num (Sm.kx k) hx.num hy.num q hq hne (by grind) (by grind)
  have : fl .quo k x y = z := fl_eq e1
  rw [this]
  have g := gap_pos k Q0
  have hE' : 2 * T + gap k Q ≤ 2 * E := le_of_mul hc (by grind)
  have := Ap.rnd (v := m) (e := T) (b := Q) e3 (by grind) (by grind) q1 q2
  exact ⟨e2, by grind, by grind, by grind, by grind, by grind, by grind⟩
theorem Ap.exact {k : FloatKind} {x : Nat} {b : Rat} (h : Num k.format x) (h1 : -b ≤ V k.format x) (h2 : V k.format x ≤ b) : Ap k (V k.format x) 0 b x := ⟨h, by grind, by grind, h1, h2, h1, h2⟩
theorem Ap.wider {k : FloatKind} {v e b e' b' : Rat} {x : Nat} (h : Ap k v e b x) (he : e ≤ e') (hb : b ≤ b') : Ap k v e' b' x := by
  obtain ⟨a1, a2, a3, a4, a5, a6, a7⟩ := h
  exact ⟨a1, by grind, by grind, by grind, by grind, by grind, by grind⟩
/-- of the same number, told otherwise -/
theorem Ap.to {k : FloatKind} {v e b v' : Rat} {x : Nat} (h : Ap k v e b x) (hv : v = v') : Ap k v' e b x := by rw [← hv]; exact h
/-- widened: the same number -/
theorem wide_num {x : Nat} (h : Num FloatKind.f32.format x) : (floatToFloatBits .f32 x .f64).isSome = true ∧ Num FloatKind.f64.format (cv .f32 x .f64) ∧ SRd FloatKind.f64.format (V FloatKind.f32.format x) (V FloatKind.f64.format (cv .f32 x .f64)) := by
  have hS := Sm.cv_wide h.firm
  refine ⟨hS, ?_⟩
  obtain ⟨g, m, i, hr⟩ := h
  rw [V_of hr]
  have hb : m < 2 ^ 24 ∧ i ≤ 104 := by
    unfold Ieee.Format.read at hr
    simp only [] at hr
    have hB : FloatKind.f32.format.binade = 8388608 := by decide
    have hI : FloatKind.f32.format.infRung = 2139095040 := by decide
    have hL : FloatKind.f32.format.leastPlace = -149 := by decide
    rw [hB, hI, hL] at hr
    generalize x % FloatKind.f32.format.signWeight = r at hr
    by_cases h1 : r < 8388608
    · rw [if_pos h1] at hr
      simp only [Ieee.Datum.number.injEq] at hr
      omega
    · rw [if_neg h1] at hr
      by_cases h2 : r < 2139095040
      · rw [if_pos h2] at hr
        simp only [Ieee.Datum.number.injEq] at hr
        obtain ⟨_, a, b⟩ := hr
        omega
      · rw [if_neg h2] at hr
        split at hr <;> cases hr
  have h1 : (m : Rat) ≤ Fl.p2 ((24 : Nat) : Int) := by
    rw [Fl.p2_nat]; exact_mod_cast Nat.le_of_lt hb.1
  have h2 := Fl.p2_mono hb.2
  have h3 := Fl.mul_le_of (Rat.le_of_lt (Fl.p2_pos i)) h1
  have h4 := Fl.mul_le_of (Rat.le_of_lt (Fl.p2_pos ((24 : Nat) : Int))) h2
  have h5 : Fl.p2 104 * Fl.p2 ((24 : Nat) : Int) = Fl.p2 128 := by rw [← Fl.p2_add]; rfl
  have h6 : Fl.p2 128 < Fl.p2 (Fl.reach FloatKind.f64.format) := Fl.p2_lt (by decide)
  have hw := write_num FloatKind.f64.format (Sm.kx .f64) g m i (by grind)
  have hf : cv .f32 x .f64 = FloatKind.f64.format.write (.number g m i) := by
    obtain ⟨r, hr'⟩ := Option.isSome_iff_exists.1 hS
    have h2 := hr'
    unfold floatToFloatBits at h2
    rw [if_neg (by decide)] at h2
    have hd : FloatKind.f32.decode x = .number g m i := hr
    rw [hd] at h2
    simp only [] at h2
    split at h2
    · cases h2
    · unfold cv; rw [hr']
      simp only [Option.some.injEq] at h2
      rw [← h2]; rfl
  rw [hf]
  exact hw
theorem wide_eq {x : Nat} (h : Num FloatKind.f32.format x) : V FloatKind.f64.format (cv .f32 x .f64) = V FloatKind.f32.format x := by
  have hw := (wide_num h).2.2
  obtain ⟨g, m, i, hr⟩ := h
  rw [V_of hr] at hw ⊢
  have hb : m < 2 ^ 24 ∧ -149 ≤ i := by
    unfold Ieee.Format.read at hr
    simp only [] at hr
    have hB : FloatKind.f32.format.binade = 8388608 := by decide
    have hI : FloatKind.f32.format.infRung = 2139095040 := by decide
    have hL : FloatKind.f32.format.leastPlace = -149 := by decide
    rw [hB, hI, hL] at hr
    generalize x % FloatKind.f32.format.signWeight = r at hr
    by_cases h1 : r < 8388608
    · rw [if_pos h1] at hr
      simp only [Ieee.Datum.number.injEq] at hr
      omega
    · rw [if_neg h1] at hr
      by_cases h2 : r < 2139095040
      · rw [if_pos h2] at hr
        simp only [Ieee.Datum.number.injEq] at hr
        obtain ⟨_, a, b⟩ := hr
        omega
      · rw [if_neg h2] at hr
        split at hr <;> cases hr
  exact hw.exact (by have : FloatKind.f64.format.leastPlace = -1074 := by decide
                     omega) (by have : FloatKind.f64.format.binade = 4503599627370496 := by decide
                                omega)
theorem Ap.wide {v e b : Rat} {x : Nat} (h : Ap .f32 v e b x) : Ap .f64 v e b (cv .f32 x .f64) := by
  have e1 := wide_eq h.num
  exact ⟨(wide_num h.num).2.1, by rw [e1]; exact h.lo, by rw [e1]; exact h.hi, by rw [e1]; exact h.bl, by rw [e1]; exact h.bh, h.vl, h.vh⟩
end Go.Proofs.Ytjohpjmfnghkoaa.Ap
