/- Quotients that came out small were small; half of a float. Nothing of the program. -/
import Derived.Test.YtjohpjmfnghkoaaInt
namespace Go.Proofs.Ytjohpjmfnghkoaa.Mn
open Go Ieee Kit Fl Bd It
theorem nearest_or (f : Format) (hf : 2 ≤ f.exponentBits) (s : Bool) (mag : Nat) (place : Int) (hr : f.read (f.nearest s mag place) ≠ .infinity s) :
    ∃ m e, f.read (f.nearest s mag place) = .number s m e ∧ Rd f ((mag : Rat) * p2 place) ((m : Rat) * p2 e) := by
  have hbp := binade_pos f
  have heb : 2 ^ f.exponentBits = 2 * 2 ^ (f.exponentBits - 1) := by
    rw [← Nat.pow_succ']; congr 1; omega
  have heb2 : 2 ≤ 2 ^ (f.exponentBits - 1) := by
    calc 2 = 2 ^ 1 := rfl
      _ ≤ _ := Nat.pow_le_pow_right (by omega) (by omega)
  by_cases h0 : mag = 0
  · subst h0
    refine ⟨_, _, read_word f s 0 ?_, ?_⟩
    · unfold Format.infRung; exact Nat.mul_pos (by omega) hbp
    · have e1 : (rungMag f 0 : Rat) = 0 := by unfold rungMag; rw [if_pos hbp]; rfl
      rw [e1]; simp; exact rd_zero f
  · unfold Format.nearest at hr ⊢
    rw [if_neg h0] at hr ⊢
    dsimp only at hr ⊢
    have hmax1 : f.leastPlace ≤ max (place + mag.log2 - f.fractionBits) f.leastPlace := by omega
    have hmax2 : place + mag.log2 - f.fractionBits ≤ max (place + mag.log2 - f.fractionBits) f.leastPlace := by omega
    have hmax3 : f.leastPlace < max (place + mag.log2 - f.fractionBits) f.leastPlace → max (place + mag.log2 - f.fractionBits) f.leastPlace = place + mag.log2 - f.fractionBits := by omega
    generalize hl : max (place + mag.log2 - f.fractionBits) f.leastPlace = last at *
    have hc := cut_rhe s (mag <<< (place - last).toNat) (last - place).toNat
    rw [shift_val] at hc
    generalize hk : Toward.even.cut s (mag <<< (place - last).toNat) (last - place).toNat = kept at *
    have hup : (mag : Rat) * p2 place < p2 (last + f.fractionBits + 1) := by
      have h1 := mul_lt_of (p2_pos place) (mag_lt mag)
      rw [← p2_add] at h1
      have h2 := p2_mono (show (mag.log2 : Int) + 1 + place ≤ last + f.fractionBits + 1 by omega)
      grind
    have hlo : f.leastPlace < last → p2 (last + f.fractionBits) ≤ (mag : Rat) * p2 place := by
      intro h
      have h1 := mul_le_of (Rat.le_of_lt (p2_pos place)) (mag_ge mag h0)
      rw [← p2_add] at h1
      rw [hmax3 h, show place + (mag.log2 : Int) - f.fractionBits + f.fractionBits = mag.log2 + place by omega]
      exact h1
    generalize hV : (mag : Rat) * p2 place = v at *
    have hk2 : kept ≤ 2 * f.binade := by
      refine rhe_le hc ?_
      have h1 := mul_lt_of (p2_pos (-last)) hup
      rw [← p2_add, show last + (f.fractionBits : Int) + 1 + -last = f.fractionBits + 1 by omega, p2_succ, ← binade_cast] at h1
      push_cast; grind
    have hk1 : f.leastPlace < last → f.binade ≤ kept := by
      intro h
      refine rhe_ge hc ?_
      have h1 := mul_le_of (Rat.le_of_lt (p2_pos (-last))) (hlo h)
      rw [← p2_add, show last + (f.fractionBits : Int) + -last = f.fractionBits by omega, ← binade_cast] at h1
      exact h1
    have hrung : (last - f.leastPlace).toNat * f.binade + kept < f.infRung := by
      by_cases hx : (last - f.leastPlace).toNat * f.binade + kept < f.infRung
      · exact hx
      · rw [Nat.min_eq_right (by omega)] at hr
        exact absurd (read_word_inf f hf s) hr
    rw [Nat.min_eq_left (by omega)]
    refine ⟨_, _, read_word f s _ hrung, ?_⟩
    have hval := rungVal_of f (last - f.leastPlace).toNat kept hk2 (fun h => hk1 (by omega))
    unfold rungVal at hval
    rw [hval]
    exact ⟨last, kept, hmax1, hlo, hup, hc, by congr 2; omega⟩

/-- a quotient that came out at most 2 ^ b was at most 2 ^ (b + 3) -/
theorem quo_small {k : FloatKind} {x y : Nat} (hx : Num k.format x) (hy : Num k.format y) (h0 : 0 ≤ V k.format x) (h1 : 0 < V k.format y) (hz : Num k.format (fl .quo k x y)) (b : Int) (hb : k.format.leastPlace ≤ b) (hv : V k.format (fl .quo k x y) ≤ p2 b) :
    V k.format x ≤ p2 (b + 3) * V k.format y := by
  have hpb := p2_pos (b + 3)
  by_cases hz0 : V k.format x = 0
  · rw [hz0]; exact Rat.mul_nonneg (Rat.le_of_lt hpb) (Rat.le_of_lt h1)
  · obtain ⟨s, m, i, hr, hv', hs⟩ := read_nonneg hx h0
    obtain ⟨t, n, j, hr', hw', ht⟩ := read_nonneg hy (by grind)
    have hm : m ≠ 0 := fun h => hz0 (by rw [hv', h]; simp)
    have hn : n ≠ 0 := fun h => by rw [hw', h] at h1; simp at h1
    have es : s = false := by cases s; rfl; exact absurd (hs rfl) hm
    have et : t = false := by cases t; rfl; exact absurd (ht rfl) hn
    subst es; subst et
    have e : floatBits .quo k x y = k.format.div x y := rfl
    unfold Format.div at e
    rw [hr, hr'] at e
    simp only [Datum.quotient, if_neg hn, Option.map_some] at e
    rw [fl_eq e] at hz hv
    generalize hmore : k.format.fractionBits + 2 + n.log2 - m.log2 = more at *
    generalize hD : m <<< more = D at *
    generalize hS : 2 * (D / n) + (D % n != 0).toNat = S at *
    have hDv : (D : Rat) = (m : Rat) * p2 (more : Int) := by
      rw [← hD, Nat.shiftLeft_eq, p2_nat]; push_cast; rfl
    have hDn : n ≤ D := by
      have h3 : n < 2 ^ (n.log2 + 1) := Nat.lt_log2_self
      have h4 : 2 ^ m.log2 ≤ m := Nat.log2_self_le hm
      have h6 : 2 ^ m.log2 * 2 ^ more ≤ D := by rw [← hD, Nat.shiftLeft_eq]; exact Nat.mul_le_mul_right _ h4
      rw [← Nat.pow_add] at h6
      have h7 : 2 ^ (n.log2 + 1) ≤ 2 ^ (m.log2 + more) := Nat.pow_le_pow_right (by omega) (by omega)
      omega
    have hDS : D ≤ S * n := by
      have h1 := Nat.div_add_mod D n
      have h2 := Nat.mod_lt D (Nat.pos_of_ne_zero hn)
      have h3 : 1 ≤ D / n := by rw [Nat.le_div_iff_mul_le (Nat.pos_of_ne_zero hn)]; omega
      have h4 : n * 1 ≤ n * (D / n) := Nat.mul_le_mul_left _ h3
      have h5 : S * n = 2 * (n * (D / n)) + (D % n != 0).toNat * n := by rw [← hS, Nat.add_mul, Nat.mul_assoc, Nat.mul_comm (D / n) n]
      omega
    obtain ⟨M, I, g1, g2⟩ := nearest_or k.format (Sm.kx k) (false ^^ false) S (i - j - (more : Int) - 1) (by
      intro h
      obtain ⟨s', m', e', h'⟩ := hz
      have : k.format.read (k.format.nearest (false ^^ false) S (i - j - (more : Int) - 1)) = .number s' m' e' := h'
      rw [h] at this; cases this)
    have hV : V k.format (k.format.write (.number (false ^^ false) S (i - j - (more : Int) - 1))) = (M : Rat) * p2 I := by
      have : k.format.read (k.format.write (.number (false ^^ false) S (i - j - (more : Int) - 1))) = .number (false ^^ false) M I := g1
      rw [V_of this]; simp [sval]
    rw [hV] at hv
    have hS0 : 0 ≤ (S : Rat) * p2 (i - j - (more : Int) - 1) := Rat.mul_nonneg (by exact_mod_cast Nat.zero_le S) (Rat.le_of_lt (p2_pos _))
    have herr := (g2.err hS0).2
    have hfb : p2 (-(k.format.fractionBits : Int)) ≤ 1 := by
      rw [← p2_zero]; exact p2_mono (by omega)
    have h5 := Rat.mul_le_mul_of_nonneg_left hfb hS0
    have hl := p2_mono hb
    -- S's amount is at most 4 times 2 ^ b
    have h6 : (S : Rat) * p2 (i - j - (more : Int) - 1) ≤ 4 * p2 b := by grind
    have h7 : p2 (b + 3) = 8 * p2 b := by
      rw [p2_add]; have : p2 3 = 8 := by decide +kernel
      rw [this]; grind
    have hDr : (D : Rat) ≤ (S : Rat) * (n : Rat) := by exact_mod_cast hDS
    rw [hv', hw', h7]
    have e1 : (m : Rat) * p2 i = (D : Rat) * p2 (i - (more : Int)) := by
      rw [hDv, show i - (more : Int) = i + -(more : Int) by omega, p2_add]
      have := p2_inv (more : Int)
      grind
    have e2 : p2 (i - (more : Int)) = 2 * p2 (i - j - (more : Int) - 1) * p2 j := by
      have a := p2_succ (i - j - (more : Int) - 1)
      rw [← a, ← p2_add]
      congr 1; omega
    have h8 := Rat.mul_le_mul_of_nonneg_right hDr (Rat.le_of_lt (p2_pos (i - (more : Int))))
    have hpj := p2_pos j
    have hn0 : (0 : Rat) ≤ (n : Rat) := by exact_mod_cast Nat.zero_le n
    have h9 := Rat.mul_le_mul_of_nonneg_right h6 (Rat.mul_nonneg hn0 (Rat.le_of_lt hpj))
    rw [e1]
    rw [e2] at h8 ⊢
    grind
end Go.Proofs.Ytjohpjmfnghkoaa.Mn
