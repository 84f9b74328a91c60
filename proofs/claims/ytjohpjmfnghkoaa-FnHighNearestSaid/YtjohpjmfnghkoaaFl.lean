/- Binary floating point over rational numbers: what the operations of the words give, how far rounding leads away, that it keeps the order. Nothing of the program. -/
import Ieee.Arith
namespace Go.Proofs.Ytjohpjmfnghkoaa.Fl
open Ieee

def p2 (e : Int) : Rat := (2 : Rat) ^ e
theorem p2_pos (e : Int) : 0 < p2 e := Rat.zpow_pos (by decide)
theorem p2_add (a b : Int) : p2 (a + b) = p2 a * p2 b := Rat.zpow_add (by decide) a b
theorem p2_zero : p2 0 = 1 := Rat.zpow_zero _
theorem p2_nat (n : Nat) : p2 (n : Int) = ((2 ^ n : Nat) : Rat) := by
  unfold p2; rw [Rat.zpow_natCast]; push_cast; rfl
theorem p2_succ (a : Int) : p2 (a + 1) = 2 * p2 a := by
  rw [p2_add]; have : p2 1 = 2 := by decide +kernel
  rw [this]; grind
theorem p2_ge1 (n : Nat) : 1 ≤ p2 (n : Int) := by
  rw [p2_nat]; exact_mod_cast Nat.one_le_two_pow
theorem p2_mono {a b : Int} (h : a ≤ b) : p2 a ≤ p2 b := by
  obtain ⟨n, rfl⟩ : ∃ n : Nat, b = a + n := ⟨(b - a).toNat, by omega⟩
  rw [p2_add]
  have := Rat.mul_le_mul_of_nonneg_left (p2_ge1 n) (Rat.le_of_lt (p2_pos a))
  grind
theorem p2_lt {a b : Int} (h : a < b) : p2 a < p2 b := by
  have h1 := p2_mono (show a + 1 ≤ b by omega)
  rw [p2_succ] at h1
  have := p2_pos a
  grind
theorem p2_lt_iff {a b : Int} : p2 a < p2 b ↔ a < b := by
  constructor
  · intro h
    by_cases hc : a < b
    · exact hc
    · have := p2_mono (show b ≤ a by omega); grind
  · exact p2_lt
theorem p2_inv (a : Int) : p2 a * p2 (-a) = 1 := by
  rw [← p2_add, show a + -a = 0 by omega, p2_zero]

theorem mul_lt_of {a b c : Rat} (hc : 0 < c) (h : a < b) : a * c < b * c := Rat.mul_lt_mul_of_pos_right h hc
theorem mul_le_of {a b c : Rat} (hc : 0 ≤ c) (h : a ≤ b) : a * c ≤ b * c := Rat.mul_le_mul_of_nonneg_right h hc
theorem lt_of_mul {a b c : Rat} (hc : 0 < c) (h : a * c < b * c) : a < b := by
  by_cases hh : a < b
  · exact hh
  · have := mul_le_of (Rat.le_of_lt hc) (show b ≤ a by grind); grind
theorem le_of_mul {a b c : Rat} (hc : 0 < c) (h : a * c ≤ b * c) : a ≤ b := by
  by_cases hh : a ≤ b
  · exact hh
  · have := mul_lt_of hc (show b < a by grind); grind

/-- 'k' is the whole number nearest to x; between two, the even one. -/
def Rhe (x : Rat) (k : Nat) : Prop := 2 * (k : Rat) - 2 * x ≤ 1 ∧ 2 * x - 2 * (k : Rat) ≤ 1 ∧ ((2 * (k : Rat) - 2 * x = 1 ∨ 2 * x - 2 * (k : Rat) = 1) → k % 2 = 0)

theorem Rhe.mono {x y : Rat} {j k : Nat} (hj : Rhe x j) (hk : Rhe y k) (h : x ≤ y) : j ≤ k := by
  obtain ⟨a1, a2, a3⟩ := hj
  obtain ⟨b1, b2, b3⟩ := hk
  by_cases hc : j ≤ k
  · exact hc
  · exfalso
    have h1 : k + 1 ≤ j := by omega
    have h2 : ((k : Rat) + 1) ≤ (j : Rat) := by exact_mod_cast h1
    have e1 : 2 * (j : Rat) - 2 * x = 1 := by grind
    have e2 : 2 * y - 2 * (k : Rat) = 1 := by grind
    have e3 := a3 (Or.inl e1)
    have e4 := b3 (Or.inr e2)
    have e5 : (j : Rat) = (k : Rat) + 1 := by grind
    have e6 : j = k + 1 := by exact_mod_cast e5
    omega

theorem Rhe.whole (n : Nat) : Rhe (n : Rat) n := by
  refine ⟨by grind, by grind, fun h => ?_⟩
  rcases h with h | h <;> (exfalso; grind)

theorem cut_rhe (neg : Bool) (n drop : Nat) : Rhe ((n : Rat) * p2 (-(drop : Int))) (Toward.even.cut neg n drop) := by
  have hb : n < 2 ^ (n.log2 + 1) := Nat.lt_log2_self
  unfold Toward.cut
  simp only [Nat.one_shiftLeft]
  by_cases hd : drop ≤ n.log2 + 2
  · rw [Nat.min_eq_left hd]
    have hg : 0 < 2 ^ drop := Nat.two_pow_pos _
    have hdm := Nat.div_add_mod n (2 ^ drop)
    have hm := Nat.mod_lt n hg
    generalize hq : n / 2 ^ drop = q at *
    generalize hr : n % 2 ^ drop = r at *
    generalize hG : 2 ^ drop = g at *
    have hx : (n : Rat) * p2 (-(drop : Int)) * (g : Rat) = n := by
      have := p2_inv (drop : Int)
      rw [p2_nat, hG] at this
      grind
    have hn : (n : Rat) = (g : Rat) * q + r := by exact_mod_cast hdm.symm
    have hg' : (0 : Rat) < g := by exact_mod_cast hg
    generalize (n : Rat) * p2 (-(drop : Int)) = x at *
    have hxg : x * g = g * q + r := by grind
    have hr' : (r : Rat) < g := by exact_mod_cast hm
    have hr0 : (0 : Rat) ≤ r := by exact_mod_cast Nat.zero_le r
    by_cases h1 : g < 2 * r
    · have h1' : (g : Rat) < 2 * (r : Rat) := by exact_mod_cast h1
      have hd1 : (decide (g < 2 * r) || (g == 2 * r && q % 2 == 1)) = true := by simp [h1]
      rw [hd1]
      have hlt : (2 * x) * g < (2 * ((q : Rat) + 1)) * g := by grind
      have hgt : (2 * (q : Rat) + 1) * g < (2 * x) * g := by grind
      have hlt := lt_of_mul hg' hlt
      have hgt := lt_of_mul hg' hgt
      have hc : (((q + true.toNat : Nat)) : Rat) = (q : Rat) + 1 := by simp
      unfold Rhe
      rw [hc]
      refine ⟨by grind, by grind, fun h => ?_⟩
      rcases h with h | h <;> (exfalso; grind)
    · by_cases h2 : g = 2 * r
      · have h2' : (g : Rat) = 2 * (r : Rat) := by exact_mod_cast h2
        have he : (2 * x) * g = (2 * (q : Rat) + 1) * g := by grind
        have he : 2 * x = 2 * (q : Rat) + 1 := by
          have := le_of_mul hg' (show (2 * x) * g ≤ (2 * (q : Rat) + 1) * g by grind)
          have := le_of_mul hg' (show (2 * (q : Rat) + 1) * g ≤ (2 * x) * g by grind)
          grind
        by_cases h3 : q % 2 = 1
        · have hd1 : (decide (g < 2 * r) || (g == 2 * r && q % 2 == 1)) = true := by simp [h2, h3]
          rw [hd1]
          have hc : (((q + true.toNat : Nat)) : Rat) = (q : Rat) + 1 := by simp
          unfold Rhe
          rw [hc]
          refine ⟨by grind, by grind, fun _ => by simp; omega⟩
        · have hd1 : (decide (g < 2 * r) || (g == 2 * r && q % 2 == 1)) = false := by simp [h1, h3]
          rw [hd1]
          have hc : (((q + false.toNat : Nat)) : Rat) = (q : Rat) := by simp
          unfold Rhe
          rw [hc]
          refine ⟨by grind, by grind, fun _ => by simp; omega⟩
      · have hd1 : (decide (g < 2 * r) || (g == 2 * r && q % 2 == 1)) = false := by simp [h1, h2]
        rw [hd1]
        have h4 : 2 * r < g := by omega
        have h4' : 2 * (r : Rat) < (g : Rat) := by exact_mod_cast h4
        have hlt : (2 * x) * g < (2 * (q : Rat) + 1) * g := by grind
        have hge : (2 * (q : Rat)) * g ≤ (2 * x) * g := by grind
        have hlt := lt_of_mul hg' hlt
        have hge := le_of_mul hg' hge
        have hc : (((q + false.toNat : Nat)) : Rat) = (q : Rat) := by simp
        unfold Rhe
        rw [hc]
        refine ⟨by grind, by grind, fun h => ?_⟩
        rcases h with h | h <;> (exfalso; grind)
  · rw [Nat.min_eq_right (by omega)]
    have hlt : 2 * n < 2 ^ (n.log2 + 2) := by rw [Nat.pow_succ]; omega
    have hq : n / 2 ^ (n.log2 + 2) = 0 := Nat.div_eq_of_lt (by omega)
    have hr : n % 2 ^ (n.log2 + 2) = n := Nat.mod_eq_of_lt (by omega)
    rw [hq, hr]
    have hd1 : (decide (2 ^ (n.log2 + 2) < 2 * n) || (2 ^ (n.log2 + 2) == 2 * n && 0 % 2 == 1)) = false := by simp; omega
    rw [hd1]
    have h5 : (n : Rat) * p2 (-(drop : Int)) * (2 ^ drop : Nat) = n := by
      have := p2_inv (drop : Int)
      rw [p2_nat] at this
      grind
    have h6 : 2 ^ (n.log2 + 2) ≤ 2 ^ drop := Nat.pow_le_pow_right (by omega) (by omega)
    have h7 : 2 * n < 2 ^ drop := by omega
    have h7' : 2 * (n : Rat) < ((2 ^ drop : Nat) : Rat) := by exact_mod_cast h7
    have hg' : (0 : Rat) < ((2 ^ drop : Nat) : Rat) := by exact_mod_cast Nat.two_pow_pos drop
    have h0 : (0 : Rat) ≤ n := by exact_mod_cast Nat.zero_le n
    generalize (n : Rat) * p2 (-(drop : Int)) = x at *
    generalize ((2 ^ drop : Nat) : Rat) = g at *
    have h8 : (2 * x) * g < 1 * g := by grind
    have h8 := lt_of_mul hg' h8
    have h9 : 0 * g ≤ x * g := by grind
    have h9 := le_of_mul hg' h9
    have hc : (((0 + false.toNat : Nat)) : Rat) = 0 := by simp
    unfold Rhe
    rw [hc]
    refine ⟨by grind, by grind, fun h => ?_⟩
    rcases h with h | h <;> (exfalso; grind)

/-- What a rung stands for. -/
def rungMag (f : Format) (r : Nat) : Nat := if r < f.binade then r else f.binade + r % f.binade
def rungPlace (f : Format) (r : Nat) : Int := if r < f.binade then f.leastPlace else f.leastPlace + (r / f.binade - 1 : Nat)
def rungVal (f : Format) (r : Nat) : Rat := (rungMag f r : Rat) * p2 (rungPlace f r)

theorem binade_pos (f : Format) : 0 < f.binade := Nat.two_pow_pos _
theorem infRung_lt_sign (f : Format) : f.infRung < f.signWeight := by
  have h : 0 < 2 ^ f.exponentBits := Nat.two_pow_pos _
  have hb := binade_pos f
  unfold Format.infRung Format.signWeight
  rw [Nat.pow_add]
  exact Nat.mul_lt_mul_of_pos_right (by omega) hb

theorem read_word (f : Format) (s : Bool) (r : Nat) (h : r < f.infRung) : f.read (f.word s r) = .number s (rungMag f r) (rungPlace f r) := by
  have hs := infRung_lt_sign f
  have e1 : (f.word s r / f.signWeight % 2 == 1) = s := by
    unfold Format.word
    cases s
    · simp [Nat.div_eq_of_lt (show r < f.signWeight by omega)]
    · simp only [if_true]
      rw [Nat.add_comm, Nat.add_div_right _ (by omega), Nat.div_eq_of_lt (show r < f.signWeight by omega)]
      rfl
  have e2 : f.word s r % f.signWeight = r := by
    unfold Format.word
    cases s
    · simp [Nat.mod_eq_of_lt (show r < f.signWeight by omega)]
    · simp [Nat.mod_eq_of_lt (show r < f.signWeight by omega)]
  unfold Format.read rungMag rungPlace
  simp only [e1, e2]
  by_cases hb : r < f.binade
  · simp [hb]
  · simp [hb, h]

/-- 'r' is 'v' rounded ('v' not below nought, within reach). -/
def Rd (f : Format) (v r : Rat) : Prop := ∃ (last : Int) (kept : Nat), f.leastPlace ≤ last ∧ (f.leastPlace < last → p2 (last + f.fractionBits) ≤ v) ∧ v < p2 (last + f.fractionBits + 1) ∧ Rhe (v * p2 (-last)) kept ∧ r = kept * p2 last

theorem rhe_le {x : Rat} {k B : Nat} (h : Rhe x k) (hx : x ≤ (B : Rat)) : k ≤ B := h.mono (Rhe.whole B) hx
theorem rhe_ge {x : Rat} {k B : Nat} (h : Rhe x k) (hx : (B : Rat) ≤ x) : B ≤ k := (Rhe.whole B).mono h hx

theorem mul_p2_neg (x : Rat) (e : Int) : x * p2 e * p2 (-e) = x := by
  have := p2_inv e; grind

theorem binade_cast (f : Format) : ((f.binade : Nat) : Rat) = p2 (f.fractionBits : Int) := by rw [p2_nat]; rfl

/-- the rung of kept digits at a place -/
theorem rungVal_of (f : Format) (q kept : Nat) (h2 : kept ≤ 2 * f.binade) (h1 : 0 < q → f.binade ≤ kept) : rungVal f (q * f.binade + kept) = (kept : Rat) * p2 (f.leastPlace + q) := by
  have hb := binade_pos f
  unfold rungVal rungMag rungPlace
  generalize hB : f.binade = B at *
  by_cases hq : q = 0
  · subst hq
    simp only [Nat.zero_mul, Nat.zero_add]
    by_cases hk : kept < B
    · simp [hk]
    · simp only [if_neg hk]
      by_cases hk2 : kept < 2 * B
      · have e1 : kept / B = 1 := by
          rw [Nat.div_eq_iff hb]; omega
        have e2 : kept % B = kept - B := by
          rw [Nat.mod_eq_sub_mod (by omega), Nat.mod_eq_of_lt (by omega)]
        rw [e1, e2]
        have e3 : B + (kept - B) = kept := by omega
        rw [e3]
      · have e0 : kept = 2 * B := by omega
        subst e0
        have e1 : 2 * B / B = 2 := Nat.mul_div_cancel _ hb
        have e2 : 2 * B % B = 0 := Nat.mul_mod_left _ _
        rw [e1, e2]
        have : p2 (f.leastPlace + ((2 - 1 : Nat) : Int)) = 2 * p2 f.leastPlace := p2_succ _
        rw [this]
        simp; grind
  · have hk := h1 (by omega)
    have hnl : ¬ q * B + kept < B := by omega
    simp only [if_neg hnl]
    by_cases hk2 : kept < 2 * B
    · have e1 : (q * B + kept) / B = q + 1 := by
        rw [Nat.add_comm, Nat.add_mul_div_right _ _ hb]
        have : kept / B = 1 := by rw [Nat.div_eq_iff hb]; omega
        omega
      have e2 : (q * B + kept) % B = kept - B := by
        rw [Nat.add_comm, Nat.add_mul_mod_self_right, Nat.mod_eq_sub_mod (by omega), Nat.mod_eq_of_lt (by omega)]
      rw [e1, e2]
      have e3 : B + (kept - B) = kept := by omega
      rw [e3]; simp
    · have e0 : kept = 2 * B := by omega
      subst e0
      have e1 : (q * B + 2 * B) / B = q + 2 := by
        rw [← Nat.add_mul]; exact Nat.mul_div_cancel _ hb
      have e2 : (q * B + 2 * B) % B = 0 := by
        rw [← Nat.add_mul]; exact Nat.mul_mod_left _ _
      rw [e1, e2]
      have : p2 (f.leastPlace + ((q + 2 - 1 : Nat) : Int)) = 2 * p2 (f.leastPlace + q) := by
        rw [← p2_succ]; congr 1; omega
      rw [this]
      simp; grind

/-- The greatest place of a power of two that is within reach: every number below it is rounded to a number. -/
def reach (f : Format) : Int := 2 ^ (f.exponentBits - 1) - 1

theorem shift_val (mag : Nat) (place last : Int) : (((mag <<< (place - last).toNat : Nat)) : Rat) * p2 (-((last - place).toNat : Int)) = (mag : Rat) * p2 place * p2 (-last) := by
  rw [Nat.shiftLeft_eq]
  by_cases h : last ≤ place
  · have e1 : (last - place).toNat = 0 := by omega
    rw [e1]
    have e2 : ((mag * 2 ^ (place - last).toNat : Nat) : Rat) = (mag : Rat) * p2 ((place - last).toNat : Int) := by
      rw [p2_nat]; push_cast; rfl
    rw [e2, show (-((0 : Nat) : Int)) = 0 by rfl, p2_zero, show ((place - last).toNat : Int) = place + -last by omega, p2_add]
    grind
  · have e1 : (place - last).toNat = 0 := by omega
    rw [e1, Nat.pow_zero, Nat.mul_one, show (-((last - place).toNat : Int)) = place + -last by omega, p2_add]
    grind

theorem mag_lt (mag : Nat) : (mag : Rat) < p2 ((mag.log2 : Int) + 1) := by
  have h : mag < 2 ^ (mag.log2 + 1) := Nat.lt_log2_self
  rw [show ((mag.log2 : Int) + 1) = ((mag.log2 + 1 : Nat) : Int) by push_cast; rfl, p2_nat]
  exact_mod_cast h
theorem mag_ge (mag : Nat) (h0 : mag ≠ 0) : p2 (mag.log2 : Int) ≤ (mag : Rat) := by
  have h : 2 ^ mag.log2 ≤ mag := Nat.log2_self_le h0
  rw [p2_nat]
  exact_mod_cast h

theorem rd_zero (f : Format) : Rd f 0 0 := ⟨f.leastPlace, 0, by omega, fun h => by omega, by have := p2_pos (f.leastPlace + f.fractionBits + 1); grind, by
  have := Rhe.whole 0
  simpa using this, by simp⟩

theorem nearest_rd (f : Format) (hf : 2 ≤ f.exponentBits) (s : Bool) (mag : Nat) (place : Int) (hv : (mag : Rat) * p2 place < p2 (reach f)) :
    ∃ m e, f.read (f.nearest s mag place) = .number s m e ∧ Rd f ((mag : Rat) * p2 place) ((m : Rat) * p2 e) := by
  have hbp := binade_pos f
  have heb : 2 ^ f.exponentBits = 2 * 2 ^ (f.exponentBits - 1) := by
    rw [← Nat.pow_succ']; congr 1; omega
  have heb2 : 2 ≤ 2 ^ (f.exponentBits - 1) := by
    calc 2 = 2 ^ 1 := rfl
      _ ≤ _ := Nat.pow_le_pow_right (by omega) (by omega)
  by_cases h0 : mag = 0
  · subst h0
    refine ⟨_, _, read_word f s 0 ?_, ?_⟩
    · unfold Format.infRung; exact Nat.mul_pos (by omega) hbp
    · have e1 : (rungMag f 0 : Rat) = 0 := by unfold rungMag; rw [if_pos hbp]; rfl
      rw [e1]; simp; exact rd_zero f
  · unfold Format.nearest
    rw [if_neg h0]
    have hmax1 : f.leastPlace ≤ max (place + mag.log2 - f.fractionBits) f.leastPlace := by omega
    have hmax2 : place + mag.log2 - f.fractionBits ≤ max (place + mag.log2 - f.fractionBits) f.leastPlace := by omega
    have hmax3 : f.leastPlace < max (place + mag.log2 - f.fractionBits) f.leastPlace → max (place + mag.log2 - f.fractionBits) f.leastPlace = place + mag.log2 - f.fractionBits := by omega
    generalize hl : max (place + mag.log2 - f.fractionBits) f.leastPlace = last at *
    have hc := cut_rhe s (mag <<< (place - last).toNat) (last - place).toNat
    rw [shift_val] at hc
    simp only []
    generalize hk : Toward.even.cut s (mag <<< (place - last).toNat) (last - place).toNat = kept at *
    have hup : (mag : Rat) * p2 place < p2 (last + f.fractionBits + 1) := by
      have h1 := mul_lt_of (p2_pos place) (mag_lt mag)
      rw [← p2_add] at h1
      have h2 := p2_mono (show (mag.log2 : Int) + 1 + place ≤ last + f.fractionBits + 1 by omega)
      grind
    have hlo : f.leastPlace < last → p2 (last + f.fractionBits) ≤ (mag : Rat) * p2 place := by
      intro h
      have h1 := mul_le_of (Rat.le_of_lt (p2_pos place)) (mag_ge mag h0)
      rw [← p2_add] at h1
      rw [hmax3 h, show place + (mag.log2 : Int) - f.fractionBits + f.fractionBits = mag.log2 + place by omega]
      exact h1
    generalize hV : (mag : Rat) * p2 place = v at *
    have hk2 : kept ≤ 2 * f.binade := by
      refine rhe_le hc ?_
      have h1 := mul_lt_of (p2_pos (-last)) hup
      rw [← p2_add, show last + (f.fractionBits : Int) + 1 + -last = f.fractionBits + 1 by omega, p2_succ, ← binade_cast] at h1
      push_cast; grind
    have hk1 : f.leastPlace < last → f.binade ≤ kept := by
      intro h
      refine rhe_ge hc ?_
      have h1 := mul_le_of (Rat.le_of_lt (p2_pos (-last))) (hlo h)
      rw [← p2_add, show last + (f.fractionBits : Int) + -last = f.fractionBits by omega, ← binade_cast] at h1
      exact h1
    have hrung : (last - f.leastPlace).toNat * f.binade + kept < f.infRung := by
      unfold Format.infRung
      by_cases hq : f.leastPlace < last
      · have h1 := hlo hq
        have h2 : p2 (last + f.fractionBits) < p2 (reach f) := by grind
        rw [p2_lt_iff] at h2
        unfold reach at h2
        have hL : f.leastPlace = 2 - 2 ^ (f.exponentBits - 1) - f.fractionBits := rfl
        have hcast : ((2 ^ (f.exponentBits - 1) : Nat) : Int) = (2 : Int) ^ (f.exponentBits - 1) := by push_cast; rfl
        rw [← hcast] at h2 hL
        have h3 : (last - f.leastPlace).toNat + 3 ≤ 2 ^ f.exponentBits - 1 := by omega
        have h4 := Nat.mul_le_mul_right f.binade h3
        rw [Nat.add_mul] at h4
        omega
      · have e0 : (last - f.leastPlace).toNat = 0 := by omega
        rw [e0]
        have h3 : 3 ≤ 2 ^ f.exponentBits - 1 := by omega
        have h4 := Nat.mul_le_mul_right f.binade h3
        omega
    rw [Nat.min_eq_left (by omega)]
    refine ⟨_, _, read_word f s _ hrung, ?_⟩
    have hval := rungVal_of f (last - f.leastPlace).toNat kept hk2 (fun h => hk1 (by omega))
    unfold rungVal at hval
    rw [hval]
    exact ⟨last, kept, hmax1, hlo, hup, hc, by congr 2; omega⟩

theorem Rd.keptLe {f : Format} {v : Rat} {last : Int} {kept : Nat} (hup : v < p2 (last + f.fractionBits + 1)) (hc : Rhe (v * p2 (-last)) kept) : kept ≤ 2 * f.binade := by
  refine rhe_le hc ?_
  have h1 := mul_lt_of (p2_pos (-last)) hup
  rw [← p2_add, show last + (f.fractionBits : Int) + 1 + -last = f.fractionBits + 1 by omega, p2_succ, ← binade_cast] at h1
  push_cast; grind
theorem Rd.keptGe {f : Format} {v : Rat} {last : Int} {kept : Nat} (hlo : p2 (last + f.fractionBits) ≤ v) (hc : Rhe (v * p2 (-last)) kept) : f.binade ≤ kept := by
  refine rhe_ge hc ?_
  have h1 := mul_le_of (Rat.le_of_lt (p2_pos (-last))) hlo
  rw [← p2_add, show last + (f.fractionBits : Int) + -last = f.fractionBits by omega, ← binade_cast] at h1
  exact h1

theorem Rd.mono {f : Format} {v w r t : Rat} (h1 : Rd f v r) (h2 : Rd f w t) (h : v ≤ w) : r ≤ t := by
  obtain ⟨l1, k1, a1, a2, a3, a4, rfl⟩ := h1
  obtain ⟨l2, k2, b1, b2, b3, b4, rfl⟩ := h2
  rcases Int.lt_trichotomy l1 l2 with hl | hl | hl
  · have h2 := b2 (by omega)
    have g1 := Rd.keptLe a3 a4
    have g2 := Rd.keptGe h2 b4
    have g1' : (k1 : Rat) ≤ 2 * (f.binade : Rat) := by exact_mod_cast g1
    have g2' : (f.binade : Rat) ≤ (k2 : Rat) := by exact_mod_cast g2
    have e1 := mul_le_of (Rat.le_of_lt (p2_pos l1)) g1'
    have e2 := mul_le_of (Rat.le_of_lt (p2_pos l2)) g2'
    have e3 := mul_le_of (show (0 : Rat) ≤ (f.binade : Rat) by rw [binade_cast]; exact Rat.le_of_lt (p2_pos _)) (p2_mono (show l1 + 1 ≤ l2 by omega))
    rw [p2_succ] at e3
    grind
  · subst hl
    have h3 := a4.mono b4 (mul_le_of (Rat.le_of_lt (p2_pos _)) h)
    exact mul_le_of (Rat.le_of_lt (p2_pos _)) (by exact_mod_cast h3)
  · exfalso
    have h1 := a2 (by omega)
    have h2 : p2 (l1 + f.fractionBits) < p2 (l2 + f.fractionBits + 1) := by grind
    rw [p2_lt_iff] at h2
    omega

theorem Rd.unique {f : Format} {v r t : Rat} (h1 : Rd f v r) (h2 : Rd f v t) : r = t := by
  have a := h1.mono h2 (Rat.le_refl)
  have b := h2.mono h1 (Rat.le_refl)
  grind

theorem rhe_whole_eq {n k : Nat} (h : Rhe (n : Rat) k) : k = n := by
  have a := h.mono (Rhe.whole n) (Rat.le_refl)
  have b := (Rhe.whole n).mono h (Rat.le_refl)
  omega

/-- WHAT THE FORMAT HAS IS NOT TURNED BY ROUNDING. -/
theorem Rd.exact {f : Format} {r : Rat} {k : Nat} {e : Int} (h : Rd f ((k : Rat) * p2 e) r) (he : f.leastPlace ≤ e) (hk : k < 2 * f.binade) : r = (k : Rat) * p2 e := by
  obtain ⟨last, kept, a1, a2, a3, a4, rfl⟩ := h
  have hle : last ≤ e := by
    by_cases hL : f.leastPlace < last
    · have h1 := a2 hL
      have h2 : (k : Rat) < 2 * (f.binade : Rat) := by exact_mod_cast hk
      have h3 := mul_lt_of (p2_pos e) h2
      rw [binade_cast, ← p2_succ, ← p2_add] at h3
      have h4 : p2 (last + f.fractionBits) < p2 ((f.fractionBits : Int) + 1 + e) := by grind
      rw [p2_lt_iff] at h4
      omega
    · omega
  obtain ⟨d, rfl⟩ : ∃ d : Nat, e = last + d := ⟨(e - last).toNat, by omega⟩
  have e1 : (k : Rat) * p2 (last + d) * p2 (-last) = ((k * 2 ^ d : Nat) : Rat) := by
    rw [p2_add, p2_nat]
    have := p2_inv last
    push_cast
    grind
  rw [e1] at a4
  rw [rhe_whole_eq a4, p2_add, p2_nat]
  push_cast
  grind

theorem Rd.nonneg {f : Format} {v r : Rat} (h : Rd f v r) : 0 ≤ r := by
  obtain ⟨last, kept, a1, a2, a3, a4, rfl⟩ := h
  exact Rat.mul_nonneg (by exact_mod_cast Nat.zero_le _) (Rat.le_of_lt (p2_pos _))

/-- how far rounding leads away -/
theorem Rd.err {f : Format} {v r : Rat} (hv : 0 ≤ v) (h : Rd f v r) : 2 * (r - v) ≤ v * p2 (-(f.fractionBits : Int)) + p2 f.leastPlace ∧ 2 * (v - r) ≤ v * p2 (-(f.fractionBits : Int)) + p2 f.leastPlace := by
  obtain ⟨last, kept, a1, a2, a3, a4, rfl⟩ := h
  obtain ⟨b1, b2, _⟩ := a4
  have hp := p2_pos last
  have hi := p2_inv last
  have c1 := mul_le_of (Rat.le_of_lt hp) b1
  have c2 := mul_le_of (Rat.le_of_lt hp) b2
  have hvv : v * p2 (-last) * p2 last = v := by grind
  have d1 : 2 * (kept : Rat) * p2 last - 2 * v ≤ p2 last := by grind
  have d2 : 2 * v - 2 * (kept : Rat) * p2 last ≤ p2 last := by grind
  have hb : p2 last ≤ v * p2 (-(f.fractionBits : Int)) + p2 f.leastPlace := by
    have hL := p2_pos f.leastPlace
    by_cases h : f.leastPlace < last
    · have h1 := mul_le_of (Rat.le_of_lt (p2_pos (-(f.fractionBits : Int)))) (a2 h)
      rw [← p2_add, show last + (f.fractionBits : Int) + -(f.fractionBits : Int) = last by omega] at h1
      grind
    · have : last = f.leastPlace := by omega
      subst this
      have := Rat.mul_nonneg hv (Rat.le_of_lt (p2_pos (-(f.fractionBits : Int))))
      grind
  clear a1 a2 a3 b1 b2 c1 c2 hvv hi
  constructor <;> grind

/-- A number and its sticky stand-in are rounded alike. -/
theorem Rd.sticky {f : Format} {v y r : Rat} {u : Int} (hy0 : 0 ≤ v) (h : Rd f y r) (hy : p2 (u + f.fractionBits + 1) ≤ y)
    (hlt : ∀ n : Nat, y < (n : Rat) * p2 u ↔ v < (n : Rat) * p2 u) (hgt : ∀ n : Nat, (n : Rat) * p2 u < y ↔ (n : Rat) * p2 u < v) : Rd f v r := by
  obtain ⟨last, kept, a1, a2, a3, a4, rfl⟩ := h
  have hul : u < last := by
    have h2 : p2 (u + f.fractionBits + 1) < p2 (last + f.fractionBits + 1) := by grind
    rw [p2_lt_iff] at h2
    omega
  obtain ⟨d, rfl⟩ : ∃ d : Nat, last = u + 1 + d := ⟨(last - u - 1).toNat, by omega⟩
  have hlt' : ∀ e : Nat, y < p2 (u + e) ↔ v < p2 (u + e) := by
    intro e
    have := hlt (2 ^ e)
    rw [← p2_nat, ← p2_add, show (e : Int) + u = u + e by omega] at this
    exact this
  refine ⟨u + 1 + d, kept, a1, ?_, ?_, ?_, rfl⟩
  · intro hL
    have h1 := a2 hL
    have h2 := hlt' (1 + d + f.fractionBits)
    rw [show u + ((1 + d + f.fractionBits : Nat) : Int) = u + 1 + d + f.fractionBits by push_cast; omega] at h2
    by_cases hc : v < p2 (u + 1 + d + f.fractionBits)
    · have := h2.2 hc; grind
    · grind
  · have h2 := hlt' (1 + d + f.fractionBits + 1)
    rw [show u + ((1 + d + f.fractionBits + 1 : Nat) : Int) = u + 1 + d + f.fractionBits + 1 by push_cast; omega] at h2
    exact h2.1 a3
  · -- half units of the last place are whole units of u
    have hpl := p2_pos (u + 1 + d)
    have hil := p2_inv (u + 1 + d)
    have half : ∀ n : Nat, ((n * 2 ^ d : Nat) : Rat) * p2 u * 2 = (n : Rat) * p2 (u + 1 + d) := by
      intro n
      rw [p2_add, p2_succ, p2_nat]
      push_cast
      grind
    have hX : ∀ z : Rat, z * p2 (-(u + 1 + d)) * p2 (u + 1 + d) = z := by intro z; grind
    have key1 : ∀ n : Nat, (2 * (y * p2 (-(u + 1 + d))) < (n : Rat) ↔ 2 * (v * p2 (-(u + 1 + d))) < (n : Rat)) := by
      intro n
      have h1 := hlt (n * 2 ^ d)
      have h2 := half n
      have hy' := hX y
      have hv' := hX v
      constructor
      · intro h
        have h3 := mul_lt_of hpl h
        have h4 := h1.1 (by grind)
        exact lt_of_mul hpl (by grind)
      · intro h
        have h3 := mul_lt_of hpl h
        have h4 := h1.2 (by grind)
        exact lt_of_mul hpl (by grind)
    have key2 : ∀ n : Nat, ((n : Rat) < 2 * (y * p2 (-(u + 1 + d))) ↔ (n : Rat) < 2 * (v * p2 (-(u + 1 + d)))) := by
      intro n
      have h1 := hgt (n * 2 ^ d)
      have h2 := half n
      have hy' := hX y
      have hv' := hX v
      constructor
      · intro h
        have h3 := mul_lt_of hpl h
        have h4 := h1.1 (by grind)
        exact lt_of_mul hpl (by grind)
      · intro h
        have h3 := mul_lt_of hpl h
        have h4 := h1.2 (by grind)
        exact lt_of_mul hpl (by grind)
    have hv0 : 0 ≤ v * p2 (-(u + 1 + d)) := Rat.mul_nonneg hy0 (Rat.le_of_lt (p2_pos _))
    generalize hA : y * p2 (-(u + 1 + d)) = A at *
    generalize hBv : v * p2 (-(u + 1 + d)) = B at *
    obtain ⟨c1, c2, c3⟩ := a4
    have k1 := key1 (2 * kept + 1)
    have k2 := key2 (2 * kept + 1)
    have hcast1 : ((2 * kept + 1 : Nat) : Rat) = 2 * (kept : Rat) + 1 := by push_cast; rfl
    rw [hcast1] at k1 k2
    by_cases hk0 : kept = 0
    · subst hk0
      have hz : ((0 : Nat) : Rat) = 0 := rfl
      rw [hz] at *
      refine ⟨by grind, by grind, fun _ => rfl⟩
    · have k3 := key1 (2 * kept - 1)
      have k4 := key2 (2 * kept - 1)
      have hcast2 : ((2 * kept - 1 : Nat) : Rat) = 2 * (kept : Rat) - 1 := by
        have : ((2 * kept - 1 + 1 : Nat) : Rat) = ((2 * kept : Nat) : Rat) := by congr 1; omega
        push_cast at this
        grind
      rw [hcast2] at k3 k4
      refine ⟨by grind, by grind, fun h => c3 ?_⟩
      rcases h with h | h
      · exact Or.inl (by grind)
      · exact Or.inr (by grind)

/-- What the format has stands for itself. -/
theorem Rd.self (f : Format) (k : Nat) (e : Int) (he : f.leastPlace ≤ e) (hk : k < 2 * f.binade) : Rd f ((k : Rat) * p2 e) ((k : Rat) * p2 e) := by
  by_cases h0 : k = 0
  · subst h0
    rw [show (((0 : Nat)) : Rat) * p2 e = 0 by simp]
    exact rd_zero f
  · have hlog : (k.log2 : Int) ≤ f.fractionBits := by
      have h1 := mag_ge k h0
      have h2 : (k : Rat) < 2 * (f.binade : Rat) := by exact_mod_cast hk
      rw [binade_cast, ← p2_succ] at h2
      have h3 : p2 (k.log2 : Int) < p2 ((f.fractionBits : Int) + 1) := by grind
      rw [p2_lt_iff] at h3
      omega
    have hmax1 : f.leastPlace ≤ max (e + k.log2 - f.fractionBits) f.leastPlace := by omega
    have hmax2 : e + k.log2 - f.fractionBits ≤ max (e + k.log2 - f.fractionBits) f.leastPlace := by omega
    have hmax3 : f.leastPlace < max (e + k.log2 - f.fractionBits) f.leastPlace → max (e + k.log2 - f.fractionBits) f.leastPlace = e + k.log2 - f.fractionBits := by omega
    have hmax4 : max (e + k.log2 - f.fractionBits) f.leastPlace ≤ e := by omega
    generalize max (e + k.log2 - f.fractionBits) f.leastPlace = last at *
    obtain ⟨d, rfl⟩ : ∃ d : Nat, e = last + d := ⟨(e - last).toNat, by omega⟩
    have e1 : (k : Rat) * p2 (last + d) * p2 (-last) = ((k * 2 ^ d : Nat) : Rat) := by
      rw [p2_add, p2_nat]
      have := p2_inv last
      push_cast
      grind
    refine ⟨last, k * 2 ^ d, hmax1, ?_, ?_, by rw [e1]; exact Rhe.whole _, ?_⟩
    · intro h
      have h1 := mul_le_of (Rat.le_of_lt (p2_pos (last + d))) (mag_ge k h0)
      rw [← p2_add] at h1
      have h2 := p2_mono (show last + f.fractionBits ≤ (k.log2 : Int) + (last + d) by have := hmax3 h; omega)
      grind
    · have h1 := mul_lt_of (p2_pos (last + d)) (mag_lt k)
      rw [← p2_add] at h1
      have h2 := p2_mono (show (k.log2 : Int) + 1 + (last + d) ≤ last + f.fractionBits + 1 by omega)
      grind
    · rw [p2_add, p2_nat]; push_cast; grind

/-! ### with a sign -/
def sval (s : Bool) (m : Nat) (e : Int) : Rat := if s then -((m : Rat) * p2 e) else (m : Rat) * p2 e
def dval : Datum → Rat
  | .number s m e => sval s m e
  | _ => 0
/-- The word stands for a finite number. -/
def Num (f : Format) (x : Nat) : Prop := ∃ s m e, f.read x = .number s m e
/-- What number it is. -/
def V (f : Format) (x : Nat) : Rat := dval (f.read x)
/-- 'r' is 'v' rounded. -/
def SRd (f : Format) (v r : Rat) : Prop := (0 ≤ v ∧ Rd f v r) ∨ (v ≤ 0 ∧ Rd f (-v) (-r))

theorem SRd.mono {f : Format} {v w r t : Rat} (h1 : SRd f v r) (h2 : SRd f w t) (h : v ≤ w) : r ≤ t := by
  rcases h1 with ⟨a, h1⟩ | ⟨a, h1⟩ <;> rcases h2 with ⟨b, h2⟩ | ⟨b, h2⟩
  · exact h1.mono h2 h
  · have e1 : v = 0 := by grind
    have e2 : w = 0 := by grind
    subst e1 e2
    have g1 := h1.unique (rd_zero f)
    have g2 := h2.unique (by simpa using rd_zero f)
    grind
  · have g1 := h1.nonneg
    have g2 := h2.nonneg
    grind
  · have := h2.mono h1 (by grind)
    grind
theorem SRd.unique {f : Format} {v r t : Rat} (h1 : SRd f v r) (h2 : SRd f v t) : r = t := by
  have a := h1.mono h2 Rat.le_refl
  have b := h2.mono h1 Rat.le_refl
  grind
theorem SRd.self (f : Format) (s : Bool) (k : Nat) (e : Int) (he : f.leastPlace ≤ e) (hk : k < 2 * f.binade) : SRd f (sval s k e) (sval s k e) := by
  have h := Rd.self f k e he hk
  have h0 : 0 ≤ (k : Rat) * p2 e := Rat.mul_nonneg (by exact_mod_cast Nat.zero_le _) (Rat.le_of_lt (p2_pos _))
  unfold sval
  cases s
  · exact Or.inl ⟨by simpa using h0, by simpa using h⟩
  · refine Or.inr ⟨?_, ?_⟩
    · simp only [if_true]; grind
    · simp only [if_true]
      rw [show - -((k : Rat) * p2 e) = (k : Rat) * p2 e by grind]
      exact h
theorem SRd.exact {f : Format} {s : Bool} {k : Nat} {e : Int} {r : Rat} (h : SRd f (sval s k e) r) (he : f.leastPlace ≤ e) (hk : k < 2 * f.binade) : r = sval s k e :=
  h.unique (SRd.self f s k e he hk)
theorem SRd.zero {f : Format} {r : Rat} (h : SRd f 0 r) : r = 0 := h.unique (Or.inl ⟨Rat.le_refl, rd_zero f⟩)
theorem SRd.nonneg {f : Format} {v r : Rat} (h : SRd f v r) (hv : 0 ≤ v) : 0 ≤ r := SRd.mono (Or.inl ⟨Rat.le_refl, rd_zero f⟩) h hv
theorem SRd.nonpos {f : Format} {v r : Rat} (h : SRd f v r) (hv : v ≤ 0) : r ≤ 0 := SRd.mono h (Or.inl ⟨Rat.le_refl, rd_zero f⟩) hv
theorem SRd.neg {f : Format} {v r : Rat} (h : SRd f v r) : SRd f (-v) (-r) := by
  rcases h with ⟨a, h⟩ | ⟨a, h⟩
  · refine Or.inr ⟨by grind, ?_⟩
    rw [show - -v = v by grind, show - -r = r by grind]; exact h
  · exact Or.inl ⟨by grind, h⟩
/-- bounds by what the format has -/
theorem SRd.le {f : Format} {v r : Rat} (h : SRd f v r) (k : Nat) (e : Int) (he : f.leastPlace ≤ e) (hk : k < 2 * f.binade) (hv : v ≤ (k : Rat) * p2 e) : r ≤ (k : Rat) * p2 e := by
  have := SRd.self f false k e he hk
  exact h.mono this (by simpa [sval] using hv)
theorem SRd.ge {f : Format} {v r : Rat} (h : SRd f v r) (k : Nat) (e : Int) (he : f.leastPlace ≤ e) (hk : k < 2 * f.binade) (hv : (k : Rat) * p2 e ≤ v) : (k : Rat) * p2 e ≤ r := by
  have := SRd.self f false k e he hk
  exact SRd.mono this h (by simpa [sval] using hv)
theorem SRd.le_p2 {f : Format} {v r : Rat} (h : SRd f v r) (e : Int) (he : f.leastPlace ≤ e) (hv : v ≤ p2 e) : r ≤ p2 e := by
  have := h.le 1 e he (by have := binade_pos f; omega) (by simpa using hv)
  simpa using this
theorem SRd.ge_p2 {f : Format} {v r : Rat} (h : SRd f v r) (e : Int) (he : f.leastPlace ≤ e) (hv : -(p2 e) ≤ v) : -(p2 e) ≤ r := by
  have := h.neg.le_p2 e he (by grind)
  grind
/-- how far rounding leads away -/
theorem SRd.err {f : Format} {v r : Rat} (h : SRd f v r) (b : Rat) (h1 : v ≤ b) (h2 : -b ≤ v) : 2 * (r - v) ≤ b * p2 (-(f.fractionBits : Int)) + p2 f.leastPlace ∧ 2 * (v - r) ≤ b * p2 (-(f.fractionBits : Int)) + p2 f.leastPlace := by
  have hp := p2_pos (-(f.fractionBits : Int))
  rcases h with ⟨a, h⟩ | ⟨a, h⟩
  · obtain ⟨c1, c2⟩ := h.err a
    have := mul_le_of (Rat.le_of_lt hp) h1
    constructor <;> grind
  · obtain ⟨c1, c2⟩ := h.err (by grind)
    have := mul_le_of (Rat.le_of_lt hp) (show -v ≤ b by grind)
    constructor <;> grind

theorem write_num (f : Format) (hf : 2 ≤ f.exponentBits) (s : Bool) (m : Nat) (e : Int) (h : (m : Rat) * p2 e < p2 (reach f)) :
    Num f (f.write (.number s m e)) ∧ SRd f (sval s m e) (V f (f.write (.number s m e))) := by
  obtain ⟨m', e', h1, h2⟩ := nearest_rd f hf s m e h
  unfold Format.write
  refine ⟨⟨_, _, _, h1⟩, ?_⟩
  unfold V
  simp only [h1, dval]
  have h0 : 0 ≤ (m : Rat) * p2 e := Rat.mul_nonneg (by exact_mod_cast Nat.zero_le _) (Rat.le_of_lt (p2_pos _))
  unfold sval
  cases s
  · exact Or.inl ⟨by simpa using h0, by simpa using h2⟩
  · refine Or.inr ⟨?_, ?_⟩
    · simp only [if_true]; grind
    · simp only [if_true]
      rw [show - -((m : Rat) * p2 e) = (m : Rat) * p2 e by grind, show - -((m' : Rat) * p2 e') = (m' : Rat) * p2 e' by grind]
      exact h2

theorem signed_val (s : Bool) (m : Nat) (i base : Int) (h : base ≤ i) : ((signed s m (i - base).toNat : Int) : Rat) * p2 base = sval s m i := by
  obtain ⟨d, rfl⟩ : ∃ d : Nat, i = base + d := ⟨(i - base).toNat, by omega⟩
  rw [show (base + (d : Int) - base).toNat = d by omega]
  unfold signed sval
  rw [Nat.shiftLeft_eq, p2_add, p2_nat]
  cases s
  · simp only [Bool.false_eq_true, if_false]; push_cast; grind
  · simp only [if_true]; push_cast; grind

theorem natAbs_val (t : Int) (b : Bool) (hb : t ≠ 0 → b = decide (t < 0)) (base : Int) : sval b t.natAbs base = (t : Rat) * p2 base := by
  unfold sval
  by_cases h0 : t = 0
  · subst h0; cases b <;> simp
  · rw [hb h0]
    by_cases hn : t < 0
    · simp only [hn, decide_true, if_true]
      obtain ⟨n, rfl⟩ : ∃ n : Nat, t = -(n : Int) := ⟨t.natAbs, by omega⟩
      rw [Int.natAbs_neg, Int.natAbs_natCast]
      push_cast; grind
    · simp only [hn, decide_false, Bool.false_eq_true, if_false]
      obtain ⟨n, rfl⟩ : ∃ n : Nat, t = (n : Int) := ⟨t.natAbs, by omega⟩
      rw [Int.natAbs_natCast]
      push_cast; rfl

theorem sum_val (s t : Bool) (m n : Nat) (i j : Int) : ∃ b k base, Datum.sum (.number s m i) (.number t n j) = some (.number b k base) ∧ sval b k base = sval s m i + sval t n j := by
  refine ⟨_, _, _, rfl, ?_⟩
  rw [natAbs_val _ _ (fun h => if_neg h)]
  push_cast
  have h1 := signed_val s m i (min i j) (by omega)
  have h2 := signed_val t n j (min i j) (by omega)
  grind

theorem V_of {f : Format} {x : Nat} {s : Bool} {m : Nat} {e : Int} (h : f.read x = .number s m e) : V f x = sval s m e := by unfold V; rw [h]; rfl
theorem sval_abs (s : Bool) (m : Nat) (e : Int) (b : Rat) (h1 : sval s m e < b) (h2 : -b < sval s m e) : (m : Rat) * p2 e < b := by
  unfold sval at h1 h2
  cases s <;> simp at h1 h2 <;> grind
theorem sval_opp (s : Bool) (m : Nat) (e : Int) : sval (!s) m e = -sval s m e := by
  unfold sval; cases s <;> simp

theorem add_num {f : Format} (hf : 2 ≤ f.exponentBits) {x y : Nat} (hx : Num f x) (hy : Num f y) (h1 : V f x + V f y < p2 (reach f)) (h2 : -(p2 (reach f)) < V f x + V f y) :
    ∃ z, f.add x y = some z ∧ Num f z ∧ SRd f (V f x + V f y) (V f z) := by
  obtain ⟨s, m, i, hx⟩ := hx
  obtain ⟨t, n, j, hy⟩ := hy
  rw [V_of hx, V_of hy] at h1 h2 ⊢
  unfold Format.add
  rw [hx, hy]
  obtain ⟨b, k, base, e1, e2⟩ := sum_val s t m n i j
  rw [← e2] at h1 h2 ⊢
  rw [e1]
  have hw := write_num f hf b k base (sval_abs b k base _ h1 h2)
  exact ⟨_, rfl, hw⟩

theorem sub_num {f : Format} (hf : 2 ≤ f.exponentBits) {x y : Nat} (hx : Num f x) (hy : Num f y) (h1 : V f x - V f y < p2 (reach f)) (h2 : -(p2 (reach f)) < V f x - V f y) :
    ∃ z, f.sub x y = some z ∧ Num f z ∧ SRd f (V f x - V f y) (V f z) := by
  obtain ⟨s, m, i, hx⟩ := hx
  obtain ⟨t, n, j, hy⟩ := hy
  rw [V_of hx, V_of hy] at h1 h2 ⊢
  unfold Format.sub
  rw [hx, hy]
  obtain ⟨b, k, base, e1, e2⟩ := sum_val s (!t) m n i j
  rw [sval_opp, show sval s m i + -sval t n j = sval s m i - sval t n j by grind] at e2
  rw [← e2] at h1 h2 ⊢
  simp only [Datum.opposite]
  rw [e1]
  have hw := write_num f hf b k base (sval_abs b k base _ h1 h2)
  exact ⟨_, rfl, hw⟩

theorem sval_mul (s t : Bool) (m n : Nat) (i j : Int) : sval (s ^^ t) (m * n) (i + j) = sval s m i * sval t n j := by
  unfold sval
  rw [p2_add]
  cases s <;> cases t <;> simp <;> grind

theorem mul_num {f : Format} (hf : 2 ≤ f.exponentBits) {x y : Nat} (hx : Num f x) (hy : Num f y) (h1 : V f x * V f y < p2 (reach f)) (h2 : -(p2 (reach f)) < V f x * V f y) :
    ∃ z, f.mul x y = some z ∧ Num f z ∧ SRd f (V f x * V f y) (V f z) := by
  obtain ⟨s, m, i, hx⟩ := hx
  obtain ⟨t, n, j, hy⟩ := hy
  rw [V_of hx, V_of hy] at h1 h2 ⊢
  unfold Format.mul
  rw [hx, hy]
  simp only [Datum.product]
  rw [← sval_mul] at h1 h2 ⊢
  have hw := write_num f hf (s ^^ t) (m * n) (i + j) (sval_abs (s ^^ t) (m * n) (i + j) _ h1 h2)
  exact ⟨_, rfl, hw⟩

theorem order_num {f : Format} {x y : Nat} (hx : Num f x) (hy : Num f y) : f.order x y = some (if V f x < V f y then .lt else if V f x = V f y then .eq else .gt) := by
  obtain ⟨s, m, i, hx⟩ := hx
  obtain ⟨t, n, j, hy⟩ := hy
  rw [V_of hx, V_of hy]
  unfold Format.order
  rw [hx, hy]
  simp only [Datum.order]
  have h1 := signed_val s m i (min i j) (by omega)
  have h2 := signed_val t n j (min i j) (by omega)
  rw [← h1, ← h2]
  generalize signed s m (i - min i j).toNat = a
  generalize signed t n (j - min i j).toNat = b
  have hp := p2_pos (min i j)
  congr 1
  rcases Int.lt_trichotomy a b with h | h | h
  · have h' : (a : Rat) < (b : Rat) := by exact_mod_cast h
    have := mul_lt_of hp h'
    rw [if_pos this]
    simp [compare, compareOfLessAndEq, h]
  · subst h
    rw [if_neg (by grind), if_pos rfl]
    simp [compare, compareOfLessAndEq]
  · have h' : (b : Rat) < (a : Rat) := by exact_mod_cast h
    have := mul_lt_of hp h'
    rw [if_neg (by grind), if_neg (by grind)]
    simp [compare, compareOfLessAndEq, show ¬ a < b by omega, show ¬ a = b by omega]

theorem floor_cmp (D n : Nat) (hn : 0 < n) (x : Rat) (hx : x * (n : Rat) = (D : Rat)) (y : Rat) (hy : 2 * y = 2 * ((D / n : Nat) : Rat) + ((D % n != 0).toNat : Nat)) (k : Nat) :
    (y < (k : Rat) ↔ x < (k : Rat)) ∧ ((k : Rat) < y ↔ (k : Rat) < x) := by
  have hdm := Nat.div_add_mod D n
  have hm := Nat.mod_lt D hn
  generalize hq : D / n = q at *
  generalize hr : D % n = r at *
  have hn' : (0 : Rat) < (n : Rat) := by exact_mod_cast hn
  have hD : (D : Rat) = (n : Rat) * q + r := by exact_mod_cast hdm.symm
  by_cases h0 : r = 0
  · subst h0
    have e1 : y = (q : Rat) := by simp at hy; grind
    have e2 : x * (n : Rat) = (q : Rat) * (n : Rat) := by rw [hx, hD]; simp; grind
    have e3 : x = (q : Rat) := by
      have a := le_of_mul hn' (show x * (n : Rat) ≤ (q : Rat) * (n : Rat) by grind)
      have b := le_of_mul hn' (show (q : Rat) * (n : Rat) ≤ x * (n : Rat) by grind)
      grind
    rw [e1, e3]; exact ⟨Iff.rfl, Iff.rfl⟩
  · have e0 : ((r != 0).toNat : Nat) = 1 := by simp [h0]
    rw [e0] at hy
    have e1 : 2 * y = 2 * (q : Rat) + 1 := by simpa using hy
    have hr1 : (0 : Rat) < (r : Rat) := by exact_mod_cast Nat.pos_of_ne_zero h0
    have hr2 : (r : Rat) < (n : Rat) := by exact_mod_cast hm
    have a : (q : Rat) < x := lt_of_mul hn' (by rw [hx, hD]; grind)
    have b : x < (q : Rat) + 1 := lt_of_mul hn' (by rw [hx, hD]; grind)
    by_cases hk : k ≤ q
    · have hk' : (k : Rat) ≤ (q : Rat) := by exact_mod_cast hk
      refine ⟨⟨fun h => ?_, fun h => ?_⟩, ⟨fun h => ?_, fun h => ?_⟩⟩ <;> grind
    · have hk' : (q : Rat) + 1 ≤ (k : Rat) := by exact_mod_cast (show q + 1 ≤ k by omega)
      refine ⟨⟨fun h => ?_, fun h => ?_⟩, ⟨fun h => ?_, fun h => ?_⟩⟩ <;> grind

theorem div_zero_num {f : Format} (hf : 2 ≤ f.exponentBits) {x y : Nat} (hx : Num f x) (hy : Num f y) (hy0 : V f y ≠ 0) (hx0 : V f x = 0) :
    ∃ z, f.div x y = some z ∧ Num f z ∧ V f z = 0 := by
  obtain ⟨s, m, i, hx⟩ := hx
  obtain ⟨t, n, j, hy⟩ := hy
  rw [V_of hx] at hx0
  rw [V_of hy] at hy0
  have hm : m = 0 := by
    unfold sval at hx0
    have hp := p2_pos i
    by_cases hm : m = 0
    · exact hm
    · exfalso
      have hm' : (0 : Rat) < (m : Rat) := by exact_mod_cast Nat.pos_of_ne_zero hm
      have := Rat.mul_pos hm' hp
      cases s <;> simp at hx0 <;> grind
  have hn : n ≠ 0 := by
    intro h; subst h; apply hy0; unfold sval; cases t <;> simp
  subst hm
  unfold Format.div
  rw [hx, hy]
  simp only [Datum.quotient, if_neg hn, Nat.zero_shiftLeft, Nat.zero_div, Nat.zero_mod]
  have hw := write_num f hf (s ^^ t) 0 (i - j - ((f.fractionBits + 2 + n.log2 - Nat.log2 0 : Nat)) - 1) (by simp; exact p2_pos _)
  refine ⟨_, rfl, ?_⟩
  refine ⟨hw.1, ?_⟩
  have h2 := hw.2
  have h3 : sval (s ^^ t) 0 (i - j - ((f.fractionBits + 2 + n.log2 - Nat.log2 0 : Nat)) - 1) = 0 := by unfold sval; simp
  rw [h3] at h2
  exact h2.zero

theorem div_num {f : Format} (hf : 2 ≤ f.exponentBits) {x y : Nat} (hx : Num f x) (hy : Num f y) (q : Rat) (hq : q * V f y = V f x) (hy0 : V f y ≠ 0) (h1 : 2 * q < p2 (reach f)) (h2 : -(p2 (reach f)) < 2 * q) :
    ∃ z, f.div x y = some z ∧ Num f z ∧ SRd f q (V f z) := by
  by_cases hx0 : V f x = 0
  · obtain ⟨z, a, b, c⟩ := div_zero_num hf hx hy hy0 hx0
    refine ⟨z, a, b, ?_⟩
    have hq0 : q = 0 := by
      rw [hx0] at hq
      have hmz : q = 0 ∨ V f y = 0 := Rat.mul_eq_zero.1 hq
      exact hmz.resolve_right hy0
    subst hq0
    rw [c]; exact Or.inl ⟨Rat.le_refl, rd_zero f⟩
  · obtain ⟨s, m, i, hx⟩ := hx
    obtain ⟨t, n, j, hy⟩ := hy
    rw [V_of hx] at hq hx0
    rw [V_of hy] at hq hy0
    have hm : m ≠ 0 := by intro h; subst h; apply hx0; unfold sval; cases s <;> simp
    have hn : n ≠ 0 := by intro h; subst h; apply hy0; unfold sval; cases t <;> simp
    unfold Format.div
    rw [hx, hy]
    simp only [Datum.quotient, if_neg hn]
    generalize hmore : f.fractionBits + 2 + n.log2 - m.log2 = more
    generalize hD : m <<< more = D
    have hDv : (D : Rat) = (m : Rat) * p2 (more : Int) := by
      rw [← hD, Nat.shiftLeft_eq, p2_nat]; push_cast; rfl
    have hn' : (0 : Rat) < (n : Rat) := by exact_mod_cast Nat.pos_of_ne_zero hn
    -- the amount of the quotient
    have hpi := p2_inv j
    have hpm := p2_inv (more : Int)
    obtain ⟨X, hX⟩ : ∃ X : Rat, X * (n : Rat) = (D : Rat) := ⟨(D : Rat) / (n : Rat), by
      rw [Rat.div_mul_cancel]; grind⟩
    generalize hu : i - j - (more : Int) = u
    have hpu : p2 u = p2 i * p2 (-j) * p2 (-(more : Int)) := by
      rw [← p2_add, ← p2_add]; congr 1; omega
    have hXq : sval (s ^^ t) 1 0 * (X * p2 u) = q := by
      have hone : sval (s ^^ t) 1 0 * sval t 1 0 = sval s 1 0 := by
        unfold sval; rw [p2_zero]; cases s <;> cases t <;> simp <;> decide +kernel
      have hsq : sval t 1 0 * sval t 1 0 = 1 := by
        unfold sval; rw [p2_zero]; cases t <;> simp <;> decide +kernel
      have hs1 : sval s m i = sval s 1 0 * ((m : Rat) * p2 i) := by
        unfold sval; rw [p2_zero]; cases s <;> simp <;> grind
      have hs2 : sval t n j = sval t 1 0 * ((n : Rat) * p2 j) := by
        unfold sval; rw [p2_zero]; cases t <;> simp <;> grind
      rw [hs1, hs2] at hq
      have hmul : sval (s ^^ t) 1 0 * (X * p2 u) * ((n : Rat) * p2 j) = q * ((n : Rat) * p2 j) := by
        have e1 : X * p2 u * ((n : Rat) * p2 j) = (m : Rat) * p2 i := by
          rw [hpu]
          have : X * (p2 i * p2 (-j) * p2 (-(more : Int))) * ((n : Rat) * p2 j) = (X * (n : Rat)) * p2 i * (p2 j * p2 (-j)) * p2 (-(more : Int)) := by grind
          rw [this, hX, hDv, hpi]
          grind
        have e2 : q * ((n : Rat) * p2 j) = sval t 1 0 * (sval s 1 0 * ((m : Rat) * p2 i)) := by
          rw [← hq]; grind
        rw [e2, ← hone, Rat.mul_assoc, e1]
        grind
      have hpos : (0 : Rat) < (n : Rat) * p2 j := Rat.mul_pos hn' (p2_pos j)
      have a := le_of_mul hpos (show sval (s ^^ t) 1 0 * (X * p2 u) * ((n : Rat) * p2 j) ≤ q * ((n : Rat) * p2 j) by grind)
      have b := le_of_mul hpos (show q * ((n : Rat) * p2 j) ≤ sval (s ^^ t) 1 0 * (X * p2 u) * ((n : Rat) * p2 j) by grind)
      grind
    have hX0 : 0 ≤ X := by
      have : 0 * (n : Rat) ≤ X * (n : Rat) := by rw [hX]; simp; exact_mod_cast Nat.zero_le D
      exact le_of_mul hn' this
    have hpu0 := p2_pos u
    -- the stand-in
    have hpu1 : p2 (u - 1) * 2 = p2 u := by
      have := p2_succ (u - 1); rw [show u - 1 + 1 = u by omega] at this; grind
    generalize hS : 2 * (D / n) + (D % n != 0).toNat = S
    obtain ⟨Y, hY⟩ : ∃ Y : Rat, 2 * Y = (S : Rat) := ⟨(S : Rat) / 2, by grind⟩
    have hYv : (S : Rat) * p2 (u - 1) = Y * p2 u := by rw [← hpu1, ← hY]; grind
    have hY2 : 2 * Y = 2 * ((D / n : Nat) : Rat) + ((D % n != 0).toNat : Nat) := by
      rw [hY, ← hS]; push_cast; rfl
    have hcmp := floor_cmp D n (Nat.pos_of_ne_zero hn) X hX Y hY2
    -- its size
    have hbig : 2 ^ (f.fractionBits + 1) ≤ D / n := by
      rw [Nat.le_div_iff_mul_le (Nat.pos_of_ne_zero hn)]
      have h3 : n < 2 ^ (n.log2 + 1) := Nat.lt_log2_self
      have h4 : 2 ^ m.log2 ≤ m := Nat.log2_self_le hm
      have h5 : 2 ^ (f.fractionBits + 1) * n ≤ 2 ^ (f.fractionBits + 1) * 2 ^ (n.log2 + 1) := Nat.mul_le_mul_left _ (by omega)
      rw [← Nat.pow_add] at h5
      have h6 : 2 ^ m.log2 * 2 ^ more ≤ D := by rw [← hD, Nat.shiftLeft_eq]; exact Nat.mul_le_mul_right _ h4
      rw [← Nat.pow_add] at h6
      have h7 : 2 ^ (f.fractionBits + 1 + (n.log2 + 1)) ≤ 2 ^ (m.log2 + more) := Nat.pow_le_pow_right (by omega) (by omega)
      omega
    have hYbig : p2 (u + f.fractionBits + 1) ≤ Y * p2 u := by
      have h8 : p2 ((f.fractionBits : Int) + 1) ≤ ((D / n : Nat) : Rat) := by
        rw [show ((f.fractionBits : Int) + 1) = ((f.fractionBits + 1 : Nat) : Int) by push_cast; rfl, p2_nat]
        exact_mod_cast hbig
      have h9 : (0 : Rat) ≤ (((D % n != 0).toNat : Nat) : Rat) := by exact_mod_cast Nat.zero_le _
      have h10 : p2 ((f.fractionBits : Int) + 1) ≤ Y := by grind
      have h11 := mul_le_of (Rat.le_of_lt hpu0) h10
      rw [← p2_add, show (f.fractionBits : Int) + 1 + u = u + f.fractionBits + 1 by omega] at h11
      exact h11
    have hYX : Y ≤ 2 * X := by
      have hk := (hcmp (D / n)).2
      have hk1 := hcmp (D / n + 1)
      have hd0 : (1 : Rat) ≤ ((D / n : Nat) : Rat) := by
        have : 1 ≤ D / n := by have := Nat.one_le_two_pow (n := f.fractionBits + 1); omega
        exact_mod_cast this
      have hXd : ((D / n : Nat) : Rat) ≤ X := by
        refine le_of_mul hn' ?_
        rw [hX]
        have := Nat.div_mul_le_self D n
        exact_mod_cast this
      have h9 : (((D % n != 0).toNat : Nat) : Rat) ≤ 1 := by
        exact_mod_cast (show (D % n != 0).toNat ≤ 1 by cases (D % n != 0) <;> simp)
      grind
    have hqa : X * p2 u ≤ q ∨ X * p2 u ≤ -q := by
      rw [← hXq]; unfold sval; rw [p2_zero]
      cases (s ^^ t) <;> simp <;> grind
    have hreach : (S : Rat) * p2 (u - 1) < p2 (reach f) := by
      rw [hYv]
      have := mul_le_of (Rat.le_of_lt hpu0) hYX
      rcases hqa with h | h <;> grind
    have hw := write_num f hf (s ^^ t) S (u - 1) hreach
    refine ⟨_, rfl, hw.1, ?_⟩
    -- the rounding of the exact quotient
    have hst : ∀ r, Rd f (Y * p2 u) r → Rd f (X * p2 u) r := by
      intro r hr
      refine Rd.sticky (Rat.mul_nonneg hX0 (Rat.le_of_lt hpu0)) hr hYbig (fun k => ?_) (fun k => ?_)
      · constructor
        · intro h; exact mul_lt_of hpu0 ((hcmp k).1.1 (lt_of_mul hpu0 h))
        · intro h; exact mul_lt_of hpu0 ((hcmp k).1.2 (lt_of_mul hpu0 h))
      · constructor
        · intro h; exact mul_lt_of hpu0 ((hcmp k).2.1 (lt_of_mul hpu0 h))
        · intro h; exact mul_lt_of hpu0 ((hcmp k).2.2 (lt_of_mul hpu0 h))
    have hYpos : 0 < Y * p2 u := by have := p2_pos (u + f.fractionBits + 1); grind
    have hXpos : 0 ≤ X * p2 u := Rat.mul_nonneg hX0 (Rat.le_of_lt hpu0)
    have h2 := hw.2
    have hsv : sval (s ^^ t) S (u - 1) = sval (s ^^ t) 1 0 * (Y * p2 u) := by
      rw [← hYv]; unfold sval; rw [p2_zero]; cases (s ^^ t) <;> simp <;> grind
    rw [hsv] at h2
    rw [← hXq]
    have hone : sval (s ^^ t) 1 0 = 1 ∨ sval (s ^^ t) 1 0 = -1 := by
      unfold sval; rw [p2_zero]; cases (s ^^ t) <;> simp
    rcases hone with h | h
    · rw [h] at h2 ⊢
      rcases h2 with ⟨a, h2⟩ | ⟨a, h2⟩
      · rw [show (1 : Rat) * (Y * p2 u) = Y * p2 u by grind] at h2
        rw [show (1 : Rat) * (X * p2 u) = X * p2 u by grind]
        exact Or.inl ⟨hXpos, hst _ h2⟩
      · exfalso; grind
    · rw [h] at h2 ⊢
      rcases h2 with ⟨a, h2⟩ | ⟨a, h2⟩
      · exfalso; grind
      · rw [show -((-1 : Rat) * (Y * p2 u)) = Y * p2 u by grind] at h2
        refine Or.inr ⟨by grind, ?_⟩
        rw [show -((-1 : Rat) * (X * p2 u)) = X * p2 u by grind]
        exact hst _ h2

/-! ### firmness alone: where an operation has an answer -/
def numB (f : Format) (x : Nat) : Bool := match f.read x with | .number .. => true | _ => false
theorem num_iff {f : Format} {x : Nat} : Num f x ↔ numB f x = true := by
  unfold Num numB
  constructor
  · rintro ⟨s, m, e, h⟩; rw [h]
  · intro h
    split at h
    · rename_i s m e he; exact ⟨s, m, e, he⟩
    · cases h
/-- no NaN -/
def Firm (f : Format) (x : Nat) : Prop := ∀ s t, f.read x ≠ .nan s t
theorem Num.firm {f : Format} {x : Nat} (h : Num f x) : Firm f x := by
  obtain ⟨s, m, e, h⟩ := h
  intro s' t h'; rw [h] at h'; cases h'
theorem sum_numbers (s t : Bool) (m n : Nat) (i j : Int) : ∃ b k base, Datum.sum (.number s m i) (.number t n j) = some (.number b k base) := ⟨_, _, _, rfl⟩
theorem add_some {f : Format} {x y : Nat} (hx : Num f x) (hy : Num f y) : (f.add x y).isSome = true := by
  obtain ⟨s, m, i, hx⟩ := hx
  obtain ⟨t, n, j, hy⟩ := hy
  unfold Format.add; rw [hx, hy]; rfl
theorem sub_some {f : Format} {x y : Nat} (hx : Num f x) (hy : Num f y) : (f.sub x y).isSome = true := by
  obtain ⟨s, m, i, hx⟩ := hx
  obtain ⟨t, n, j, hy⟩ := hy
  unfold Format.sub; rw [hx, hy]; rfl
theorem mul_some {f : Format} {x y : Nat} (hx : Num f x) (hy : Num f y) : (f.mul x y).isSome = true := by
  obtain ⟨s, m, i, hx⟩ := hx
  obtain ⟨t, n, j, hy⟩ := hy
  unfold Format.mul; rw [hx, hy]; rfl
theorem V_zero {f : Format} {x : Nat} {s : Bool} {m : Nat} {e : Int} (h : f.read x = .number s m e) : V f x = 0 ↔ m = 0 := by
  rw [V_of h]
  unfold sval
  have hp := p2_pos e
  constructor
  · intro h0
    by_cases hm : m = 0
    · exact hm
    · exfalso
      have hm' : (0 : Rat) < (m : Rat) := by exact_mod_cast Nat.pos_of_ne_zero hm
      have := Rat.mul_pos hm' hp
      cases s <;> simp at h0 <;> grind
  · intro h0; subst h0; cases s <;> simp
theorem div_some {f : Format} {x y : Nat} (hx : Num f x) (hy : Num f y) (h0 : V f y ≠ 0 ∨ V f x ≠ 0) : (f.div x y).isSome = true := by
  obtain ⟨s, m, i, hx⟩ := hx
  obtain ⟨t, n, j, hy⟩ := hy
  have h0 : n ≠ 0 ∨ m ≠ 0 := h0.imp (fun h e => h ((V_zero hy).2 e)) (fun h e => h ((V_zero hx).2 e))
  unfold Format.div; rw [hx, hy]
  simp only [Datum.quotient]
  by_cases hn : n = 0
  · rw [if_pos hn]
    by_cases hm : m = 0
    · omega
    · rw [if_neg hm]; rfl
  · rw [if_neg hn]; rfl
theorem binade_le_inf (f : Format) (hf : 2 ≤ f.exponentBits) : f.binade ≤ f.infRung := by
  unfold Format.infRung
  have : 2 ^ 2 ≤ 2 ^ f.exponentBits := Nat.pow_le_pow_right (by omega) hf
  exact Nat.le_mul_of_pos_left _ (by omega)
theorem read_word_inf (f : Format) (hf : 2 ≤ f.exponentBits) (s : Bool) : f.read (f.word s f.infRung) = .infinity s := by
  have hs := infRung_lt_sign f
  have hb := binade_le_inf f hf
  have e1 : (f.word s f.infRung / f.signWeight % 2 == 1) = s := by
    unfold Format.word
    cases s
    · simp [Nat.div_eq_of_lt hs]
    · simp only [if_true]
      rw [Nat.add_comm, Nat.add_div_right _ (by omega), Nat.div_eq_of_lt hs]
      rfl
  have e2 : f.word s f.infRung % f.signWeight = f.infRung := by
    unfold Format.word
    cases s <;> simp [Nat.mod_eq_of_lt hs]
  unfold Format.read
  simp only [e1, e2]
  rw [if_neg (by omega), if_neg (by omega), if_pos trivial]
/-- what is written of a number is never a NaN -/
theorem nearest_firm (f : Format) (hf : 2 ≤ f.exponentBits) (s : Bool) (m : Nat) (e : Int) : Firm f (f.nearest s m e) := by
  have key : ∀ r, Firm f (f.word s (min r f.infRung)) := by
    intro r s' t h
    by_cases hr : r < f.infRung
    · rw [Nat.min_eq_left (by omega), read_word f s r hr] at h; cases h
    · rw [Nat.min_eq_right (by omega), read_word_inf f hf] at h; cases h
  unfold Format.nearest
  split
  · have := key 0
    rwa [Nat.zero_min] at this
  · exact key _
theorem write_firm (f : Format) (hf : 2 ≤ f.exponentBits) (s : Bool) (m : Nat) (e : Int) : Firm f (f.write (.number s m e)) := nearest_firm f hf s m e
theorem mul_firm {f : Format} (hf : 2 ≤ f.exponentBits) {x y z : Nat} (hx : Num f x) (hy : Num f y) (h : f.mul x y = some z) : Firm f z := by
  obtain ⟨s, m, i, hx⟩ := hx
  obtain ⟨t, n, j, hy⟩ := hy
  unfold Format.mul at h; rw [hx, hy] at h
  simp only [Datum.product, Option.map_some, Option.some.injEq] at h
  rw [← h]; exact write_firm f hf _ _ _
theorem add_firm {f : Format} (hf : 2 ≤ f.exponentBits) {x y z : Nat} (hx : Num f x) (hy : Num f y) (h : f.add x y = some z) : Firm f z := by
  obtain ⟨s, m, i, hx⟩ := hx
  obtain ⟨t, n, j, hy⟩ := hy
  obtain ⟨b, k, base, e1⟩ := sum_numbers s t m n i j
  unfold Format.add at h; rw [hx, hy, e1] at h
  simp only [Option.map_some, Option.some.injEq] at h
  rw [← h]; exact write_firm f hf _ _ _
/-! ### which words stand for a number: read off the comparisons -/
theorem order_some_firm {f : Format} {x y : Nat} {o : Ordering} (h : f.order x y = some o) : Firm f x := by
  intro s t hx
  unfold Format.order at h
  rw [hx] at h
  simp [Datum.order] at h
/-- between two numbers lies a number -/
theorem num_between {f : Format} {x a b : Nat} (ha : Num f a) (hb : Num f b) (h1 : f.order x a = some .gt ∨ f.order x a = some .eq) (h2 : f.order x b = some .lt ∨ f.order x b = some .eq) : Num f x := by
  obtain ⟨s, m, i, ha⟩ := ha
  obtain ⟨t, n, j, hb⟩ := hb
  cases hx : f.read x with
  | number u k e => exact ⟨u, k, e, hx⟩
  | nan u k =>
    exfalso
    rcases h1 with h | h <;> (unfold Format.order at h; rw [hx] at h; simp [Datum.order] at h)
  | infinity u =>
    exfalso
    unfold Format.order at h1 h2
    rw [hx, ha] at h1
    rw [hx, hb] at h2
    cases u <;> simp [Datum.order] at h1 h2
theorem order_self {f : Format} {x : Nat} (h : Firm f x) : f.order x x = some .eq := by
  unfold Format.order
  cases hx : f.read x with
  | number u k e => simp [Datum.order, compare, compareOfLessAndEq]
  | nan u k => exact absurd hx (h u k)
  | infinity u => cases u <;> simp [Datum.order, compare, compareOfLessAndEq]
theorem order_nan {f : Format} {x : Nat} (h : ¬ Firm f x) (y : Nat) : f.order x y = none ∧ f.order y x = none := by
  unfold Firm at h
  simp only [ne_eq, Classical.not_forall, Classical.not_not] at h
  obtain ⟨s, t, h⟩ := h
  unfold Format.order
  rw [h]
  refine ⟨rfl, ?_⟩
  cases f.read y <;> rfl
end Go.Proofs.Ytjohpjmfnghkoaa.Fl
