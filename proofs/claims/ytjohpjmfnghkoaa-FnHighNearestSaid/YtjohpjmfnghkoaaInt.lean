/- 'int(x)' and 'math.Ceil' of floats that are neither below nought nor great. Nothing of the program. -/
import Derived.Test.YtjohpjmfnghkoaaBd
namespace Go.Proofs.Ytjohpjmfnghkoaa.It
open Go Ieee Kit Fl Bd
theorem gap_same (n d : Nat) : n / (1 <<< min d (n.log2 + 2)) = n / 2 ^ d ∧ (n % (1 <<< min d (n.log2 + 2)) ≠ 0 ↔ n % 2 ^ d ≠ 0) := by
  by_cases h : d ≤ n.log2 + 2
  · rw [Nat.min_eq_left h, Nat.one_shiftLeft]; exact ⟨rfl, Iff.rfl⟩
  · rw [Nat.min_eq_right (by omega), Nat.one_shiftLeft]
    have hn : n < 2 ^ (n.log2 + 1) := Nat.lt_log2_self
    have h1 : n < 2 ^ (n.log2 + 2) := Nat.lt_trans hn (Nat.pow_lt_pow_right (by omega) (by omega))
    have h2 : n < 2 ^ d := Nat.lt_trans h1 (Nat.pow_lt_pow_right (by omega) (by omega))
    rw [Nat.div_eq_of_lt h1, Nat.div_eq_of_lt h2, Nat.mod_eq_of_lt h1, Nat.mod_eq_of_lt h2]
    exact ⟨rfl, Iff.rfl⟩
theorem cut_zero (s : Bool) (n d : Nat) : Toward.zero.cut s n d = n / 2 ^ d := by
  unfold Toward.cut
  simp [(gap_same n d).1]
theorem cut_up (n d : Nat) : Toward.up.cut false n d = n / 2 ^ d + (n % 2 ^ d != 0).toNat := by
  unfold Toward.cut
  have h := (gap_same n d).2
  simp only [(gap_same n d).1]
  by_cases h0 : n % 2 ^ d = 0
  · have : n % (1 <<< min d (n.log2 + 2)) = 0 := by
      by_cases h1 : n % (1 <<< min d (n.log2 + 2)) = 0
      · exact h1
      · exact absurd h0 (h.1 h1)
    simp [h0, this]
  · have e1 : (n % (1 <<< min d (n.log2 + 2)) != 0) = true := bne_iff_ne.2 (h.2 h0)
    have e2 : (n % 2 ^ d != 0) = true := bne_iff_ne.2 h0
    simp [e1, e2]
theorem cut_none (w : Toward) (s : Bool) (d : Nat) : w.cut s 0 d = 0 := by
  unfold Toward.cut
  cases w <;> simp
/-- a whole number's parts under a power of two -/
theorem nat_parts (A d : Nat) (q : Rat) (hq : q * p2 (d : Int) = (A : Rat)) : ((A / 2 ^ d : Nat) : Rat) ≤ q ∧ q < ((A / 2 ^ d : Nat) : Rat) + 1 ∧ (((A / 2 ^ d : Nat) : Rat) < q ↔ A % 2 ^ d ≠ 0) := by
  have hp := p2_pos (d : Int)
  have hA : (A : Rat) = ((A / 2 ^ d : Nat) : Rat) * p2 (d : Int) + ((A % 2 ^ d : Nat) : Rat) := by
    rw [p2_nat]
    exact_mod_cast (by rw [Nat.mul_comm]; exact (Nat.div_add_mod A (2 ^ d)).symm)
  have hr : ((A % 2 ^ d : Nat) : Rat) < p2 (d : Int) := by
    rw [p2_nat]; exact_mod_cast Nat.mod_lt A (Nat.two_pow_pos d)
  have h0 : (0 : Rat) ≤ ((A % 2 ^ d : Nat) : Rat) := by exact_mod_cast Nat.zero_le _
  rw [hA] at hq
  refine ⟨?_, ?_, ?_, ?_⟩
  · refine le_of_mul hp ?_
    grind
  · refine lt_of_mul hp ?_
    grind
  · intro h hz
    have := mul_lt_of hp h
    rw [hz] at hq
    have : ((0 : Nat) : Rat) = 0 := rfl
    grind
  · intro h
    refine lt_of_mul hp ?_
    have : (0 : Rat) < ((A % 2 ^ d : Nat) : Rat) := by exact_mod_cast Nat.pos_of_ne_zero h
    grind
theorem parts_val (m : Nat) (e : Int) : (m : Rat) * p2 e * p2 ((-e).toNat : Int) = ((m <<< e.toNat : Nat) : Rat) := by
  have h := shift_val m e 0
  simp only [Int.sub_zero, Int.zero_sub, Int.neg_zero, p2_zero, Rat.mul_one] at h
  rw [← h, Rat.mul_assoc, ← p2_add, show (-(((-e).toNat : Nat) : Int) + ((-e).toNat : Int)) = 0 by omega, p2_zero, Rat.mul_one]
/-- what reads as a number that is not below nought -/
theorem read_nonneg {f : Format} {x : Nat} (hx : Num f x) (h0 : 0 ≤ V f x) : ∃ s m e, f.read x = .number s m e ∧ V f x = (m : Rat) * p2 e ∧ (s = true → m = 0) := by
  obtain ⟨s, m, e, hr⟩ := hx
  refine ⟨s, m, e, hr, ?_⟩
  rw [V_of hr] at h0 ⊢
  have hp := p2_pos e
  cases s
  · exact ⟨rfl, fun h => by cases h⟩
  · have hm : m = 0 := by
      by_cases hm : m = 0
      · exact hm
      · have : (0 : Rat) < (m : Rat) := by exact_mod_cast Nat.pos_of_ne_zero hm
        have := Rat.mul_pos this hp
        simp [sval] at h0
        grind
    subst hm
    refine ⟨?_, fun _ => rfl⟩
    simp [sval]
theorem signed_nat (s : Bool) (n : Nat) (h : s = true → n = 0) : signed s n 0 = (n : Int) := by
  cases s
  · simp [signed]
  · rw [h rfl]; rfl
/-- 'int(x)', in numbers -/
theorem toInt_zero {f : Format} {x : Nat} (hx : Num f x) (h0 : 0 ≤ V f x) : ∃ n : Nat, (f.read x).toInt .zero = some (n : Int) ∧ (n : Rat) ≤ V f x ∧ V f x < (n : Rat) + 1 := by
  obtain ⟨s, m, e, hr, hv, hs⟩ := read_nonneg hx h0
  obtain ⟨p1, p3, _⟩ := nat_parts (m <<< e.toNat) (-e).toNat (V f x) (by rw [hv]; exact parts_val m e)
  refine ⟨_, ?_, p1, p3⟩
  rw [hr]
  simp only [Datum.toInt, Datum.integral, cut_zero, Option.some.injEq]
  exact signed_nat _ _ (fun h => by rw [hs h]; simp)
/-- math.Ceil's word -/
def ceilB (x : Nat) : Nat := FloatKind.f64.encode ((FloatKind.f64.decode x).integral .up)
theorem ceil_num {x : Nat} (hx : Num FloatKind.f64.format x) (h0 : 0 ≤ V FloatKind.f64.format x) (h1 : V FloatKind.f64.format x ≤ 10000000) (n : Nat) (hn1 : (n : Rat) ≤ V FloatKind.f64.format x) (hn2 : V FloatKind.f64.format x < (n : Rat) + 1) :
    Num FloatKind.f64.format (ceilB x) ∧ V FloatKind.f64.format (ceilB x) = (((if (n : Rat) < V FloatKind.f64.format x then n + 1 else n : Nat)) : Rat) := by
  obtain ⟨s, m, e, hr, hv, hs⟩ := read_nonneg hx h0
  obtain ⟨p1, p2', p3⟩ := nat_parts (m <<< e.toNat) (-e).toNat (V FloatKind.f64.format x) (by rw [hv]; exact parts_val m e)
  have hN : (m <<< e.toNat) / 2 ^ (-e).toNat = n := by
    have a : (((m <<< e.toNat) / 2 ^ (-e).toNat : Nat) : Rat) < (n : Rat) + 1 := by grind
    have b : (n : Rat) < (((m <<< e.toNat) / 2 ^ (-e).toNat : Nat) : Rat) + 1 := by grind
    have a' : (m <<< e.toNat) / 2 ^ (-e).toNat < n + 1 := by exact_mod_cast a
    have b' : n < (m <<< e.toNat) / 2 ^ (-e).toNat + 1 := by exact_mod_cast b
    omega
  rw [hN] at p1 p2' p3
  have hnb : n ≤ 10000000 := by
    have : (n : Rat) ≤ ((10000000 : Nat) : Rat) := by grind
    exact_mod_cast this
  have hC : Toward.up.cut s (m <<< e.toNat) (-e).toNat = if (n : Rat) < V FloatKind.f64.format x then n + 1 else n := by
    cases s
    · rw [cut_up, hN]
      by_cases h : (n : Rat) < V FloatKind.f64.format x
      · rw [if_pos h]
        simp [p3.1 h]
      · rw [if_neg h]
        have : (m <<< e.toNat) % 2 ^ (-e).toNat = 0 := by
          by_cases hz : (m <<< e.toNat) % 2 ^ (-e).toNat = 0
          · exact hz
          · exact absurd (p3.2 hz) h
        simp [this]
    · have hm := hs rfl
      subst hm
      have : n = 0 := by rw [← hN]; simp
      subst this
      have hv0 : V FloatKind.f64.format x = 0 := by rw [hv]; simp
      rw [hv0]
      simp [cut_none]
  have hB : (if (n : Rat) < V FloatKind.f64.format x then n + 1 else n) ≤ 10000001 := by split <;> omega
  have hs0 : s = true → (if (n : Rat) < V FloatKind.f64.format x then n + 1 else n) = 0 := fun h => by
    rw [← hC, hs h]; simp [cut_none]
  have he : ceilB x = FloatKind.f64.format.write (.number s (if (n : Rat) < V FloatKind.f64.format x then n + 1 else n) 0) := by
    unfold ceilB FloatKind.encode FloatKind.decode
    rw [hr]
    simp only [Datum.integral, hC]
  generalize (if (n : Rat) < V FloatKind.f64.format x then n + 1 else n) = c at hB hs0 he ⊢
  have hw := write_num FloatKind.f64.format (Sm.kx .f64) s c 0 (by
    rw [p2_zero, Rat.mul_one]
    have a : (c : Rat) ≤ ((10000001 : Nat) : Rat) := by exact_mod_cast hB
    have b : ((10000001 : Nat) : Rat) ≤ p2 ((24 : Nat) : Int) := by rw [p2_nat]; exact_mod_cast (by decide)
    have d : p2 ((24 : Nat) : Int) < p2 (reach FloatKind.f64.format) := p2_lt (by decide +kernel)
    grind)
  rw [← he] at hw
  refine ⟨hw.1, ?_⟩
  have hb : 10000002 ≤ 2 * FloatKind.f64.format.binade := by decide +kernel
  rw [hw.2.exact (by decide +kernel) (by omega)]
  unfold sval
  rw [p2_zero, Rat.mul_one]
  split
  · rename_i h
    rw [hs0 h]; rfl
  · rfl
/-- a quotient of what is not below nought by what is above it -/
theorem read_near (f : Format) (hf : 2 ≤ f.exponentBits) (s : Bool) (m : Nat) (e : Int) : (∃ k i, f.read (f.write (.number s m e)) = .number s k i) ∨ f.read (f.write (.number s m e)) = .infinity s := by
  have key : ∀ r, (∃ k i, f.read (f.word s (min r f.infRung)) = .number s k i) ∨ f.read (f.word s (min r f.infRung)) = .infinity s := by
    intro r
    by_cases hr : r < f.infRung
    · rw [Nat.min_eq_left (by omega), read_word f s r hr]; exact Or.inl ⟨_, _, rfl⟩
    · rw [Nat.min_eq_right (by omega), read_word_inf f hf]; exact Or.inr rfl
  unfold Format.write Format.nearest
  dsimp only
  split
  · have := key 0
    rwa [Nat.zero_min] at this
  · exact key _
theorem quo_nonneg {k : FloatKind} {x y : Nat} (hx : Num k.format x) (hy : Num k.format y) (h0 : 0 ≤ V k.format x) (h1 : 0 < V k.format y) :
    (floatBits .quo k x y).isSome = true ∧ ((Num k.format (fl .quo k x y) ∧ 0 ≤ V k.format (fl .quo k x y)) ∨ k.format.read (fl .quo k x y) = .infinity false) := by
  have hS := Sm.isSome_quo hx hy (Or.inl (by grind))
  refine ⟨hS, ?_⟩
  by_cases hz : V k.format x = 0
  · obtain ⟨z, e1, e2, e3⟩ := div_zero_num (Sm.kx k) hx hy (by grind) hz
    have : fl .quo k x y = z := fl_eq e1
    rw [this]
    exact Or.inl ⟨e2, by grind⟩
  · obtain ⟨s, m, i, hr, hv, hs⟩ := read_nonneg hx h0
    obtain ⟨t, n, j, hr', hv', ht⟩ := read_nonneg hy (by grind)
    have hm : m ≠ 0 := fun h => hz (by rw [hv, h]; simp)
    have hn : n ≠ 0 := fun h => by rw [hv', h] at h1; simp at h1
    have es : s = false := by cases s; rfl; exact absurd (hs rfl) hm
    have et : t = false := by cases t; rfl; exact absurd (ht rfl) hn
    subst es; subst et
    have e : floatBits .quo k x y = k.format.div x y := rfl
    unfold Format.div at e
    rw [hr, hr'] at e
    simp only [Datum.quotient, if_neg hn, Option.map_some] at e
    rw [fl_eq e]
    rcases read_near k.format (Sm.kx k) (false ^^ false) _ _ with ⟨M, I, h⟩ | h
    · refine Or.inl ⟨⟨_, _, _, h⟩, ?_⟩
      rw [V_of h]
      simp only [sval, Bool.xor_self, Bool.false_eq_true, if_false]
      exact Rat.mul_nonneg (by exact_mod_cast Nat.zero_le M) (Rat.le_of_lt (p2_pos I))
    · exact Or.inr h
/-- whole numbers up to a great bound are floats -/
theorem ofNat_num (n : Nat) (h : n ≤ 10000000) : Num FloatKind.f64.format (floatOfInt .f64 (n : Int)) ∧ V FloatKind.f64.format (floatOfInt .f64 (n : Int)) = (n : Rat) := by
  have hr := ofInt (k := .f64) (n := (n : Int)) (e := 24) (by simp <;> omega) (by simp; omega) (by decide +kernel)
  have hb : 10000002 ≤ 2 * FloatKind.f64.format.binade := by decide +kernel
  refine ⟨hr.1.num, ?_⟩
  have hs := hr.2
  have e : ((n : Int) : Rat) = sval false n 0 := by
    unfold sval
    rw [p2_zero, Rat.mul_one]
    rfl
  rw [e] at hs
  rw [hs.exact (by decide +kernel) (by omega)]
  rw [← e]; rfl
theorem in64 (n : Nat) (h : n ≤ 10000001) : IntKind.i64.min ≤ (n : Int) ∧ (n : Int) ≤ IntKind.i64.max := by
  have a : IntKind.i64.min = -9223372036854775808 := by decide
  have b : IntKind.i64.max = 9223372036854775807 := by decide
  omega
/-- the least whole number that is at least the float, as both sides come to it -/
theorem ceil_all {x : Nat} (hx : Num FloatKind.f64.format x) (h0 : 0 ≤ V FloatKind.f64.format x) (h1 : V FloatKind.f64.format x ≤ 10000000) :
    ∃ n : Nat, n ≤ 10000000 ∧ (n : Rat) ≤ V FloatKind.f64.format x ∧ V FloatKind.f64.format x < (n : Rat) + 1 ∧ floatToIntVal .f64 x .i64 = some (n : Int) ∧ (FloatKind.f64.format.order (floatOfInt .f64 (n : Int)) x == some .lt) = decide ((n : Rat) < V FloatKind.f64.format x) ∧
      floatToIntVal .f64 (ceilB x) .i64 = some (if (n : Rat) < V FloatKind.f64.format x then ((n : Int) + 1) else (n : Int)) := by
  obtain ⟨n, e1, e2, e3⟩ := toInt_zero hx h0
  have hnb : n ≤ 10000000 := by
    have : (n : Rat) ≤ ((10000000 : Nat) : Rat) := by grind
    exact_mod_cast this
  refine ⟨n, hnb, e2, e3, ?_, ?_, ?_⟩
  · unfold floatToIntVal FloatKind.decode
    rw [e1]
    exact if_pos (in64 n (by omega))
  · obtain ⟨o1, o2⟩ := ofNat_num n hnb
    rw [lss_num o1 hx, o2]
  · obtain ⟨c1, c2⟩ := ceil_num hx h0 h1 n e2 e3
    obtain ⟨k, d1, d2, d3⟩ := toInt_zero c1 (by rw [c2]; exact_mod_cast Nat.zero_le _)
    rw [c2] at d2 d3
    have hk : k = if (n : Rat) < V FloatKind.f64.format x then n + 1 else n := by
      have a : k ≤ if (n : Rat) < V FloatKind.f64.format x then n + 1 else n := by exact_mod_cast d2
      have b : (if (n : Rat) < V FloatKind.f64.format x then n + 1 else n) < k + 1 := by exact_mod_cast d3
      omega
    unfold floatToIntVal FloatKind.decode
    rw [d1]
    have hk' : k ≤ 10000001 := by rw [hk]; split <;> omega
    refine (if_pos (in64 k hk')).trans ?_
    rw [hk]
    split <;> simp
end Go.Proofs.Ytjohpjmfnghkoaa.It
