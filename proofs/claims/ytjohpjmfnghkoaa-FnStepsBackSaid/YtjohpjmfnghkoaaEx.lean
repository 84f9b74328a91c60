/- Floats that are whole multiples of a power of two: sums, products, quotients, widened, narrowed and negated, exact. Nothing of the program. -/
import Derived.Test.YtjohpjmfnghkoaaInt
namespace Go.Proofs.Ytjohpjmfnghkoaa.Ex
open Go Ieee Kit Fl Bd It
theorem srd_exact {f : Format} {v r : Rat} (h : SRd f v r) (c : Int) (e : Int) (hv : v = (c : Rat) * p2 e) (he : f.leastPlace ≤ e) (hk : c.natAbs < 2 * f.binade) : r = (c : Rat) * p2 e := by
  have hs : sval (decide (c < 0)) c.natAbs e = (c : Rat) * p2 e := natAbs_val c _ (fun _ => rfl) e
  rw [hv, ← hs] at h
  rw [h.exact he hk, hs]
theorem small {k : FloatKind} {c e : Int} (hk : c.natAbs < 2 * k.format.binade) (he : e + k.format.fractionBits + 1 < reach k.format) : (c : Rat) * p2 e < p2 (reach k.format) ∧ -(p2 (reach k.format)) < (c : Rat) * p2 e := by
  have hr := p2_lt he
  have hp := p2_pos e
  have hb : p2 (e + k.format.fractionBits + 1) = p2 e * (2 * (k.format.binade : Rat)) := by
    rw [p2_succ, p2_add, binade_cast]; grind
  have h1 : (c : Rat) < 2 * (k.format.binade : Rat) := by
    have : c < ((2 * k.format.binade : Nat) : Int) := by omega
    have : (c : Rat) < (((2 * k.format.binade : Nat) : Int) : Rat) := by exact_mod_cast this
    push_cast at this; exact this
  have h2 : -(2 * (k.format.binade : Rat)) < (c : Rat) := by
    have : -((2 * k.format.binade : Nat) : Int) < c := by omega
    have : ((-((2 * k.format.binade : Nat) : Int) : Int) : Rat) < (c : Rat) := by exact_mod_cast this
    push_cast at this; exact this
  have h3 := mul_lt_of hp h1
  have h4 := mul_lt_of hp h2
  constructor <;> grind
/-- x stands for c times 2 ^ e -/
structure Ex (k : FloatKind) (x : Nat) (c : Int) (e : Int) : Prop where
  num : Num k.format x
  val : V k.format x = (c : Rat) * p2 e
theorem Ex.addS {k : FloatKind} {x y : Nat} {a b e : Int} (hx : Ex k x a e) (hy : Ex k y b e) : (floatBits .add k x y).isSome = true := Sm.isSome_add hx.num hy.num
theorem Ex.subS {k : FloatKind} {x y : Nat} {a b e : Int} (hx : Ex k x a e) (hy : Ex k y b e) : (floatBits .sub k x y).isSome = true := Sm.isSome_sub hx.num hy.num
theorem Ex.mulS {k : FloatKind} {x y : Nat} {a b e e' : Int} (hx : Ex k x a e) (hy : Ex k y b e') : (floatBits .mul k x y).isSome = true := Sm.isSome_mul hx.num hy.num
theorem Ex.add {k : FloatKind} {x y : Nat} {a b e : Int} (hx : Ex k x a e) (hy : Ex k y b e) (he : k.format.leastPlace ≤ e) (hk : (a + b).natAbs < 2 * k.format.binade) (hr : e + k.format.fractionBits + 1 < reach k.format) : Ex k (fl .add k x y) (a + b) e := by
  have hs := small (k := k) hk hr
  have hv : V k.format x + V k.format y = ((a + b : Int) : Rat) * p2 e := by rw [hx.val, hy.val]; push_cast; grind
  obtain ⟨z, e1, e2, e3⟩ := add_num (Sm.kx k) hx.num hy.num (by rw [hv]; exact hs.1) (by rw [hv]; exact hs.2)
  rw [show fl .add k x y = z from fl_eq e1]
  exact ⟨e2, srd_exact e3 _ e hv he hk⟩
theorem Ex.sub {k : FloatKind} {x y : Nat} {a b e : Int} (hx : Ex k x a e) (hy : Ex k y b e) (he : k.format.leastPlace ≤ e) (hk : (a - b).natAbs < 2 * k.format.binade) (hr : e + k.format.fractionBits + 1 < reach k.format) : Ex k (fl .sub k x y) (a - b) e := by
  have hs := small (k := k) hk hr
  have hv : V k.format x - V k.format y = ((a - b : Int) : Rat) * p2 e := by rw [hx.val, hy.val]; push_cast; grind
  obtain ⟨z, e1, e2, e3⟩ := sub_num (Sm.kx k) hx.num hy.num (by rw [hv]; exact hs.1) (by rw [hv]; exact hs.2)
  rw [show fl .sub k x y = z from fl_eq e1]
  exact ⟨e2, srd_exact e3 _ e hv he hk⟩
theorem Ex.mul {k : FloatKind} {x y : Nat} {a b e e' : Int} (hx : Ex k x a e) (hy : Ex k y b e') (he : k.format.leastPlace ≤ e + e') (hk : (a * b).natAbs < 2 * k.format.binade) (hr : e + e' + k.format.fractionBits + 1 < reach k.format) : Ex k (fl .mul k x y) (a * b) (e + e') := by
  have hs := small (k := k) hk hr
  have hv : V k.format x * V k.format y = ((a * b : Int) : Rat) * p2 (e + e') := by rw [hx.val, hy.val, p2_add]; push_cast; grind
  obtain ⟨z, e1, e2, e3⟩ := mul_num (Sm.kx k) hx.num hy.num (by rw [hv]; exact hs.1) (by rw [hv]; exact hs.2)
  rw [show fl .mul k x y = z from fl_eq e1]
  exact ⟨e2, srd_exact e3 _ _ hv he hk⟩
/-- a quotient that comes out even -/
theorem Ex.quo {k : FloatKind} {x y : Nat} {q b e e' : Int} {a : Int} (hx : Ex k x a e) (hy : Ex k y b e') (d : Int) (hq : (q : Rat) * p2 d * ((b : Rat) * p2 e') = (a : Rat) * p2 e) (hb : b ≠ 0) (he : k.format.leastPlace ≤ d) (hk : q.natAbs < 2 * k.format.binade) (hr : d + 1 + k.format.fractionBits + 1 < reach k.format) :
    (floatBits .quo k x y).isSome = true ∧ Ex k (fl .quo k x y) q d := by
  have hs := small (k := k) hk hr
  rw [p2_succ] at hs
  have hy0 : V k.format y ≠ 0 := by
    rw [hy.val]
    intro h
    rcases Rat.mul_eq_zero.1 h with h | h
    · exact hb (by exact_mod_cast h)
    · have := p2_pos e'; grind
  obtain ⟨z, e1, e2, e3⟩ := div_num (Sm.kx k) hx.num hy.num ((q : Rat) * p2 d) (by rw [hx.val, hy.val]; exact hq) hy0 (by grind) (by grind)
  refine ⟨Sm.isSome_quo hx.num hy.num (Or.inl hy0), ?_⟩
  rw [show fl .quo k x y = z from fl_eq e1]
  exact ⟨e2, srd_exact e3 _ _ rfl he hk⟩
theorem Ex.ofInt {k : FloatKind} (n : Int) (hk : n.natAbs < 2 * k.format.binade) (hr : (k.format.fractionBits : Int) + 1 < reach k.format) (hL : k.format.leastPlace ≤ 0) : Ex k (floatOfInt k n) n 0 := by
  have hs := small (k := k) (c := n) (e := 0) hk (by omega)
  have hv : sval (decide (n < 0)) n.natAbs 0 = (n : Rat) * p2 0 := natAbs_val n _ (fun _ => rfl) 0
  have hw := write_num k.format (Sm.kx k) (decide (n < 0)) n.natAbs 0 (sval_abs _ _ _ _ (by rw [hv]; exact hs.1) (by rw [hv]; exact hs.2))
  have he : floatOfInt k n = k.format.write (.number (decide (n < 0)) n.natAbs 0) := rfl
  rw [← he] at hw
  exact ⟨hw.1, srd_exact hw.2 n 0 hv hL hk⟩
/-- widened or narrowed -/
theorem Ex.conv {s k : FloatKind} {x : Nat} {c e : Int} (hsk : s ≠ k) (hx : Ex s x c e) (he : k.format.leastPlace ≤ e) (hk : c.natAbs < 2 * k.format.binade) (hr : e + k.format.fractionBits + 1 < reach k.format) :
    (floatToFloatBits s x k).isSome = true ∧ Ex k (cv s x k) c e := by
  obtain ⟨g, m, i, hr'⟩ := hx.num
  have hv := hx.val
  rw [V_of hr'] at hv
  have hs := small (k := k) hk hr
  have hw := write_num k.format (Sm.kx k) g m i (sval_abs _ _ _ _ (by rw [hv]; exact hs.1) (by rw [hv]; exact hs.2))
  have hf : floatToFloatBits s x k = some (k.encode (.number g m i)) := by
    unfold floatToFloatBits
    rw [if_neg hsk]
    have hd : s.decode x = .number g m i := hr'
    rw [hd]
    obtain ⟨g', m', i', hn⟩ := hw.1
    have hn' : k.decode (k.encode (.number g m i)) = .number g' m' i' := hn
    simp only [hn']
    rfl
  refine ⟨by rw [hf]; rfl, ?_⟩
  have e1 : cv s x k = k.format.write (.number g m i) := by unfold cv; rw [hf]; rfl
  rw [e1]
  exact ⟨hw.1, srd_exact hw.2 c e hv he hk⟩
/-- two floats that stand for one number are equal -/
theorem Ex.eq {k : FloatKind} {x y : Nat} {c e : Int} (hx : Ex k x c e) (hy : Ex k y c e) : k.format.order x y = some .eq := by
  rw [order_num hx.num hy.num, hx.val, hy.val]
  simp
end Go.Proofs.Ytjohpjmfnghkoaa.Ex
