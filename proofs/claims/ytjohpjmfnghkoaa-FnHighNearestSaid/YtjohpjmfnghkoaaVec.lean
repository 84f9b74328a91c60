/- Vectors: which are valid, on both sides; the amount of a float; angles between bearings; what a walk needs of them. -/
import Derived.Test.YtjohpjmfnghkoaaKit
import Derived.Test.YtjohpjmfnghkoaaBd
import Derived.Laws.Externs
namespace Go.Proofs.Ytjohpjmfnghkoaa.Ve
open Go.RowKit Kit Fl Bd
theorem run_bits (x : Nat) (w : World) : (callFunc 77 #[.float .f64 x]).run Try.prog w = .ok (.value (.int .u64 x)) w := by
  rw [run_callFunc_extern (fn := Try.f77) (e := Extern.MathFloatBits.float64bits) Try.func77 (by kernel_rfl) (by kernel_rfl) (by kernel_rfl) (by kernel_rfl)]
  rfl
theorem run_from (n : Int) (w : World) : (callFunc 76 #[.int .u64 n]).run Try.prog w = .ok (.value (.float .f64 n.toNat)) w := by
  rw [run_callFunc_extern (fn := Try.f76) (e := Extern.MathFloatBits.float64frombits) Try.func76 (by kernel_rfl) (by kernel_rfl) (by kernel_rfl) (by kernel_rfl)]
  rfl
attribute [go_sem] run_bits run_from
theorem bits_abs (x : Nat) : (bits BinOp.andNot IntKind.u64 (x : Int) 9223372036854775808).toNat = x % 2 ^ 63 := by
  have e1 : (BitVec.ofInt IntKind.u64.bits (x : Int) &&& ~~~(BitVec.ofInt IntKind.u64.bits 9223372036854775808)).toNat = x % 2 ^ 63 := by
    have e2 : ~~~(BitVec.ofInt IntKind.u64.bits 9223372036854775808) = BitVec.ofNat 64 (2 ^ 63 - 1) := (by decide : ~~~(BitVec.ofInt 64 9223372036854775808) = BitVec.ofNat 64 (2 ^ 63 - 1))
    rw [e2]
    show (BitVec.ofInt 64 (x : Int) &&& BitVec.ofNat 64 (2 ^ 63 - 1)).toNat = x % 2 ^ 63
    rw [BitVec.toNat_and, BitVec.toNat_ofInt, BitVec.toNat_ofNat]
    rw [Nat.mod_eq_of_lt (show 2 ^ 63 - 1 < 2 ^ 64 by decide)]
    rw [Nat.and_two_pow_sub_one_eq_mod]
    omega
  show (IntKind.u64.wrap _).toNat = _
  simp only []
  rw [e1]
  have : IntKind.u64.wrap ((x % 2 ^ 63 : Nat) : Int) = ((x % 2 ^ 63 : Nat) : Int) := by
    simp [IntKind.wrap, IntKind.signed, IntKind.bits]
    omega
  rw [this]
  rfl
theorem math_Abs (x : Nat) (w : World) : Calls Try.prog 69 #[.float .f64 x] w fun e w' => e = .returned (.float .f64 (x % 2 ^ 63)) ∧ w = w' := by
  go_enter Try.func69, Try.ntmps69
  go_wp2
  go_ret
  exact ⟨by rw [bits_abs x]; rfl, rfl⟩
/-! ### the amount -/
theorem read_abs (x : Nat) : FloatKind.f64.format.read (x % 2 ^ 63) = match FloatKind.f64.format.read x with | .number _ m e => .number false m e | .infinity _ => .infinity false | .nan _ t => .nan false t := by
  have hs : FloatKind.f64.format.signWeight = 2 ^ 63 := by decide
  unfold Ieee.Format.read
  rw [hs]
  have e1 : x % 2 ^ 63 / 2 ^ 63 = 0 := Nat.div_eq_of_lt (Nat.mod_lt _ (by decide))
  rw [Nat.mod_mod, e1]
  dsimp only
  generalize x % 2 ^ 63 = r
  split
  · rfl
  · split
    · rfl
    · split <;> rfl
theorem neg_read (x : Nat) : FloatKind.f64.format.read (Op.negFloat .f64 x) = match FloatKind.f64.format.read x with | .number s m e => .number (!s) m e | .infinity s => .infinity (!s) | .nan s t => .nan (!s) t := by
  have hn : Op.negFloat .f64 x = x ^^^ 2 ^ 63 := rfl
  have hS : FloatKind.f64.format.signWeight = 2 ^ 63 := by decide
  have e1 : (x ^^^ 2 ^ 63) % 2 ^ 63 = x % 2 ^ 63 := by
    rw [Nat.xor_mod_two_pow, Nat.mod_self, Nat.xor_zero]
  have e2 : (x ^^^ 2 ^ 63) / 2 ^ 63 % 2 = 1 - x / 2 ^ 63 % 2 := by
    rw [Nat.xor_div_two_pow, Nat.div_self (by decide)]
    have h1 := Nat.xor_mod_two_pow (a := x / 2 ^ 63) (b := 1) (n := 1)
    rw [Nat.pow_one] at h1
    rw [h1]
    have : x / 2 ^ 63 % 2 < 2 := Nat.mod_lt _ (by decide)
    generalize x / 2 ^ 63 % 2 = t at *
    have : t = 0 ∨ t = 1 := by omega
    rcases this with rfl | rfl <;> decide
  rw [hn]
  unfold Ieee.Format.read
  rw [hS, e1, e2]
  dsimp only
  have hs : (1 - x / 2 ^ 63 % 2 == 1) = !(x / 2 ^ 63 % 2 == 1) := by
    have : x / 2 ^ 63 % 2 < 2 := Nat.mod_lt _ (by decide)
    generalize x / 2 ^ 63 % 2 = t at *
    have : t = 0 ∨ t = 1 := by omega
    rcases this with rfl | rfl <;> decide
  rw [hs]
  generalize x % 2 ^ 63 = r
  split
  · rfl
  · split
    · rfl
    · split <;> rfl
theorem n0 : Num FloatKind.f64.format 0 := num_iff.2 (by decide)
theorem v0 : V FloatKind.f64.format 0 = 0 := by
  rw [V_of (show FloatKind.f64.format.read 0 = .number false 0 (-1074) by decide +kernel)]
  simp [sval]
def a64 (x : Nat) : Nat := if (FloatKind.f64.format.order x 0 == some .lt) = true then Op.negFloat .f64 x else x
/-- both ways to take off the sign come to the same number -/
theorem abs_num {x : Nat} (h : Num FloatKind.f64.format x) : Num FloatKind.f64.format (x % 2 ^ 63) ∧ Num FloatKind.f64.format (a64 x) ∧ V FloatKind.f64.format (a64 x) = V FloatKind.f64.format (x % 2 ^ 63) ∧ V FloatKind.f64.format x ≤ V FloatKind.f64.format (x % 2 ^ 63) ∧ -(V FloatKind.f64.format x) ≤ V FloatKind.f64.format (x % 2 ^ 63) ∧ (V FloatKind.f64.format (x % 2 ^ 63) = V FloatKind.f64.format x ∨ V FloatKind.f64.format (x % 2 ^ 63) = -(V FloatKind.f64.format x)) := by
  have hX := h
  obtain ⟨s, m, e, hr⟩ := h
  have ha := read_abs x
  have hn := neg_read x
  rw [hr] at ha hn
  have hm : 0 ≤ (m : Rat) * p2 e := Rat.mul_nonneg (by exact_mod_cast Nat.zero_le m) (Rat.le_of_lt (p2_pos e))
  refine ⟨⟨_, _, _, ha⟩, ?_⟩
  unfold a64
  rw [lss_num hX n0, v0, V_of ha]
  by_cases q : V FloatKind.f64.format x < 0
  · rw [if_pos (by simpa using q)]
    refine ⟨⟨_, _, _, hn⟩, ?_⟩
    rw [V_of hn]
    rw [V_of hr] at q ⊢
    unfold sval at q ⊢
    cases s <;> simp only [Bool.false_eq_true, if_false, if_true, Bool.not_false, Bool.not_true] at q ⊢ <;> refine ⟨?_, ?_, ?_, ?_⟩ <;> grind
  · rw [if_neg (by simpa using q)]
    refine ⟨hX, ?_⟩
    rw [V_of hr] at q ⊢
    unfold sval at q ⊢
    cases s <;> simp only [Bool.false_eq_true, if_false, if_true] at q ⊢ <;> refine ⟨?_, ?_, ?_, ?_⟩ <;> grind
/-- is an amount at most a bound? -/
def leB (x b : Nat) : Bool := FloatKind.f64.format.order x b == some .lt || FloatKind.f64.format.order x b == some .eq
/-- is the amount of a float at most 1e8? -/
def vOk (x : Nat) : Bool := leB (x % 2 ^ 63) 4726483295884279808
theorem nM : Num FloatKind.f64.format 4726483295884279808 := num_iff.2 (by decide +kernel)
theorem vM : V FloatKind.f64.format 4726483295884279808 = 100000000 := by
  rw [V_of (show FloatKind.f64.format.read 4726483295884279808 = .number false 6710886400000000 (-26) by decide +kernel)]
  have : p2 (-26) = 1 / 67108864 := by decide +kernel
  simp only [sval, this, Bool.false_eq_true, if_false]
  decide +kernel
theorem vOk_a64 (x : Nat) : leB (a64 x) 4726483295884279808 = vOk x := by
  unfold vOk
  cases hx : FloatKind.f64.format.read x with
  | nan s t =>
    have hf : ¬ Firm FloatKind.f64.format x := fun k => k s t hx
    have ha := read_abs x
    rw [hx] at ha
    have hf2 : ¬ Firm FloatKind.f64.format (x % 2 ^ 63) := fun k => k false t ha
    unfold a64
    rw [(order_nan hf 0).1, if_neg (by decide)]
    unfold leB
    rw [(order_nan hf _).1, (order_nan hf2 _).1]
  | infinity s =>
    have ha := read_abs x
    have hn := neg_read x
    rw [hx] at ha hn
    obtain ⟨t, m, e, hM⟩ := nM
    obtain ⟨t', m', e', h0⟩ := n0
    have o1 : FloatKind.f64.format.order x 0 = some (if s then .lt else .gt) := by unfold Ieee.Format.order; rw [hx, h0]; rfl
    have o2 : FloatKind.f64.format.order (x % 2 ^ 63) 4726483295884279808 = some .gt := by unfold Ieee.Format.order; rw [ha, hM]; rfl
    unfold a64
    rw [o1]
    cases s
    · rw [if_neg (by decide)]
      have o3 : FloatKind.f64.format.order x 4726483295884279808 = some .gt := by unfold Ieee.Format.order; rw [hx, hM]; rfl
      unfold leB
      rw [o3, o2]
    · rw [if_pos (by decide)]
      have o3 : FloatKind.f64.format.order (Op.negFloat .f64 x) 4726483295884279808 = some .gt := by unfold Ieee.Format.order; rw [hn, hM]; rfl
      unfold leB
      rw [o3, o2]
  | number s m e =>
    obtain ⟨a1, a2, a3, _⟩ := abs_num ⟨s, m, e, hx⟩
    unfold leB
    rw [lss_num a2 nM, eql_num a2 nM, lss_num a1 nM, eql_num a1 nM, a3]
theorem vOk_num {x : Nat} (h : vOk x = true) : Num FloatKind.f64.format x ∧ V FloatKind.f64.format x ≤ 100000000 ∧ -100000000 ≤ V FloatKind.f64.format x := by
  unfold vOk leB at h
  cases hx : FloatKind.f64.format.read x with
  | nan s t =>
    exfalso
    have ha := read_abs x
    rw [hx] at ha
    have hf2 : ¬ Firm FloatKind.f64.format (x % 2 ^ 63) := fun k => k false t ha
    rw [(order_nan hf2 _).1] at h
    cases h
  | infinity s =>
    exfalso
    have ha := read_abs x
    rw [hx] at ha
    obtain ⟨t, m, e, hM⟩ := nM
    have o2 : FloatKind.f64.format.order (x % 2 ^ 63) 4726483295884279808 = some .gt := by unfold Ieee.Format.order; rw [ha, hM]; rfl
    rw [o2] at h
    cases h
  | number s m e =>
    have hX : Num FloatKind.f64.format x := ⟨s, m, e, hx⟩
    obtain ⟨a1, a2, a3, a4, a5, a6⟩ := abs_num hX
    rw [lss_num a1 nM, eql_num a1 nM, vM] at h
    simp only [Bool.or_eq_true, decide_eq_true_eq] at h
    exact ⟨hX, by grind, by grind⟩
theorem num_vOk {x : Nat} (hX : Num FloatKind.f64.format x) (h1 : V FloatKind.f64.format x ≤ 100000000) (h2 : -100000000 ≤ V FloatKind.f64.format x) : vOk x = true := by
  obtain ⟨a1, a2, a3, a4, a5, a6⟩ := abs_num hX
  unfold vOk leB
  rw [lss_num a1 nM, eql_num a1 nM, vM]
  simp only [Bool.or_eq_true, decide_eq_true_eq]
  grind
/-! ### the functions -/
theorem impl_VectorOk (a b : Nat) (w : World) : Calls Try.prog 48 #[.complex .f64 a b] w fun e w' => e = .returned (.bool (vOk a && vOk b)) ∧ w = w' := by
  cases h1 : vOk a
  all_goals unfold vOk leB at h1
  all_goals go_enter Try.func48, Try.ntmps48
  all_goals go_wp2_with (go_at_call 69; refine (math_Abs _ _).mono ?_; rintro e w' ⟨rfl, rfl⟩)
  all_goals go_ret
  all_goals exact ⟨rfl, rfl⟩
theorem spec_l02Amount (x : Nat) (w : World) : Calls Try.prog 70 #[.float .f64 x] w fun e w' => e = .returned (.float .f64 (a64 x)) ∧ w = w' := by
  unfold a64
  cases h : (FloatKind.f64.format.order x 0 == some .lt)
  all_goals go_enter Try.func70, Try.ntmps70
  all_goals go_wp2
  all_goals go_ret
  all_goals exact ⟨rfl, rfl⟩
theorem spec_VectorOk (a b : Nat) (w : World) : Calls Try.prog 52 #[.complex .f64 a b] w fun e w' => e = .returned (.bool (vOk a && vOk b)) ∧ w = w' := by
  rw [← vOk_a64 a, ← vOk_a64 b]
  cases h1 : leB (a64 a) 4726483295884279808
  all_goals unfold leB at h1
  all_goals go_enter Try.func52, Try.ntmps52
  all_goals go_wp2_with (go_at_call 70; refine (spec_l02Amount _ _).mono ?_; rintro e w' ⟨rfl, rfl⟩)
  all_goals go_ret
  all_goals exact ⟨rfl, rfl⟩
theorem impl_within (x a b : Int) (w : World) : Calls Try.prog 47 #[.int .i64 x, .int .i64 a, .int .i64 b] w fun e w' => e = .returned (.bool (decide (a ≤ x) && decide (x ≤ b))) ∧ w = w' := by
  by_cases h : a ≤ x
  all_goals go_enter Try.func47, Try.ntmps47
  all_goals go_wp2
  all_goals go_ret
  all_goals exact ⟨by first | (simp [h]; done) | (congr 2; simp; omega), rfl⟩
theorem spec_l01In (x a b : Int) (w : World) : Calls Try.prog 51 #[.int .i64 x, .int .i64 a, .int .i64 b] w fun e w' => e = .returned (.bool (decide (a ≤ x) && decide (x ≤ b))) ∧ w = w' := by
  by_cases h : a ≤ x
  all_goals go_enter Try.func51, Try.ntmps51
  all_goals go_wp2
  all_goals go_ret
  all_goals exact ⟨by first | (simp [h]; done) | (congr 2; simp; omega), rfl⟩
/-- the angle between two bearings -/
def betw (a b : Int) : Int := min ((b % 360 - a % 360) % 360) ((-((b % 360 - a % 360) % 360)) % 360)
theorem betw_spec (a b : Int) : betw a b = if 360 - (b % 360 - a % 360) % 360 < (b % 360 - a % 360) % 360 then 360 - (b % 360 - a % 360) % 360 else (b % 360 - a % 360) % 360 := by
  unfold betw
  split <;> omega
end Go.Proofs.Ytjohpjmfnghkoaa.Ve
