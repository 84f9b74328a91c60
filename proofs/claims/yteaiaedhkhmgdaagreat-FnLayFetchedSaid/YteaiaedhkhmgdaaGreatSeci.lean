/- Seconds for a way: the program's side, in numbers; math's Abs, IsNaN, IsInf, Ceil. -/
import Derived.Test.YteaiaedhkhmgdaaGreatInt
import Derived.Laws.Externs
namespace Go.Proofs.YteaiaedhkhmgdaaGreat.Sc
open Go.RowKit Kit Fl Bd It
theorem ceil_entry {x m : Nat} {s : Bool} {e : Int} (nm : String) (way : Ieee.Toward) (hd : FloatKind.f64.decode x = .number s m e) : Extern.MathFloor.toIntegral nm way #[.float .f64 x] = pure (.float .f64 (FloatKind.f64.encode ((FloatKind.f64.decode x).integral way))) := by
  conv => lhs; whnf
  rw [hd]
theorem run_ceil {x : Nat} (h : numB FloatKind.f64.format x = true) (w : World) : (callFunc 70 #[.float .f64 x]).run Tryz.prog w = .ok (.value (.float .f64 (ceilB x))) w := by
  rw [run_callFunc_extern (fn := Tryz.f70) (e := Extern.MathFloor.toIntegral "math.archCeil" .up) Tryz.func70 (by kernel_rfl) (by kernel_rfl) (by kernel_rfl) (by kernel_rfl)]
  obtain ⟨s, m, e, hr⟩ := num_iff.2 h
  rw [ceil_entry (s := s) (m := m) (e := e) _ _ hr]
  rfl
theorem run_bits (x : Nat) (w : World) : (callFunc 88 #[.float .f64 x]).run Tryz.prog w = .ok (.value (.int .u64 x)) w := by
  rw [run_callFunc_extern (fn := Tryz.f88) (e := Extern.MathFloatBits.float64bits) Tryz.func88 (by kernel_rfl) (by kernel_rfl) (by kernel_rfl) (by kernel_rfl)]
  rfl
theorem run_from (n : Int) (w : World) : (callFunc 87 #[.int .u64 n]).run Tryz.prog w = .ok (.value (.float .f64 n.toNat)) w := by
  rw [run_callFunc_extern (fn := Tryz.f87) (e := Extern.MathFloatBits.float64frombits) Tryz.func87 (by kernel_rfl) (by kernel_rfl) (by kernel_rfl) (by kernel_rfl)]
  rfl
attribute [go_sem] run_ceil run_bits run_from
theorem math_Ceil (x : Nat) (h : numB FloatKind.f64.format x = true) (w : World) : Calls Tryz.prog 40 #[.float .f64 x] w fun e w' => e = .returned (.float .f64 (ceilB x)) ∧ w = w' := by
  go_enter Tryz.func40, Tryz.ntmps40
  go_wp2
  go_ret
  exact ⟨rfl, rfl⟩
theorem bits_abs (x : Nat) : (bits BinOp.andNot IntKind.u64 (x : Int) 9223372036854775808).toNat = x % 2 ^ 63 := by
  have e1 : (BitVec.ofInt IntKind.u64.bits (x : Int) &&& ~~~(BitVec.ofInt IntKind.u64.bits 9223372036854775808)).toNat = x % 2 ^ 63 := by
    have e2 : ~~~(BitVec.ofInt IntKind.u64.bits 9223372036854775808) = BitVec.ofNat 64 (2 ^ 63 - 1) := (by decide : ~~~(BitVec.ofInt 64 9223372036854775808) = BitVec.ofNat 64 (2 ^ 63 - 1))
    rw [e2]
    show (BitVec.ofInt 64 (x : Int) &&& BitVec.ofNat 64 (2 ^ 63 - 1)).toNat = x % 2 ^ 63
    rw [BitVec.toNat_and, BitVec.toNat_ofInt, BitVec.toNat_ofNat]
    rw [Nat.mod_eq_of_lt (show 2 ^ 63 - 1 < 2 ^ 64 by decide)]
    rw [Nat.and_two_pow_sub_one_eq_mod]
    omega
  show (IntKind.u64.wrap _).toNat = _
  simp only []
  rw [e1]
  have : IntKind.u64.wrap ((x % 2 ^ 63 : Nat) : Int) = ((x % 2 ^ 63 : Nat) : Int) := by
    simp [IntKind.wrap, IntKind.signed, IntKind.bits]
    omega
  rw [this]
  rfl
theorem math_Abs (x : Nat) (w : World) : Calls Tryz.prog 72 #[.float .f64 x] w fun e w' => e = .returned (.float .f64 (x % 2 ^ 63)) ∧ w = w' := by
  go_enter Tryz.func72, Tryz.ntmps72
  go_wp2
  go_ret
  exact ⟨by rw [bits_abs x]; rfl, rfl⟩
/-- the sign taken off -/
theorem read_abs (x : Nat) : FloatKind.f64.format.read (x % 2 ^ 63) = match FloatKind.f64.format.read x with | .number _ m e => .number false m e | .infinity _ => .infinity false | .nan _ t => .nan false t := by
  have hs : FloatKind.f64.format.signWeight = 2 ^ 63 := by decide
  unfold Ieee.Format.read
  rw [hs]
  have e1 : x % 2 ^ 63 / 2 ^ 63 = 0 := Nat.div_eq_of_lt (Nat.mod_lt _ (by decide))
  rw [Nat.mod_mod, e1]
  dsimp only
  generalize x % 2 ^ 63 = r
  split
  · rfl
  · split
    · rfl
    · split <;> rfl
/-- no number of the format lies above the greatest -/
theorem num_le_max {x : Nat} (hx : Num FloatKind.f64.format x) : V FloatKind.f64.format x ≤ V FloatKind.f64.format 9218868437227405311 := by
  obtain ⟨s, m, e, hr⟩ := hx
  have hmax : FloatKind.f64.format.read 9218868437227405311 = .number false 9007199254740991 971 := by decide +kernel
  have hb : m ≤ 9007199254740991 ∧ e ≤ 971 := by
    unfold Ieee.Format.read at hr
    simp only [] at hr
    have hB : FloatKind.f64.format.binade = 4503599627370496 := by decide
    have hI : FloatKind.f64.format.infRung = 9218868437227405312 := by decide
    have hL : FloatKind.f64.format.leastPlace = -1074 := by decide
    rw [hB, hI, hL] at hr
    generalize x % FloatKind.f64.format.signWeight = r at hr
    by_cases h1 : r < 4503599627370496
    · rw [if_pos h1] at hr
      simp only [Ieee.Datum.number.injEq] at hr
      omega
    · rw [if_neg h1] at hr
      by_cases h2 : r < 9218868437227405312
      · rw [if_pos h2] at hr
        simp only [Ieee.Datum.number.injEq] at hr
        obtain ⟨_, a, b⟩ := hr
        omega
      · rw [if_neg h2] at hr
        split at hr <;> cases hr
  rw [V_of hr, V_of hmax]
  have h1 : (m : Rat) ≤ ((9007199254740991 : Nat) : Rat) := by exact_mod_cast hb.1
  have h2 := mul_le_of (Rat.le_of_lt (p2_pos e)) h1
  have h3 := Rat.mul_le_mul_of_nonneg_left (p2_mono hb.2) (show (0 : Rat) ≤ ((9007199254740991 : Nat) : Rat) by decide)
  have h0 : 0 ≤ (m : Rat) * p2 e := Rat.mul_nonneg (by exact_mod_cast Nat.zero_le m) (Rat.le_of_lt (p2_pos e))
  unfold sval
  cases s <;> simp only [Bool.false_eq_true, if_false, if_true] <;> grind
theorem inf_max {x : Nat} (hf : Firm FloatKind.f64.format x) : (FloatKind.f64.format.order (x % 2 ^ 63) 9218868437227405311 == some .gt) = !numB FloatKind.f64.format x := by
  have hr := read_abs x
  have hm : Num FloatKind.f64.format 9218868437227405311 := num_iff.2 (by decide +kernel)
  cases hx : FloatKind.f64.format.read x with
  | nan s t => exact absurd hx (hf s t)
  | infinity s =>
    rw [hx] at hr
    obtain ⟨t, m, e, hm⟩ := hm
    unfold numB
    rw [hx]
    unfold Ieee.Format.order
    rw [hr, hm]
    rfl
  | number s m e =>
    rw [hx] at hr
    have h1 : Num FloatKind.f64.format (x % 2 ^ 63) := ⟨_, _, _, hr⟩
    have hn : numB FloatKind.f64.format x = true := num_iff.1 ⟨_, _, _, hx⟩
    rw [gtr_num h1 hm, hn]
    have := num_le_max h1
    simp
    grind
theorem math_IsNaN (x : Nat) (w : World) : Calls Tryz.prog 68 #[.float .f64 x] w fun e w' => e = .returned (.bool (!(FloatKind.f64.format.order x x == some .eq))) ∧ w = w' := by
  go_enter Tryz.func68, Tryz.ntmps68
  go_wp2
  go_ret
  exact ⟨rfl, rfl⟩
theorem math_IsInf (x : Nat) (w : World) : Calls Tryz.prog 69 #[.float .f64 x, .int .i64 0] w fun e w' => e = .returned (.bool (FloatKind.f64.format.order (x % 2 ^ 63) 9218868437227405311 == some .gt)) ∧ w = w' := by
  go_enter Tryz.func69, Tryz.ntmps69
  go_wp2_with (go_at_call 72; refine (math_Abs _ _).mono ?_; rintro e w' ⟨rfl, rfl⟩)
  go_ret
  exact ⟨rfl, rfl⟩
theorem impl_finite (x : Nat) (w : World) : Calls Tryz.prog 39 #[.float .f64 x] w fun e w' => e = .returned (.bool (numB FloatKind.f64.format x)) ∧ w = w' := by
  by_cases hf : Firm FloatKind.f64.format x
  · have h1 := order_self hf
    have h2 := inf_max hf
    clear hf
    go_enter Tryz.func39, Tryz.ntmps39
    go_wp2_with (first | (go_at_call 68; refine (math_IsNaN _ _).mono ?_; rintro e w' ⟨rfl, rfl⟩) | (go_at_call 69; refine (math_IsInf _ _).mono ?_; rintro e w' ⟨rfl, rfl⟩))
    go_ret
    exact ⟨by simp [*], rfl⟩
  · have h1 := (order_nan hf x).1
    have hn : numB FloatKind.f64.format x = false := by
      cases h : numB FloatKind.f64.format x
      · rfl
      · exact absurd (num_iff.2 h).firm hf
    clear hf
    go_enter Tryz.func39, Tryz.ntmps39
    go_wp2_with (first | (go_at_call 68; refine (math_IsNaN _ _).mono ?_; rintro e w' ⟨rfl, rfl⟩) | (go_at_call 69; refine (math_IsInf _ _).mono ?_; rintro e w' ⟨rfl, rfl⟩))
    go_ret
    exact ⟨by simp [*], rfl⟩
/-- Is a way of x metres at y metres a second one that takes a time? -/
def geB (x y : Nat) : Bool := FloatKind.f64.format.order x y == some .gt || FloatKind.f64.format.order x y == some .eq
def leB (x y : Nat) : Bool := FloatKind.f64.format.order x y == some .lt || FloatKind.f64.format.order x y == some .eq
def gtB (x y : Nat) : Bool := FloatKind.f64.format.order x y == some .gt
def okB (x y : Nat) : Bool := geB x 0 && (leB x 4726483295884279808 && (gtB y 0 && numB FloatKind.f64.format y))
def secB (x y : Nat) : Bool := okB x y && !gtB (fl .quo .f64 x y) 4711630319722168320
def secN (x y : Nat) : Int := if secB x y = true then ti .f64 (ceilB (fl .quo .f64 x y)) .i64 else 0
theorem V0 : V FloatKind.f64.format 0 = 0 := by
  rw [V_of (show FloatKind.f64.format.read 0 = .number false 0 (-1074) by decide +kernel)]
  simp [sval]
theorem V7 : V FloatKind.f64.format 4711630319722168320 = 10000000 := by
  rw [V_of (show FloatKind.f64.format.read 4711630319722168320 = .number false 5368709120000000 (-29) by decide +kernel)]
  have : p2 (-29) * p2 ((29 : Nat) : Int) = 1 := by rw [← p2_add]; exact p2_zero
  rw [p2_nat] at this
  simp only [sval, Bool.false_eq_true, if_false]
  have h2 : ((2 ^ 29 : Nat) : Rat) = 536870912 := by decide
  rw [h2] at this
  have h3 : ((5368709120000000 : Nat) : Rat) = 10000000 * 536870912 := by decide +kernel
  rw [h3]
  grind
theorem num0 : Num FloatKind.f64.format 0 := num_iff.2 (by decide)
theorem num7 : Num FloatKind.f64.format 4711630319722168320 := num_iff.2 (by decide +kernel)
/-- what the walk needs of a good quotient -/
theorem sec_facts {x y : Nat} (h : okB x y = true) : (floatBits .quo .f64 x y).isSome = true ∧
    (gtB (fl .quo .f64 x y) 4711630319722168320 = false → numB FloatKind.f64.format (fl .quo .f64 x y) = true ∧ ∃ n : Nat, n ≤ 10000000 ∧ (n : Rat) ≤ V FloatKind.f64.format (fl .quo .f64 x y) ∧ V FloatKind.f64.format (fl .quo .f64 x y) < (n : Rat) + 1 ∧
      floatToIntVal .f64 (fl .quo .f64 x y) .i64 = some (n : Int) ∧ (FloatKind.f64.format.order (floatOfInt .f64 (n : Int)) (fl .quo .f64 x y) == some .lt) = decide ((n : Rat) < V FloatKind.f64.format (fl .quo .f64 x y)) ∧
      floatToIntVal .f64 (ceilB (fl .quo .f64 x y)) .i64 = some (if (n : Rat) < V FloatKind.f64.format (fl .quo .f64 x y) then ((n : Int) + 1) else (n : Int))) := by
  simp only [okB, geB, leB, gtB, Bool.and_eq_true, Bool.or_eq_true, beq_iff_eq] at h
  obtain ⟨a, b, c, d⟩ := h
  have hx : Num FloatKind.f64.format x := num_between num0 (num_iff.2 (by decide +kernel)) a b
  have hy : Num FloatKind.f64.format y := num_iff.2 d
  have vx : 0 ≤ V FloatKind.f64.format x := by
    rw [order_num hx num0, V0] at a
    by_cases h1 : V FloatKind.f64.format x < 0
    · rw [if_pos h1] at a; simp at a
    · grind
  have vy : 0 < V FloatKind.f64.format y := by
    have h1 := gtr_num hy num0
    rw [c, V0] at h1
    simpa using h1.symm
  obtain ⟨q1, q2⟩ := quo_nonneg (k := .f64) hx hy vx vy
  refine ⟨q1, fun hq => ?_⟩
  have key : Num FloatKind.f64.format (fl .quo .f64 x y) ∧ 0 ≤ V FloatKind.f64.format (fl .quo .f64 x y) := by
    rcases q2 with h | h
    · exact h
    · exfalso
      obtain ⟨s, m, e, h7⟩ := num7
      unfold gtB Ieee.Format.order at hq
      rw [h, h7] at hq
      cases hq
  obtain ⟨k1, k2⟩ := key
  refine ⟨num_iff.1 k1, ceil_all k1 k2 ?_⟩
  unfold gtB at hq
  rw [gtr_num k1 num7, V7] at hq
  simpa [Rat.not_lt] using hq
theorem impl_SecondsFor (x y : Nat) (w : World) : Calls Tryz.prog 13 #[.float .f64 x, .float .f64 y] w fun e w' => e = .returned (.tuple #[.int .i64 (secN x y), .bool (secB x y)]) ∧ w = w' := by
  unfold secN secB
  cases hk : okB x y
  · cases a : geB x 0
    · unfold geB at a
      go_enter Tryz.func13, Tryz.ntmps13
      go_wp2_with (first | (go_at_call 39; refine (impl_finite _ _).mono ?_; rintro e w' ⟨rfl, rfl⟩))
      all_goals go_ret2
      all_goals exact ⟨rfl, rfl⟩
    · cases b : leB x 4726483295884279808
      · unfold geB at a; unfold leB at b
        go_enter Tryz.func13, Tryz.ntmps13
        go_wp2_with (first | (go_at_call 39; refine (impl_finite _ _).mono ?_; rintro e w' ⟨rfl, rfl⟩))
        all_goals go_ret2
        all_goals exact ⟨rfl, rfl⟩
      · cases c : numB FloatKind.f64.format y
        · unfold geB at a; unfold leB at b
          go_enter Tryz.func13, Tryz.ntmps13
          go_wp2_with (first | (go_at_call 39; refine (impl_finite _ _).mono ?_; rintro e w' ⟨rfl, rfl⟩))
          all_goals go_ret2
          all_goals exact ⟨rfl, rfl⟩
        · have d : gtB y 0 = false := by simpa [okB, a, b, c] using hk
          unfold geB at a; unfold leB at b; unfold gtB at d
          go_enter Tryz.func13, Tryz.ntmps13
          go_wp2_with (first | (go_at_call 39; refine (impl_finite _ _).mono ?_; rintro e w' ⟨rfl, rfl⟩))
          all_goals go_ret2
          all_goals exact ⟨rfl, rfl⟩
  · obtain ⟨hq, hn⟩ := sec_facts hk
    unfold okB geB leB gtB at hk
    simp only [Bool.and_eq_true] at hk
    obtain ⟨h1, h2, h3, h4⟩ := hk
    cases hg : gtB (fl .quo .f64 x y) 4711630319722168320
    · obtain ⟨n1, n, _, _, _, _, _, n2⟩ := hn hg
      have n3 : (floatToIntVal .f64 (ceilB (fl .quo .f64 x y)) .i64).isSome = true := by rw [n2]; rfl
      clear n2 hn
      unfold gtB at hg
      go_enter Tryz.func13, Tryz.ntmps13
      go_wp2_with (first | (go_at_call 39; refine (impl_finite _ _).mono ?_; rintro e w' ⟨rfl, rfl⟩) | (go_at_call 40; refine (math_Ceil _ n1 _).mono ?_; rintro e w' ⟨rfl, rfl⟩))
      go_ret2
      exact ⟨rfl, rfl⟩
    · clear hn
      unfold gtB at hg
      go_enter Tryz.func13, Tryz.ntmps13
      go_wp2_with (first | (go_at_call 39; refine (impl_finite _ _).mono ?_; rintro e w' ⟨rfl, rfl⟩))
      go_ret2
      exact ⟨rfl, rfl⟩
end Go.Proofs.YteaiaedhkhmgdaaGreat.Sc
