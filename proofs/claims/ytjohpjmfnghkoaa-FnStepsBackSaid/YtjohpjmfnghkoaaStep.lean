/- A step's velocity is told by where it began and where it ended: the drawn law walked. -/
import Derived.Test.YtjohpjmfnghkoaaSbD
import Derived.Test.YtjohpjmfnghkoaaSec
import Derived.Test.YtjohpjmfnghkoaaEx
namespace Go.Proofs.Ytjohpjmfnghkoaa.St
open Go.RowKit Kit Fl Bd It Sc Ex Sbd Go.Proofs.YtjohpjmfnghkoaaW.PrintWords Go.Proofs.YtjohpjmfnghkoaaW.PrintLast Go.Proofs.YtjohpjmfnghkoaaW.PrintMore PFnStepsBack
def within8 (x : Nat) : Bool := FloatKind.f64.format.order (x % 2 ^ 63) 4726483295884279808 == some .lt || FloatKind.f64.format.order (x % 2 ^ 63) 4726483295884279808 == some .eq
theorem impl_VectorOk (a b : Nat) (w : World) : Calls Try.prog 48 #[.complex .f64 a b] w fun e w' => e = .returned (.bool (within8 a && within8 b)) ∧ w = w' := by
  cases h1 : within8 a
  all_goals unfold within8 at h1
  · go_enter Try.func48, Try.ntmps48
    go_wp2_with (go_at_call 69; refine (math_Abs _ _).mono ?_; rintro e w' ⟨rfl, rfl⟩)
    go_ret
    exact ⟨rfl, rfl⟩
  · go_enter Try.func48, Try.ntmps48
    go_wp2_with (go_at_call 69; refine (math_Abs _ _).mono ?_; rintro e w' ⟨rfl, rfl⟩)
    go_ret
    exact ⟨rfl, rfl⟩
def am (x : Nat) : Nat := if (FloatKind.f32.format.order x 0 == some .lt) = true then Op.negFloat .f32 x else x
theorem impl_amount (x : Nat) (w : World) : Calls Try.prog 73 #[.float .f32 x] w fun e w' => e = .returned (.float .f32 (am x)) ∧ w = w' := by
  unfold am
  cases h : (FloatKind.f32.format.order x 0 == some .lt)
  · go_enter Try.func73, Try.ntmps73
    go_wp2
    go_ret
    exact ⟨rfl, rfl⟩
  · go_enter Try.func73, Try.ntmps73
    go_wp2
    go_ret
    exact ⟨rfl, rfl⟩
def within100 (x : Nat) : Bool := FloatKind.f32.format.order (am x) 1120403456 == some .lt || FloatKind.f32.format.order (am x) 1120403456 == some .eq
theorem impl_VelocityOk (a b : Nat) (w : World) : Calls Try.prog 58 #[.complex .f32 a b] w fun e w' => e = .returned (.bool (within100 a && within100 b)) ∧ w = w' := by
  cases h1 : within100 a
  all_goals unfold within100 at h1
  · go_enter Try.func58, Try.ntmps58
    go_wp2_with (go_at_call 73; refine (impl_amount _ _).mono ?_; rintro e w' ⟨rfl, rfl⟩)
    go_ret
    exact ⟨rfl, rfl⟩
  · go_enter Try.func58, Try.ntmps58
    go_wp2_with (go_at_call 73; refine (impl_amount _ _).mono ?_; rintro e w' ⟨rfl, rfl⟩)
    go_ret
    exact ⟨rfl, rfl⟩
theorem impl_less (a b c d : Nat) (h1 : (floatBits .sub .f64 a c).isSome = true) (h2 : (floatBits .sub .f64 b d).isSome = true) (w : World) : Calls Try.prog 50 #[.complex .f64 a b, .complex .f64 c d] w fun e w' => e = .returned (.complex .f64 (fl .sub .f64 a c) (fl .sub .f64 b d)) ∧ w = w' := by
  go_enter Try.func50, Try.ntmps50
  go_wp2
  go_ret
  exact ⟨rfl, rfl⟩
theorem impl_within (x l h : Int) (w : World) : Calls Try.prog 47 #[.int .i64 x, .int .i64 l, .int .i64 h] w fun e w' => e = .returned (.bool (decide (l ≤ x) && decide (x ≤ h))) ∧ w = w' := by
  go_enter Try.func47, Try.ntmps47
  go_wp2
  all_goals go_ret
  all_goals refine ⟨congrArg (fun b => Ending.returned (.bool b)) ?_, rfl⟩
  all_goals (simp_all; try omega)
/-- where a step ends -/
def stp (a u : Nat) (n : Int) : Nat := fl .add .f64 a (fl .mul .f64 (cv .f32 u .f64) (floatOfInt .f64 n))
def stpS (a u : Nat) (n : Int) : Prop := (floatToFloatBits .f32 u .f64).isSome = true ∧ (floatBits .mul .f64 (cv .f32 u .f64) (floatOfInt .f64 n)).isSome = true ∧ (floatBits .add .f64 a (fl .mul .f64 (cv .f32 u .f64) (floatOfInt .f64 n))).isSome = true
theorem impl_StepOn (a b u v : Nat) (n : Int) (w : World) (h1 : (within8 a && within8 b) = true) (h2 : (within100 u && within100 v) = true) (h3 : (decide (0 ≤ n) && decide (n ≤ 100000)) = true)
    (h4 : stpS a u n) (h5 : stpS b v n) (h6 : (within8 (stp a u n) && within8 (stp b v n)) = true) :
    Calls Try.prog 25 #[.complex .f64 a b, .complex .f32 u v, .int .i64 n] w fun e w' => e = .returned (.tuple #[.complex .f64 (stp a u n) (stp b v n), .bool true]) ∧ w = w' := by
  obtain ⟨i1, i2, i3⟩ := h4
  obtain ⟨j1, j2, j3⟩ := h5
  have H1 := Lib.hid h1
  have H2 := Lib.hid h2
  have H3 := Lib.hid h3
  have H6 := Lib.hid h6
  clear h1 h2 h3 h6
  go_enter Try.func25, Try.ntmps25
  go_wp2_with (first
    | (go_at_call 48; refine (impl_VectorOk _ _ _).mono ?_; rintro e w' ⟨rfl, rfl⟩; first | rw [H1.out] | (unfold stp at H6; rw [H6.out]))
    | (go_at_call 58; refine (impl_VelocityOk _ _ _).mono ?_; rintro e w' ⟨rfl, rfl⟩; rw [H2.out])
    | (go_at_call 47; refine (impl_within _ _ _ _).mono ?_; rintro e w' ⟨rfl, rfl⟩; rw [H3.out]))
  go_ret2
  exact ⟨rfl, rfl⟩
/-- the velocity between two places -/
def vel (p a : Nat) (n : Int) : Nat := cv .f64 (fl .quo .f64 (fl .sub .f64 p a) (floatOfInt .f64 n)) .f32
def velS (p a : Nat) (n : Int) : Prop := (floatBits .sub .f64 p a).isSome = true ∧ (floatBits .quo .f64 (fl .sub .f64 p a) (floatOfInt .f64 n)).isSome = true ∧ (floatToFloatBits .f64 (fl .quo .f64 (fl .sub .f64 p a) (floatOfInt .f64 n)) .f32).isSome = true
theorem impl_SetOf (a b p q : Nat) (n : Int) (w : World) (h1 : (within8 a && within8 b) = true) (h2 : (within8 p && within8 q) = true) (h3 : (decide (1 ≤ n) && decide (n ≤ 100000)) = true)
    (h4 : velS p a n) (h5 : velS q b n) (h6 : (within100 (vel p a n) && within100 (vel q b n)) = true) :
    Calls Try.prog 26 #[.complex .f64 a b, .complex .f64 p q, .int .i64 n] w fun e w' => e = .returned (.tuple #[.complex .f32 (vel p a n) (vel q b n), .bool true]) ∧ w = w' := by
  obtain ⟨i1, i2, i3⟩ := h4
  obtain ⟨j1, j2, j3⟩ := h5
  have H1 := Lib.hid h1
  have H2 := Lib.hid h2
  have H3 := Lib.hid h3
  have H6 := Lib.hid h6
  unfold vel at H6
  clear h1 h2 h3 h6
  go_enter Try.func26, Try.ntmps26
  go_wp2_with (first
    | (go_at_call 48; refine (impl_VectorOk _ _ _).mono ?_; rintro e w' ⟨rfl, rfl⟩; first | rw [H1.out] | rw [H2.out])
    | (go_at_call 58; refine (impl_VelocityOk _ _ _).mono ?_; rintro e w' ⟨rfl, rfl⟩; rw [H6.out])
    | (go_at_call 50; refine (impl_less _ _ _ _ i1 j1 _).mono ?_; rintro e w' ⟨rfl, rfl⟩)
    | (go_at_call 47; refine (impl_within _ _ _ _).mono ?_; rintro e w' ⟨rfl, rfl⟩; rw [H3.out]))
  go_ret2
  exact ⟨rfl, rfl⟩
/-! ### the numbers -/
theorem p23 : p2 (-3) * 8 = 1 := by
  have h : p2 (-3) * p2 ((3 : Nat) : Int) = 1 := by rw [← p2_add]; exact p2_zero
  rw [p2_nat] at h
  have h2 : ((2 ^ 3 : Nat) : Rat) = 8 := by decide +kernel
  rwa [h2] at h
theorem lit8 : Ex .f64 4620693217682128896 8 0 := by
  have h : floatOfInt .f64 8 = 4620693217682128896 := by decide +kernel
  rw [← h]; exact Ex.ofInt 8 (by decide +kernel) (by decide +kernel) (by decide)
theorem lit8s : Ex .f32 1090519040 8 0 := by
  have h : floatOfInt .f32 8 = 1090519040 := by decide +kernel
  rw [← h]; exact Ex.ofInt 8 (by decide +kernel) (by decide +kernel) (by decide)
theorem lit100 : Ex .f32 1120403456 100 0 := by
  have h : floatOfInt .f32 100 = 1120403456 := by decide +kernel
  rw [← h]; exact Ex.ofInt 100 (by decide +kernel) (by decide +kernel) (by decide)
theorem lit1e8 : Ex .f64 4726483295884279808 100000000 0 := by
  have h : floatOfInt .f64 100000000 = 4726483295884279808 := by decide +kernel
  rw [← h]; exact Ex.ofInt 100000000 (by decide +kernel) (by decide +kernel) (by decide)
theorem b64 : 2 * FloatKind.f64.format.binade = 9007199254740992 := by decide +kernel
theorem b32 : 2 * FloatKind.f32.format.binade = 16777216 := by decide +kernel
theorem eighth64 (n : Int) (h : n.natAbs ≤ 1000000) : (floatBits .quo .f64 (floatOfInt .f64 n) 4620693217682128896).isSome = true ∧ Ex .f64 (fl .quo .f64 (floatOfInt .f64 n) 4620693217682128896) n (-3) := by
  have hb := b64
  exact (Ex.ofInt n (by omega) (by decide +kernel) (by decide)).quo lit8 (-3) (by have := p23; rw [p2_zero]; push_cast; grind) (by decide) (by decide) (by omega) (by decide +kernel)
theorem eighth32 (n : Int) (h : n.natAbs ≤ 1000000) : (floatBits .quo .f32 (floatOfInt .f32 n) 1090519040).isSome = true ∧ Ex .f32 (fl .quo .f32 (floatOfInt .f32 n) 1090519040) n (-3) := by
  have hb := b32
  exact (Ex.ofInt n (by omega) (by decide +kernel) (by decide)).quo lit8s (-3) (by have := p23; rw [p2_zero]; push_cast; grind) (by decide) (by decide) (by omega) (by decide +kernel)
theorem within8_ex {x : Nat} {c : Int} (hx : Ex .f64 x c (-3)) (hc : c.natAbs ≤ 800000000) : within8 x = true := by
  obtain ⟨s, m, e, hr⟩ := hx.num
  have hv := hx.val
  rw [V_of hr] at hv
  have ha := read_abs x
  rw [hr] at ha
  have hn : Num FloatKind.f64.format (x % 2 ^ 63) := ⟨_, _, _, ha⟩
  have hva := V_of ha
  have h8 := p23
  have hp := p2_pos (-3)
  have hm := p2_pos e
  have hm0 : 0 ≤ (m : Rat) * p2 e := Rat.mul_nonneg (by exact_mod_cast Nat.zero_le m) (Rat.le_of_lt hm)
  have c1 : (c : Rat) ≤ 800000000 := by
    have : (c : Rat) ≤ ((800000000 : Int) : Rat) := Rat.intCast_le_intCast.2 (by omega)
    exact this
  have c2 : -800000000 ≤ (c : Rat) := by
    have : ((-800000000 : Int) : Rat) ≤ (c : Rat) := Rat.intCast_le_intCast.2 (by omega)
    exact this
  have d1 := mul_le_of (Rat.le_of_lt hp) c1
  have d2 := mul_le_of (Rat.le_of_lt hp) c2
  have hV : V FloatKind.f64.format (x % 2 ^ 63) ≤ V FloatKind.f64.format 4726483295884279808 := by
    rw [hva, lit1e8.val, p2_zero]
    unfold sval at hv ⊢
    cases s <;> simp only [Bool.false_eq_true, if_false, if_true] at hv ⊢ <;> push_cast <;> grind
  unfold within8
  rw [lss_num hn lit1e8.num, eql_num hn lit1e8.num]
  simp only [Bool.or_eq_true, decide_eq_true_eq]
  grind
theorem neg_read (x : Nat) {s : Bool} {m : Nat} {e : Int} (h : FloatKind.f32.format.read x = .number s m e) : FloatKind.f32.format.read (Op.negFloat .f32 x) = .number (!s) m e := by
  have hn : Op.negFloat .f32 x = x ^^^ 2 ^ 31 := rfl
  have hS : FloatKind.f32.format.signWeight = 2 ^ 31 := by decide
  have e1 : (x ^^^ 2 ^ 31) % 2 ^ 31 = x % 2 ^ 31 := by
    rw [Nat.xor_mod_two_pow, Nat.mod_self, Nat.xor_zero]
  have e2 : (x ^^^ 2 ^ 31) / 2 ^ 31 % 2 = 1 - x / 2 ^ 31 % 2 := by
    rw [Nat.xor_div_two_pow, Nat.div_self (by decide)]
    have h1 := Nat.xor_mod_two_pow (a := x / 2 ^ 31) (b := 1) (n := 1)
    rw [Nat.pow_one] at h1
    rw [h1]
    have : x / 2 ^ 31 % 2 < 2 := Nat.mod_lt _ (by decide)
    generalize x / 2 ^ 31 % 2 = t at *
    have : t = 0 ∨ t = 1 := by omega
    rcases this with rfl | rfl <;> decide
  rw [hn]
  unfold Ieee.Format.read at h ⊢
  rw [hS] at h ⊢
  rw [e1, e2]
  dsimp only at h ⊢
  have hs : (1 - x / 2 ^ 31 % 2 == 1) = !(x / 2 ^ 31 % 2 == 1) := by
    have : x / 2 ^ 31 % 2 < 2 := Nat.mod_lt _ (by decide)
    generalize x / 2 ^ 31 % 2 = t at *
    have : t = 0 ∨ t = 1 := by omega
    rcases this with rfl | rfl <;> decide
  rw [hs]
  generalize x % 2 ^ 31 = r at h ⊢
  split at h
  · rename_i h1
    rw [if_pos h1]
    simp only [Ieee.Datum.number.injEq] at h ⊢
    simp [h.1.symm, h.2]
  · rename_i h1
    rw [if_neg h1]
    split at h
    · rename_i h2
      rw [if_pos h2]
      simp only [Ieee.Datum.number.injEq] at h ⊢
      simp [h.1.symm, h.2]
    · split at h <;> cases h
theorem within100_ex {x : Nat} {c : Int} (hx : Ex .f32 x c (-3)) (hc : c.natAbs ≤ 800) : within100 x = true := by
  have h8 := p23
  have hp := p2_pos (-3)
  have c1 : (c : Rat) ≤ 800 := by
    have : (c : Rat) ≤ ((800 : Int) : Rat) := Rat.intCast_le_intCast.2 (by omega)
    exact this
  have c2 : -800 ≤ (c : Rat) := by
    have : ((-800 : Int) : Rat) ≤ (c : Rat) := Rat.intCast_le_intCast.2 (by omega)
    exact this
  have d1 := mul_le_of (Rat.le_of_lt hp) c1
  have d2 := mul_le_of (Rat.le_of_lt hp) c2
  have key : Num FloatKind.f32.format (am x) ∧ V FloatKind.f32.format (am x) ≤ 100 := by
    unfold am
    split
    · obtain ⟨s, m, e, hr⟩ := hx.num
      have hr' := neg_read x hr
      refine ⟨⟨_, _, _, hr'⟩, ?_⟩
      have hv := hx.val
      rw [V_of hr] at hv
      rw [V_of hr', sval_opp, hv]
      grind
    · exact ⟨hx.num, by rw [hx.val]; grind⟩
  have v100 : V FloatKind.f32.format 1120403456 = 100 := by rw [lit100.val, p2_zero]; push_cast; grind
  unfold within100
  rw [lss_num key.1 lit100.num, eql_num key.1 lit100.num, v100]
  simp only [Bool.or_eq_true, decide_eq_true_eq]
  have := key.2
  grind
/-- one coordinate of a step and of the way back -/
theorem coord {a u : Nat} {x c n : Int} (ha : Ex .f64 a x (-3)) (hu : Ex .f32 u c (-3)) (hx : 0 ≤ x ∧ x ≤ 10000) (hc : c.natAbs ≤ 400) (hn : 1 ≤ n ∧ n ≤ 10000) :
    stpS a u n ∧ within8 a = true ∧ within100 u = true ∧ within8 (stp a u n) = true ∧ velS (stp a u n) a n ∧ within100 (vel (stp a u n) a n) = true ∧ FloatKind.f32.format.order (vel (stp a u n) a n) u = some .eq := by
  have hb := b64
  have hb2 := b32
  have hcn : (c * n).natAbs ≤ 4000000 := by
    rw [Int.natAbs_mul]
    have := Nat.mul_le_mul hc (show n.natAbs ≤ 10000 by omega)
    omega
  have hN : Ex .f64 (floatOfInt .f64 n) n 0 := Ex.ofInt n (by omega) (by decide +kernel) (by decide)
  obtain ⟨s1, e1⟩ := hu.conv (k := .f64) (by decide) (by decide) (by omega) (by decide +kernel)
  have s2 := e1.mulS hN
  have e2 : Ex .f64 (fl .mul .f64 (cv .f32 u .f64) (floatOfInt .f64 n)) (c * n) (-3) := e1.mul hN (by decide) (by omega) (by decide +kernel)
  have s3 := ha.addS e2
  have e3 : Ex .f64 (stp a u n) (x + c * n) (-3) := ha.add e2 (by decide) (by omega) (by decide +kernel)
  have s4 := e3.subS ha
  have e4 := e3.sub ha (by decide) (show (x + c * n - x).natAbs < _ by omega) (by decide +kernel)
  rw [show x + c * n - x = c * n by omega] at e4
  obtain ⟨s5, e5⟩ := e4.quo hN (q := c) (-3) (by rw [p2_zero]; push_cast; grind) (by omega) (by decide) (by omega) (by decide +kernel)
  obtain ⟨s6, e6⟩ := e5.conv (k := .f32) (by decide) (by decide) (by omega) (by decide +kernel)
  exact ⟨⟨s1, s2, s3⟩, within8_ex ha (by omega), within100_ex hu (by omega), within8_ex e3 (by omega), ⟨s4, s5, s6⟩, within100_ex e6 (by omega), Ex.eq e6 hu⟩
/-! ### the drawn list -/
theorem places_loop (b : List Int) : ∀ (d k : Nat) (xs : List Int) (x5 i h : Int), x5 + d = 12 → 0 ≤ x5 → d < k → 0 ≤ i → i + 4 * d ≤ 1000000 → (xs.length : Int) = x5 → (∀ x ∈ xs, 0 ≤ x ∧ x < 10000) →
    ∃ r, spec_DrawPlaces.l0 k xs x5 b i h = some r ∧ r.length = 12 ∧ ∀ x ∈ r, 0 ≤ x ∧ x < 10000 := by
  intro d
  induction d with
  | zero =>
    intro k xs x5 i h h1 h2 h3 h4 h5 h6 h7
    obtain ⟨k, rfl⟩ : ∃ m, k = m + 1 := ⟨k - 1, by omega⟩
    simp only [spec_DrawPlaces.l0]
    rw [if_neg (by omega)]
    exact ⟨_, rfl, by omega, h7⟩
  | succ d ih =>
    intro k xs x5 i h h1 h2 h3 h4 h5 h6 h7
    obtain ⟨k, rfl⟩ : ∃ m, k = m + 1 := ⟨k - 1, by omega⟩
    simp only [spec_DrawPlaces.l0]
    rw [if_pos (by omega)]
    obtain ⟨x, i', h', e, a, c, g, f, _⟩ := below_some b i h 10000 ⟨h4, by omega⟩ (by omega)
    rw [e, Option.bind_some, if_pos (by omega), w64 (n := x5 + 1) (by omega) (by omega)]
    refine ih k _ _ _ _ (by omega) (by omega) (by omega) a (by simp only []; omega) (by simp; omega) ?_
    intro y hy
    rcases List.mem_append.1 hy with hy | hy
    · exact h7 y hy
    · simp at hy
      subst hy
      exact ⟨g, f (by omega)⟩
theorem places_some (l : List Int) (hl : l.length ≤ 1048576) : ∃ r, spec_DrawPlaces.f (l.length + 20) l = some r ∧ r.length = 12 ∧ ∀ x ∈ r, 0 ≤ x ∧ x < 10000 := by
  obtain ⟨h, e⟩ := new_some l hl (l.length + 20) (by omega)
  unfold spec_DrawPlaces.f
  rw [e, Option.bind_some]
  exact places_loop l 12 _ [] 0 0 h (by omega) (by omega) (by omega) (by omega) (by omega) rfl (fun x hx => by cases hx)
theorem rd_in {r : List Int} (hr : ∀ x ∈ r, 0 ≤ x ∧ x < 10000) (i : Int) (h0 : 0 ≤ i) (h1 : i < r.length) : 0 ≤ rd r i ∧ rd r i < 10000 := by
  have hi : i.toNat < r.length := by omega
  have : rd r i = r[i.toNat] := by unfold rd; rw [List.getD_eq_getElem?_getD, List.getElem?_eq_getElem hi]; rfl
  rw [this]
  exact hr _ (List.getElem_mem hi)
theorem law {w : World} {A0 : Option Addr} {c0 : Nat} {l0 : List Int} (hr0 : Kd.C (Kd.int .u8) w A0 l0.length l0) (hc0 : l0.length ≤ c0) :
    Calls Try.prog 8 #[.slice A0 l0.length c0] w fun e w' => e = .returned (.bool true) ∧ Below w.heap.size w w' := by
  have HR := Lib.hid hr0
  go_enter Try.func8, Try.ntmps8
  go_wp2_with fail
  refine (laws_big.calls A0 c0 l0 (decide ((l0.length : Int) > 1048576)) w hr0 hc0 rfl).mono ?_
  rintro e w1 ⟨rfl, hd⟩
  have B1 := Lib.hid hd.below
  clear hr0 hd
  by_cases hl : (l0.length : Int) > 1048576
  · rw [decide_eq_true hl]
    go_wp2_with fail
    go_ret
    exact ⟨rfl, B1.out⟩
  · rw [decide_eq_false hl]
    obtain ⟨r, hr, hr12, hrr⟩ := places_some l0 (by omega)
    go_wp2_with fail
    refine (spec_DrawPlaces.calls (l0.length + 20) A0 c0 l0 r w1 (Kd.C_below HR.out B1.out) hc0 hr).mono ?_
    rintro e w2 ⟨v0, rfl, hR, hB2⟩
    obtain ⟨A, c, rfl, hc, hC⟩ := Kd.R_reads hR
    have hR' := hR
    have B2 := Lib.hid (B1.out.trans (hB2.mono B1.out.size))
    clear hB2 hR
    obtain ⟨ad, rfl, m0⟩ := Kd.at_int hC 0 (by omega) (by omega)
    obtain ⟨bl, rfl⟩ := Kd.R_head hR'
    clear hR'
    obtain ⟨ad1, e1, m1⟩ := Kd.at_int hC 1 (by omega) (by omega)
    obtain ⟨ad2, e2, m2⟩ := Kd.at_int hC 2 (by omega) (by omega)
    obtain ⟨ad3, e3, m3⟩ := Kd.at_int hC 3 (by omega) (by omega)
    obtain ⟨ad4, e4, m4⟩ := Kd.at_int hC 4 (by omega) (by omega)
    cases e1; cases e2; cases e3; cases e4
    obtain ⟨r0, s0⟩ := rd_in hrr 0 (by omega) (by omega)
    obtain ⟨r1, s1⟩ := rd_in hrr 1 (by omega) (by omega)
    obtain ⟨r2, s2⟩ := rd_in hrr 2 (by omega) (by omega)
    obtain ⟨r3, s3⟩ := rd_in hrr 3 (by omega) (by omega)
    obtain ⟨r4, s4⟩ := rd_in hrr 4 (by omega) (by omega)
    clear hrr hC hr
    rw [hr12] at hc ⊢
    clear hr12
    generalize rd r 0 = x0 at *
    generalize rd r 1 = x1 at *
    generalize rd r 2 = x2 at *
    generalize rd r 3 = x3 at *
    generalize rd r 4 = x4 at *
    replace m0 : w2.cell? ⟨bl, 0, none⟩ = some (.int .i64 x0) := m0
    replace m1 : w2.cell? ⟨bl, 1, none⟩ = some (.int .i64 x1) := m1
    replace m2 : w2.cell? ⟨bl, 2, none⟩ = some (.int .i64 x2) := m2
    replace m3 : w2.cell? ⟨bl, 3, none⟩ = some (.int .i64 x3) := m3
    replace m4 : w2.cell? ⟨bl, 4, none⟩ = some (.int .i64 x4) := m4
    obtain ⟨f0, g0⟩ := eighth64 x0 (by omega)
    obtain ⟨f1, g1⟩ := eighth64 x1 (by omega)
    have t2 : IntKind.i64.wrap (Int.tmod x2 801 - 400) = x2 % 801 - 400 := by rw [Int.tmod_eq_emod_of_nonneg r2, IntKind.wrap_i64]; omega
    have t3 : IntKind.i64.wrap (Int.tmod x3 801 - 400) = x3 % 801 - 400 := by rw [Int.tmod_eq_emod_of_nonneg r3, IntKind.wrap_i64]; omega
    have t4 : wrap64 (1 + x4) = 1 + x4 := by unfold wrap64; omega
    obtain ⟨f2, g2⟩ := eighth32 (x2 % 801 - 400) (by omega)
    obtain ⟨f3, g3⟩ := eighth32 (x3 % 801 - 400) (by omega)
    have u2 : wrap64 (Int.tmod x2 801 - 400) = x2 % 801 - 400 := by rw [Int.tmod_eq_emod_of_nonneg r2]; unfold wrap64; omega
    have u3 : wrap64 (Int.tmod x3 801 - 400) = x3 % 801 - 400 := by rw [Int.tmod_eq_emod_of_nonneg r3]; unfold wrap64; omega
    have v2 := f2
    have v3 := f3
    have y2 := f2
    have y3 := f3
    rw [← t2] at v2
    rw [← t3] at v3
    rw [← u2] at y2
    rw [← u3] at y3
    go_wp2_with fail
    have HS := Lib.hid (And.intro m0 (And.intro m1 (And.intro m2 (And.intro m3 (And.intro m4 B2.out)))))
    clear m0 m1 m2 m3 m4
    go_region_held3 (fun w' => w'.cell? ⟨bl, 0, none⟩ = some (.int .i64 x0) ∧ w'.cell? ⟨bl, 1, none⟩ = some (.int .i64 x1) ∧ w'.cell? ⟨bl, 2, none⟩ = some (.int .i64 x2) ∧ w'.cell? ⟨bl, 3, none⟩ = some (.int .i64 x3) ∧ w'.cell? ⟨bl, 4, none⟩ = some (.int .i64 x4) ∧ Below w.heap.size w w')
      (first | exact HS.out | (obtain ⟨a0, a1, a2, a3, a4, a5⟩ := HS.out; exact ⟨a0, a1, a2, a3, a4, a5.drew⟩) | assumption)
      (fail)
    rename_i hH
    replace HS := Lib.hid hH
    clear hH
    generalize w2.drew = w3 at *
    go_wp2_with fail
    go_region_held3 (fun w' => w'.cell? ⟨bl, 0, none⟩ = some (.int .i64 x0) ∧ w'.cell? ⟨bl, 1, none⟩ = some (.int .i64 x1) ∧ w'.cell? ⟨bl, 2, none⟩ = some (.int .i64 x2) ∧ w'.cell? ⟨bl, 3, none⟩ = some (.int .i64 x3) ∧ w'.cell? ⟨bl, 4, none⟩ = some (.int .i64 x4) ∧ Below w.heap.size w w')
      (first | exact HS.out | (obtain ⟨a0, a1, a2, a3, a4, a5⟩ := HS.out; exact ⟨a0, a1, a2, a3, a4, a5.drew⟩) | assumption)
      (fail)
    rename_i hH
    replace HS := Lib.hid hH
    clear hH
    generalize w3.drew = w4 at *
    try simp only [t2, t3, u2, u3]
    obtain ⟨a0, a1, a2, a3, a4, a5⟩ := HS.out
    obtain ⟨c1, c2, c3, c4, c5, c6, c7⟩ := coord g0 g2 (n := 1 + x4) (by omega) (by omega) (by omega)
    obtain ⟨d1, d2, d3, d4, d5, d6, d7⟩ := coord g1 g3 (n := 1 + x4) (by omega) (by omega) (by omega)
    clear HS a0 a1 a2 a3
    have B4 := Lib.hid a5
    clear a5
    go_wp2_with fail
    refine (impl_StepOn _ _ _ _ _ _ (by rw [c2, d2]; rfl) (by rw [c3, d3]; rfl) (by simp; omega) c1 d1 (by rw [c4, d4]; rfl)).mono ?_
    rintro e w' ⟨rfl, rfl⟩
    go_wp2_with fail
    refine (impl_SetOf _ _ _ _ _ _ (by rw [c2, d2]; rfl) (by rw [c4, d4]; rfl) (by simp; omega) c5 d5 (by rw [c6, d6]; rfl)).mono ?_
    rintro e w' ⟨rfl, rfl⟩
    clear c1 c2 c3 c4 c5 c6 d1 d2 d3 d4 d5 d6 f0 f1 f2 f3 v2 v3 y2 y3
    go_wp2_with fail
    go_ret
    exact ⟨by simp [*], B4.out⟩
end Go.Proofs.Ytjohpjmfnghkoaa.St
namespace Go.Proofs.Ytjohpjmfnghkoaa.Pure
open Go.RowKit Go.Proofs.YtjohpjmfnghkoaaW.PrintWords Go.Proofs.YtjohpjmfnghkoaaW.PrintLast Go.Proofs.YtjohpjmfnghkoaaW.PrintMore
theorem FnStepsBackWalk (a0 : Option Addr) (len0 cap0 : Nat) (z0 : List Int) (w : World) (w0 : (a0 = none ∧ len0 = 0 ∧ cap0 = 0 ∧ z0 = []) ∨ ∃ x, a0 = some x ∧ len0 ≤ cap0 ∧ cap0 ≤ maxLen ∧ z0.length = cap0 ∧ (∀ i, i < z0.length → w.cell? (x.add i) = some (.int .u8 (z0.getD i 0))) ∧ ∀ n ∈ z0, (Lit.int .u8 n).wf = true) (_ : len0 * 1 ≤ 140737488351232) :
    Calls Try.prog 8 #[.slice a0 len0 cap0] w fun e w' => e = .returned (.bool true) ∧ Below w.heap.size w w' := by
  obtain ⟨l0, rfl, hr0, _, _, hc0⟩ := ReadsInt.ofRowC w0
  exact St.law (Kd.C_of_reads (d := (0 : Int)) (h1 := fun _ => rfl) hr0) hc0
end Go.Proofs.Ytjohpjmfnghkoaa.Pure
