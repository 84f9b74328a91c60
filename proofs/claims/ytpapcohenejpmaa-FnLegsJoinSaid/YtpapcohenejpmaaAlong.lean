/- Velocities over the ground, along a track and off it: firm, and what both sides come to. -/
import Derived.Test.YtpapcohenejpmaaVel
import Derived.Test.YtpapcohenejpmaaBd
import Derived.Test.YtpapcohenejpmaaSeci
namespace Go.Proofs.Ytpapcohenejpmaa.Al
open Go.RowKit Kit Fl Bd Tn Vl Sc
/-! ### bounds -/
def okB (z : Nat × Nat) : Bool := (bndB .f64 1 z.1 && bndB .f64 1 z.2) && (bndB .f32 1 (cv .f64 z.1 .f32) && bndB .f32 1 (cv .f64 z.2 .f32))
def chkB : Nat → Nat × Nat → Bool
  | 0, _ => true
  | n + 1, z => okB z && chkB n (st z)
theorem chkB_all : chkB 360 (tb 0) = true := by decide +kernel
theorem chkB_get : ∀ (n i k : Nat), chkB n (tb k) = true → i < n → okB (tb (k + i)) = true := by
  intro n
  induction n with
  | zero => intro i k _ h; omega
  | succ n ih =>
    intro i k h hi
    simp only [chkB, Bool.and_eq_true] at h
    cases i with
    | zero => exact h.1
    | succ i =>
      have := ih i (k + 1) h.2 (by omega)
      rw [show k + (i + 1) = k + 1 + i by omega]; exact this
structure BT (z : Nat × Nat) : Prop where
  a1 : Bnd .f64 1 z.1
  a2 : Bnd .f64 1 z.2
  b1 : Bnd .f32 1 (cv .f64 z.1 .f32)
  b2 : Bnd .f32 1 (cv .f64 z.2 .f32)
  n : okN z = true
theorem bt_tb (i : Nat) (h : i < 360) : BT (tb i) := by
  have := chkB_get 360 i 0 chkB_all h
  rw [Nat.zero_add] at this
  unfold okB at this
  simp only [Bool.and_eq_true] at this
  obtain ⟨⟨h1, h2⟩, h3, h4⟩ := this
  exact ⟨bnd_lit (e := 1) h1, bnd_lit (e := 1) h2, bnd_lit (e := 1) h3, bnd_lit (e := 1) h4, okN_tb i h⟩
theorem p2n (n : Nat) (r : Rat) (h : ((2 ^ n : Nat) : Rat) = r) : p2 (n : Int) = r := by rw [p2_nat, h]
theorem bnd_speed {s : Nat} (h : speedB s = true) : Bnd .f32 6 s := by
  have hs := speed_num h
  have h50 : Num FloatKind.f32.format 1112014848 := num_iff.2 (by decide +kernel)
  have h0 : Num FloatKind.f32.format 0 := num_iff.2 (by decide +kernel)
  have b50 : Bnd .f32 ((6 : Nat) : Int) 1112014848 := bnd_lit (by decide +kernel)
  have b0 : Bnd .f32 ((0 : Nat) : Int) 0 := bnd_lit (by decide +kernel)
  have v0 : V FloatKind.f32.format 0 = 0 := by
    rw [V_of (show FloatKind.f32.format.read 0 = .number false 0 (-149) by decide +kernel)]
    simp [sval]
  unfold speedB at h
  rw [gtr_num hs h0, eql_num hs h0, lss_num hs h50, eql_num hs h50, v0] at h
  simp only [Bool.and_eq_true, Bool.or_eq_true, decide_eq_true_eq] at h
  have hp := p2_pos (6 : Int)
  have := b50.hi
  have e6 : p2 ((6 : Nat) : Int) = p2 6 := rfl
  rw [e6] at this
  exact ⟨hs, by grind, by grind⟩
theorem neg_read (x : Nat) : FloatKind.f32.format.read (Op.negFloat .f32 x) = match FloatKind.f32.format.read x with | .number s m e => .number (!s) m e | .infinity s => .infinity (!s) | .nan s t => .nan (!s) t := by
  have hn : Op.negFloat .f32 x = x ^^^ 2 ^ 31 := rfl
  have hS : FloatKind.f32.format.signWeight = 2 ^ 31 := by decide
  have e1 : (x ^^^ 2 ^ 31) % 2 ^ 31 = x % 2 ^ 31 := by
    rw [Nat.xor_mod_two_pow, Nat.mod_self, Nat.xor_zero]
  have e2 : (x ^^^ 2 ^ 31) / 2 ^ 31 % 2 = 1 - x / 2 ^ 31 % 2 := by
    rw [Nat.xor_div_two_pow, Nat.div_self (by decide)]
    have h1 := Nat.xor_mod_two_pow (a := x / 2 ^ 31) (b := 1) (n := 1)
    rw [Nat.pow_one] at h1
    rw [h1]
    have : x / 2 ^ 31 % 2 < 2 := Nat.mod_lt _ (by decide)
    generalize x / 2 ^ 31 % 2 = t at *
    have : t = 0 ∨ t = 1 := by omega
    rcases this with rfl | rfl <;> decide
  rw [hn]
  unfold Ieee.Format.read
  rw [hS, e1, e2]
  dsimp only
  have hs : (1 - x / 2 ^ 31 % 2 == 1) = !(x / 2 ^ 31 % 2 == 1) := by
    have : x / 2 ^ 31 % 2 < 2 := Nat.mod_lt _ (by decide)
    generalize x / 2 ^ 31 % 2 = t at *
    have : t = 0 ∨ t = 1 := by omega
    rcases this with rfl | rfl <;> decide
  rw [hs]
  generalize x % 2 ^ 31 = r
  split
  · rfl
  · split
    · rfl
    · split <;> rfl
def am (x : Nat) : Nat := if (FloatKind.f32.format.order x 0 == some .lt) = true then Op.negFloat .f32 x else x
def within100 (x : Nat) : Bool := FloatKind.f32.format.order (am x) 1120403456 == some .lt || FloatKind.f32.format.order (am x) 1120403456 == some .eq
theorem bnd_100 {x : Nat} (h : within100 x = true) : Bnd .f32 7 x := by
  have h0 : Num FloatKind.f32.format 0 := num_iff.2 (by decide +kernel)
  have h100 : Num FloatKind.f32.format 1120403456 := num_iff.2 (by decide +kernel)
  have b100 : Bnd .f32 ((7 : Nat) : Int) 1120403456 := bnd_lit (by decide +kernel)
  have hb := b100.hi
  have e7 : p2 ((7 : Nat) : Int) = p2 7 := rfl
  rw [e7] at hb
  have hp := p2_pos (7 : Int)
  have v0 : V FloatKind.f32.format 0 = 0 := by
    rw [V_of (show FloatKind.f32.format.read 0 = .number false 0 (-149) by decide +kernel)]
    simp [sval]
  have hn := neg_read x
  unfold within100 am at h
  cases hx : FloatKind.f32.format.read x with
  | nan s t =>
    exfalso
    have hf : ¬ Firm FloatKind.f32.format x := fun k => k s t hx
    rw [(order_nan hf 0).1] at h
    rw [if_neg (by decide), (order_nan hf 1120403456).1] at h
    simp at h
  | infinity s =>
    exfalso
    rw [hx] at hn
    obtain ⟨t, m, e, h100⟩ := h100
    obtain ⟨t', m', e', h0⟩ := h0
    have o1 : FloatKind.f32.format.order x 0 = some (if s then .lt else .gt) := by unfold Ieee.Format.order; rw [hx, h0]; rfl
    rw [o1] at h
    cases s
    · have o2 : FloatKind.f32.format.order x 1120403456 = some .gt := by unfold Ieee.Format.order; rw [hx, h100]; rfl
      simp [o2] at h
    · have o2 : FloatKind.f32.format.order (Op.negFloat .f32 x) 1120403456 = some .gt := by unfold Ieee.Format.order; rw [hn, h100]; rfl
      simp [o2] at h
  | number s m e =>
    rw [hx] at hn
    have hX : Num FloatKind.f32.format x := ⟨_, _, _, hx⟩
    have hN : Num FloatKind.f32.format (Op.negFloat .f32 x) := ⟨_, _, _, hn⟩
    have hV : V FloatKind.f32.format (Op.negFloat .f32 x) = -V FloatKind.f32.format x := by rw [V_of hn, V_of hx, sval_opp]
    rw [lss_num hX h0, v0] at h
    by_cases hlt : V FloatKind.f32.format x < 0
    · rw [if_pos (by simpa using hlt), lss_num hN h100, eql_num hN h100, hV] at h
      simp only [Bool.or_eq_true, decide_eq_true_eq] at h
      exact ⟨hX, by grind, by grind⟩
    · rw [if_neg (by simpa using hlt), lss_num hX h100, eql_num hX h100] at h
      simp only [Bool.or_eq_true, decide_eq_true_eq] at h
      exact ⟨hX, by grind, by grind⟩
/-- widened, within the same bound -/
theorem bnd_wide {x : Nat} {e : Nat} (h : Bnd .f32 e x) (he : e ≤ 100) : (floatToFloatBits .f32 x .f64).isSome = true ∧ Bnd .f64 e (cv .f32 x .f64) := by
  have hS := Sm.cv_wide h.num.firm
  refine ⟨hS, ?_⟩
  obtain ⟨g, m, i, hr⟩ := h.num
  have lo := h.lo
  have hi := h.hi
  rw [V_of hr] at lo hi
  have hr1 : reach FloatKind.f64.format = 1023 := by decide +kernel
  have hR : p2 ((e : Nat) : Int) < p2 (reach FloatKind.f64.format) := p2_lt (by omega)
  have hw := write_num FloatKind.f64.format (Sm.kx .f64) g m i (sval_abs g m i _ (by grind) (by grind))
  have hf : cv .f32 x .f64 = FloatKind.f64.format.write (.number g m i) := by
    obtain ⟨r, hr'⟩ := Option.isSome_iff_exists.1 hS
    have h2 := hr'
    unfold floatToFloatBits at h2
    rw [if_neg (by decide)] at h2
    have hd : FloatKind.f32.decode x = .number g m i := hr
    rw [hd] at h2
    simp only [] at h2
    split at h2
    · cases h2
    · unfold cv; rw [hr']
      simp only [Option.some.injEq] at h2
      rw [← h2]; rfl
  rw [hf]
  have hl1 : FloatKind.f64.format.leastPlace = -1074 := by decide
  have hL : FloatKind.f64.format.leastPlace ≤ (e : Int) := by omega
  exact ⟨hw.1, hw.2.ge_p2 _ hL lo, hw.2.le_p2 _ hL hi⟩
/-! ### velocities, made good -/
def vk (z : Nat × Nat) (s c d : Nat) : Nat × Nat := (fl .add .f32 (along z s).1 c, fl .add .f32 (along z s).2 d)
def wk (z : Nat × Nat) (s c d : Nat) : Nat × Nat := (cv .f32 (vk z s c d).1 .f64, cv .f32 (vk z s c d).2 .f64)
def dotP (t w : Nat × Nat) : Nat := fl .add .f64 (fl .mul .f64 t.1 w.1) (fl .mul .f64 t.2 w.2)
def crossP (t w : Nat × Nat) : Nat := fl .sub .f64 (fl .mul .f64 t.1 w.2) (fl .mul .f64 t.2 w.1)
structure Sure (t z : Nat × Nat) (s c d : Nat) : Prop where
  m1 : (floatBits .mul .f32 (cv .f64 z.1 .f32) s).isSome = true
  m2 : (floatBits .mul .f32 (cv .f64 z.2 .f32) s).isSome = true
  a1 : (floatBits .add .f32 (along z s).1 c).isSome = true
  a2 : (floatBits .add .f32 (along z s).2 d).isSome = true
  w1 : (floatToFloatBits .f32 (vk z s c d).1 .f64).isSome = true
  w2 : (floatToFloatBits .f32 (vk z s c d).2 .f64).isSome = true
  d1 : (floatBits .mul .f64 t.1 (wk z s c d).1).isSome = true
  d2 : (floatBits .mul .f64 t.2 (wk z s c d).2).isSome = true
  d3 : (floatBits .add .f64 (fl .mul .f64 t.1 (wk z s c d).1) (fl .mul .f64 t.2 (wk z s c d).2)).isSome = true
  c1 : (floatBits .mul .f64 t.1 (wk z s c d).2).isSome = true
  c2 : (floatBits .mul .f64 t.2 (wk z s c d).1).isSome = true
  c3 : (floatBits .sub .f64 (fl .mul .f64 t.1 (wk z s c d).2) (fl .mul .f64 t.2 (wk z s c d).1)).isSome = true
  dn : Num FloatKind.f64.format (dotP t (wk z s c d))
  cn : Num FloatKind.f64.format (crossP t (wk z s c d))
theorem sure {t z : Nat × Nat} {s c d : Nat} (ht : BT t) (hz : BT z) (hs : speedB s = true) (hc : within100 c = true) (hd : within100 d = true) : Sure t z s c d := by
  have bs := bnd_speed hs
  have bc := (bnd_100 hc).mono (show (7 : Int) ≤ 7 by omega)
  have bd := (bnd_100 hd).mono (show (7 : Int) ≤ 7 by omega)
  have x1 : Bnd .f32 7 (along z s).1 := hz.b1.mul bs (by decide) (by decide +kernel)
  have x2 : Bnd .f32 7 (along z s).2 := hz.b2.mul bs (by decide) (by decide +kernel)
  have y1 : Bnd .f32 ((8 : Nat) : Int) (vk z s c d).1 := x1.add bc (by decide) (by decide +kernel)
  have y2 : Bnd .f32 ((8 : Nat) : Int) (vk z s c d).2 := x2.add bd (by decide) (by decide +kernel)
  obtain ⟨w1, u1⟩ := bnd_wide y1 (by omega)
  obtain ⟨w2, u2⟩ := bnd_wide y2 (by omega)
  have p11 : Bnd .f64 9 (fl .mul .f64 t.1 (wk z s c d).1) := ht.a1.mul u1 (by decide) (by decide +kernel)
  have p22 : Bnd .f64 9 (fl .mul .f64 t.2 (wk z s c d).2) := ht.a2.mul u2 (by decide) (by decide +kernel)
  have p12 : Bnd .f64 9 (fl .mul .f64 t.1 (wk z s c d).2) := ht.a1.mul u2 (by decide) (by decide +kernel)
  have p21 : Bnd .f64 9 (fl .mul .f64 t.2 (wk z s c d).1) := ht.a2.mul u1 (by decide) (by decide +kernel)
  exact ⟨hz.b1.mulS bs, hz.b2.mulS bs, x1.addS bc, x2.addS bd, w1, w2, ht.a1.mulS u1, ht.a2.mulS u2, p11.addS p22, ht.a1.mulS u2, ht.a2.mulS u1, p12.subS p21,
    (p11.add p22 (by decide) (by decide +kernel)).num, (p12.sub p21 (by decide) (by decide +kernel)).num⟩
/-! ### the functions -/
theorem impl_amount (x : Nat) (w : World) : Calls Try.prog 78 #[.float .f32 x] w fun e w' => e = .returned (.float .f32 (am x)) ∧ w = w' := by
  unfold am
  cases h : (FloatKind.f32.format.order x 0 == some .lt)
  all_goals go_enter Try.func78, Try.ntmps78
  all_goals go_wp2
  all_goals go_ret
  all_goals exact ⟨rfl, rfl⟩
theorem impl_VelocityOk (a b : Nat) (w : World) : Calls Try.prog 50 #[.complex .f32 a b] w fun e w' => e = .returned (.bool (within100 a && within100 b)) ∧ w = w' := by
  cases h1 : within100 a
  all_goals unfold within100 at h1
  all_goals go_enter Try.func50, Try.ntmps50
  all_goals go_wp2_with (go_at_call 78; refine (impl_amount _ _).mono ?_; rintro e w' ⟨rfl, rfl⟩)
  all_goals go_ret
  all_goals exact ⟨rfl, rfl⟩
theorem spec_l03Amount (x : Nat) (w : World) : Calls Try.prog 90 #[.float .f32 x] w fun e w' => e = .returned (.float .f32 (am x)) ∧ w = w' := by
  unfold am
  cases h : (FloatKind.f32.format.order x 0 == some .lt)
  all_goals go_enter Try.func90, Try.ntmps90
  all_goals go_wp2
  all_goals go_ret
  all_goals exact ⟨rfl, rfl⟩
theorem spec_VelocityOk (a b : Nat) (w : World) : Calls Try.prog 67 #[.complex .f32 a b] w fun e w' => e = .returned (.bool (within100 a && within100 b)) ∧ w = w' := by
  cases h1 : within100 a
  all_goals unfold within100 at h1
  all_goals go_enter Try.func67, Try.ntmps67
  all_goals go_wp2_with (go_at_call 90; refine (spec_l03Amount _ _).mono ?_; rintro e w' ⟨rfl, rfl⟩)
  all_goals go_ret
  all_goals exact ⟨rfl, rfl⟩
theorem impl_drifted (a b c d : Nat) (h1 : (floatBits .add .f32 a c).isSome = true) (h2 : (floatBits .add .f32 b d).isSome = true) (w : World) : Calls Try.prog 54 #[.complex .f32 a b, .complex .f32 c d] w fun e w' => e = .returned (.complex .f32 (fl .add .f32 a c) (fl .add .f32 b d)) ∧ w = w' := by
  go_enter Try.func54, Try.ntmps54
  go_wp2
  go_ret
  exact ⟨rfl, rfl⟩
theorem impl_wide (a b : Nat) (h1 : (floatToFloatBits .f32 a .f64).isSome = true) (h2 : (floatToFloatBits .f32 b .f64).isSome = true) (w : World) : Calls Try.prog 53 #[.complex .f32 a b] w fun e w' => e = .returned (.complex .f64 (cv .f32 a .f64) (cv .f32 b .f64)) ∧ w = w' := by
  go_enter Try.func53, Try.ntmps53
  go_wp2
  go_ret
  exact ⟨rfl, rfl⟩
theorem spec_l03Wide (a b : Nat) (h1 : (floatToFloatBits .f32 a .f64).isSome = true) (h2 : (floatToFloatBits .f32 b .f64).isSome = true) (w : World) : Calls Try.prog 85 #[.complex .f32 a b] w fun e w' => e = .returned (.complex .f64 (cv .f32 a .f64) (cv .f32 b .f64)) ∧ w = w' := by
  go_enter Try.func85, Try.ntmps85
  go_wp2
  go_ret
  exact ⟨rfl, rfl⟩
theorem impl_Dot (a b c d : Nat) (h1 : (floatBits .mul .f64 a c).isSome = true) (h2 : (floatBits .mul .f64 b d).isSome = true) (h3 : (floatBits .add .f64 (fl .mul .f64 a c) (fl .mul .f64 b d)).isSome = true) (w : World) : Calls Try.prog 45 #[.complex .f64 a b, .complex .f64 c d] w fun e w' => e = .returned (.float .f64 (fl .add .f64 (fl .mul .f64 a c) (fl .mul .f64 b d))) ∧ w = w' := by
  go_enter Try.func45, Try.ntmps45
  go_wp2
  go_ret
  exact ⟨rfl, rfl⟩
theorem impl_Cross (a b c d : Nat) (h1 : (floatBits .mul .f64 a d).isSome = true) (h2 : (floatBits .mul .f64 b c).isSome = true) (h3 : (floatBits .sub .f64 (fl .mul .f64 a d) (fl .mul .f64 b c)).isSome = true) (w : World) : Calls Try.prog 38 #[.complex .f64 a b, .complex .f64 c d] w fun e w' => e = .returned (.float .f64 (fl .sub .f64 (fl .mul .f64 a d) (fl .mul .f64 b c))) ∧ w = w' := by
  go_enter Try.func38, Try.ntmps38
  go_wp2
  go_ret
  exact ⟨rfl, rfl⟩
theorem spec_Dot (a b c d : Nat) (h1 : (floatBits .mul .f64 a c).isSome = true) (h2 : (floatBits .mul .f64 b d).isSome = true) (h3 : (floatBits .add .f64 (fl .mul .f64 a c) (fl .mul .f64 b d)).isSome = true) (w : World) : Calls Try.prog 84 #[.complex .f64 a b, .complex .f64 c d] w fun e w' => e = .returned (.float .f64 (fl .add .f64 (fl .mul .f64 a c) (fl .mul .f64 b d))) ∧ w = w' := by
  go_enter Try.func84, Try.ntmps84
  go_wp2
  go_ret
  exact ⟨rfl, rfl⟩
theorem spec_Cross (a b c d : Nat) (h1 : (floatBits .mul .f64 a d).isSome = true) (h2 : (floatBits .mul .f64 b c).isSome = true) (h3 : (floatBits .sub .f64 (fl .mul .f64 a d) (fl .mul .f64 b c)).isSome = true) (w : World) : Calls Try.prog 43 #[.complex .f64 a b, .complex .f64 c d] w fun e w' => e = .returned (.float .f64 (fl .sub .f64 (fl .mul .f64 a d) (fl .mul .f64 b c))) ∧ w = w' := by
  go_enter Try.func43, Try.ntmps43
  go_wp2
  go_ret
  exact ⟨rfl, rfl⟩
theorem impl_OverGround (k : Int) (s c d : Nat) (w : World) : Calls Try.prog 59 #[.int .i64 k, .float .f32 s, .complex .f32 c d] w fun e w' =>
    e = .returned (if (speedB s && (within100 c && within100 d)) = true then .tuple #[.complex .f32 (vk (tb (deg k)) s c d).1 (vk (tb (deg k)) s c d).2, .bool true] else .tuple #[.complex .f32 0 0, .bool false]) ∧ w = w' := by
  cases hs : speedB s
  · have HS := Lib.hid hs
    clear hs
    go_enter Try.func59, Try.ntmps59
    go_wp2_with (first | (go_at_call 83; refine (impl_Velocity_no _ _ HS.out _).mono ?_; rintro e w' ⟨rfl, rfl⟩))
    go_ret2
    exact ⟨rfl, rfl⟩
  · cases hv : (within100 c && within100 d)
    · have HS := Lib.hid hs
      have HV := Lib.hid hv
      clear hs hv
      go_enter Try.func59, Try.ntmps59
      go_wp2_with (first | (go_at_call 83; refine (impl_Velocity_yes _ _ HS.out _).mono ?_; rintro e w' ⟨rfl, rfl⟩) | (go_at_call 50; refine (impl_VelocityOk _ _ _).mono ?_; rintro e w' ⟨rfl, rfl⟩; rw [HV.out]))
      go_ret2
      exact ⟨rfl, rfl⟩
    · have hv' := hv
      rw [Bool.and_eq_true] at hv'
      have F := sure (bt_tb (deg k) (deg_lt k)) (bt_tb (deg k) (deg_lt k)) hs hv'.1 hv'.2
      have A1 := F.a1
      have A2 := F.a2
      have HS := Lib.hid hs
      have HV := Lib.hid hv
      clear hs hv hv' F
      go_enter Try.func59, Try.ntmps59
      go_wp2_with (first | (go_at_call 83; refine (impl_Velocity_yes _ _ HS.out _).mono ?_; rintro e w' ⟨rfl, rfl⟩) | (go_at_call 50; refine (impl_VelocityOk _ _ _).mono ?_; rintro e w' ⟨rfl, rfl⟩; rw [HV.out]) | (go_at_call 54; refine (impl_drifted _ _ _ _ A1 A2 _).mono ?_; rintro e w' ⟨rfl, rfl⟩))
      go_ret2
      exact ⟨rfl, rfl⟩
theorem spec_OverGround (k : Int) (s c d : Nat) (w : World) : Calls Try.prog 68 #[.int .i64 k, .float .f32 s, .complex .f32 c d] w fun e w' =>
    e = .returned (if (speedB s && (within100 c && within100 d)) = true then .tuple #[.complex .f32 (vk (tb (deg k)) s c d).1 (vk (tb (deg k)) s c d).2, .bool true] else .tuple #[.complex .f32 0 0, .bool false]) ∧ w = w' := by
  cases hs : speedB s
  · have HS := Lib.hid hs
    clear hs
    go_enter Try.func68, Try.ntmps68
    go_wp2_with (first | (go_at_call 91; refine (spec_Velocity_no _ _ HS.out _).mono ?_; rintro e w' ⟨rfl, rfl⟩))
    go_ret2
    exact ⟨rfl, rfl⟩
  · cases hv : (within100 c && within100 d)
    · have HS := Lib.hid hs
      have HV := Lib.hid hv
      clear hs hv
      go_enter Try.func68, Try.ntmps68
      go_wp2_with (first | (go_at_call 91; refine (spec_Velocity_yes _ _ HS.out _).mono ?_; rintro e w' ⟨rfl, rfl⟩) | (go_at_call 67; refine (spec_VelocityOk _ _ _).mono ?_; rintro e w' ⟨rfl, rfl⟩; rw [HV.out]))
      go_ret2
      exact ⟨rfl, rfl⟩
    · have hv' := hv
      rw [Bool.and_eq_true] at hv'
      have F := sure (bt_tb (deg k) (deg_lt k)) (bt_tb (deg k) (deg_lt k)) hs hv'.1 hv'.2
      have A1 := F.a1
      have A2 := F.a2
      have HS := Lib.hid hs
      have HV := Lib.hid hv
      clear hs hv hv' F
      go_enter Try.func68, Try.ntmps68
      go_wp2_with (first | (go_at_call 91; refine (spec_Velocity_yes _ _ HS.out _).mono ?_; rintro e w' ⟨rfl, rfl⟩) | (go_at_call 67; refine (spec_VelocityOk _ _ _).mono ?_; rintro e w' ⟨rfl, rfl⟩; rw [HV.out]))
      go_ret2
      exact ⟨rfl, rfl⟩
theorem impl_AlongTrack (t k : Int) (s c d : Nat) (w : World) : Calls Try.prog 19 #[.int .i64 t, .int .i64 k, .float .f32 s, .complex .f32 c d] w fun e w' =>
    e = .returned (if (speedB s && (within100 c && within100 d)) = true then .tuple #[.float .f64 (dotP (tb (deg t)) (wk (tb (deg k)) s c d)), .bool true] else .tuple #[.float .f64 0, .bool false]) ∧ w = w' := by
  cases hs : (speedB s && (within100 c && within100 d))
  · have HS := Lib.hid hs
    clear hs
    go_enter Try.func19, Try.ntmps19
    go_wp2_with (first | (go_at_call 59; refine (impl_OverGround _ _ _ _ _).mono ?_; rintro e w' ⟨rfl, rfl⟩; rw [HS.out, if_neg (by decide)]))
    go_ret2
    exact ⟨rfl, rfl⟩
  · have hv' := hs
    rw [Bool.and_eq_true, Bool.and_eq_true] at hv'
    have F := sure (bt_tb (deg t) (deg_lt t)) (bt_tb (deg k) (deg_lt k)) hv'.1 hv'.2.1 hv'.2.2
    have FF := Lib.hid F
    have HS := Lib.hid hs
    clear hs hv' F
    go_enter Try.func19, Try.ntmps19
    go_wp2_with (first | (go_at_call 59; refine (impl_OverGround _ _ _ _ _).mono ?_; rintro e w' ⟨rfl, rfl⟩; rw [HS.out, if_pos (by decide)]) | (go_at_call 13; refine (impl_Turn _ _).mono ?_; rintro e w' ⟨rfl, rfl⟩) | (go_at_call 53; refine (impl_wide _ _ FF.out.w1 FF.out.w2 _).mono ?_; rintro e w' ⟨rfl, rfl⟩) | (go_at_call 45; refine (impl_Dot _ _ _ _ FF.out.d1 FF.out.d2 FF.out.d3 _).mono ?_; rintro e w' ⟨rfl, rfl⟩))
    go_ret2
    exact ⟨rfl, rfl⟩
theorem impl_OffTrack (t k : Int) (s c d : Nat) (w : World) : Calls Try.prog 20 #[.int .i64 t, .int .i64 k, .float .f32 s, .complex .f32 c d] w fun e w' =>
    e = .returned (if (speedB s && (within100 c && within100 d)) = true then .tuple #[.float .f64 (crossP (tb (deg t)) (wk (tb (deg k)) s c d)), .bool true] else .tuple #[.float .f64 0, .bool false]) ∧ w = w' := by
  cases hs : (speedB s && (within100 c && within100 d))
  · have HS := Lib.hid hs
    clear hs
    go_enter Try.func20, Try.ntmps20
    go_wp2_with (first | (go_at_call 59; refine (impl_OverGround _ _ _ _ _).mono ?_; rintro e w' ⟨rfl, rfl⟩; rw [HS.out, if_neg (by decide)]))
    go_ret2
    exact ⟨rfl, rfl⟩
  · have hv' := hs
    rw [Bool.and_eq_true, Bool.and_eq_true] at hv'
    have F := sure (bt_tb (deg t) (deg_lt t)) (bt_tb (deg k) (deg_lt k)) hv'.1 hv'.2.1 hv'.2.2
    have FF := Lib.hid F
    have HS := Lib.hid hs
    clear hs hv' F
    go_enter Try.func20, Try.ntmps20
    go_wp2_with (first | (go_at_call 59; refine (impl_OverGround _ _ _ _ _).mono ?_; rintro e w' ⟨rfl, rfl⟩; rw [HS.out, if_pos (by decide)]) | (go_at_call 13; refine (impl_Turn _ _).mono ?_; rintro e w' ⟨rfl, rfl⟩) | (go_at_call 53; refine (impl_wide _ _ FF.out.w1 FF.out.w2 _).mono ?_; rintro e w' ⟨rfl, rfl⟩) | (go_at_call 38; refine (impl_Cross _ _ _ _ FF.out.c1 FF.out.c2 FF.out.c3 _).mono ?_; rintro e w' ⟨rfl, rfl⟩))
    go_ret2
    exact ⟨rfl, rfl⟩
theorem spec_AlongTrack (t k : Int) (s c d : Nat) (w : World) : Calls Try.prog 60 #[.int .i64 t, .int .i64 k, .float .f32 s, .complex .f32 c d] w fun e w' =>
    e = .returned (if (speedB s && (within100 c && within100 d)) = true then .tuple #[.float .f64 (dotP (tb (deg t)) (wk (tb (deg k)) s c d)), .bool true] else .tuple #[.float .f64 0, .bool false]) ∧ w = w' := by
  cases hs : (speedB s && (within100 c && within100 d))
  · have HS := Lib.hid hs
    clear hs
    go_enter Try.func60, Try.ntmps60
    go_wp2_with (first | (go_at_call 68; refine (spec_OverGround _ _ _ _ _).mono ?_; rintro e w' ⟨rfl, rfl⟩; rw [HS.out, if_neg (by decide)]))
    go_ret2
    exact ⟨rfl, rfl⟩
  · have hv' := hs
    rw [Bool.and_eq_true, Bool.and_eq_true] at hv'
    have F := sure (bt_tb (deg t) (deg_lt t)) (bt_tb (deg k) (deg_lt k)) hv'.1 hv'.2.1 hv'.2.2
    have FF := Lib.hid F
    have HS := Lib.hid hs
    clear hs hv' F
    go_enter Try.func60, Try.ntmps60
    go_wp2_with (first | (go_at_call 68; refine (spec_OverGround _ _ _ _ _).mono ?_; rintro e w' ⟨rfl, rfl⟩; rw [HS.out, if_pos (by decide)]) | (go_at_call 42; refine (spec_Turn _ _).mono ?_; rintro e w' ⟨rfl, rfl⟩) | (go_at_call 85; refine (spec_l03Wide _ _ FF.out.w1 FF.out.w2 _).mono ?_; rintro e w' ⟨rfl, rfl⟩) | (go_at_call 84; refine (spec_Dot _ _ _ _ FF.out.d1 FF.out.d2 FF.out.d3 _).mono ?_; rintro e w' ⟨rfl, rfl⟩))
    go_ret2
    exact ⟨rfl, rfl⟩
theorem spec_OffTrack (t k : Int) (s c d : Nat) (w : World) : Calls Try.prog 61 #[.int .i64 t, .int .i64 k, .float .f32 s, .complex .f32 c d] w fun e w' =>
    e = .returned (if (speedB s && (within100 c && within100 d)) = true then .tuple #[.float .f64 (crossP (tb (deg t)) (wk (tb (deg k)) s c d)), .bool true] else .tuple #[.float .f64 0, .bool false]) ∧ w = w' := by
  cases hs : (speedB s && (within100 c && within100 d))
  · have HS := Lib.hid hs
    clear hs
    go_enter Try.func61, Try.ntmps61
    go_wp2_with (first | (go_at_call 68; refine (spec_OverGround _ _ _ _ _).mono ?_; rintro e w' ⟨rfl, rfl⟩; rw [HS.out, if_neg (by decide)]))
    go_ret2
    exact ⟨rfl, rfl⟩
  · have hv' := hs
    rw [Bool.and_eq_true, Bool.and_eq_true] at hv'
    have F := sure (bt_tb (deg t) (deg_lt t)) (bt_tb (deg k) (deg_lt k)) hv'.1 hv'.2.1 hv'.2.2
    have FF := Lib.hid F
    have HS := Lib.hid hs
    clear hs hv' F
    go_enter Try.func61, Try.ntmps61
    go_wp2_with (first | (go_at_call 68; refine (spec_OverGround _ _ _ _ _).mono ?_; rintro e w' ⟨rfl, rfl⟩; rw [HS.out, if_pos (by decide)]) | (go_at_call 42; refine (spec_Turn _ _).mono ?_; rintro e w' ⟨rfl, rfl⟩) | (go_at_call 85; refine (spec_l03Wide _ _ FF.out.w1 FF.out.w2 _).mono ?_; rintro e w' ⟨rfl, rfl⟩) | (go_at_call 43; refine (spec_Cross _ _ _ _ FF.out.c1 FF.out.c2 FF.out.c3 _).mono ?_; rintro e w' ⟨rfl, rfl⟩))
    go_ret2
    exact ⟨rfl, rfl⟩
end Go.Proofs.Ytpapcohenejpmaa.Al
