/- Velocities of air: which are valid, on both sides; the laws' look at two floats of the same bits. -/
import Derived.Test.YtjohpjmfnghkoaaAp
namespace Go.Proofs.Ytjohpjmfnghkoaa.Ai
open Go.RowKit Kit Fl Bd Ap
theorem neg_read (x : Nat) : FloatKind.f32.format.read (Op.negFloat .f32 x) = match FloatKind.f32.format.read x with | .number s m e => .number (!s) m e | .infinity s => .infinity (!s) | .nan s t => .nan (!s) t := by
  have hn : Op.negFloat .f32 x = x ^^^ 2 ^ 31 := rfl
  have hS : FloatKind.f32.format.signWeight = 2 ^ 31 := by decide
  have e1 : (x ^^^ 2 ^ 31) % 2 ^ 31 = x % 2 ^ 31 := by
    rw [Nat.xor_mod_two_pow, Nat.mod_self, Nat.xor_zero]
  have e2 : (x ^^^ 2 ^ 31) / 2 ^ 31 % 2 = 1 - x / 2 ^ 31 % 2 := by
    rw [Nat.xor_div_two_pow, Nat.div_self (by decide)]
    have h1 := Nat.xor_mod_two_pow (a := x / 2 ^ 31) (b := 1) (n := 1)
    rw [Nat.pow_one] at h1
    rw [h1]
    have : x / 2 ^ 31 % 2 < 2 := Nat.mod_lt _ (by decide)
    generalize x / 2 ^ 31 % 2 = t at *
    have : t = 0 ∨ t = 1 := by omega
    rcases this with rfl | rfl <;> decide
  rw [hn]
  unfold Ieee.Format.read
  rw [hS, e1, e2]
  dsimp only
  have hs : (1 - x / 2 ^ 31 % 2 == 1) = !(x / 2 ^ 31 % 2 == 1) := by
    have : x / 2 ^ 31 % 2 < 2 := Nat.mod_lt _ (by decide)
    generalize x / 2 ^ 31 % 2 = t at *
    have : t = 0 ∨ t = 1 := by omega
    rcases this with rfl | rfl <;> decide
  rw [hs]
  generalize x % 2 ^ 31 = r
  split
  · rfl
  · split
    · rfl
    · split <;> rfl
def am (x : Nat) : Nat := if (FloatKind.f32.format.order x 0 == some .lt) = true then Op.negFloat .f32 x else x
def within100 (x : Nat) : Bool := FloatKind.f32.format.order (am x) 1120403456 == some .lt || FloatKind.f32.format.order (am x) 1120403456 == some .eq
theorem bnd_100 {x : Nat} (h : within100 x = true) : Bnd .f32 7 x := by
  have h0 : Num FloatKind.f32.format 0 := num_iff.2 (by decide +kernel)
  have h100 : Num FloatKind.f32.format 1120403456 := num_iff.2 (by decide +kernel)
  have b100 : Bnd .f32 ((7 : Nat) : Int) 1120403456 := bnd_lit (by decide +kernel)
  have hb := b100.hi
  have e7 : p2 ((7 : Nat) : Int) = p2 7 := rfl
  rw [e7] at hb
  have hp := p2_pos (7 : Int)
  have v0 : V FloatKind.f32.format 0 = 0 := by
    rw [V_of (show FloatKind.f32.format.read 0 = .number false 0 (-149) by decide +kernel)]
    simp [sval]
  have hn := neg_read x
  unfold within100 am at h
  cases hx : FloatKind.f32.format.read x with
  | nan s t =>
    exfalso
    have hf : ¬ Firm FloatKind.f32.format x := fun k => k s t hx
    rw [(order_nan hf 0).1] at h
    rw [if_neg (by decide), (order_nan hf 1120403456).1] at h
    simp at h
  | infinity s =>
    exfalso
    rw [hx] at hn
    obtain ⟨t, m, e, h100⟩ := h100
    obtain ⟨t', m', e', h0⟩ := h0
    have o1 : FloatKind.f32.format.order x 0 = some (if s then .lt else .gt) := by unfold Ieee.Format.order; rw [hx, h0]; rfl
    rw [o1] at h
    cases s
    · have o2 : FloatKind.f32.format.order x 1120403456 = some .gt := by unfold Ieee.Format.order; rw [hx, h100]; rfl
      simp [o2] at h
    · have o2 : FloatKind.f32.format.order (Op.negFloat .f32 x) 1120403456 = some .gt := by unfold Ieee.Format.order; rw [hn, h100]; rfl
      simp [o2] at h
  | number s m e =>
    rw [hx] at hn
    have hX : Num FloatKind.f32.format x := ⟨_, _, _, hx⟩
    have hN : Num FloatKind.f32.format (Op.negFloat .f32 x) := ⟨_, _, _, hn⟩
    have hV : V FloatKind.f32.format (Op.negFloat .f32 x) = -V FloatKind.f32.format x := by rw [V_of hn, V_of hx, sval_opp]
    rw [lss_num hX h0, v0] at h
    by_cases hlt : V FloatKind.f32.format x < 0
    · rw [if_pos (by simpa using hlt), lss_num hN h100, eql_num hN h100, hV] at h
      simp only [Bool.or_eq_true, decide_eq_true_eq] at h
      exact ⟨hX, by grind, by grind⟩
    · rw [if_neg (by simpa using hlt), lss_num hX h100, eql_num hX h100] at h
      simp only [Bool.or_eq_true, decide_eq_true_eq] at h
      exact ⟨hX, by grind, by grind⟩
theorem impl_amount (x : Nat) (w : World) : Calls Try.prog 73 #[.float .f32 x] w fun e w' => e = .returned (.float .f32 (am x)) ∧ w = w' := by
  unfold am
  cases h : (FloatKind.f32.format.order x 0 == some .lt)
  all_goals go_enter Try.func73, Try.ntmps73
  all_goals go_wp2
  all_goals go_ret
  all_goals exact ⟨rfl, rfl⟩
theorem impl_VelocityOk (a b : Nat) (w : World) : Calls Try.prog 58 #[.complex .f32 a b] w fun e w' => e = .returned (.bool (within100 a && within100 b)) ∧ w = w' := by
  cases h1 : within100 a
  all_goals unfold within100 at h1
  all_goals go_enter Try.func58, Try.ntmps58
  all_goals go_wp2_with (go_at_call 73; refine (impl_amount _ _).mono ?_; rintro e w' ⟨rfl, rfl⟩)
  all_goals go_ret
  all_goals exact ⟨rfl, rfl⟩
theorem spec_l03Amount (x : Nat) (w : World) : Calls Try.prog 75 #[.float .f32 x] w fun e w' => e = .returned (.float .f32 (am x)) ∧ w = w' := by
  unfold am
  cases h : (FloatKind.f32.format.order x 0 == some .lt)
  all_goals go_enter Try.func75, Try.ntmps75
  all_goals go_wp2
  all_goals go_ret
  all_goals exact ⟨rfl, rfl⟩
theorem spec_VelocityOk (a b : Nat) (w : World) : Calls Try.prog 66 #[.complex .f32 a b] w fun e w' => e = .returned (.bool (within100 a && within100 b)) ∧ w = w' := by
  cases h1 : within100 a
  all_goals unfold within100 at h1
  all_goals go_enter Try.func66, Try.ntmps66
  all_goals go_wp2_with (go_at_call 75; refine (spec_l03Amount _ _).mono ?_; rintro e w' ⟨rfl, rfl⟩)
  all_goals go_ret
  all_goals exact ⟨rfl, rfl⟩

/-- a velocity that is valid -/
def air (z : Nat × Nat) : Bool := within100 z.1 && within100 z.2
theorem read_write_inf (f : Ieee.Format) (hf : 2 ≤ f.exponentBits) (s : Bool) : f.read (f.write (.infinity s)) = .infinity s := read_word_inf f hf s
theorem div_firm {f : Ieee.Format} (hf : 2 ≤ f.exponentBits) {x y z : Nat} (hx : Num f x) (hy : Num f y) (h : f.div x y = some z) : Firm f z := by
  obtain ⟨s, m, i, hx⟩ := hx
  obtain ⟨t, n, j, hy⟩ := hy
  unfold Ieee.Format.div at h; rw [hx, hy] at h
  simp only [Ieee.Datum.quotient] at h
  split at h
  · split at h
    · cases h
    · simp only [Option.map_some, Option.some.injEq] at h
      rw [← h]
      intro a b e
      rw [read_write_inf f hf] at e
      cases e
  · simp only [Option.map_some, Option.some.injEq] at h
    rw [← h]; exact write_firm f hf _ _ _
theorem one_some (x : Nat) (h : Num FloatKind.f64.format x) : (floatBits .quo .f64 4607182418800017408 x).isSome = true := by
  have n1 : FloatKind.f64.format.read 4607182418800017408 = .number false 4503599627370496 (-52) := by decide +kernel
  exact Sm.isSome_quo ⟨_, _, _, n1⟩ h (Or.inr (by rw [ne_eq, V_zero n1]; decide))
theorem laws_same64 (x : Nat) (h : Num FloatKind.f64.format x) (w : World) : Calls Try.prog 67 #[.float .f64 x, .float .f64 x] w fun e w' => e = .returned (.bool true) ∧ w = w' := by
  have h1 := order_self h.firm
  have hq := one_some x h
  have n1 : Num FloatKind.f64.format 4607182418800017408 := num_iff.2 (by decide +kernel)
  have h2 := order_self (div_firm (Sm.kx .f64) n1 h (fl_some hq))
  cases h0 : (FloatKind.f64.format.order x 0 == some .eq)
  all_goals clear h n1
  all_goals go_enter Try.func67, Try.ntmps67
  all_goals go_wp2
  all_goals go_ret
  all_goals exact ⟨rfl, rfl⟩
theorem laws_same (x y : Nat) (hx : Num FloatKind.f64.format x) (hy : Num FloatKind.f64.format y) (w : World) : Calls Try.prog 42 #[.complex .f64 x y, .complex .f64 x y] w fun e w' => e = .returned (.bool true) ∧ w = w' := by
  have HX := Lib.hid hx
  have HY := Lib.hid hy
  clear hx hy
  go_enter Try.func42, Try.ntmps42
  go_wp2_with (go_at_call 67; refine (laws_same64 _ (by first | exact HX.out | exact HY.out) _).mono ?_; rintro e w' ⟨rfl, rfl⟩)
  go_ret
  exact ⟨rfl, rfl⟩
theorem laws_sameAir (x y : Nat) (hx : Num FloatKind.f32.format x) (hy : Num FloatKind.f32.format y) (w : World) : Calls Try.prog 15 #[.complex .f32 x y, .complex .f32 x y] w fun e w' => e = .returned (.bool true) ∧ w = w' := by
  obtain ⟨c1, m1, _⟩ := wide_num hx
  obtain ⟨c2, m2, _⟩ := wide_num hy
  have M1 := Lib.hid m1
  have M2 := Lib.hid m2
  clear m1 m2 hx hy
  go_enter Try.func15, Try.ntmps15
  go_wp2_with (go_at_call 42; refine (laws_same _ _ M1.out M2.out _).mono ?_; rintro e w' ⟨rfl, rfl⟩)
  go_ret
  exact ⟨rfl, rfl⟩
end Go.Proofs.Ytjohpjmfnghkoaa.Ai
