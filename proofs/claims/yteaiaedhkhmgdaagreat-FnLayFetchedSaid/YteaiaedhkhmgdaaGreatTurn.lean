/- Turns by whole degrees: both sides' Turn comes to the same bits for every argument; no condition. -/
import Derived.Test.YteaiaedhkhmgdaaGreatKit
namespace Go.Proofs.YteaiaedhkhmgdaaGreat.Tn
open Go.RowKit Kit
/-- One turn by a degree, in the bits of both parts. -/
def st (z : Nat × Nat) : Nat × Nat :=
  (fl .sub .f64 (fl .mul .f64 z.1 4607181046959943561) (fl .mul .f64 z.2 4580687535080594718), fl .add .f64 (fl .mul .f64 z.1 4580687535080594718) (fl .mul .f64 z.2 4607181046959943561))
/-- The turn by k degrees. -/
def tb : Nat → Nat × Nat
  | 0 => (4607182418800017408, 0)
  | k + 1 => st (tb k)
def okS (z : Nat × Nat) : Bool :=
  (floatBits .mul .f64 z.1 4607181046959943561).isSome && ((floatBits .mul .f64 z.2 4580687535080594718).isSome && ((floatBits .mul .f64 z.1 4580687535080594718).isSome && ((floatBits .mul .f64 z.2 4607181046959943561).isSome &&
  ((floatBits .sub .f64 (fl .mul .f64 z.1 4607181046959943561) (fl .mul .f64 z.2 4580687535080594718)).isSome && (floatBits .add .f64 (fl .mul .f64 z.1 4580687535080594718) (fl .mul .f64 z.2 4607181046959943561)).isSome))))
def chk : Nat → Nat × Nat → Bool
  | 0, _ => true
  | n + 1, z => okS z && chk n (st z)
theorem chk_all : chk 360 (tb 0) = true := by decide +kernel
theorem chk_get : ∀ (n i k : Nat), chk n (tb k) = true → i < n → okS (tb (k + i)) = true := by
  intro n
  induction n with
  | zero => intro i k _ h; omega
  | succ n ih =>
    intro i k h hi
    simp only [chk, Bool.and_eq_true] at h
    cases i with
    | zero => exact h.1
    | succ i =>
      have := ih i (k + 1) h.2 (by omega)
      rw [show k + (i + 1) = k + 1 + i by omega]; exact this
theorem ok_tb (i : Nat) (h : i < 360) : okS (tb i) = true := by
  have := chk_get 360 i 0 chk_all h
  rwa [Nat.zero_add] at this

/-- Go's 'n % 360 + 360' modulo 360 is the number from 0 to 359. -/
theorem wrap_mod (a : Int) : Int.tmod (wrap64 ((Int.tmod a 360) + 360)) 360 = a % 360 := by
  have h1 : -360 < Int.tmod a 360 := by have := Int.lt_tmod_of_pos a (show (0 : Int) < 360 by decide); omega
  have h2 : Int.tmod a 360 < 360 := Int.tmod_lt_of_pos a (by decide)
  have h0 : wrap64 ((Int.tmod a 360) + 360) = (Int.tmod a 360) + 360 := by unfold wrap64; omega
  rw [h0, Int.tmod_eq_emod_of_nonneg (by omega)]
  have h3 := Int.mul_tdiv_add_tmod a 360
  omega
theorem impl_mod (a : Int) (w : World) : Calls Tryz.prog 66 #[.int .i64 a] w fun e w' => e = .returned (.int .i64 (a % 360)) ∧ w = w' := by
  have h := wrap_mod a
  have H := Lib.hid h
  clear h
  go_enter Tryz.func66, Tryz.ntmps66
  go_wp2
  go_ret
  exact ⟨congrArg (fun n => Ending.returned (.int .i64 n)) H.out, rfl⟩
theorem spec_mod (a : Int) (w : World) : Calls Tryz.prog 50 #[.int .i64 a] w fun e w' => e = .returned (.int .i64 (a % 360)) ∧ w = w' := by
  have h := wrap_mod a
  have H := Lib.hid h
  clear h
  go_enter Tryz.func50, Tryz.ntmps50
  go_wp2
  go_ret
  exact ⟨congrArg (fun n => Ending.returned (.int .i64 n)) H.out, rfl⟩
theorem impl_times (z : Nat × Nat) (hz : okS z = true) (w : World) :
    Calls Tryz.prog 83 #[.complex .f64 z.1 z.2, .complex .f64 4607181046959943561 4580687535080594718] w fun e w' => e = .returned (.complex .f64 (st z).1 (st z).2) ∧ w = w' := by
  unfold okS at hz
  simp only [Bool.and_eq_true] at hz
  obtain ⟨h1, h2, h3, h4, h5, h6⟩ := hz
  go_enter Tryz.func83, Tryz.ntmps83
  go_wp2
  go_ret
  exact ⟨rfl, rfl⟩
theorem spec_times (z : Nat × Nat) (hz : okS z = true) (w : World) :
    Calls Tryz.prog 52 #[.complex .f64 z.1 z.2, .complex .f64 4607181046959943561 4580687535080594718] w fun e w' => e = .returned (.complex .f64 (st z).1 (st z).2) ∧ w = w' := by
  unfold okS at hz
  simp only [Bool.and_eq_true] at hz
  obtain ⟨h1, h2, h3, h4, h5, h6⟩ := hz
  go_enter Tryz.func52, Tryz.ntmps52
  go_wp2
  go_ret
  exact ⟨rfl, rfl⟩
theorem spec_step (w : World) :
    Calls Tryz.prog 53 #[] w fun e w' => e = .returned (.complex .f64 4607181046959943561 4580687535080594718) ∧ w = w' := by
  go_enter Tryz.func53, Tryz.ntmps53
  go_wp2
  go_ret
  exact ⟨rfl, rfl⟩
/-- How many degrees. -/
def deg (k : Int) : Nat := (k % 360).toNat
theorem deg_lt (k : Int) : deg k < 360 := by unfold deg; omega
theorem deg_cast (k : Int) : k % 360 = (deg k : Int) := by unfold deg; omega
theorem impl_Turn (k : Int) (w : World) : Calls Tryz.prog 54 #[.int .i64 k] w fun e w' => e = .returned (.complex .f64 (tb (deg k)).1 (tb (deg k)).2) ∧ w = w' := by
  have hd := deg_lt k
  have hc := deg_cast k
  have HC := Lib.hid hc
  clear hc
  go_enter Tryz.func54, Tryz.ntmps54
  go_wp2_with fail
  refine (impl_mod _ _).mono ?_
  rintro e w' ⟨rfl, rfl⟩
  rw [HC.out]
  generalize hD : deg k = D at *
  clear HC
  have HD := Lib.hid hD
  clear hD
  go_wp2_with fail
  go_loop [3, 4] (fun z n => ∃ j i : Nat, i + j = D ∧ n = .int .i64 (i : Int) ∧ z = .complex .f64 (tb j).1 (tb j).2) (fun _ n => (intOf n).toNat)
  case atStart => exact ⟨0, D, by omega, rfl, rfl⟩
  case round =>
    obtain ⟨j, i, hij, rfl, rfl⟩ := hrel
    by_cases hi : 0 < i
    · have hk := ok_tb j (by omega)
      have HK := Lib.hid hk
      clear hk
      obtain ⟨i, rfl⟩ : ∃ m, i = m + 1 := ⟨i - 1, by omega⟩
      have hle : i + 1 + j ≤ D := by omega
      have hge : D ≤ i + 1 + j := by omega
      clear hij
      go_wp2_with fail
      refine (impl_times _ HK.out _).mono ?_
      rintro e w' ⟨rfl, rfl⟩
      go_wp2_with fail
      go_round
      case rel => exact ⟨j + 1, i, by omega, by go_num, rfl⟩
      case measure => simp [intOf]
    · obtain rfl : i = 0 := by omega
      obtain rfl : j = D := by omega
      go_wp2_with fail
      go_ret
      exact ⟨by show Ending.returned (.complex .f64 (tb j).1 (tb j).2) = _; rw [HD.out], rfl⟩
theorem spec_Turn (k : Int) (w : World) : Calls Tryz.prog 20 #[.int .i64 k] w fun e w' => e = .returned (.complex .f64 (tb (deg k)).1 (tb (deg k)).2) ∧ w = w' := by
  have hd := deg_lt k
  have hc := deg_cast k
  have HC := Lib.hid hc
  clear hc
  go_enter Tryz.func20, Tryz.ntmps20
  go_wp2_with fail
  refine (spec_mod _ _).mono ?_
  rintro e w' ⟨rfl, rfl⟩
  rw [HC.out]
  generalize hD : deg k = D at *
  clear HC
  have HD := Lib.hid hD
  clear hD
  go_wp2_with fail
  go_loop [3, 4] (fun z n => ∃ j i : Nat, i + j = D ∧ n = .int .i64 (i : Int) ∧ z = .complex .f64 (tb j).1 (tb j).2) (fun _ n => (intOf n).toNat)
  case atStart => exact ⟨0, D, by omega, rfl, rfl⟩
  case round =>
    obtain ⟨j, i, hij, rfl, rfl⟩ := hrel
    by_cases hi : 0 < i
    · have hk := ok_tb j (by omega)
      have HK := Lib.hid hk
      clear hk
      obtain ⟨i, rfl⟩ : ∃ m, i = m + 1 := ⟨i - 1, by omega⟩
      have hle : i + 1 + j ≤ D := by omega
      have hge : D ≤ i + 1 + j := by omega
      clear hij
      go_wp2_with fail
      refine (spec_step _).mono ?_
      rintro e w' ⟨rfl, rfl⟩
      go_wp2_with fail
      refine (spec_times _ HK.out _).mono ?_
      rintro e w' ⟨rfl, rfl⟩
      go_wp2_with fail
      go_round
      case rel => exact ⟨j + 1, i, by omega, by go_num, rfl⟩
      case measure => simp [intOf]
    · obtain rfl : i = 0 := by omega
      obtain rfl : j = D := by omega
      go_wp2_with fail
      go_ret
      exact ⟨by show Ending.returned (.complex .f64 (tb j).1 (tb j).2) = _; rw [HD.out], rfl⟩
end Go.Proofs.YteaiaedhkhmgdaaGreat.Tn
