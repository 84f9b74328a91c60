/- Headings and speeds as velocities: both sides' Velocity comes to the same bits for every argument; no condition. -/
import Derived.Test.YtpapcohenejpmaaTurn
import Derived.Test.YtpapcohenejpmaaSm
namespace Go.Proofs.Ytpapcohenejpmaa.Vl
open Go.RowKit Kit Tn
/-- both parts of a turn can be narrowed -/
def okN (z : Nat × Nat) : Bool :=
  (floatToFloatBits .f64 z.1 .f32).isSome && ((floatToFloatBits .f64 z.2 .f32).isSome && (Fl.numB FloatKind.f32.format (cv .f64 z.1 .f32) && Fl.numB FloatKind.f32.format (cv .f64 z.2 .f32)))
def chkN : Nat → Nat × Nat → Bool
  | 0, _ => true
  | n + 1, z => okN z && chkN n (st z)
theorem chkN_all : chkN 360 (tb 0) = true := by decide +kernel
theorem chkN_get : ∀ (n i k : Nat), chkN n (tb k) = true → i < n → okN (tb (k + i)) = true := by
  intro n
  induction n with
  | zero => intro i k _ h; omega
  | succ n ih =>
    intro i k h hi
    simp only [chkN, Bool.and_eq_true] at h
    cases i with
    | zero => exact h.1
    | succ i =>
      have := ih i (k + 1) h.2 (by omega)
      rw [show k + (i + 1) = k + 1 + i by omega]; exact this
theorem okN_tb (i : Nat) (h : i < 360) : okN (tb i) = true := by
  have := chkN_get 360 i 0 chkN_all h
  rwa [Nat.zero_add] at this
/-- Is a single in the range 0 to 50? -/
def speedB (s : Nat) : Bool := (FloatKind.f32.format.order s 0 == some .gt || FloatKind.f32.format.order s 0 == some .eq) && (FloatKind.f32.format.order s 1112014848 == some .lt || FloatKind.f32.format.order s 1112014848 == some .eq)
theorem speed_num {s : Nat} (h : speedB s = true) : Fl.Num FloatKind.f32.format s := by
  unfold speedB at h
  simp at h
  exact Fl.num_between (Fl.num_iff.2 (by decide)) (Fl.num_iff.2 (by decide +kernel)) h.1 h.2
def along (z : Nat × Nat) (s : Nat) : Nat × Nat := (fl .mul .f32 (cv .f64 z.1 .f32) s, fl .mul .f32 (cv .f64 z.2 .f32) s)
theorem along_firm {z : Nat × Nat} {s : Nat} (hz : okN z = true) (hs : Fl.Num FloatKind.f32.format s) : Fl.Firm FloatKind.f32.format (along z s).1 ∧ Fl.Firm FloatKind.f32.format (along z s).2 := by
  unfold okN at hz
  simp only [Bool.and_eq_true] at hz
  obtain ⟨h1, h2, h3, h4⟩ := hz
  exact ⟨Sm.firm_mul (Fl.num_iff.2 h3) hs, Sm.firm_mul (Fl.num_iff.2 h4) hs⟩
theorem impl_along (z : Nat × Nat) (s : Nat) (hz : okN z = true) (hs : Fl.Num FloatKind.f32.format s) (w : World) :
    Calls Try.prog 55 #[.complex .f64 z.1 z.2, .float .f32 s] w fun e w' => e = .returned (.complex .f32 (along z s).1 (along z s).2) ∧ w = w' := by
  unfold okN at hz
  simp only [Bool.and_eq_true] at hz
  obtain ⟨h1, h2, h3, h4⟩ := hz
  have m1 := Sm.isSome_mul (Fl.num_iff.2 h3) hs
  have m2 := Sm.isSome_mul (Fl.num_iff.2 h4) hs
  clear h3 h4 hs
  go_enter Try.func55, Try.ntmps55
  go_wp2
  go_ret
  exact ⟨rfl, rfl⟩
theorem impl_boatOk (s : Nat) (w : World) : Calls Try.prog 49 #[.float .f32 s] w fun e w' => e = .returned (.bool (speedB s)) ∧ w = w' := by
  go_enter Try.func49, Try.ntmps49
  go_wp2
  all_goals go_ret
  all_goals refine ⟨congrArg (fun b => Ending.returned (.bool b)) ?_, rfl⟩
  all_goals simp_all [speedB]
theorem impl_Velocity_yes (k : Int) (s : Nat) (h : speedB s = true) (w : World) :
    Calls Try.prog 83 #[.int .i64 k, .float .f32 s] w fun e w' => e = .returned (.tuple #[.complex .f32 (along (tb (deg k)) s).1 (along (tb (deg k)) s).2, .bool true]) ∧ w = w' := by
  have hz := okN_tb (deg k) (deg_lt k)
  have hs := speed_num h
  have HZ := Lib.hid hz
  have HS := Lib.hid hs
  have H := Lib.hid h
  clear hz hs h
  go_enter Try.func83, Try.ntmps83
  go_wp2_with fail
  refine (impl_boatOk _ _).mono ?_
  rintro e w' ⟨rfl, rfl⟩
  rw [H.out]
  go_wp2_with fail
  refine (impl_Turn _ _).mono ?_
  rintro e w' ⟨rfl, rfl⟩
  go_wp2_with fail
  refine (impl_along _ _ HZ.out HS.out _).mono ?_
  rintro e w' ⟨rfl, rfl⟩
  go_wp2_with fail
  go_ret2
  exact ⟨rfl, rfl⟩
theorem impl_Velocity_no (k : Int) (s : Nat) (h : speedB s = false) (w : World) :
    Calls Try.prog 83 #[.int .i64 k, .float .f32 s] w fun e w' => e = .returned (.tuple #[.complex .f32 0 0, .bool false]) ∧ w = w' := by
  have H := Lib.hid h
  clear h
  go_enter Try.func83, Try.ntmps83
  go_wp2_with fail
  refine (impl_boatOk _ _).mono ?_
  rintro e w' ⟨rfl, rfl⟩
  rw [H.out]
  go_wp2_with fail
  go_ret2
  exact ⟨rfl, rfl⟩
theorem spec_Velocity_yes (k : Int) (s : Nat) (h : speedB s = true) (w : World) :
    Calls Try.prog 91 #[.int .i64 k, .float .f32 s] w fun e w' => e = .returned (.tuple #[.complex .f32 (along (tb (deg k)) s).1 (along (tb (deg k)) s).2, .bool true]) ∧ w = w' := by
  have hz := okN_tb (deg k) (deg_lt k)
  have hs := speed_num h
  unfold okN at hz
  simp only [Bool.and_eq_true] at hz
  obtain ⟨h1, h2, h3, h4⟩ := hz
  have m1 := Sm.isSome_mul (Fl.num_iff.2 h3) hs
  have m2 := Sm.isSome_mul (Fl.num_iff.2 h4) hs
  clear h3 h4 hs
  unfold speedB at h
  simp only [Bool.and_eq_true] at h
  obtain ⟨a1, a2⟩ := h
  go_enter Try.func91, Try.ntmps91
  go_wp2_with fail
  refine (spec_Turn _ _).mono ?_
  rintro e w' ⟨rfl, rfl⟩
  go_wp2_with fail
  go_ret2
  exact ⟨rfl, rfl⟩
theorem spec_Velocity_no (k : Int) (s : Nat) (h : speedB s = false) (w : World) :
    Calls Try.prog 91 #[.int .i64 k, .float .f32 s] w fun e w' => e = .returned (.tuple #[.complex .f32 0 0, .bool false]) ∧ w = w' := by
  unfold speedB at h
  rw [Bool.and_eq_false_iff] at h
  rcases h with h | h
  · go_enter Try.func91, Try.ntmps91
    go_wp2_with fail
    go_ret2
    exact ⟨rfl, rfl⟩
  · cases h0 : (FloatKind.f32.format.order s 0 == some .gt || FloatKind.f32.format.order s 0 == some .eq)
    · go_enter Try.func91, Try.ntmps91
      go_wp2_with fail
      go_ret2
      exact ⟨rfl, rfl⟩
    · go_enter Try.func91, Try.ntmps91
      go_wp2_with fail
      go_ret2
      exact ⟨rfl, rfl⟩
end Go.Proofs.Ytpapcohenejpmaa.Vl
