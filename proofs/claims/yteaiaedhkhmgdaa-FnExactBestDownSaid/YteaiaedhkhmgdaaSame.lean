/- The laws' sameFloat and sameComplex at equal bits. -/
import Derived.Test.YteaiaedhkhmgdaaSm
namespace Go.Proofs.Yteaiaedhkhmgdaa.Sm
open Go.RowKit Kit
theorem sameFloat (x : Nat) (w : World) : Calls Try.prog 65 #[.float .f64 x, .float .f64 x] w fun e w' => e = .returned (.bool true) ∧ w = w' := by
  by_cases hf : Fl.Firm FloatKind.f64.format x
  · have h1 := Fl.order_self hf
    by_cases h0 : FloatKind.f64.format.order x 0 = some .eq
    · have hq : (floatBits .quo .f64 4607182418800017408 x).isSome = true := by
        have hx : Fl.Num FloatKind.f64.format x := by
          have z : Fl.Num FloatKind.f64.format 0 := Fl.num_iff.2 (by decide)
          exact Fl.num_between z z (Or.inr h0) (Or.inr h0)
        refine isSome_quo (Fl.num_iff.2 (by decide +kernel)) hx (Or.inr ?_)
        have h : FloatKind.f64.format.read 4607182418800017408 = .number false 4503599627370496 (-52) := by decide +kernel
        rw [ne_eq, Fl.V_zero h]; decide
      clear hf
      go_enter Try.func65, Try.ntmps65
      go_wp2
      go_ret
      exact ⟨by simp, rfl⟩
    · clear hf
      go_enter Try.func65, Try.ntmps65
      go_wp2
      go_ret
      exact ⟨rfl, rfl⟩
  · have h1 := (Fl.order_nan hf x).1
    clear hf
    go_enter Try.func65, Try.ntmps65
    go_wp2
    go_ret
    exact ⟨rfl, rfl⟩
end Go.Proofs.Yteaiaedhkhmgdaa.Sm
