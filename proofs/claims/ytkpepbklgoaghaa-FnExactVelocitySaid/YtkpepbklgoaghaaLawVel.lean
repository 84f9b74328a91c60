/- The law FnExactVelocity walked: both sides come to the same bits for every heading and speed. -/
import Derived.Test.YtkpepbklgoaghaaVel
namespace Go.Proofs.Ytkpepbklgoaghaa.Pure
open Go.RowKit Kit Tn Vl
theorem velocity_law (k : Int) (s : Nat) (w : World) : Calls Try.prog 3 #[.int .i64 k, .float .f32 s] w fun e w' => e = .returned (.bool true) ∧ w = w' := by
  cases h : speedB s
  · have c0 : (floatToFloatBits .f32 0 .f64).isSome = true := by decide +kernel
    have H := Lib.hid h
    clear h
    go_enter Try.func3, Try.ntmps3
    go_wp2_with fail
    refine (spec_Velocity_no _ _ H.out _).mono ?_
    rintro e w' ⟨rfl, rfl⟩
    go_wp2_with fail
    refine (impl_Velocity_no _ _ H.out _).mono ?_
    rintro e w' ⟨rfl, rfl⟩
    go_wp2_with fail
    refine (Sm.sameComplex _ _ _).mono ?_
    rintro e w' ⟨rfl, rfl⟩
    go_wp2_with fail
    go_ret
    exact ⟨rfl, rfl⟩
  · obtain ⟨f1, f2⟩ := along_firm (okN_tb (deg k) (deg_lt k)) (speed_num h)
    have c1 := Sm.cv_wide f1
    have c2 := Sm.cv_wide f2
    clear f1 f2
    have H := Lib.hid h
    clear h
    go_enter Try.func3, Try.ntmps3
    go_wp2_with fail
    refine (spec_Velocity_yes _ _ H.out _).mono ?_
    rintro e w' ⟨rfl, rfl⟩
    go_wp2_with fail
    refine (impl_Velocity_yes _ _ H.out _).mono ?_
    rintro e w' ⟨rfl, rfl⟩
    go_wp2_with fail
    refine (Sm.sameComplex _ _ _).mono ?_
    rintro e w' ⟨rfl, rfl⟩
    go_wp2_with fail
    go_ret
    exact ⟨rfl, rfl⟩
theorem FnExactVelocityWalk (k : Int) (s : Nat) (w : World) (_ : (Lit.int .i64 k).wf = true) (_ : (Lit.float .f32 s).wf = true) :
    Calls Try.prog 3 #[.int .i64 k, .float .f32 s] w fun e w' => e = .returned (.bool true) ∧ Below w.heap.size w w' :=
  (velocity_law k s w).mono fun _ _ ⟨he, hw⟩ => ⟨he, hw ▸ Below.refl _ _⟩
end Go.Proofs.Ytkpepbklgoaghaa.Pure
