/- The law FnExactPlaceOk over whole numbers alone: what the call computes is true; then its walk. -/
import Derived.Test.YtelbflefjllfiaaPFnExactPlaceOkx1
namespace Go.Proofs.Ytelbflefjllfiaa.Pure
open Go.RowKit Go.Proofs.Ytelbflefjllfiaa.PFnExactPlaceOk Go.Proofs.YtelbflefjllfiaaW.PrintWords Go.Proofs.YtelbflefjllfiaaW.PrintLast
theorem within_some (a b c : Int) : ∃ r, impl_within.f a b c = some r := by
  unfold impl_within.f; split <;> exact ⟨_, rfl⟩
theorem FnExactPlaceOk (x y : Int) : laws_FnExactPlaceOk.f x y = some true := by
  have e : spec_PlaceOk.f = impl_PlaceOk.f := rfl
  obtain ⟨r, hr⟩ : ∃ r, impl_PlaceOk.f x y = some r := by
    obtain ⟨r1, h1⟩ := within_some x (-10000) 10000
    obtain ⟨r2, h2⟩ := within_some y (-10000) 10000
    unfold impl_PlaceOk.f
    rw [h1, h2]
    cases r1 <;> exact ⟨_, rfl⟩
  unfold laws_FnExactPlaceOk.f laws_toPlace.f
  simp [e, hr]
theorem FnExactPlaceOkWalk (x y : Int) (w : World) (_ : (Lit.int .i64 x).wf = true) (_ : (Lit.int .i64 y).wf = true) :
    Calls Try.prog 3 #[.agg #[.int .i64 x, .int .i64 y]] w fun e w' => e = .returned (.bool true) ∧ Below w.heap.size w w' :=
  laws_FnExactPlaceOk.calls x y true w (FnExactPlaceOk x y)
end Go.Proofs.Ytelbflefjllfiaa.Pure
