/- The law FnExactLineOk over whole numbers alone: what the call computes is true; then its walk. -/
import Derived.Test.YtelbflefjllfiaaPFnExactLineOkx2
namespace Go.Proofs.Ytelbflefjllfiaa.Pure
open Go.RowKit Go.Proofs.Ytelbflefjllfiaa.PFnExactLineOk Go.Proofs.YtelbflefjllfiaaW.PrintWords Go.Proofs.YtelbflefjllfiaaW.PrintLast
theorem lineOk_within (a b c : Int) : ∃ r, impl_within.f a b c = some r := by
  unfold impl_within.f; split <;> exact ⟨_, rfl⟩
theorem lineOk_place (x y : Int) : ∃ r, impl_PlaceOk.f x y = some r := by
  obtain ⟨r1, h1⟩ := lineOk_within x (-10000) 10000
  obtain ⟨r2, h2⟩ := lineOk_within y (-10000) 10000
  unfold impl_PlaceOk.f
  rw [h1, h2]
  cases r1 <;> exact ⟨_, rfl⟩
theorem FnExactLineOk (x y z t : Int) : laws_FnExactLineOk.f x y z t = some true := by
  have e : spec_LineOk.f = impl_LineOk.f := rfl
  obtain ⟨r, hr⟩ : ∃ r, impl_LineOk.f x y z t = some r := by
    obtain ⟨r1, h1⟩ := lineOk_place x y
    obtain ⟨r2, h2⟩ := lineOk_place z t
    unfold impl_LineOk.f
    rw [h1, h2]
    cases r1 <;> cases r2 <;> exact ⟨_, rfl⟩
  unfold laws_FnExactLineOk.f laws_toLine.f laws_toPlace.f
  simp [e, hr]
theorem FnExactLineOkWalk (x y z t : Int) (w : World) (_ : (Lit.int .i64 x).wf = true) (_ : (Lit.int .i64 y).wf = true) (_ : (Lit.int .i64 z).wf = true) (_ : (Lit.int .i64 t).wf = true) :
    Calls Try.prog 4 #[.agg #[.int .i64 x, .int .i64 y, .int .i64 z, .int .i64 t]] w fun e w' => e = .returned (.bool true) ∧ Below w.heap.size w w' :=
  laws_FnExactLineOk.calls x y z t true w (FnExactLineOk x y z t)
end Go.Proofs.Ytelbflefjllfiaa.Pure
