/- The law FnExactWindSide over whole numbers alone: what the call computes is true. -/
import Derived.Test.YtelbflefjllfiaaPFnExactWindSidex1
namespace Go.Proofs.Ytelbflefjllfiaa.Pure
open Go.RowKit Go.Proofs.Ytelbflefjllfiaa.PFnExactWindSide Go.Proofs.YtelbflefjllfiaaW.PrintWords Go.Proofs.YtelbflefjllfiaaW.PrintLast
theorem wind_within (a b c : Int) : ∃ r, impl_within.f a b c = some r := by
  unfold impl_within.f; split <;> exact ⟨_, rfl⟩
theorem wind_aside (a b : Int) : ∃ r, impl_Aside.f a b = some r := by
  unfold impl_Aside.f impl_mod.f
  simp only [Option.bind_some]
  split <;> exact ⟨_, rfl⟩
theorem wind_side (a b : Int) : ∃ r, impl_WindSide.f a b = some r := by
  obtain ⟨r, hr⟩ := wind_aside a b
  obtain ⟨s, hs⟩ := wind_within r 1 179
  unfold impl_WindSide.f
  rw [hr, Option.bind_some, hs, Option.bind_some]
  split
  · exact ⟨_, rfl⟩
  · split <;> exact ⟨_, rfl⟩
theorem FnExactWindSide : laws_FnExactWindSide.Pure := by
  intro a b _ _
  have e : spec_WindSide.f = impl_WindSide.f := rfl
  obtain ⟨r, hr⟩ := wind_side a b
  unfold laws_FnExactWindSide.f
  simp [e, hr]
end Go.Proofs.Ytelbflefjllfiaa.Pure
