/- The law FnExactLeeway over whole numbers alone: what the call computes is true. -/
import Derived.Test.YtelbflefjllfiaaPFnExactLeewayx1
namespace Go.Proofs.Ytelbflefjllfiaa.Pure
open Go.RowKit Go.Proofs.Ytelbflefjllfiaa.PFnExactLeeway Go.Proofs.YtelbflefjllfiaaW.PrintWords Go.Proofs.YtelbflefjllfiaaW.PrintLast
theorem lee_within (a b c : Int) : ∃ r, impl_within.f a b c = some r := by
  unfold impl_within.f; split <;> exact ⟨_, rfl⟩
theorem lee_aside (a b : Int) : ∃ r, impl_Aside.f a b = some r := by
  unfold impl_Aside.f impl_mod.f
  simp only [Option.bind_some]
  split <;> exact ⟨_, rfl⟩
theorem lee_side (a b : Int) : ∃ r, impl_WindSide.f a b = some r := by
  obtain ⟨r, hr⟩ := lee_aside a b
  obtain ⟨s, hs⟩ := lee_within r 1 179
  unfold impl_WindSide.f
  rw [hr, Option.bind_some, hs, Option.bind_some]
  split
  · exact ⟨_, rfl⟩
  · split <;> exact ⟨_, rfl⟩
theorem lee_way (a b c : Int) : ∃ r, impl_Leeway.f a b c = some r := by
  obtain ⟨r, hr⟩ := lee_side a b
  obtain ⟨s, hs⟩ := lee_within c 0 30
  unfold impl_Leeway.f impl_mod.f
  rw [hs, Option.bind_some]
  split
  · rw [Option.bind_some, hr, Option.bind_some, Option.bind_some]; exact ⟨_, rfl⟩
  · exact ⟨_, rfl⟩
theorem FnExactLeeway : laws_FnExactLeeway.Pure := by
  intro a b c _ _ _
  have e : spec_Leeway.f = impl_Leeway.f := rfl
  obtain ⟨r, hr⟩ := lee_way a b c
  unfold laws_FnExactLeeway.f
  simp [e, hr]
end Go.Proofs.Ytelbflefjllfiaa.Pure
