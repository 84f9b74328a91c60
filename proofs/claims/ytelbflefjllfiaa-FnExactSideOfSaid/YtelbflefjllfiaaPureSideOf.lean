/- The law FnExactSideOf over whole numbers alone: what the call computes is true; then its walk. -/
import Derived.Test.YtelbflefjllfiaaPFnExactSideOfx3
namespace Go.Proofs.Ytelbflefjllfiaa.Pure
open Go.RowKit Go.Proofs.Ytelbflefjllfiaa.PFnExactSideOf Go.Proofs.YtelbflefjllfiaaW.PrintWords Go.Proofs.YtelbflefjllfiaaW.PrintLast
theorem within_some (a b c : Int) : ∃ r, impl_within.f a b c = some r := by
  unfold impl_within.f; split <;> exact ⟨_, rfl⟩
theorem place_some (x y : Int) : ∃ r, impl_PlaceOk.f x y = some r := by
  obtain ⟨r1, h1⟩ := within_some x (-10000) 10000
  obtain ⟨r2, h2⟩ := within_some y (-10000) 10000
  unfold impl_PlaceOk.f
  rw [h1, h2]
  cases r1 <;> exact ⟨_, rfl⟩
theorem line_some (x y z t : Int) : ∃ r, impl_LineOk.f x y z t = some r := by
  obtain ⟨r1, h1⟩ := place_some x y
  obtain ⟨r2, h2⟩ := place_some z t
  unfold impl_LineOk.f
  rw [h1, h2]
  cases r1 <;> cases r2 <;> exact ⟨_, rfl⟩
theorem height_same (a b c d x y : Int) : spec_l09Height.f a b c d x y = impl_height.f a b c d x y := by
  unfold spec_l09Height.f spec_l09Cross.f impl_height.f impl_Place_less.f impl_Place_cross.f
  rfl
theorem side_same (k : Nat) (a b c d x y : Int) : spec_SideOf.f k a b c d x y = impl_SideOf.f k a b c d x y := by
  have e1 : spec_LineOk.f = impl_LineOk.f := rfl
  have e2 : spec_PlaceOk.f = impl_PlaceOk.f := rfl
  have e3 : ∀ s a b c d x y, spec_SideOf.j0 k s a b c d x y = impl_SideOf.j0 k s a b c d x y := by
    intro s a b c d x y
    cases k with
    | zero => rfl
    | succ k => simp only [spec_SideOf.j0, impl_SideOf.j0, height_same]
  unfold spec_SideOf.f impl_SideOf.f
  rw [e1, e2]
  simp only [e3]
theorem height_some (a b c d x y : Int) : ∃ r, impl_height.f a b c d x y = some r := by
  unfold impl_height.f impl_Place_less.f impl_Place_cross.f
  exact ⟨_, rfl⟩
theorem side_some (k : Nat) (a b c d x y : Int) : ∃ r, impl_SideOf.f (k + 1) a b c d x y = some r := by
  have e3 : ∀ s a b c d x y, ∃ r, impl_SideOf.j0 (k + 1) s a b c d x y = some r := by
    intro s a b c d x y
    obtain ⟨h, hh⟩ := height_some a b c d x y
    simp only [impl_SideOf.j0, hh, Option.bind_some]
    split
    · exact ⟨_, rfl⟩
    · split
      · exact ⟨_, rfl⟩
      · split <;> exact ⟨_, rfl⟩
  obtain ⟨r1, h1⟩ := line_some a b c d
  obtain ⟨r2, h2⟩ := place_some x y
  unfold impl_SideOf.f
  rw [h1, h2]
  cases r1
  · simpa using e3 true a b c d x y
  · simpa using e3 (!r2) a b c d x y

theorem FnExactSideOf (a b c d x y : Int) : laws_FnExactSideOf.f 1 a b c d x y = some true := by
  obtain ⟨r, hr⟩ := side_some 0 a b c d x y
  unfold laws_FnExactSideOf.f laws_toLine.f laws_toPlace.f
  simp [side_same, hr]
theorem FnExactSideOfWalk (a b c d x y : Int) (w : World) (_ : (Lit.int .i64 a).wf = true) (_ : (Lit.int .i64 b).wf = true) (_ : (Lit.int .i64 c).wf = true) (_ : (Lit.int .i64 d).wf = true) (_ : (Lit.int .i64 x).wf = true) (_ : (Lit.int .i64 y).wf = true) :
    Calls Try.prog 8 #[.agg #[.int .i64 a, .int .i64 b, .int .i64 c, .int .i64 d], .agg #[.int .i64 x, .int .i64 y]] w fun e w' => e = .returned (.bool true) ∧ Below w.heap.size w w' :=
  laws_FnExactSideOf.calls 1 a b c d x y true w (FnExactSideOf a b c d x y)
end Go.Proofs.Ytelbflefjllfiaa.Pure
