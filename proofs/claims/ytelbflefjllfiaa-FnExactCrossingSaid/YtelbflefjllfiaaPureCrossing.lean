/- The law FnExactCrossing over whole numbers alone: what the call computes is true; then its walk. -/
import Derived.Test.YtelbflefjllfiaaPFnExactCrossingx6
namespace Go.Proofs.Ytelbflefjllfiaa.Pure
open Go.RowKit Go.Proofs.Ytelbflefjllfiaa.PFnExactCrossing Go.Proofs.YtelbflefjllfiaaW.PrintWords Go.Proofs.YtelbflefjllfiaaW.PrintLast
theorem within_some (a b c : Int) : ∃ r, impl_within.f a b c = some r := by
  unfold impl_within.f; split <;> exact ⟨_, rfl⟩
theorem place_some (x y : Int) : ∃ r, impl_PlaceOk.f x y = some r := by
  obtain ⟨r1, h1⟩ := within_some x (-10000) 10000
  obtain ⟨r2, h2⟩ := within_some y (-10000) 10000
  unfold impl_PlaceOk.f
  rw [h1, h2]
  cases r1 <;> exact ⟨_, rfl⟩
theorem line_some (x y z t : Int) : ∃ r, impl_LineOk.f x y z t = some r := by
  obtain ⟨r1, h1⟩ := place_some x y
  obtain ⟨r2, h2⟩ := place_some z t
  unfold impl_LineOk.f
  rw [h1, h2]
  cases r1 <;> cases r2 <;> exact ⟨_, rfl⟩
theorem height_same (a b c d x y : Int) : spec_l09Height.f a b c d x y = impl_height.f a b c d x y := by
  unfold spec_l09Height.f spec_l09Cross.f impl_height.f impl_Place_less.f impl_Place_cross.f
  rfl
theorem side_same (k : Nat) (a b c d x y : Int) : spec_SideOf.f k a b c d x y = impl_SideOf.f k a b c d x y := by
  have e1 : spec_LineOk.f = impl_LineOk.f := rfl
  have e2 : spec_PlaceOk.f = impl_PlaceOk.f := rfl
  have e3 : ∀ s a b c d x y, spec_SideOf.j0 k s a b c d x y = impl_SideOf.j0 k s a b c d x y := by
    intro s a b c d x y
    cases k with
    | zero => rfl
    | succ k => simp only [spec_SideOf.j0, impl_SideOf.j0, height_same]
  unfold spec_SideOf.f impl_SideOf.f
  rw [e1, e2]
  simp only [e3]
theorem height_some (a b c d x y : Int) : ∃ r, impl_height.f a b c d x y = some r := by
  unfold impl_height.f impl_Place_less.f impl_Place_cross.f
  exact ⟨_, rfl⟩
theorem side_some (k : Nat) (a b c d x y : Int) : ∃ r, impl_SideOf.f (k + 1) a b c d x y = some r := by
  have e3 : ∀ s a b c d x y, ∃ r, impl_SideOf.j0 (k + 1) s a b c d x y = some r := by
    intro s a b c d x y
    obtain ⟨h, hh⟩ := height_some a b c d x y
    simp only [impl_SideOf.j0, hh, Option.bind_some]
    split
    · exact ⟨_, rfl⟩
    · split
      · exact ⟨_, rfl⟩
      · split <;> exact ⟨_, rfl⟩
  obtain ⟨r1, h1⟩ := line_some a b c d
  obtain ⟨r2, h2⟩ := place_some x y
  unfold impl_SideOf.f
  rw [h1, h2]
  cases r1
  · simpa using e3 true a b c d x y
  · simpa using e3 (!r2) a b c d x y

theorem cross_j2 (k : Nat) (s t : Int) (b : Bool) : spec_Crossing.j2 k s t b = impl_Crossing.j2 k s t b := by
  cases k <;> rfl
theorem cross_j2_some (k : Nat) (s t : Int) (b : Bool) : ∃ r, impl_Crossing.j2 (k + 1) s t b = some r := by
  simp only [impl_Crossing.j2]
  split
  · exact ⟨_, rfl⟩
  · split
    · split <;> exact ⟨_, rfl⟩
    · exact ⟨_, rfl⟩
theorem cross_j1 (k : Nat) (s : Bool) (a b c d x y u v : Int) : spec_Crossing.j1 k s a b c d x y u v = impl_Crossing.j1 k s a b c d x y u v := by
  cases k with
  | zero => rfl
  | succ k => simp only [spec_Crossing.j1, impl_Crossing.j1, side_same, cross_j2]
theorem cross_j1_some (k : Nat) (s : Bool) (a b c d x y u v : Int) : ∃ r, impl_Crossing.j1 (k + 2) s a b c d x y u v = some r := by
  simp only [impl_Crossing.j1]
  obtain ⟨r1, h1⟩ := side_some k a b c d x y
  obtain ⟨r2, h2⟩ := side_some k a b c d u v
  rw [h1, h2, Option.bind_some, Option.bind_some]
  split
  · exact ⟨_, rfl⟩
  · split <;> exact cross_j2_some _ _ _ _
theorem cross_j0 (k : Nat) (s : Bool) (a b c d x y u v : Int) : spec_Crossing.j0 k s a b c d x y u v = impl_Crossing.j0 k s a b c d x y u v := by
  cases k with
  | zero => rfl
  | succ k => simp only [spec_Crossing.j0, impl_Crossing.j0, spec_l09Cross.f, impl_Place_less.f, impl_Place_cross.f, Option.bind_some, cross_j1]
theorem cross_j0_some (k : Nat) (s : Bool) (a b c d x y u v : Int) : ∃ r, impl_Crossing.j0 (k + 3) s a b c d x y u v = some r := by
  simp only [impl_Crossing.j0, impl_Place_less.f, impl_Place_cross.f, Option.bind_some]
  split
  · exact ⟨_, rfl⟩
  · repeat' split
    all_goals exact cross_j1_some _ _ _ _ _ _ _ _ _ _
theorem cross_same (k : Nat) (a b c d x y u v : Int) : spec_Crossing.f k a b c d x y u v = impl_Crossing.f k a b c d x y u v := by
  have e1 : spec_LineOk.f = impl_LineOk.f := rfl
  have e2 : spec_PlaceOk.f = impl_PlaceOk.f := rfl
  unfold spec_Crossing.f impl_Crossing.f
  simp only [e1, e2, cross_j0]
theorem cross_some (k : Nat) (a b c d x y u v : Int) : ∃ r, impl_Crossing.f (k + 3) a b c d x y u v = some r := by
  obtain ⟨r1, h1⟩ := line_some a b c d
  obtain ⟨r2, h2⟩ := place_some x y
  obtain ⟨r3, h3⟩ := place_some u v
  unfold impl_Crossing.f
  rw [h1, h2, h3]
  cases r1
  · simpa using cross_j0_some k true a b c d x y u v
  · cases r2
    · simpa using cross_j0_some k true a b c d x y u v
    · simpa using cross_j0_some k (!r3) a b c d x y u v

theorem FnExactCrossing (a b c d x y u v : Int) : laws_FnExactCrossing.f 3 a b c d x y u v = some true := by
  obtain ⟨r, hr⟩ := cross_some 0 a b c d x y u v
  unfold laws_FnExactCrossing.f laws_toLine.f laws_toPlace.f
  simp [cross_same, hr]
theorem FnExactCrossingWalk (a b c d x y u v : Int) (w : World) (_ : (Lit.int .i64 a).wf = true) (_ : (Lit.int .i64 b).wf = true) (_ : (Lit.int .i64 c).wf = true) (_ : (Lit.int .i64 d).wf = true) (_ : (Lit.int .i64 x).wf = true) (_ : (Lit.int .i64 y).wf = true) (_ : (Lit.int .i64 u).wf = true) (_ : (Lit.int .i64 v).wf = true) :
    Calls Try.prog 10 #[.agg #[.int .i64 a, .int .i64 b, .int .i64 c, .int .i64 d], .agg #[.int .i64 x, .int .i64 y], .agg #[.int .i64 u, .int .i64 v]] w fun e w' => e = .returned (.bool true) ∧ Below w.heap.size w w' :=
  laws_FnExactCrossing.calls 3 a b c d x y u v true w (FnExactCrossing a b c d x y u v)
end Go.Proofs.Ytelbflefjllfiaa.Pure
