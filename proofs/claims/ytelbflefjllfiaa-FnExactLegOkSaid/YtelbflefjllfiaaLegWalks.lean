/- The law FnExactLegOk walked: both sides tell the same of every leg, whatever its speed's bits. -/
import Derived.Test.YtelbflefjllfiaaKit
namespace Go.Proofs.Ytelbflefjllfiaa.Leg
open Go.RowKit Kit
/-- Is a single in the range 0 to 50? -/
def speedB (s : Nat) : Bool := (FloatKind.f32.format.order s 0 == some .gt || FloatKind.f32.format.order s 0 == some .eq) && (FloatKind.f32.format.order s 1112014848 == some .lt || FloatKind.f32.format.order s 1112014848 == some .eq)
def inB (n a b : Int) : Bool := decide (a ≤ n) && decide (n ≤ b)
def legB (s : Nat) (n : Int) : Bool := speedB s && inB n 0 100000
theorem toLeg (h : Int) (s : Nat) (n : Int) (w : World) :
    Calls Try.prog 44 #[.agg #[.int .i64 h, .float .f32 s, .int .i64 n]] w fun e w' => e = .returned (.agg #[.int .i64 h, .float .f32 s, .int .i64 n]) ∧ Below w.heap.size w w' := by
  go_enter Try.func44, Try.ntmps44
  go_wp2
  exact bodyPost_ret (v := .agg #[.int .i64 h, .float .f32 s, .int .i64 n]) (by simp [results, Try.results44, go_sem]) rfl ⟨rfl, by
    repeat (first | exact Below.refl _ _ | refine Below.setCell ?_ (by simp; try omega) _ | refine Below.alloc ?_ (by simp; try omega) _)⟩
theorem spec_LegOk (h : Int) (s : Nat) (n : Int) (w : World) :
    Calls Try.prog 43 #[.agg #[.int .i64 h, .float .f32 s, .int .i64 n]] w fun e w' => e = .returned (.bool (legB s n)) ∧ Below w.heap.size w w' := by
  go_enter Try.func43, Try.ntmps43
  go_wp2
  all_goals go_ret
  all_goals refine ⟨congrArg (fun b => Ending.returned (.bool b)) ?_, (Below.refl _ _).alloc (Nat.le_refl _) _⟩
  all_goals (simp_all [legB, speedB, inB]; try omega)
theorem impl_LegOk (h : Int) (s : Nat) (n : Int) (w : World) :
    Calls Try.prog 45 #[.agg #[.int .i64 h, .float .f32 s, .int .i64 n]] w fun e w' => e = .returned (.bool (legB s n)) ∧ Below w.heap.size w w' := by
  go_enter Try.func45, Try.ntmps45
  go_wp2
  all_goals go_ret
  all_goals refine ⟨congrArg (fun b => Ending.returned (.bool b)) ?_, (Below.refl _ _).alloc (Nat.le_refl _) _⟩
  all_goals (simp_all [legB, speedB, inB]; try omega)
theorem law (h : Int) (s : Nat) (n : Int) (w : World) :
    Calls Try.prog 14 #[.agg #[.int .i64 h, .float .f32 s, .int .i64 n]] w fun e w' => e = .returned (.bool true) ∧ Below w.heap.size w w' := by
  go_enter Try.func14, Try.ntmps14
  go_wp2_with (fail)
  refine (toLeg _ _ _ _).mono ?_
  rintro e w1 ⟨rfl, hb1⟩
  obtain ⟨hc1, hf1⟩ := bcell hb1
  have hz1 : w.heap.size < w1.heap.size := by have := hb1.size; simp at this; omega
  go_wp2_with (fail)
  refine (spec_LegOk _ _ _ _).mono ?_
  rintro e w2 ⟨rfl, hb2⟩
  obtain ⟨hc2, hf2⟩ := bcell hb2
  have hz2 : w.heap.size < w2.heap.size := by have := hb2.size; omega
  go_wp2_with (fail)
  refine (toLeg _ _ _ _).mono ?_
  rintro e w3 ⟨rfl, hb3⟩
  go_wp2_with (fail)
  refine (impl_LegOk _ _ _ _).mono ?_
  rintro e w4 ⟨rfl, hb4⟩
  go_wp2_with (fail)
  go_ret
  exact ⟨rfl, (((Below.refl _ _).alloc (Nat.le_refl _) _).trans (hb1.mono (by simp))).trans ((hb2.mono (by omega)).trans ((hb3.mono (by omega)).trans (hb4.mono (by have := hb3.size; omega))))⟩

end Go.Proofs.Ytelbflefjllfiaa.Leg
namespace Go.Proofs.Ytelbflefjllfiaa.Pure
open Go.RowKit
theorem FnExactLegOkWalk (h : Int) (s : Nat) (n : Int) (w : World) (_ : s < 2 ^ 32) :
    Calls Try.prog 14 #[.agg #[.int .i64 h, .float .f32 s, .int .i64 n]] w fun e w' => e = .returned (.bool true) ∧ Below w.heap.size w w' := Leg.law h s n w
end Go.Proofs.Ytelbflefjllfiaa.Pure
