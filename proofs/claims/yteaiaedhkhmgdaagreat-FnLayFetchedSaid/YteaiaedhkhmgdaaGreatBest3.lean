/- What the three best angles are. Printed by gen/mkfast.py. -/
import Derived.Test.YteaiaedhkhmgdaaGreatBestU
import Derived.Test.YteaiaedhkhmgdaaGreatBestD
open Go.RowKit Go.Proofs.YteaiaedhkhmgdaaGreat.Kit Go.Proofs.YteaiaedhkhmgdaaGreat.Fl Go.Proofs.YteaiaedhkhmgdaaGreat.Bd Go.Proofs.YteaiaedhkhmgdaaGreat.Tn Go.Proofs.YteaiaedhkhmgdaaGreat.Pf Go.Proofs.YteaiaedhkhmgdaaGreat.Pw Go.Proofs.YteaiaedhkhmgdaaGreat.Mu Go
namespace Go.Proofs.YteaiaedhkhmgdaaGreat.BestUp
theorem run_best {f : Nat → Nat} (hn : ∀ k, 0 ≤ k → k ≤ 90 → Num FloatKind.f32.format (f k)) : ∀ n, 1 ≤ n → n ≤ 91 → ∃ a : Nat, 0 ≤ a ∧ a ≤ 90 ∧ runM f n = ((a : Int), f a) ∧ ∀ k, 0 ≤ k → k < n → V FloatKind.f32.format (f k) ≤ V FloatKind.f32.format (f a) := by
  intro n
  induction n with
  | zero => intro h; omega
  | succ n ih =>
    intro h1 h2
    by_cases e : n + 1 = 1
    · obtain rfl : n = 0 := by omega
      refine ⟨0, by omega, by omega, run_first f, fun k k1 k2 => ?_⟩
      obtain rfl : k = 0 := by omega
      exact Rat.le_refl
    · obtain ⟨a, a1, a2, ha, hb⟩ := ih (by omega) (by omega)
      rw [run_step (by omega) (by omega) ha]
      have g := gtB_num (hn n (by omega) (by omega)) (hn a a1 a2)
      split
      · rename_i hg
        rw [g] at hg
        have hg := of_decide_eq_true hg
        refine ⟨n, by omega, by omega, rfl, fun k k1 k2 => ?_⟩
        by_cases ek : k = n
        · subst ek; exact Rat.le_refl
        · have := hb k k1 (by omega)
          grind
      · rename_i hg
        rw [g] at hg
        have hg : ¬ V FloatKind.f32.format (f a) < V FloatKind.f32.format (f n) := fun h => hg (decide_eq_true h)
        refine ⟨a, a1, a2, rfl, fun k k1 k2 => ?_⟩
        by_cases ek : k = n
        · subst ek; grind
        · exact hb k k1 (by omega)
theorem best_form {d : Pol} {x : Nat} (hO : okS d x 0 = true) (hn : ∀ k, 0 ≤ k → k ≤ 90 → Num FloatKind.f32.format (fF d x k)) : ∃ (r : Bool) (u : Nat), bestR d x = #[.int .i64 (u : Int), .bool r] ∧ u ≤ 90 ∧ (r = true → 0 ≤ u ∧ 0 < V FloatKind.f32.format (fF d x u) ∧ ∀ k, 0 ≤ k → k ≤ 90 → V FloatKind.f32.format (fF d x k) ≤ V FloatKind.f32.format (fF d x u)) ∧ (r = false → ∀ k, 0 ≤ k → k ≤ 90 → V FloatKind.f32.format (fF d x k) ≤ 0) := by
  obtain ⟨a, a1, a2, ha, hb⟩ := run_best hn 91 (by omega) (by omega)
  have hr : runM (fF d x) 360 = ((a : Int), fF d x a) := (run_after _ 360 (by omega)).trans ha
  have g := gtB_num (hn a a1 a2) n0
  rw [v0] at g
  by_cases h : 0 < V FloatKind.f32.format (fF d x a)
  · rw [decide_eq_true h] at g
    refine ⟨true, a, ?_, a2, fun _ => ⟨a1, h, fun k k1 k2 => hb k k1 (by omega)⟩, fun e => by cases e⟩
    rw [best_yes hO (by rw [hr]; exact g), hr]
  · rw [decide_eq_false h] at g
    refine ⟨false, 0, ?_, by omega, (fun e => by cases e), fun _ k k1 k2 => ?_⟩
    · rw [best_low (by rw [hr]; exact g)]
      rfl
    · have := hb k k1 (by omega)
      grind
end Go.Proofs.YteaiaedhkhmgdaaGreat.BestUp
namespace Go.Proofs.YteaiaedhkhmgdaaGreat.BestDown
theorem run_best {f : Nat → Nat} (hn : ∀ k, 91 ≤ k → k ≤ 180 → Num FloatKind.f32.format (f k)) : ∀ n, 92 ≤ n → n ≤ 181 → ∃ a : Nat, 91 ≤ a ∧ a ≤ 180 ∧ runM f n = ((a : Int), f a) ∧ ∀ k, 91 ≤ k → k < n → V FloatKind.f32.format (f k) ≤ V FloatKind.f32.format (f a) := by
  intro n
  induction n with
  | zero => intro h; omega
  | succ n ih =>
    intro h1 h2
    by_cases e : n + 1 = 92
    · obtain rfl : n = 91 := by omega
      refine ⟨91, by omega, by omega, run_first f, fun k k1 k2 => ?_⟩
      obtain rfl : k = 91 := by omega
      exact Rat.le_refl
    · obtain ⟨a, a1, a2, ha, hb⟩ := ih (by omega) (by omega)
      rw [run_step (by omega) (by omega) ha]
      have g := gtB_num (hn n (by omega) (by omega)) (hn a a1 a2)
      split
      · rename_i hg
        rw [g] at hg
        have hg := of_decide_eq_true hg
        refine ⟨n, by omega, by omega, rfl, fun k k1 k2 => ?_⟩
        by_cases ek : k = n
        · subst ek; exact Rat.le_refl
        · have := hb k k1 (by omega)
          grind
      · rename_i hg
        rw [g] at hg
        have hg : ¬ V FloatKind.f32.format (f a) < V FloatKind.f32.format (f n) := fun h => hg (decide_eq_true h)
        refine ⟨a, a1, a2, rfl, fun k k1 k2 => ?_⟩
        by_cases ek : k = n
        · subst ek; grind
        · exact hb k k1 (by omega)
theorem best_form {d : Pol} {x : Nat} (hO : okS d x 91 = true) (hn : ∀ k, 91 ≤ k → k ≤ 180 → Num FloatKind.f32.format (fF d x k)) : ∃ (r : Bool) (u : Nat), bestR d x = #[.int .i64 (u : Int), .bool r] ∧ u ≤ 180 ∧ (r = true → 91 ≤ u ∧ 0 < V FloatKind.f32.format (fF d x u) ∧ ∀ k, 91 ≤ k → k ≤ 180 → V FloatKind.f32.format (fF d x k) ≤ V FloatKind.f32.format (fF d x u)) ∧ (r = false → ∀ k, 91 ≤ k → k ≤ 180 → V FloatKind.f32.format (fF d x k) ≤ 0) := by
  obtain ⟨a, a1, a2, ha, hb⟩ := run_best hn 181 (by omega) (by omega)
  have hr : runM (fF d x) 360 = ((a : Int), fF d x a) := (run_after _ 360 (by omega)).trans ha
  have g := gtB_num (hn a a1 a2) n0
  rw [v0] at g
  by_cases h : 0 < V FloatKind.f32.format (fF d x a)
  · rw [decide_eq_true h] at g
    refine ⟨true, a, ?_, a2, fun _ => ⟨a1, h, fun k k1 k2 => hb k k1 (by omega)⟩, fun e => by cases e⟩
    rw [best_yes hO (by rw [hr]; exact g), hr]
  · rw [decide_eq_false h] at g
    refine ⟨false, 0, ?_, by omega, (fun e => by cases e), fun _ k k1 k2 => ?_⟩
    · rw [best_low (by rw [hr]; exact g)]
      rfl
    · have := hb k k1 (by omega)
      grind
end Go.Proofs.YteaiaedhkhmgdaaGreat.BestDown
