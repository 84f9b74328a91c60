/- The heading that is told leaves the track least: the loop's law, in numbers. -/
import Derived.Test.YtpapcohenejpmaaSteer
namespace Go.Proofs.Ytpapcohenejpmaa.Le
open Go.RowKit Kit Fl Bd Tn Vl Sc Al Ss
def gtD (t : Nat × Nat) (s c d k : Nat) : Bool := FloatKind.f64.format.order (dotP t (wk (tb k) s c d)) 0 == some .gt
def offA (t : Nat × Nat) (s c d k : Nat) : Nat := crossP t (wk (tb k) s c d) % 2 ^ 63
def A (t : Nat × Nat) (s c d k : Nat) : Rat := V FloatKind.f64.format (offA t s c d k)
theorem num_abs {x : Nat} (h : Num FloatKind.f64.format x) : Num FloatKind.f64.format (x % 2 ^ 63) := by
  obtain ⟨s, m, e, hr⟩ := h
  have := read_abs x
  rw [hr] at this
  exact ⟨_, _, _, this⟩
/-- what the loop keeps -/
def Best (t : Nat × Nat) (s c d n : Nat) (st : Int × Nat) : Prop :=
  0 ≤ st.1 → ∃ b : Nat, st.1 = (b : Int) ∧ b < n ∧ gtD t s c d b = true ∧ st.2 = offA t s c d b ∧ ∀ k, k < n → gtD t s c d k = true → A t s c d b < A t s c d k ∨ (A t s c d b = A t s c d k ∧ b ≤ k)
theorem some_false {t : Nat × Nat} {s c d : Nat} : ∀ n, someB t s c d n = false → ∀ k, k < n → gtD t s c d k = false := by
  intro n
  induction n with
  | zero => intro _ k hk; omega
  | succ n ih =>
    intro h k hk
    rw [someB_succ, Bool.or_eq_false_iff] at h
    by_cases e : k = n
    · subst e; exact h.2
    · exact ih h.1 k (by omega)
theorem best_run (t : Nat × Nat) (s c d : Nat) (F : ∀ k, k < 360 → Sure t (tb k) s c d) : ∀ n, n ≤ 360 → Best t s c d n (runS t s c d n) := by
  intro n
  induction n with
  | zero => intro _ h; rw [runS_zero] at h; simp at h
  | succ n ih =>
    intro hn h0
    have ih := ih (by omega)
    have hs := run_some t s c d n
    rw [runS_succ] at h0 ⊢
    generalize runS t s c d n = st at *
    unfold stepS at h0 ⊢
    by_cases g : (FloatKind.f64.format.order (dotP t (wk (tb n) s c d)) 0 == some .gt) = true
    · rw [if_pos g] at h0 ⊢
      by_cases o : (decide (st.1 < 0) || (FloatKind.f64.format.order (crossP t (wk (tb n) s c d) % 2 ^ 63) st.2 == some .lt)) = true
      · rw [if_pos o]
        refine ⟨n, rfl, by omega, g, rfl, fun k hk hg => ?_⟩
        by_cases e : k = n
        · subst e; exact Or.inr ⟨rfl, Nat.le_refl _⟩
        · by_cases hneg : st.1 < 0
          · rw [decide_eq_false (by omega)] at hs
            have := some_false n hs.symm k (by omega)
            rw [this] at hg; cases hg
          · obtain ⟨b, b1, b2, b3, b4, b5⟩ := ih (by omega)
            rw [decide_eq_false hneg, Bool.false_or, b4] at o
            have o2 : (FloatKind.f64.format.order (offA t s c d n) (offA t s c d b) == some .lt) = true := o
            rw [lss_num (x := offA t s c d n) (y := offA t s c d b) (num_abs (F n (by omega)).cn) (num_abs (F b (by omega)).cn)] at o2
            have o' : A t s c d n < A t s c d b := of_decide_eq_true o2
            rcases b5 k (by omega) hg with h | h
            · exact Or.inl (by grind)
            · exact Or.inl (by grind)
      · rw [if_neg o] at h0 ⊢
        obtain ⟨b, b1, b2, b3, b4, b5⟩ := ih h0
        refine ⟨b, b1, by omega, b3, b4, fun k hk hg => ?_⟩
        by_cases e : k = n
        · subst e
          rw [Bool.not_eq_true, Bool.or_eq_false_iff, b4] at o
          have o2 : (FloatKind.f64.format.order (offA t s c d k) (offA t s c d b) == some .lt) = false := o.2
          rw [lss_num (x := offA t s c d k) (y := offA t s c d b) (num_abs (F k (by omega)).cn) (num_abs (F b (by omega)).cn)] at o2
          have o' : ¬ A t s c d k < A t s c d b := of_decide_eq_false o2
          by_cases q : A t s c d b < A t s c d k
          · exact Or.inl q
          · exact Or.inr ⟨by grind, by omega⟩
        · exact b5 k (by omega) hg
    · rw [if_neg g] at h0 ⊢
      obtain ⟨b, b1, b2, b3, b4, b5⟩ := ih h0
      refine ⟨b, b1, by omega, b3, b4, fun k hk hg => ?_⟩
      by_cases e : k = n
      · subst e; exact absurd hg g
      · exact b5 k (by omega) hg
end Go.Proofs.Ytpapcohenejpmaa.Le
