/- A passage exists exactly if a heading makes the track good and the way can be sailed in time: the drawn law walked. -/
import Derived.Test.YtpapcohenejpmaaPass
import Derived.Test.YtpapcohenejpmaaSpd
namespace Go.Proofs.Ytpapcohenejpmaa.Pl
open Go.RowKit Kit Sc Al Ss Ps Sp Pad Go.Proofs.YtpapcohenejpmaaW.PrintWords Go.Proofs.YtpapcohenejpmaaW.PrintLast Go.Proofs.YtpapcohenejpmaaW.PrintMore PFnPassageAlong
theorem law {w : World} {A0 : Option Addr} {c0 : Nat} {l0 : List Int} (hr0 : Kd.C (Kd.int .u8) w A0 l0.length l0) (hc0 : l0.length ≤ c0) :
    Calls Try.prog 7 #[.slice A0 l0.length c0] w fun e w' => e = .returned (.bool true) ∧ Below w.heap.size w w' := by
  have HR := Lib.hid hr0
  go_enter Try.func7, Try.ntmps7
  go_wp2_with fail
  refine (laws_big.calls A0 c0 l0 (decide ((l0.length : Int) > 1048576)) w hr0 hc0 rfl).mono ?_
  rintro e w1 ⟨rfl, hd⟩
  have B1 := Lib.hid hd.below
  clear hr0 hd
  by_cases hl : (l0.length : Int) > 1048576
  · rw [decide_eq_true hl]
    go_wp2_with fail
    go_ret
    exact ⟨rfl, B1.out⟩
  · rw [decide_eq_false hl]
    go_wp2_with fail
    refine (draw_passage B1.out HR.out hc0 (by omega)).mono ?_
    rintro e w2 ⟨t, m, s, c, d, rfl, hB2⟩
    have B2 := Lib.hid hB2
    clear hB2
    cases hh : headB t s c d
    · have HH := Lib.hid hh
      have e1 : pasN t m s c d = 0 := by unfold pasN; rw [hh]; rfl
      have e2 : pasB t m s c d = false := by unfold pasB; rw [hh]; rfl
      have E := Lib.hid (And.intro e1 e2)
      clear hh e1 e2
      go_wp2_with fail
      refine (impl_Passage _ _ _ _ _ _).mono ?_
      rintro e w3 ⟨rfl, hb⟩
      have B3 := Lib.hid (B2.out.trans (hb.mono B2.out.size))
      clear hb
      rw [E.out.1, E.out.2]
      go_wp2_with fail
      refine (impl_Steer _ _ _ _ _).mono ?_
      rintro e w4 ⟨rfl, hb⟩
      have B4 := Lib.hid (B3.out.trans (hb.mono B3.out.size))
      clear hb
      rw [HH.out]
      go_wp2_with fail
      refine (spec_Steer' _ _ _ _ _).mono ?_
      rintro e w5 ⟨n, rfl, rfl⟩
      rw [HH.out]
      go_wp2_with fail
      go_ret
      exact ⟨rfl, B4.out⟩
    · have HH := Lib.hid hh
      have e1 : pasN t m s c d = secN m (paceF t (headN t s c d) s c d) := by unfold pasN; rw [hh]; rfl
      have e2 : pasB t m s c d = secB m (paceF t (headN t s c d) s c d) := by unfold pasB; rw [hh]; rfl
      have E := Lib.hid (And.intro e1 e2)
      clear hh e1 e2
      go_wp2_with fail
      refine (impl_Passage _ _ _ _ _ _).mono ?_
      rintro e w3 ⟨rfl, hb⟩
      have B3 := Lib.hid (B2.out.trans (hb.mono B2.out.size))
      clear hb
      rw [E.out.1, E.out.2]
      go_wp2_with fail
      refine (impl_Steer _ _ _ _ _).mono ?_
      rintro e w4 ⟨rfl, hb⟩
      have B4 := Lib.hid (B3.out.trans (hb.mono B3.out.size))
      clear hb
      rw [HH.out]
      go_wp2_with fail
      refine (spec_Steer' _ _ _ _ _).mono ?_
      rintro e w5 ⟨n, rfl, rfl⟩
      rw [HH.out]
      go_wp2_with fail
      refine (impl_Along _ _ _ _ _ _).mono ?_
      rintro e w' ⟨rfl, rfl⟩
      go_wp2_with fail
      refine (impl_SecondsFor _ _ _).mono ?_
      rintro e w' ⟨rfl, rfl⟩
      cases hq : secB m (paceF t (headN t s c d) s c d)
      all_goals go_wp2_with fail
      all_goals go_ret
      all_goals exact ⟨by simp, B4.out⟩
end Go.Proofs.Ytpapcohenejpmaa.Pl
namespace Go.Proofs.Ytpapcohenejpmaa.Pure
open Go.RowKit Go.Proofs.YtpapcohenejpmaaW.PrintWords Go.Proofs.YtpapcohenejpmaaW.PrintLast Go.Proofs.YtpapcohenejpmaaW.PrintMore
theorem FnPassageAlongWalk (a0 : Option Addr) (len0 cap0 : Nat) (z0 : List Int) (w : World) (w0 : (a0 = none ∧ len0 = 0 ∧ cap0 = 0 ∧ z0 = []) ∨ ∃ x, a0 = some x ∧ len0 ≤ cap0 ∧ cap0 ≤ maxLen ∧ z0.length = cap0 ∧ (∀ i, i < z0.length → w.cell? (x.add i) = some (.int .u8 (z0.getD i 0))) ∧ ∀ n ∈ z0, (Lit.int .u8 n).wf = true) (_ : len0 * 1 ≤ 140737488351232) :
    Calls Try.prog 7 #[.slice a0 len0 cap0] w fun e w' => e = .returned (.bool true) ∧ Below w.heap.size w w' := by
  obtain ⟨l0, rfl, hr0, _, _, hc0⟩ := ReadsInt.ofRowC w0
  exact Pl.law (Kd.C_of_reads (d := (0 : Int)) (h1 := fun _ => rfl) hr0) hc0
end Go.Proofs.Ytpapcohenejpmaa.Pure
