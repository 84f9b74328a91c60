/- Without a stream the heading that makes a track good is the track: the drawn law walked. No condition. -/
import Derived.Test.YtpapcohenejpmaaStill
import Derived.Test.YtpapcohenejpmaaSpd
namespace Go.Proofs.Ytpapcohenejpmaa.Stl
open Go.RowKit Kit Fl Bd Tn Vl Sc Al Ss Sp Le St Pad Go.Proofs.YtpapcohenejpmaaW.PrintWords Go.Proofs.YtpapcohenejpmaaW.PrintLast Go.Proofs.YtpapcohenejpmaaW.PrintMore PFnPassageAlong
theorem draw_over {w0 w : World} {A0 : Option Addr} {c0 : Nat} {l0 : List Int} (hB : Below w0.heap.size w0 w) (hr0 : Kd.C (Kd.int .u8) w0 A0 l0.length l0) (hc0 : l0.length ≤ c0) (hl : l0.length ≤ 1048576) :
    Calls Try.prog 48 #[.slice A0 l0.length c0] w fun e w' => ∃ (h : Int) (s c d : Nat), e = .returned (.tuple #[.int .i64 h, .float .f32 s, .complex .f32 c d]) ∧ Below w0.heap.size w0 w' := by
  have HB := Lib.hid hB
  have HR := Lib.hid hr0
  clear hB hr0
  go_enter Try.func48, Try.ntmps48
  go_wp2_with fail
  refine (new_call HB.out HR.out hc0 hl).mono ?_
  rintro e w1 ⟨g, rfl, hC1, _⟩
  have C1 := Lib.hid hC1
  clear hC1
  go_wp2_with fail
  refine (degrees_call (by omega) C1.out).mono ?_
  rintro e w3 ⟨h, rfl, hC3⟩
  have C3 := Lib.hid hC3
  clear hC3
  go_wp2_with fail
  refine (speed_call (by omega) C3.out).mono ?_
  rintro e w4 ⟨s, rfl, hC4⟩
  have C4 := Lib.hid hC4
  clear hC4
  go_wp2_with fail
  refine (stream_call (by omega) C4.out).mono ?_
  rintro e w5 ⟨c, d, rfl, hC5⟩
  have C5 := Lib.hid hC5
  clear hC5
  go_wp2_with fail
  exact bodyPost_ret (v := .tuple #[.int .i64 h, .float .f32 s, .complex .f32 c d]) (by simp [results, Try.results48, go_sem]) rfl ⟨_, _, _, _, rfl, C5.out.below⟩
theorem draw_steer {w0 w : World} {A0 : Option Addr} {c0 : Nat} {l0 : List Int} (hB : Below w0.heap.size w0 w) (hr0 : Kd.C (Kd.int .u8) w0 A0 l0.length l0) (hc0 : l0.length ≤ c0) (hl : l0.length ≤ 1048576) :
    Calls Try.prog 15 #[.slice A0 l0.length c0] w fun e w' => ∃ (h : Int) (s c d : Nat), e = .returned (.tuple #[.int .i64 h, .float .f32 s, .complex .f32 c d]) ∧ Below w0.heap.size w0 w' := by
  have HB := Lib.hid hB
  have HR := Lib.hid hr0
  clear hB hr0
  go_enter Try.func15, Try.ntmps15
  go_wp2_with fail
  refine (draw_over HB.out HR.out hc0 hl).mono ?_
  rintro e w1 ⟨h, s, c, d, rfl, hC1⟩
  have C1 := Lib.hid hC1
  clear hC1
  go_wp2_with fail
  exact bodyPost_ret (v := .tuple #[.int .i64 h, .float .f32 s, .complex .f32 c d]) (by simp [results, Try.results15, go_sem]) rfl ⟨_, _, _, _, rfl, C1.out⟩
theorem laws_mod (k : Int) (w : World) : Calls Try.prog 17 #[.int .i64 k] w fun e w' => e = .returned (.int .i64 (deg k : Int)) ∧ w = w' := by
  have h := (wrap_mod k).trans (deg_cast k)
  have H := Lib.hid h
  clear h
  go_enter Try.func17, Try.ntmps17
  go_wp2
  go_ret
  exact ⟨congrArg (fun n => Ending.returned (.int .i64 n)) H.out, rfl⟩
theorem head_none {t : Int} {s c d : Nat} (h : headB t s c d = false) : headN t s c d = 0 := by
  unfold headB at h
  unfold headN
  cases ho : okR s c d
  · rw [if_neg (by decide)]
  · rw [ho, Bool.true_and] at h
    rw [if_pos rfl]
    have hr := run_some (tb (deg t)) s c d 360
    rw [h] at hr
    have := of_decide_eq_false hr
    omega
theorem law {w : World} {A0 : Option Addr} {c0 : Nat} {l0 : List Int} (hr0 : Kd.C (Kd.int .u8) w A0 l0.length l0) (hc0 : l0.length ≤ c0) :
    Calls Try.prog 4 #[.slice A0 l0.length c0] w fun e w' => e = .returned (.bool true) ∧ Below w.heap.size w w' := by
  have HR := Lib.hid hr0
  go_enter Try.func4, Try.ntmps4
  go_wp2_with fail
  refine (laws_big.calls A0 c0 l0 (decide ((l0.length : Int) > 1048576)) w hr0 hc0 rfl).mono ?_
  rintro e w1 ⟨rfl, hd⟩
  have B1 := Lib.hid hd.below
  clear hr0 hd
  by_cases hl : (l0.length : Int) > 1048576
  · rw [decide_eq_true hl]
    go_wp2_with fail
    go_ret
    exact ⟨rfl, B1.out⟩
  · rw [decide_eq_false hl]
    go_wp2_with fail
    refine (draw_steer B1.out HR.out hc0 (by omega)).mono ?_
    rintro e w2 ⟨t, s, c, d, rfl, hB2⟩
    have B2 := Lib.hid hB2
    clear hB2
    go_wp2_with fail
    refine (impl_Steer _ _ _ _ _).mono ?_
    rintro e w3 ⟨rfl, hb⟩
    have B3 := Lib.hid (B2.out.trans (hb.mono B2.out.size))
    clear hb
    cases h1 : (FloatKind.f32.format.order s 1056964608 == some .gt || FloatKind.f32.format.order s 1056964608 == some .eq)
    all_goals cases h2 : (FloatKind.f32.format.order s 1112014848 == some .lt || FloatKind.f32.format.order s 1112014848 == some .eq)
    case true.true =>
      obtain ⟨e1, e2⟩ := still (t := t) h1 h2
      rw [e1, e2]
      clear e1 e2
      go_wp2_with (go_at_call 17; refine (laws_mod _ _).mono ?_; rintro e w' ⟨rfl, rfl⟩)
      go_ret
      exact ⟨by simp, B3.out⟩
    all_goals
      cases hh : headB t s 0 0
      · rw [head_none hh]
        clear hh
        go_wp2_with fail
        all_goals go_ret
        all_goals exact ⟨rfl, B3.out⟩
      · clear hh
        go_wp2_with fail
        all_goals go_ret
        all_goals exact ⟨rfl, B3.out⟩
end Go.Proofs.Ytpapcohenejpmaa.Stl
namespace Go.Proofs.Ytpapcohenejpmaa.Pure
open Go.RowKit Go.Proofs.YtpapcohenejpmaaW.PrintWords Go.Proofs.YtpapcohenejpmaaW.PrintLast Go.Proofs.YtpapcohenejpmaaW.PrintMore
theorem FnSteerStillWalk (a0 : Option Addr) (len0 cap0 : Nat) (z0 : List Int) (w : World) (w0 : (a0 = none ∧ len0 = 0 ∧ cap0 = 0 ∧ z0 = []) ∨ ∃ x, a0 = some x ∧ len0 ≤ cap0 ∧ cap0 ≤ maxLen ∧ z0.length = cap0 ∧ (∀ i, i < z0.length → w.cell? (x.add i) = some (.int .u8 (z0.getD i 0))) ∧ ∀ n ∈ z0, (Lit.int .u8 n).wf = true) (_ : len0 * 1 ≤ 140737488351232) :
    Calls Try.prog 4 #[.slice a0 len0 cap0] w fun e w' => e = .returned (.bool true) ∧ Below w.heap.size w w' := by
  obtain ⟨l0, rfl, hr0, _, _, hc0⟩ := ReadsInt.ofRowC w0
  exact Stl.law (Kd.C_of_reads (d := (0 : Int)) (h1 := fun _ => rfl) hr0) hc0
end Go.Proofs.Ytpapcohenejpmaa.Pure
