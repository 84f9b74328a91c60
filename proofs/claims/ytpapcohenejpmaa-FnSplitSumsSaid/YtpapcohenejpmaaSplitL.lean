/- The two parts of a way, each along its heading, lead where the way leads: the drawn law walked. No condition. -/
import Derived.Test.YtpapcohenejpmaaSplit
import Derived.Test.YtpapcohenejpmaaSpd
namespace Go.Proofs.Ytpapcohenejpmaa.Spl
open Go.RowKit Kit Fl Bd Tn Ve Ro Sp Sp2 Pad Go.Proofs.YtpapcohenejpmaaW.PrintWords Go.Proofs.YtpapcohenejpmaaW.PrintLast Go.Proofs.YtpapcohenejpmaaW.PrintMore PFnPassageAlong
theorem litN (w : World) (zs : List Int) (q : TypeId) (cs : Array Value) (hcs : cs = (zs.map (Value.int .i64)).toArray) (h0 : 0 < zs.length) (hm : zs.length ≤ 1000) (hwf : ∀ n ∈ zs, (Lit.int .i64 n).wf = true) : ∃ l : List Int, l.length = zs.length ∧ Kd.C (Kd.int .i64) (w.alloc (.cells cs q)) (some ⟨w.heap.size, 0, none⟩) l.length l := by
  obtain ⟨l, h1, h2, _, _, _⟩ := ReadsInt.ofRowC (k := .i64) (w := w.alloc (.cells cs q)) (a := some ⟨w.heap.size, 0, none⟩) (len := zs.length) (cap := zs.length) (zs := zs)
    (Or.inr ⟨⟨w.heap.size, 0, none⟩, rfl, Nat.le_refl _, by unfold maxLen; omega, rfl, fun i hi => by
      rw [Addr.add_lit]
      rw [World.cell?_alloc_at _ _ _ _ rfl, hcs, Nat.zero_add]
      simp [hi], hwf⟩)
  exact ⟨l, h1.symm, Kd.C_of_reads (d := (0 : Int)) (h1 := fun _ => rfl) h2⟩
set_option maxRecDepth 100000 in
theorem vector_call {w0 w : World} {g : Nat} {m : Int} (n : Int) (hn0 : 0 ≤ n) (hn : n ≤ 100000) (hm : m ≤ 1700000) (hC : Cur w0 w g m) :
    Calls Try.prog 30 #[.pointer (some ⟨g, 0, none⟩), .int .i64 n] w fun e w' => ∃ a b : Nat, e = .returned (.complex .f64 a b) ∧ Cur w0 w' g (m + 40) := by
  have C0 := Lib.hid hC
  clear hC
  go_enter Try.func30, Try.ntmps30
  go_wp2_with fail
  refine (real_call n hn0 hn (by omega) C0.out).mono ?_
  rintro e w1 ⟨z, rfl, hC1⟩
  have C1 := Lib.hid hC1
  clear hC1
  go_wp2_with fail
  refine (real_call n hn0 hn (by omega) C1.out).mono ?_
  rintro e w2 ⟨z2, rfl, hC2⟩
  have C2 := Lib.hid hC2
  clear hC2
  go_wp2_with fail
  go_ret
  exact ⟨_, _, rfl, C2.out.mono (by omega)⟩
set_option maxRecDepth 100000 in
theorem draw_split {w0 w : World} {A0 : Option Addr} {c0 : Nat} {l0 : List Int} (hB : Below w0.heap.size w0 w) (hr0 : Kd.C (Kd.int .u8) w0 A0 l0.length l0) (hc0 : l0.length ≤ c0) (hl : l0.length ≤ 1048576) :
    Calls Try.prog 9 #[.slice A0 l0.length c0] w fun e w' => ∃ (a b : Nat) (ka kb : Int), e = .returned (.tuple #[.complex .f64 a b, .int .i64 ka, .int .i64 kb]) ∧ Below w0.heap.size w0 w' := by
  have HB := Lib.hid hB
  have HR := Lib.hid hr0
  clear hB hr0
  go_enter Try.func9, Try.ntmps9
  go_wp2_with fail
  refine (new_call HB.out HR.out hc0 hl).mono ?_
  rintro e w1 ⟨g, rfl, hC1, _⟩
  have C1 := Lib.hid hC1
  clear hC1
  go_wp2_with fail
  refine (vector_call 3000 (by omega) (by omega) (by omega) C1.out).mono ?_
  rintro e w2 ⟨a, b, rfl, hC2⟩
  have C2 := Lib.hid hC2
  clear hC2
  go_wp2_with fail
  refine (degrees_call (by omega) C2.out).mono ?_
  rintro e w3 ⟨ka, rfl, hC3⟩
  have C3 := Lib.hid hC3
  clear hC3
  go_wp2_with fail
  refine (once_call 4 (by omega) (by omega) C3.out).mono ?_
  rintro e w4 ⟨r, rfl, hC4, _⟩
  have C4 := Lib.hid hC4
  clear hC4
  cases r
  · go_wp2_with fail
    refine (degrees_call (by omega) C4.out).mono ?_
    rintro e w5 ⟨kb, rfl, hC5⟩
    have C5 := Lib.hid hC5
    clear hC5
    go_wp2_with fail
    exact bodyPost_ret (v := .tuple #[.complex .f64 a b, .int .i64 ka, .int .i64 kb]) (by simp [results, Try.results9, go_sem]) rfl ⟨_, _, _, _, rfl, C5.out.below⟩
  · go_wp2_with fail
    refine (spec_mod _ _).mono ?_
    rintro e w' ⟨rfl, rfl⟩
    go_wp2_with fail
    obtain ⟨l, hl9, hL⟩ := litN w4 [4, 5, 6, -5, -4, 175, 176, 180, 0] 3 #[.int .i64 4, .int .i64 5, .int .i64 6, .int .i64 (-5), .int .i64 (-4), .int .i64 175, .int .i64 176, .int .i64 180, .int .i64 0] rfl (by decide) (by decide) (by decide)
    have hgl := cur_lt C4.out
    have hp := pick_call (by omega) (cur_alloc C4.out (.cells #[.int .i64 4, .int .i64 5, .int .i64 6, .int .i64 (-5), .int .i64 (-4), .int .i64 175, .int .i64 176, .int .i64 180, .int .i64 0] 3)) hL (c := 9) (by rw [hl9]; decide) (fun ad e _ => by cases e; exact Nat.ne_of_gt hgl) (by rw [hl9]; decide)
    rw [hl9] at hp
    refine hp.mono ?_
    clear hp hL hgl hl9
    rintro e w5 ⟨x, rfl, hC5⟩
    have C5 := Lib.hid hC5
    clear hC5
    go_wp2_with fail
    exact bodyPost_ret (v := .tuple #[.complex .f64 a b, .int .i64 ka, .int .i64 (wrap64 (ka % 360 + x))]) (by simp [results, Try.results9, go_sem]) rfl ⟨_, _, _, _, rfl, C5.out.below⟩
theorem law {w : World} {A0 : Option Addr} {c0 : Nat} {l0 : List Int} (hr0 : Kd.C (Kd.int .u8) w A0 l0.length l0) (hc0 : l0.length ≤ c0) :
    Calls Try.prog 3 #[.slice A0 l0.length c0] w fun e w' => e = .returned (.bool true) ∧ Below w.heap.size w w' := by
  have HR := Lib.hid hr0
  go_enter Try.func3, Try.ntmps3
  go_wp2_with fail
  refine (laws_big.calls A0 c0 l0 (decide ((l0.length : Int) > 1048576)) w hr0 hc0 rfl).mono ?_
  rintro e w1 ⟨rfl, hd⟩
  have B1 := Lib.hid hd.below
  clear hr0 hd
  by_cases hl : (l0.length : Int) > 1048576
  · rw [decide_eq_true hl]
    go_wp2_with fail
    go_ret
    exact ⟨rfl, B1.out⟩
  · rw [decide_eq_false hl]
    go_wp2_with fail
    refine (draw_split B1.out HR.out hc0 (by omega)).mono ?_
    rintro e w2 ⟨a, b, ka, kb, rfl, hB2⟩
    have B2 := Lib.hid hB2
    clear hB2
    cases h : okW a b ka kb
    · have H := Lib.hid h
      clear h
      go_wp2_with (first | (go_at_call 10; refine (impl_Split_no _ _ _ _ H.out _).mono ?_; rintro e w' ⟨rfl, rfl⟩) | (go_at_call 11; refine (spec_Split_no _ _ _ _ H.out _).mono ?_; rintro e w' ⟨rfl, rfl⟩))
      go_ret
      exact ⟨rfl, B2.out⟩
    · have H := Lib.hid h
      clear h
      have n100 : Num FloatKind.f64.format 4681608360884174848 := num_iff.2 (by decide +kernel)
      have v100 : V FloatKind.f64.format 4681608360884174848 = 100000 := by
        rw [V_of (show FloatKind.f64.format.read 4681608360884174848 = .number false 6871947673600000 (-36) by decide +kernel)]
        simp only [sval, Bool.false_eq_true, if_false]; decide +kernel
      have gt := gtr_num (len_num a b).1 n100
      rw [v100] at gt
      by_cases q : 100000 < V FloatKind.f64.format (lenF a b)
      · rw [decide_eq_true q] at gt
        clear q v100 n100
        go_wp2_with (first | (go_at_call 10; refine (impl_Split_yes _ _ _ _ H.out _).mono ?_; rintro e w' ⟨rfl, rfl⟩) | (go_at_call 11; refine (spec_Split_yes _ _ _ _ H.out _).mono ?_; rintro e w' ⟨rfl, rfl⟩) | (go_at_call 12; refine (impl_Length _ _ _).mono ?_; rintro e w' ⟨rfl, rfl⟩))
        go_ret
        exact ⟨rfl, B2.out⟩
      · rw [decide_eq_false q] at gt
        obtain ⟨R1, R2⟩ := rests H.out (Rat.not_lt.1 q)
        clear q v100 n100
        obtain ⟨a1, a2, a3, a4, a5⟩ := R1
        obtain ⟨b1, b2, b3, b4, b5⟩ := R2
        unfold restF at a5 b5
        go_wp2_with (first | (go_at_call 10; refine (impl_Split_yes _ _ _ _ H.out _).mono ?_; rintro e w' ⟨rfl, rfl⟩) | (go_at_call 11; refine (spec_Split_yes _ _ _ _ H.out _).mono ?_; rintro e w' ⟨rfl, rfl⟩) | (go_at_call 12; refine (impl_Length _ _ _).mono ?_; rintro e w' ⟨rfl, rfl⟩) | (go_at_call 13; refine (impl_Turn _ _).mono ?_; rintro e w' ⟨rfl, rfl⟩) | (go_at_call 14; refine (laws_amount _ _).mono ?_; rintro e w' ⟨rfl, rfl⟩))
        all_goals go_ret
        all_goals exact ⟨rfl, B2.out⟩
end Go.Proofs.Ytpapcohenejpmaa.Spl
namespace Go.Proofs.Ytpapcohenejpmaa.Pure
open Go.RowKit Go.Proofs.YtpapcohenejpmaaW.PrintWords Go.Proofs.YtpapcohenejpmaaW.PrintLast Go.Proofs.YtpapcohenejpmaaW.PrintMore
theorem FnSplitSumsWalk (a0 : Option Addr) (len0 cap0 : Nat) (z0 : List Int) (w : World) (w0 : (a0 = none ∧ len0 = 0 ∧ cap0 = 0 ∧ z0 = []) ∨ ∃ x, a0 = some x ∧ len0 ≤ cap0 ∧ cap0 ≤ maxLen ∧ z0.length = cap0 ∧ (∀ i, i < z0.length → w.cell? (x.add i) = some (.int .u8 (z0.getD i 0))) ∧ ∀ n ∈ z0, (Lit.int .u8 n).wf = true) (_ : len0 * 1 ≤ 140737488351232) :
    Calls Try.prog 3 #[.slice a0 len0 cap0] w fun e w' => e = .returned (.bool true) ∧ Below w.heap.size w w' := by
  obtain ⟨l0, rfl, hr0, _, _, hc0⟩ := ReadsInt.ofRowC w0
  exact Spl.law (Kd.C_of_reads (d := (0 : Int)) (h1 := fun _ => rfl) hr0) hc0
end Go.Proofs.Ytpapcohenejpmaa.Pure
