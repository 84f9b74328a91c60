/- No position is farther from the middle of a hat than is told, and one of them is as far: the drawn law walked. No condition. -/
import Derived.Test.YtjohpjmfnghkoaaHat
namespace Go.Proofs.Ytjohpjmfnghkoaa.Hl
open Go.RowKit Kit Fl Bd Ve Ro Dw Hh Hnd Go.Proofs.YtjohpjmfnghkoaaW.PrintWords Go.Proofs.YtjohpjmfnghkoaaW.PrintLast Go.Proofs.YtjohpjmfnghkoaaW.PrintMore PFnHighNearest
theorem cplx_info : (Try.prog.info? 28).map (fun i => (i.zero, i.size, i.bytes)) = some (some (.complex .f64 0 0), 1, 16) := by kernel_rfl
theorem cplx_E : ∀ q, q ∈ 28 :: cplx.E → q ≠ 86 := by
  intro q hq
  have : q = 28 := by simpa [cplx, Kd.scalar] using hq
  rw [this]; decide
set_option maxRecDepth 100000 in
set_option maxHeartbeats 1000000 in
theorem draw_hat {w0 w : World} {A0 : Option Addr} {c0 : Nat} {l0 : List Int} (hB : Below w0.heap.size w0 w) (hr0 : Kd.C (Kd.int .u8) w0 A0 l0.length l0) (hc0 : l0.length ≤ c0) (hl : l0.length ≤ 1048576) :
    Calls Try.prog 19 #[.slice A0 l0.length c0] w fun e w' => ∃ (v : Value) (zs : List (Nat × Nat)), e = .returned v ∧ zs.length ≤ 51 ∧ cplx.R 28 w' w0.heap.size (fun _ => True) v zs ∧ Below w0.heap.size w0 w' := by
  have HB := Lib.hid hB
  have HR := Lib.hid hr0
  clear hB hr0
  go_enter Try.func19, Try.ntmps19
  go_wp2_with fail
  refine (new_k HB.out HR.out hc0 hl).mono ?_
  rintro e w1 ⟨g, rfl, hC1⟩
  have C1 := Lib.hid hC1.root
  clear hC1
  go_wp2_with ((with_reducible refine gate_dst (N := 8) rfl ?_); refine Kd.R_lit cplx (w0 := w0) w0.heap.size 28 ?hg (N := 8) ?hd (xs := ([] : List (Nat × Nat))) (inner := []) (ok := fun _ => True) (okp := fun _ => True) ?hr ?hp (fun _ hk => hk) trivial C1.out.below C1.out.below.size (by simp) ?_; (case hd => rfl); (case hg => rfl); (case hr => first | (go_simp; done) | (go_simp; rfl)); (case hp => exact (Reps.none _ _)); intro v w2 hR hb hg hnew; have C2 := Lib.hid (C1.out.grown hg (by simp) (fun b e => by cases e) hb); have R2 := Lib.hid hR; clear hR hb hg hnew C1)
  refine (below_k 6 (by omega) (by omega) C2.out.here).mono ?_
  rintro e w3 ⟨n, rfl, n0, n1, hC3⟩
  have R3 := Lib.hid (R_cur R2.out C2.out cplx_E hC3)
  have C3 := Lib.hid (C2.out.trans hC3)
  clear hC3 R2 C2
  go_wp2_with fail
  refine (once_k 30 (by omega) (by omega) C3.out.here).mono ?_
  rintro e w4 ⟨o, rfl, hC4⟩
  have R4 := Lib.hid (R_cur R3.out C3.out cplx_E hC4)
  have C4 := Lib.hid (C3.out.trans hC4)
  clear hC4 R3 C3
  obtain ⟨n, rfl⟩ : ∃ k : Nat, n = (k : Int) := ⟨n.toNat, by omega⟩
  have hn : n < 6 := by have := n1 (by omega); omega
  clear n0 n1
  cases o
  · go_wp2_with fail
    go_loopw [4, 5] (fun u k wr => ∃ (zs : List (Nat × Nat)) (j : Nat), k = .int .i64 (j : Int) ∧ zs.length + j ≤ 51 ∧ cplx.R 28 wr w0.heap.size (fun _ => True) u zs ∧ Cur2 w0 w0 wr g (20 + 40 * zs.length)) (fun _ k _ => (intOf k).toNat)
    case atStart => exact ⟨[], n, rfl, by simp; omega, R4.out, C4.out.mono (by simp)⟩
    case round =>
      obtain ⟨zs, j, rfl, hj, hR, hC⟩ := hrel
      have R := Lib.hid hR
      have C := Lib.hid hC
      clear hR hC
      by_cases h0 : 0 < j
      · obtain ⟨j, rfl⟩ : ∃ m, j = m + 1 := ⟨j - 1, by omega⟩
        go_wp2_with fail
        refine (vector_k 2000 (by omega) (by omega) (by omega) C.out.here).mono ?_
        rintro e w5 ⟨a, b, rfl, hC5⟩
        have R5 := Lib.hid (R_cur R.out C.out cplx_E hC5)
        have C5 := Lib.hid (C.out.trans hC5)
        clear hC5 R C
        go_wp2_with (at_builtin; refine Kd.R_append cplx (w0 := w0) w0.heap.size rfl (.tmp 20) (.tmp 23) 46 28 (.complex .f64 0 0) 16 rfl Try.underlying46 cplx_info rfl (by decide) (by omega) _ zs (a, b) [.complex .f64 a b] (fun _ => True) (fun _ => False) rfl rfl ?aP (fun _ hk => hk.elim) ?aF ?aO ?aB ?aS ?aL ?_; (case aP => exact rfl); (case aF => exact (fun _ _ => trivial)); (case aO => exact R5.out); (case aB => exact C5.out.below); (case aS => exact C5.out.below.size); (case aL => omega); intro v6 w6 hR hb hg hat; have C6 := Lib.hid (C5.out.grown hg (R_cur_ne R5.out C5.out (by decide)) (fun b e => own_base (Kd.R_own R5.out).choose_spec b e) hb); have R6 := Lib.hid hR; clear hR hb hg hat C5 R5)
        go_roundw
        case rel => exact ⟨zs ++ [(a, b)], j, by go_num, by simp; omega, R6.out, C6.out.mono (by simp; omega)⟩
        case measure => simp [intOf]
      · obtain rfl : j = 0 := by omega
        go_wp2_with fail
        go_ret
        exact ⟨_, zs, rfl, by omega, R.out, C.out.below⟩
  · go_wp2_with fail
    refine (below_k 2 (by omega) (by omega) C4.out.here).mono ?_
    rintro e w5 ⟨r, rfl, r0, r1, hC5⟩
    have R5 := Lib.hid (R_cur R4.out C4.out cplx_E hC5)
    have C5 := Lib.hid (C4.out.trans hC5)
    clear hC5 R4 C4
    obtain ⟨r, rfl⟩ : ∃ k : Nat, r = (k : Int) := ⟨r.toNat, by omega⟩
    have hr : r < 2 := by have := r1 (by omega); omega
    clear r0 r1
    go_wp2_with fail
    go_loopw [4, 5] (fun u k wr => ∃ (zs : List (Nat × Nat)) (j : Nat), k = .int .i64 (j : Int) ∧ zs.length + j ≤ 51 ∧ cplx.R 28 wr w0.heap.size (fun _ => True) u zs ∧ Cur2 w0 w0 wr g (20 + 40 * zs.length)) (fun _ k _ => (intOf k).toNat)
    case atStart => exact ⟨[], 50 + r, by simp, by simp; omega, R5.out, C5.out.mono (by simp)⟩
    case round =>
      obtain ⟨zs, j, rfl, hj, hR, hC⟩ := hrel
      have R := Lib.hid hR
      have C := Lib.hid hC
      clear hR hC
      by_cases h0 : 0 < j
      · obtain ⟨j, rfl⟩ : ∃ m, j = m + 1 := ⟨j - 1, by omega⟩
        go_wp2_with fail
        refine (vector_k 2000 (by omega) (by omega) (by omega) C.out.here).mono ?_
        rintro e w5 ⟨a, b, rfl, hC5⟩
        have R5 := Lib.hid (R_cur R.out C.out cplx_E hC5)
        have C5 := Lib.hid (C.out.trans hC5)
        clear hC5 R C
        go_wp2_with (at_builtin; refine Kd.R_append cplx (w0 := w0) w0.heap.size rfl (.tmp 20) (.tmp 23) 46 28 (.complex .f64 0 0) 16 rfl Try.underlying46 cplx_info rfl (by decide) (by omega) _ zs (a, b) [.complex .f64 a b] (fun _ => True) (fun _ => False) rfl rfl ?aP (fun _ hk => hk.elim) ?aF ?aO ?aB ?aS ?aL ?_; (case aP => exact rfl); (case aF => exact (fun _ _ => trivial)); (case aO => exact R5.out); (case aB => exact C5.out.below); (case aS => exact C5.out.below.size); (case aL => omega); intro v6 w6 hR hb hg hat; have C6 := Lib.hid (C5.out.grown hg (R_cur_ne R5.out C5.out (by decide)) (fun b e => own_base (Kd.R_own R5.out).choose_spec b e) hb); have R6 := Lib.hid hR; clear hR hb hg hat C5 R5)
        go_roundw
        case rel => exact ⟨zs ++ [(a, b)], j, by go_num, by simp; omega, R6.out, C6.out.mono (by simp; omega)⟩
        case measure => simp [intOf]
      · obtain rfl : j = 0 := by omega
        go_wp2_with fail
        go_ret
        exact ⟨_, zs, rfl, by omega, R.out, C.out.below⟩
theorem met_succ {P : Nat → Prop} {j : Nat} {o q : Bool} (ho : o = true ↔ ∃ i, i < j ∧ P i) (hq : q = true ↔ P j) : (o || q) = true ↔ ∃ i, i < j + 1 ∧ P i := by
  rw [Bool.or_eq_true, ho, hq]
  constructor
  · rintro (⟨i, h1, h2⟩ | h)
    · exact ⟨i, by omega, h2⟩
    · exact ⟨j, by omega, h⟩
  · rintro ⟨i, h1, h2⟩
    by_cases e : i = j
    · subst e; exact Or.inr h2
    · exact Or.inl ⟨i, by omega, h2⟩
def Met (zs : List (Nat × Nat)) (j : Nat) (o : Bool) : Prop := o = true ↔ ∃ i, i < j ∧ V FloatKind.f64.format (awayF (at0 zs i) (midP zs)) = V FloatKind.f64.format (farF zs (midP zs) zs.length)
theorem met_q {zs : List (Nat × Nat)} {j : Nat} {o : Bool} (q : Bool) (h : Met zs j o) (hq : q = decide (V FloatKind.f64.format (awayF (at0 zs j) (midP zs)) = V FloatKind.f64.format (farF zs (midP zs) zs.length))) : Met zs (j + 1) (o || q) :=
  met_succ h ⟨fun e => of_decide_eq_true (hq.symm.trans e), fun e => hq.trans (decide_eq_true e)⟩
set_option maxRecDepth 100000 in
set_option maxHeartbeats 1000000 in
theorem law {w : World} {A0 : Option Addr} {c0 : Nat} {l0 : List Int} (hr0 : Kd.C (Kd.int .u8) w A0 l0.length l0) (hc0 : l0.length ≤ c0) :
    Calls Try.prog 6 #[.slice A0 l0.length c0] w fun e w' => e = .returned (.bool true) ∧ Below w.heap.size w w' := by
  have HR := Lib.hid hr0
  go_enter Try.func6, Try.ntmps6
  go_wp2_with fail
  refine (laws_big.calls A0 c0 l0 (decide ((l0.length : Int) > 1048576)) w hr0 hc0 rfl).mono ?_
  rintro e w1 ⟨rfl, hd⟩
  have B1 := Lib.hid hd.below
  clear hr0 hd
  by_cases hl : (l0.length : Int) > 1048576
  · rw [decide_eq_true hl]
    go_wp2_with fail
    go_ret
    exact ⟨rfl, B1.out⟩
  · rw [decide_eq_false hl]
    go_wp2_with fail
    refine (draw_hat B1.out HR.out hc0 (by omega)).mono ?_
    rintro e w2 ⟨v, zs, rfl, hz, hR, hB2⟩
    obtain ⟨A, c, rfl, hc, hL⟩ := lies_of hR
    have B2 := Lib.hid hB2
    clear hB2 hR
    by_cases hfew : zs.length = 0 ∨ 50 < zs.length
    · have F := Lib.hid hfew
      clear hfew hL
      go_wp2_with (first | (go_at_call 20; refine (impl_Hat_few F.out _).mono ?_; rintro e w' ⟨rfl, rfl⟩) | (go_at_call 21; refine (spec_Hat_few F.out _).mono ?_; rintro e w' ⟨rfl, rfl⟩))
      go_ret
      exact ⟨rfl, B2.out⟩
    · obtain ⟨b, rfl, hL2⟩ := hL.resolve_left (by omega)
      have h1 : 1 ≤ zs.length := by omega
      have h2 : zs.length ≤ 50 := by omega
      have L := Lib.hid hL2
      clear hL hL2 hfew hz
      go_wp2_with fail
      refine (impl_Hat L.out h1 h2).mono ?_
      intro e w' ht
      unfold HatTold at ht
      cases hB : hatB zs
      · rw [hB, if_neg (by decide)] at ht
        obtain ⟨rfl, rfl⟩ := ht
        have HB := Lib.hid hB
        clear hB
        go_wp2_with fail
        refine (spec_Hat L.out h1 h2).mono ?_
        rintro e w' ⟨x, y, f, rfl, rfl⟩
        rw [HB.out]
        go_wp2_with fail
        go_ret
        exact ⟨rfl, B2.out⟩
      · rw [hB, if_pos rfl] at ht
        obtain ⟨rfl, rfl⟩ := ht
        have HB := Lib.hid hB
        have HM := Lib.hid (mid hB)
        have HA := Lib.hid (of_all (by unfold hatB at hB; simp only [Bool.and_eq_true] at hB; exact hB.2))
        have HF := Lib.hid (far zs (midP zs) zs.length)
        clear hB
        go_wp2_with fail
        refine (spec_Hat L.out h1 h2).mono ?_
        rintro e w' ⟨x, y, f, rfl, rfl⟩
        rw [HB.out]
        go_wp2_with fail
        go_loop [10, 11] (fun m n => ∃ (j : Nat) (o : Bool), j ≤ zs.length ∧ n = .int .i64 (j : Int) ∧ m = .bool o ∧ Met zs j o) (fun _ n => zs.length - (intOf n).toNat)
        case atStart => exact ⟨0, false, by omega, rfl, rfl, ⟨fun h => Bool.noConfusion h, fun ⟨i, h, _⟩ => absurd h (Nat.not_lt_zero i)⟩⟩
        case round =>
          obtain ⟨j, o, hj, rfl, rfl, ho⟩ := hrel
          have HO := Lib.hid ho
          clear ho
          by_cases hlt : j < zs.length
          · have hc := L.out j hlt
            obtain ⟨f1, f2⟩ := less_firm (HA.out j hlt) HM.out.b1 HM.out.b2
            have a1 := (away_num (at0 zs j) (midP zs)).1
            have gt := gtr_num a1 HF.out.num
            have eq := eql_num a1 HF.out.num
            have le := HF.out.all j hlt
            rw [decide_eq_false (show ¬ V FloatKind.f64.format (farF zs (midP zs) zs.length) < V FloatKind.f64.format (awayF (at0 zs j) (midP zs)) by grind)] at gt
            have EQ := Lib.hid eq
            clear le a1 eq
            cases hq : (FloatKind.f64.format.order (awayF (at0 zs j) (midP zs)) (farF zs (midP zs) zs.length) == some .eq)
            all_goals have HQ := Lib.hid hq
            all_goals unfold awayF lessF at gt hq
            all_goals dsimp only at gt hq
            all_goals cases o
            all_goals go_wp2_with (go_at_call 22; refine (impl_Length _ _ _).mono ?_; rintro e w' ⟨rfl, rfl⟩)
            all_goals go_round
            all_goals try (case measure => simp [intOf]; omega)
            all_goals
              have q := EQ.out
              rw [HQ.out] at q
              first
                | exact ⟨j + 1, _, by omega, by go_num, rfl, met_q true HO.out q⟩
                | exact ⟨j + 1, _, by omega, by go_num, rfl, met_q false HO.out q⟩
          · obtain rfl : j = zs.length := by omega
            have o1 : o = true := HO.out.2 (HF.out.one h1)
            subst o1
            go_wp2_with fail
            go_ret
            exact ⟨rfl, B2.out⟩
end Go.Proofs.Ytjohpjmfnghkoaa.Hl
namespace Go.Proofs.Ytjohpjmfnghkoaa.Pure
open Go.RowKit Go.Proofs.YtjohpjmfnghkoaaW.PrintWords Go.Proofs.YtjohpjmfnghkoaaW.PrintLast Go.Proofs.YtjohpjmfnghkoaaW.PrintMore
theorem FnHatHoldsWalk (a0 : Option Addr) (len0 cap0 : Nat) (z0 : List Int) (w : World) (w0 : (a0 = none ∧ len0 = 0 ∧ cap0 = 0 ∧ z0 = []) ∨ ∃ x, a0 = some x ∧ len0 ≤ cap0 ∧ cap0 ≤ maxLen ∧ z0.length = cap0 ∧ (∀ i, i < z0.length → w.cell? (x.add i) = some (.int .u8 (z0.getD i 0))) ∧ ∀ n ∈ z0, (Lit.int .u8 n).wf = true) (_ : len0 * 1 ≤ 140737488351232) :
    Calls Try.prog 6 #[.slice a0 len0 cap0] w fun e w' => e = .returned (.bool true) ∧ Below w.heap.size w w' := by
  obtain ⟨l0, rfl, hr0, _, _, hc0⟩ := ReadsInt.ofRowC w0
  exact Hl.law (Kd.C_of_reads (d := (0 : Int)) (h1 := fun _ => rfl) hr0) hc0
end Go.Proofs.Ytjohpjmfnghkoaa.Pure
