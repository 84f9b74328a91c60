/- The law FnHighNearest: no high water is nearer to a time than the one that is told, and none that is as near is earlier. It holds for every code. -/
import Derived.Test.YtjohpjmfnghkoaaTdg
import Derived.BigQuiet
namespace Go.Proofs.Ytjohpjmfnghkoaa.Tz
open Go.RowKit Kit Fl Bd Dw Td Fa Ai Ve Ty Hnd Go.Proofs.YtjohpjmfnghkoaaW.PrintWords Go.Proofs.YtjohpjmfnghkoaaW.PrintLast Go.Proofs.YtjohpjmfnghkoaaW.PrintMore PFnHighNearest
set_option maxRecDepth 100000 in
set_option maxHeartbeats 6000000 in
theorem law {w : World} {A : Option Addr} {c : Nat} {l0 : List Int} (hr0 : Kd.C (Kd.int .u8) w A l0.length l0) (hc0 : l0.length ≤ c) :
    Calls Try.prog 5 #[.slice A l0.length c] w fun e w' => e = .returned (.bool true) ∧ Below w.heap.size w w' := by
  have HR := Lib.hid hr0
  go_enter Try.func5, Try.ntmps5
  go_wp2_with fail
  refine (laws_big.calls A c l0 (decide ((l0.length : Int) > 1048576)) w hr0 hc0 rfl).mono ?_
  rintro e w1 ⟨rfl, hd⟩
  have B1 := Lib.hid hd.below
  clear hr0 hd
  by_cases hl : (l0.length : Int) > 1048576
  · rw [decide_eq_true hl]
    go_wp2_with fail
    go_ret
    exact ⟨rfl, B1.out⟩
  · rw [decide_eq_false hl]
    go_wp2_with fail
    refine (draw_high B1.out HR.out hc0 (by omega)).mono ?_
    rintro e w2 ⟨A1, n1, c1, A2, n2, c2, z, rfl, hB2, hS⟩
    obtain ⟨sts, hs, rfl, rfl, hP⟩ := hS.tid
    obtain ⟨W, hW, hX⟩ := bx (c1 := c1) (c2 := c2) hP
    have HY := Lib.hid hX
    have B2 := Lib.hid hB2
    clear hB2 hS hP hX
    go_upto_region 4 with fail
    rw [← hW]
    clear hW
    have x0 := HY.out.x0
    have x1 := HY.out.x1
    obtain ⟨b1, hb1⟩ : ∃ b, tideB sts hs = b := ⟨_, rfl⟩
    obtain ⟨b2, hb2⟩ : ∃ b, lenB z 0 10000000 = b := ⟨_, rfl⟩
    have HK := Lib.hid (show highR sts hs z = if (b1 && b2) = true then (bestI hs z hs.length : Int) else -1 by unfold highR; rw [hb1, hb2])
    have E1 := Lib.hid hb1
    have E2 := Lib.hid hb2
    clear hb1 hb2
    go_wp2_with fail
    refine (impl_HighAt z HY.out.p).mono ?_
    rintro e w3 ⟨rfl, hb⟩
    have HY3 := Lib.hid (HY.out.to hb)
    clear hb HY x0 x1
    have x0 := HY3.out.x0
    have x1 := HY3.out.x1
    rw [HK.out]
    cases b1
    · rw [if_neg (by simp)]
      go_wp2_with (go_at_call 18; refine (impl_TideOk HY3.out.p).mono ?_; rintro e w4 ⟨rfl, hb⟩; have HY4 := Lib.hid (HY3.out.to hb); clear hb; rw [E1.out])
      go_ret
      exact ⟨rfl, B2.out.trans (HY4.out.b.mono B2.out.size)⟩
    · cases b2
      · rw [if_neg (by simp)]
        have hz : z < 0 ∨ 10000000 < z := by
          have := E2.out
          unfold lenB at this
          rw [Bool.and_eq_false_iff, decide_eq_false_iff_not, decide_eq_false_iff_not] at this
          omega
        rcases hz with hz | hz
        · go_wp2_with (go_at_call 18; refine (impl_TideOk HY3.out.p).mono ?_; rintro e w4 ⟨rfl, hb⟩; have HY4 := Lib.hid (HY3.out.to hb); clear hb; rw [E1.out])
          go_ret
          exact ⟨rfl, B2.out.trans (HY4.out.b.mono B2.out.size)⟩
        · have hz2 : ¬ z < 0 := by omega
          go_wp2_with (go_at_call 18; refine (impl_TideOk HY3.out.p).mono ?_; rintro e w4 ⟨rfl, hb⟩; have HY4 := Lib.hid (HY3.out.to hb); clear hb; rw [E1.out])
          go_ret
          exact ⟨rfl, B2.out.trans (HY4.out.b.mono B2.out.size)⟩
      · rw [if_pos (by simp)]
        obtain ⟨⟨g1, g2⟩, g3⟩ := tide_hs E1.out
        obtain ⟨bh, oh, rfl, hH⟩ := HY3.out.p.h.resolve_left (by omega)
        have HG := Lib.hid g3
        have HZ := Lib.hid (lenB_le E2.out)
        have HL := Lib.hid (bestI_least hs z hs.length)
        have hbl := bestI_lt hs z hs.length
        obtain ⟨m, hm⟩ : ∃ m, bestI hs z hs.length = m := ⟨_, rfl⟩
        rw [hm] at HL hbl
        rw [hm]
        have z0 := hH m (by omega)
        have y0 := HG.out m (by omega)
        have q0 := HZ.out
        obtain ⟨u, hu⟩ : ∃ u, zn hs m = u := ⟨_, rfl⟩
        rw [hu] at z0 HL y0
        clear g3 hH hm hu HK E1 E2
        have hm0 : (0 : Int) ≤ (m : Int) := by omega
        have hm1 : (m : Int) < (hs.length : Int) := by omega
        have wu : IntKind.i64.wrap (u - z) = u - z := by rw [IntKind.wrap_i64]; omega
        have wn : IntKind.i64.wrap (-(u - z)) = -(u - z) := by rw [IntKind.wrap_i64]; omega
        by_cases hu0 : u - z < 0
        · skip
          skip
          have FU := Lib.hid (show far z u = -(u - z) by unfold far; omega)
          go_wp2_with fail
          have H0 := Lib.hid (show ∃ n : Nat, n ≤ hs.length ∧ Value.int .i64 0 = .int .i64 (n : Int) from ⟨0, by omega, rfl⟩)
          go_loop [7] (fun k => ∃ n : Nat, n ≤ hs.length ∧ k = .int .i64 (n : Int)) (fun k => hs.length - (intOf k).toNat)
          case atStart => exact H0.out
          case round =>
            clear H0
            obtain ⟨n, hn, rfl⟩ := hrel
            by_cases hl2 : n < hs.length
            · obtain ⟨bh', oh', e1, hH⟩ := HY3.out.p.h.resolve_left (by omega)
              cases e1
              have t0 := hH n hl2
              obtain ⟨f1, f2⟩ := HL.out n hl2
              have yn := HG.out n hl2
              obtain ⟨v, hv⟩ : ∃ v, zn hs n = v := ⟨_, rfl⟩
              rw [hv] at t0 f1 f2 yn
              clear hH hv
              rw [FU.out] at f1 f2
              have wv : IntKind.i64.wrap (v - z) = v - z := by rw [IntKind.wrap_i64]; omega
              have wm : IntKind.i64.wrap (-(v - z)) = -(v - z) := by rw [IntKind.wrap_i64]; omega
              by_cases hv0 : v - z < 0
              · have fv : far z v = -(v - z) := by unfold far; omega
                rw [fv] at f1 f2
                by_cases he : -(v - z) = -(u - z)
                · have he2 := f2 he
                  have hb : ((-(v - z) : Int) == -(u - z)) = true := by rw [he]; exact beq_self_eq_true _
                  have hc : ¬ (n : Int) < (m : Int) := by omega
                  have hd : ¬ (-(v - z) : Int) < -(u - z) := by omega
                  clear f1 f2 fv
                  go_wp2_with fail
                  go_round
                  case rel => exact ⟨n + 1, by omega, by go_num⟩
                  case measure => simp [intOf]; omega
                · have hb : ((-(v - z) : Int) == -(u - z)) = false := by rw [beq_eq_false_iff_ne]; exact he
                  have hd : ¬ (-(v - z) : Int) < -(u - z) := by omega
                  clear f1 f2 fv
                  go_wp2_with fail
                  go_round
                  case rel => exact ⟨n + 1, by omega, by go_num⟩
                  case measure => simp [intOf]; omega
              · have fv : far z v = v - z := by unfold far; omega
                rw [fv] at f1 f2
                by_cases he : v - z = -(u - z)
                · have he2 := f2 he
                  have hb : ((v - z : Int) == -(u - z)) = true := by rw [he]; exact beq_self_eq_true _
                  have hc : ¬ (n : Int) < (m : Int) := by omega
                  have hd : ¬ (v - z : Int) < -(u - z) := by omega
                  clear f1 f2 fv
                  go_wp2_with fail
                  go_round
                  case rel => exact ⟨n + 1, by omega, by go_num⟩
                  case measure => simp [intOf]; omega
                · have hb : ((v - z : Int) == -(u - z)) = false := by rw [beq_eq_false_iff_ne]; exact he
                  have hd : ¬ (v - z : Int) < -(u - z) := by omega
                  clear f1 f2 fv
                  go_wp2_with fail
                  go_round
                  case rel => exact ⟨n + 1, by omega, by go_num⟩
                  case measure => simp [intOf]; omega
            · obtain rfl : n = hs.length := by omega
              go_wp2_with fail
              go_ret
              exact ⟨rfl, B2.out.trans (HY3.out.b.mono B2.out.size)⟩
        · skip
          skip
          have FU := Lib.hid (show far z u = u - z by unfold far; omega)
          go_wp2_with fail
          have H0 := Lib.hid (show ∃ n : Nat, n ≤ hs.length ∧ Value.int .i64 0 = .int .i64 (n : Int) from ⟨0, by omega, rfl⟩)
          go_loop [7] (fun k => ∃ n : Nat, n ≤ hs.length ∧ k = .int .i64 (n : Int)) (fun k => hs.length - (intOf k).toNat)
          case atStart => exact H0.out
          case round =>
            clear H0
            obtain ⟨n, hn, rfl⟩ := hrel
            by_cases hl2 : n < hs.length
            · obtain ⟨bh', oh', e1, hH⟩ := HY3.out.p.h.resolve_left (by omega)
              cases e1
              have t0 := hH n hl2
              obtain ⟨f1, f2⟩ := HL.out n hl2
              have yn := HG.out n hl2
              obtain ⟨v, hv⟩ : ∃ v, zn hs n = v := ⟨_, rfl⟩
              rw [hv] at t0 f1 f2 yn
              clear hH hv
              rw [FU.out] at f1 f2
              have wv : IntKind.i64.wrap (v - z) = v - z := by rw [IntKind.wrap_i64]; omega
              have wm : IntKind.i64.wrap (-(v - z)) = -(v - z) := by rw [IntKind.wrap_i64]; omega
              by_cases hv0 : v - z < 0
              · have fv : far z v = -(v - z) := by unfold far; omega
                rw [fv] at f1 f2
                by_cases he : -(v - z) = u - z
                · have he2 := f2 he
                  have hb : ((-(v - z) : Int) == u - z) = true := by rw [he]; exact beq_self_eq_true _
                  have hc : ¬ (n : Int) < (m : Int) := by omega
                  have hd : ¬ (-(v - z) : Int) < u - z := by omega
                  clear f1 f2 fv
                  go_wp2_with fail
                  go_round
                  case rel => exact ⟨n + 1, by omega, by go_num⟩
                  case measure => simp [intOf]; omega
                · have hb : ((-(v - z) : Int) == u - z) = false := by rw [beq_eq_false_iff_ne]; exact he
                  have hd : ¬ (-(v - z) : Int) < u - z := by omega
                  clear f1 f2 fv
                  go_wp2_with fail
                  go_round
                  case rel => exact ⟨n + 1, by omega, by go_num⟩
                  case measure => simp [intOf]; omega
              · have fv : far z v = v - z := by unfold far; omega
                rw [fv] at f1 f2
                by_cases he : v - z = u - z
                · have he2 := f2 he
                  have hb : ((v - z : Int) == u - z) = true := by rw [he]; exact beq_self_eq_true _
                  have hc : ¬ (n : Int) < (m : Int) := by omega
                  have hd : ¬ (v - z : Int) < u - z := by omega
                  clear f1 f2 fv
                  go_wp2_with fail
                  go_round
                  case rel => exact ⟨n + 1, by omega, by go_num⟩
                  case measure => simp [intOf]; omega
                · have hb : ((v - z : Int) == u - z) = false := by rw [beq_eq_false_iff_ne]; exact he
                  have hd : ¬ (v - z : Int) < u - z := by omega
                  clear f1 f2 fv
                  go_wp2_with fail
                  go_round
                  case rel => exact ⟨n + 1, by omega, by go_num⟩
                  case measure => simp [intOf]; omega
            · obtain rfl : n = hs.length := by omega
              go_wp2_with fail
              go_ret
              exact ⟨rfl, B2.out.trans (HY3.out.b.mono B2.out.size)⟩
end Go.Proofs.Ytjohpjmfnghkoaa.Tz
namespace Go.Proofs.Ytjohpjmfnghkoaa.Pure
open Go.RowKit Go.Proofs.YtjohpjmfnghkoaaW.PrintWords Go.Proofs.YtjohpjmfnghkoaaW.PrintLast Go.Proofs.YtjohpjmfnghkoaaW.PrintMore
theorem FnHighNearestWalk (a0 : Option Addr) (len0 cap0 : Nat) (z0 : List Int) (w : World) (w0 : (a0 = none ∧ len0 = 0 ∧ cap0 = 0 ∧ z0 = []) ∨ ∃ x, a0 = some x ∧ len0 ≤ cap0 ∧ cap0 ≤ maxLen ∧ z0.length = cap0 ∧ (∀ i, i < z0.length → w.cell? (x.add i) = some (.int .u8 (z0.getD i 0))) ∧ ∀ n ∈ z0, (Lit.int .u8 n).wf = true) (_ : len0 * 1 ≤ 140737488351232) :
    Calls Try.prog 5 #[.slice a0 len0 cap0] w fun e w' => e = .returned (.bool true) ∧ Below w.heap.size w w' := by
  obtain ⟨l0, rfl, hr0, _, _, hc0⟩ := ReadsInt.ofRowC w0
  exact Tz.law (Kd.C_of_reads (d := (0 : Int)) (h1 := fun _ => rfl) hr0) hc0
end Go.Proofs.Ytjohpjmfnghkoaa.Pure
