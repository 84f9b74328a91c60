/- At whole hours from high water the stream of a station is that of its table, and beyond six hours it stays: the drawn law walked. No condition. -/
import Derived.Test.YtjohpjmfnghkoaaFlowAt
import Derived.Test.YtjohpjmfnghkoaaFlow
namespace Go.Proofs.Ytjohpjmfnghkoaa.Fl2
open Go.RowKit Kit Fl Bd Dw Td Ai Fa Fw Hnd Go.Proofs.YtjohpjmfnghkoaaW.PrintWords Go.Proofs.YtjohpjmfnghkoaaW.PrintLast Go.Proofs.YtjohpjmfnghkoaaW.PrintMore PFnHighNearest
/-- what a call tells: the stream and whether there is one -/
def toldF (fs : Nat → Nat × Nat) (t : Int) : Nat × Nat := if allV fs 13 = true then flowR fs t else (0, 0)
theorem impl_FlowAt (x y : Nat) (fs : Nat → Nat × Nat) (t : Int) (w : World) : Calls Try.prog 13 #[.agg (stn x y fs), .int .i64 t] w fun e w' => e = .returned (.tuple #[.complex .f32 (toldF fs t).1 (toldF fs t).2, .bool (allV fs 13)]) ∧ Below w.heap.size w w' := by
  unfold toldF
  cases h : allV fs 13
  · exact impl_FlowAt_no x y fs t h w
  · exact impl_FlowAt_yes x y fs t h w
theorem spec_FlowAt (x y : Nat) (fs : Nat → Nat × Nat) (t : Int) (w : World) : Calls Try.prog 14 #[.agg (stn x y fs), .int .i64 t] w fun e w' => e = .returned (.tuple #[.complex .f32 (toldF fs t).1 (toldF fs t).2, .bool (allV fs 13)]) ∧ Below w.heap.size w w' := by
  unfold toldF
  cases h : allV fs 13
  · exact spec_FlowAt_no x y fs t h w
  · exact spec_FlowAt_yes x y fs t h w
theorem tick_hour (h : Nat) (hh : h ≤ 12) : tick (((h : Int) - 6) * 3600) = 3600 * h := by
  unfold tick clip
  split <;> (try split) <;> omega
theorem told_hour {fs : Nat → Nat × Nat} {h : Nat} (hh : h < 13) (ha : allV fs 13 = true) : toldF fs (((h : Int) - 6) * 3600) = fs h := by
  unfold toldF flowR
  rw [if_pos ha, tick_hour h (by omega), if_pos (by omega)]
  congr 1
  omega
theorem told_end {fs : Nat → Nat × Nat} {t : Int} (ht : 21600 ≤ t) : toldF fs t = toldF fs 21600 := by
  have : tick t = tick 21600 := by
    unfold tick clip
    split <;> (try split) <;> omega
  unfold toldF flowR
  rw [this]
theorem air_num {z : Nat × Nat} (h : air z = true) : Num FloatKind.f32.format z.1 ∧ Num FloatKind.f32.format z.2 := by
  unfold air at h
  rw [Bool.and_eq_true] at h
  exact ⟨(bnd_100 h.1).num, (bnd_100 h.2).num⟩
theorem told_num (fs : Nat → Nat × Nat) : Num FloatKind.f32.format (toldF fs 21600).1 ∧ Num FloatKind.f32.format (toldF fs 21600).2 := by
  cases h : allV fs 13
  · unfold toldF
    rw [h, if_neg (by decide)]
    exact ⟨num_iff.2 (by decide), num_iff.2 (by decide)⟩
  · have := told_hour (fs := fs) (h := 12) (by omega) h
    rw [show (((12 : Nat) : Int) - 6) * 3600 = 21600 by rfl] at this
    rw [this]
    exact air_num (allV_at 13 h 12 (by omega))
set_option maxRecDepth 100000 in
set_option maxHeartbeats 2000000 in
theorem law {w : World} {A0 : Option Addr} {c0 : Nat} {l0 : List Int} (hr0 : Kd.C (Kd.int .u8) w A0 l0.length l0) (hc0 : l0.length ≤ c0) :
    Calls Try.prog 4 #[.slice A0 l0.length c0] w fun e w' => e = .returned (.bool true) ∧ Below w.heap.size w w' := by
  have HR := Lib.hid hr0
  go_enter Try.func4, Try.ntmps4
  go_wp2_with fail
  refine (laws_big.calls A0 c0 l0 (decide ((l0.length : Int) > 1048576)) w hr0 hc0 rfl).mono ?_
  rintro e w1 ⟨rfl, hd⟩
  have B1 := Lib.hid hd.below
  clear hr0 hd
  by_cases hl : (l0.length : Int) > 1048576
  · rw [decide_eq_true hl]
    go_wp2_with fail
    go_ret
    exact ⟨rfl, B1.out⟩
  · rw [decide_eq_false hl]
    go_wp2_with fail
    refine (draw_flow B1.out HR.out hc0 (by omega)).mono ?_
    rintro e w2 ⟨x, y, fs, t, rfl, hB2⟩
    unfold stn
    have HS := Lib.hid (blk_new w2 (.cells (stn x y fs) 32))
    have B2 := Lib.hid (hB2.alloc hB2.size (.cells (stn x y fs) 32))
    unfold stn at HS B2
    clear hB2 hl hc0 HR B1
    cases ha : allV fs 13
    · have HA := Lib.hid ha
      clear ha
      go_wp2_with fail
      generalize hw3 : w2.alloc (.cells #[.complex .f64 x y, .complex .f32 (fs 0).1 (fs 0).2, .complex .f32 (fs 1).1 (fs 1).2, .complex .f32 (fs 2).1 (fs 2).2, .complex .f32 (fs 3).1 (fs 3).2, .complex .f32 (fs 4).1 (fs 4).2, .complex .f32 (fs 5).1 (fs 5).2, .complex .f32 (fs 6).1 (fs 6).2, .complex .f32 (fs 7).1 (fs 7).2, .complex .f32 (fs 8).1 (fs 8).2, .complex .f32 (fs 9).1 (fs 9).2, .complex .f32 (fs 10).1 (fs 10).2, .complex .f32 (fs 11).1 (fs 11).2, .complex .f32 (fs 12).1 (fs 12).2] 32) = w3 at *
      generalize w2.heap.size = S at *
      clear hw3
      refine (impl_FlowAt x y fs t w3).mono ?_
      rintro e w4 ⟨rfl, hb⟩
      rw [HA.out]
      have B4 := Lib.hid (B2.out.trans (hb.mono B2.out.size))
      have HS4 := Lib.hid (blk_below HS.out hb)
      clear hb B2 HS
      have c0 : w4.cell? ⟨S, 0, none⟩ = some (.complex .f64 x y) := (blk_cell HS4.out 0)
      have c1 : w4.cell? ⟨S, 1, none⟩ = some (.complex .f32 (fs 0).1 (fs 0).2) := (blk_cell HS4.out 1)
      have c2 : w4.cell? ⟨S, 2, none⟩ = some (.complex .f32 (fs 1).1 (fs 1).2) := (blk_cell HS4.out 2)
      have c3 : w4.cell? ⟨S, 3, none⟩ = some (.complex .f32 (fs 2).1 (fs 2).2) := (blk_cell HS4.out 3)
      have c4 : w4.cell? ⟨S, 4, none⟩ = some (.complex .f32 (fs 3).1 (fs 3).2) := (blk_cell HS4.out 4)
      have c5 : w4.cell? ⟨S, 5, none⟩ = some (.complex .f32 (fs 4).1 (fs 4).2) := (blk_cell HS4.out 5)
      have c6 : w4.cell? ⟨S, 6, none⟩ = some (.complex .f32 (fs 5).1 (fs 5).2) := (blk_cell HS4.out 6)
      have c7 : w4.cell? ⟨S, 7, none⟩ = some (.complex .f32 (fs 6).1 (fs 6).2) := (blk_cell HS4.out 7)
      have c8 : w4.cell? ⟨S, 8, none⟩ = some (.complex .f32 (fs 7).1 (fs 7).2) := (blk_cell HS4.out 8)
      have c9 : w4.cell? ⟨S, 9, none⟩ = some (.complex .f32 (fs 8).1 (fs 8).2) := (blk_cell HS4.out 9)
      have c10 : w4.cell? ⟨S, 10, none⟩ = some (.complex .f32 (fs 9).1 (fs 9).2) := (blk_cell HS4.out 10)
      have c11 : w4.cell? ⟨S, 11, none⟩ = some (.complex .f32 (fs 10).1 (fs 10).2) := (blk_cell HS4.out 11)
      have c12 : w4.cell? ⟨S, 12, none⟩ = some (.complex .f32 (fs 11).1 (fs 11).2) := (blk_cell HS4.out 12)
      have c13 : w4.cell? ⟨S, 13, none⟩ = some (.complex .f32 (fs 12).1 (fs 12).2) := (blk_cell HS4.out 13)
      go_wp2_with fail
      refine (spec_FlowAt x y fs t w4).mono ?_
      rintro e w5 ⟨rfl, hb⟩
      rw [HA.out]
      have B5 := Lib.hid (B4.out.trans (hb.mono B4.out.size))
      have HS5 := Lib.hid (blk_below HS4.out hb)
      clear hb B4 HS4 c0 c1 c2 c3 c4 c5 c6 c7 c8 c9 c10 c11 c12 c13
      go_wp2_with fail
      go_loopw [9] (fun k wr => ∃ j : Nat, j ≤ 13 ∧ k = .int .i64 (j : Int) ∧ Below w.heap.size w wr ∧ wr.heap[S]? = some (.cells #[.complex .f64 x y, .complex .f32 (fs 0).1 (fs 0).2, .complex .f32 (fs 1).1 (fs 1).2, .complex .f32 (fs 2).1 (fs 2).2, .complex .f32 (fs 3).1 (fs 3).2, .complex .f32 (fs 4).1 (fs 4).2, .complex .f32 (fs 5).1 (fs 5).2, .complex .f32 (fs 6).1 (fs 6).2, .complex .f32 (fs 7).1 (fs 7).2, .complex .f32 (fs 8).1 (fs 8).2, .complex .f32 (fs 9).1 (fs 9).2, .complex .f32 (fs 10).1 (fs 10).2, .complex .f32 (fs 11).1 (fs 11).2, .complex .f32 (fs 12).1 (fs 12).2] 32 (0, 0))) (fun k _ => 13 - (intOf k).toNat)
      case atStart => exact ⟨0, by omega, rfl, B5.out, HS5.out⟩
      case round =>
        obtain ⟨j, hj, rfl, hB, hS⟩ := hrel
        have B6 := Lib.hid hB
        have HS6 := Lib.hid hS
        clear hB hS B5 HS5
        have c0 : wr.cell? ⟨S, 0, none⟩ = some (.complex .f64 x y) := (blk_cell HS6.out 0)
        have c1 : wr.cell? ⟨S, 1, none⟩ = some (.complex .f32 (fs 0).1 (fs 0).2) := (blk_cell HS6.out 1)
        have c2 : wr.cell? ⟨S, 2, none⟩ = some (.complex .f32 (fs 1).1 (fs 1).2) := (blk_cell HS6.out 2)
        have c3 : wr.cell? ⟨S, 3, none⟩ = some (.complex .f32 (fs 2).1 (fs 2).2) := (blk_cell HS6.out 3)
        have c4 : wr.cell? ⟨S, 4, none⟩ = some (.complex .f32 (fs 3).1 (fs 3).2) := (blk_cell HS6.out 4)
        have c5 : wr.cell? ⟨S, 5, none⟩ = some (.complex .f32 (fs 4).1 (fs 4).2) := (blk_cell HS6.out 5)
        have c6 : wr.cell? ⟨S, 6, none⟩ = some (.complex .f32 (fs 5).1 (fs 5).2) := (blk_cell HS6.out 6)
        have c7 : wr.cell? ⟨S, 7, none⟩ = some (.complex .f32 (fs 6).1 (fs 6).2) := (blk_cell HS6.out 7)
        have c8 : wr.cell? ⟨S, 8, none⟩ = some (.complex .f32 (fs 7).1 (fs 7).2) := (blk_cell HS6.out 8)
        have c9 : wr.cell? ⟨S, 9, none⟩ = some (.complex .f32 (fs 8).1 (fs 8).2) := (blk_cell HS6.out 9)
        have c10 : wr.cell? ⟨S, 10, none⟩ = some (.complex .f32 (fs 9).1 (fs 9).2) := (blk_cell HS6.out 10)
        have c11 : wr.cell? ⟨S, 11, none⟩ = some (.complex .f32 (fs 10).1 (fs 10).2) := (blk_cell HS6.out 11)
        have c12 : wr.cell? ⟨S, 12, none⟩ = some (.complex .f32 (fs 11).1 (fs 11).2) := (blk_cell HS6.out 12)
        have c13 : wr.cell? ⟨S, 13, none⟩ = some (.complex .f32 (fs 12).1 (fs 12).2) := (blk_cell HS6.out 13)
        by_cases hl : j < 13
        · have i1 : wrap64 ((j : Int) - 6) = (j : Int) - 6 := by unfold wrap64; omega
          have i2 : wrap64 (((j : Int) - 6) * 3600) = ((j : Int) - 6) * 3600 := by unfold wrap64; omega
          go_wp2_with fail
          refine (impl_FlowAt x y fs (((j : Int) - 6) * 3600) wr).mono ?_
          rintro e w7 ⟨rfl, hb⟩
          rw [HA.out]
          have B7 := Lib.hid (B6.out.trans (hb.mono B6.out.size))
          have HS7 := Lib.hid (blk_below HS6.out hb)
          clear hb B6 HS6 c0 c1 c2 c3 c4 c5 c6 c7 c8 c9 c10 c11 c12 c13
          go_wp2_with fail
          go_roundw
          case rel => exact ⟨j + 1, by omega, by go_num, B7.out, HS7.out⟩
          case measure => simp [intOf]; omega
        · obtain rfl : j = 13 := by omega
          go_wp2_with fail
          refine (impl_FlowAt x y fs t wr).mono ?_
          rintro e w7 ⟨rfl, hb⟩
          rw [HA.out]
          have B7 := Lib.hid (B6.out.trans (hb.mono B6.out.size))
          have HS7 := Lib.hid (blk_below HS6.out hb)
          clear hb B6 HS6 c0 c1 c2 c3 c4 c5 c6 c7 c8 c9 c10 c11 c12 c13
          have c0 : w7.cell? ⟨S, 0, none⟩ = some (.complex .f64 x y) := (blk_cell HS7.out 0)
          have c1 : w7.cell? ⟨S, 1, none⟩ = some (.complex .f32 (fs 0).1 (fs 0).2) := (blk_cell HS7.out 1)
          have c2 : w7.cell? ⟨S, 2, none⟩ = some (.complex .f32 (fs 1).1 (fs 1).2) := (blk_cell HS7.out 2)
          have c3 : w7.cell? ⟨S, 3, none⟩ = some (.complex .f32 (fs 2).1 (fs 2).2) := (blk_cell HS7.out 3)
          have c4 : w7.cell? ⟨S, 4, none⟩ = some (.complex .f32 (fs 3).1 (fs 3).2) := (blk_cell HS7.out 4)
          have c5 : w7.cell? ⟨S, 5, none⟩ = some (.complex .f32 (fs 4).1 (fs 4).2) := (blk_cell HS7.out 5)
          have c6 : w7.cell? ⟨S, 6, none⟩ = some (.complex .f32 (fs 5).1 (fs 5).2) := (blk_cell HS7.out 6)
          have c7 : w7.cell? ⟨S, 7, none⟩ = some (.complex .f32 (fs 6).1 (fs 6).2) := (blk_cell HS7.out 7)
          have c8 : w7.cell? ⟨S, 8, none⟩ = some (.complex .f32 (fs 7).1 (fs 7).2) := (blk_cell HS7.out 8)
          have c9 : w7.cell? ⟨S, 9, none⟩ = some (.complex .f32 (fs 8).1 (fs 8).2) := (blk_cell HS7.out 9)
          have c10 : w7.cell? ⟨S, 10, none⟩ = some (.complex .f32 (fs 9).1 (fs 9).2) := (blk_cell HS7.out 10)
          have c11 : w7.cell? ⟨S, 11, none⟩ = some (.complex .f32 (fs 10).1 (fs 10).2) := (blk_cell HS7.out 11)
          have c12 : w7.cell? ⟨S, 12, none⟩ = some (.complex .f32 (fs 11).1 (fs 11).2) := (blk_cell HS7.out 12)
          have c13 : w7.cell? ⟨S, 13, none⟩ = some (.complex .f32 (fs 12).1 (fs 12).2) := (blk_cell HS7.out 13)
          go_wp2_with fail
          refine (impl_FlowAt x y fs 21600 w7).mono ?_
          rintro e w8 ⟨rfl, hb⟩
          rw [HA.out]
          have B8 := Lib.hid (B7.out.trans (hb.mono B7.out.size))
          clear hb B7 HS7 c0 c1 c2 c3 c4 c5 c6 c7 c8 c9 c10 c11 c12 c13
          have N := Lib.hid (told_num fs)
          by_cases ht : 21600 ≤ t
          · rw [told_end (fs := fs) ht]
            go_wp2_with (go_at_call 15; refine (laws_sameAir _ _ N.out.1 N.out.2 _).mono ?_; rintro e w' ⟨rfl, rfl⟩)
            go_ret
            exact ⟨rfl, B8.out⟩
          · have ht' : t < 21600 := by omega
            go_wp2_with fail
            go_ret
            exact ⟨rfl, B8.out⟩
    · have HA := Lib.hid ha
      clear ha
      go_wp2_with fail
      generalize hw3 : w2.alloc (.cells #[.complex .f64 x y, .complex .f32 (fs 0).1 (fs 0).2, .complex .f32 (fs 1).1 (fs 1).2, .complex .f32 (fs 2).1 (fs 2).2, .complex .f32 (fs 3).1 (fs 3).2, .complex .f32 (fs 4).1 (fs 4).2, .complex .f32 (fs 5).1 (fs 5).2, .complex .f32 (fs 6).1 (fs 6).2, .complex .f32 (fs 7).1 (fs 7).2, .complex .f32 (fs 8).1 (fs 8).2, .complex .f32 (fs 9).1 (fs 9).2, .complex .f32 (fs 10).1 (fs 10).2, .complex .f32 (fs 11).1 (fs 11).2, .complex .f32 (fs 12).1 (fs 12).2] 32) = w3 at *
      generalize w2.heap.size = S at *
      clear hw3
      refine (impl_FlowAt x y fs t w3).mono ?_
      rintro e w4 ⟨rfl, hb⟩
      rw [HA.out]
      have B4 := Lib.hid (B2.out.trans (hb.mono B2.out.size))
      have HS4 := Lib.hid (blk_below HS.out hb)
      clear hb B2 HS
      have c0 : w4.cell? ⟨S, 0, none⟩ = some (.complex .f64 x y) := (blk_cell HS4.out 0)
      have c1 : w4.cell? ⟨S, 1, none⟩ = some (.complex .f32 (fs 0).1 (fs 0).2) := (blk_cell HS4.out 1)
      have c2 : w4.cell? ⟨S, 2, none⟩ = some (.complex .f32 (fs 1).1 (fs 1).2) := (blk_cell HS4.out 2)
      have c3 : w4.cell? ⟨S, 3, none⟩ = some (.complex .f32 (fs 2).1 (fs 2).2) := (blk_cell HS4.out 3)
      have c4 : w4.cell? ⟨S, 4, none⟩ = some (.complex .f32 (fs 3).1 (fs 3).2) := (blk_cell HS4.out 4)
      have c5 : w4.cell? ⟨S, 5, none⟩ = some (.complex .f32 (fs 4).1 (fs 4).2) := (blk_cell HS4.out 5)
      have c6 : w4.cell? ⟨S, 6, none⟩ = some (.complex .f32 (fs 5).1 (fs 5).2) := (blk_cell HS4.out 6)
      have c7 : w4.cell? ⟨S, 7, none⟩ = some (.complex .f32 (fs 6).1 (fs 6).2) := (blk_cell HS4.out 7)
      have c8 : w4.cell? ⟨S, 8, none⟩ = some (.complex .f32 (fs 7).1 (fs 7).2) := (blk_cell HS4.out 8)
      have c9 : w4.cell? ⟨S, 9, none⟩ = some (.complex .f32 (fs 8).1 (fs 8).2) := (blk_cell HS4.out 9)
      have c10 : w4.cell? ⟨S, 10, none⟩ = some (.complex .f32 (fs 9).1 (fs 9).2) := (blk_cell HS4.out 10)
      have c11 : w4.cell? ⟨S, 11, none⟩ = some (.complex .f32 (fs 10).1 (fs 10).2) := (blk_cell HS4.out 11)
      have c12 : w4.cell? ⟨S, 12, none⟩ = some (.complex .f32 (fs 11).1 (fs 11).2) := (blk_cell HS4.out 12)
      have c13 : w4.cell? ⟨S, 13, none⟩ = some (.complex .f32 (fs 12).1 (fs 12).2) := (blk_cell HS4.out 13)
      go_wp2_with fail
      refine (spec_FlowAt x y fs t w4).mono ?_
      rintro e w5 ⟨rfl, hb⟩
      rw [HA.out]
      have B5 := Lib.hid (B4.out.trans (hb.mono B4.out.size))
      have HS5 := Lib.hid (blk_below HS4.out hb)
      clear hb B4 HS4 c0 c1 c2 c3 c4 c5 c6 c7 c8 c9 c10 c11 c12 c13
      go_wp2_with fail
      go_loopw [9] (fun k wr => ∃ j : Nat, j ≤ 13 ∧ k = .int .i64 (j : Int) ∧ Below w.heap.size w wr ∧ wr.heap[S]? = some (.cells #[.complex .f64 x y, .complex .f32 (fs 0).1 (fs 0).2, .complex .f32 (fs 1).1 (fs 1).2, .complex .f32 (fs 2).1 (fs 2).2, .complex .f32 (fs 3).1 (fs 3).2, .complex .f32 (fs 4).1 (fs 4).2, .complex .f32 (fs 5).1 (fs 5).2, .complex .f32 (fs 6).1 (fs 6).2, .complex .f32 (fs 7).1 (fs 7).2, .complex .f32 (fs 8).1 (fs 8).2, .complex .f32 (fs 9).1 (fs 9).2, .complex .f32 (fs 10).1 (fs 10).2, .complex .f32 (fs 11).1 (fs 11).2, .complex .f32 (fs 12).1 (fs 12).2] 32 (0, 0))) (fun k _ => 13 - (intOf k).toNat)
      case atStart => exact ⟨0, by omega, rfl, B5.out, HS5.out⟩
      case round =>
        obtain ⟨j, hj, rfl, hB, hS⟩ := hrel
        have B6 := Lib.hid hB
        have HS6 := Lib.hid hS
        clear hB hS B5 HS5
        have c0 : wr.cell? ⟨S, 0, none⟩ = some (.complex .f64 x y) := (blk_cell HS6.out 0)
        have c1 : wr.cell? ⟨S, 1, none⟩ = some (.complex .f32 (fs 0).1 (fs 0).2) := (blk_cell HS6.out 1)
        have c2 : wr.cell? ⟨S, 2, none⟩ = some (.complex .f32 (fs 1).1 (fs 1).2) := (blk_cell HS6.out 2)
        have c3 : wr.cell? ⟨S, 3, none⟩ = some (.complex .f32 (fs 2).1 (fs 2).2) := (blk_cell HS6.out 3)
        have c4 : wr.cell? ⟨S, 4, none⟩ = some (.complex .f32 (fs 3).1 (fs 3).2) := (blk_cell HS6.out 4)
        have c5 : wr.cell? ⟨S, 5, none⟩ = some (.complex .f32 (fs 4).1 (fs 4).2) := (blk_cell HS6.out 5)
        have c6 : wr.cell? ⟨S, 6, none⟩ = some (.complex .f32 (fs 5).1 (fs 5).2) := (blk_cell HS6.out 6)
        have c7 : wr.cell? ⟨S, 7, none⟩ = some (.complex .f32 (fs 6).1 (fs 6).2) := (blk_cell HS6.out 7)
        have c8 : wr.cell? ⟨S, 8, none⟩ = some (.complex .f32 (fs 7).1 (fs 7).2) := (blk_cell HS6.out 8)
        have c9 : wr.cell? ⟨S, 9, none⟩ = some (.complex .f32 (fs 8).1 (fs 8).2) := (blk_cell HS6.out 9)
        have c10 : wr.cell? ⟨S, 10, none⟩ = some (.complex .f32 (fs 9).1 (fs 9).2) := (blk_cell HS6.out 10)
        have c11 : wr.cell? ⟨S, 11, none⟩ = some (.complex .f32 (fs 10).1 (fs 10).2) := (blk_cell HS6.out 11)
        have c12 : wr.cell? ⟨S, 12, none⟩ = some (.complex .f32 (fs 11).1 (fs 11).2) := (blk_cell HS6.out 12)
        have c13 : wr.cell? ⟨S, 13, none⟩ = some (.complex .f32 (fs 12).1 (fs 12).2) := (blk_cell HS6.out 13)
        by_cases hl : j < 13
        · have i1 : wrap64 ((j : Int) - 6) = (j : Int) - 6 := by unfold wrap64; omega
          have i2 : wrap64 (((j : Int) - 6) * 3600) = ((j : Int) - 6) * 3600 := by unfold wrap64; omega
          go_wp2_with fail
          refine (impl_FlowAt x y fs (((j : Int) - 6) * 3600) wr).mono ?_
          rintro e w7 ⟨rfl, hb⟩
          rw [HA.out]
          have B7 := Lib.hid (B6.out.trans (hb.mono B6.out.size))
          have HS7 := Lib.hid (blk_below HS6.out hb)
          clear hb B6 HS6 c0 c1 c2 c3 c4 c5 c6 c7 c8 c9 c10 c11 c12 c13
          rw [told_hour hl HA.out]
          have N := Lib.hid (air_num (allV_at 13 HA.out j hl))
          have hc := (blk_cell HS7.out (1 + j)).trans (stn_at x y fs j hl)
          go_wp2_with (go_at_call 15; refine (laws_sameAir _ _ N.out.1 N.out.2 _).mono ?_; rintro e w' ⟨rfl, rfl⟩)
          go_roundw
          case rel => exact ⟨j + 1, by omega, by go_num, B7.out, HS7.out⟩
          case measure => simp [intOf]; omega
        · obtain rfl : j = 13 := by omega
          go_wp2_with fail
          refine (impl_FlowAt x y fs t wr).mono ?_
          rintro e w7 ⟨rfl, hb⟩
          rw [HA.out]
          have B7 := Lib.hid (B6.out.trans (hb.mono B6.out.size))
          have HS7 := Lib.hid (blk_below HS6.out hb)
          clear hb B6 HS6 c0 c1 c2 c3 c4 c5 c6 c7 c8 c9 c10 c11 c12 c13
          have c0 : w7.cell? ⟨S, 0, none⟩ = some (.complex .f64 x y) := (blk_cell HS7.out 0)
          have c1 : w7.cell? ⟨S, 1, none⟩ = some (.complex .f32 (fs 0).1 (fs 0).2) := (blk_cell HS7.out 1)
          have c2 : w7.cell? ⟨S, 2, none⟩ = some (.complex .f32 (fs 1).1 (fs 1).2) := (blk_cell HS7.out 2)
          have c3 : w7.cell? ⟨S, 3, none⟩ = some (.complex .f32 (fs 2).1 (fs 2).2) := (blk_cell HS7.out 3)
          have c4 : w7.cell? ⟨S, 4, none⟩ = some (.complex .f32 (fs 3).1 (fs 3).2) := (blk_cell HS7.out 4)
          have c5 : w7.cell? ⟨S, 5, none⟩ = some (.complex .f32 (fs 4).1 (fs 4).2) := (blk_cell HS7.out 5)
          have c6 : w7.cell? ⟨S, 6, none⟩ = some (.complex .f32 (fs 5).1 (fs 5).2) := (blk_cell HS7.out 6)
          have c7 : w7.cell? ⟨S, 7, none⟩ = some (.complex .f32 (fs 6).1 (fs 6).2) := (blk_cell HS7.out 7)
          have c8 : w7.cell? ⟨S, 8, none⟩ = some (.complex .f32 (fs 7).1 (fs 7).2) := (blk_cell HS7.out 8)
          have c9 : w7.cell? ⟨S, 9, none⟩ = some (.complex .f32 (fs 8).1 (fs 8).2) := (blk_cell HS7.out 9)
          have c10 : w7.cell? ⟨S, 10, none⟩ = some (.complex .f32 (fs 9).1 (fs 9).2) := (blk_cell HS7.out 10)
          have c11 : w7.cell? ⟨S, 11, none⟩ = some (.complex .f32 (fs 10).1 (fs 10).2) := (blk_cell HS7.out 11)
          have c12 : w7.cell? ⟨S, 12, none⟩ = some (.complex .f32 (fs 11).1 (fs 11).2) := (blk_cell HS7.out 12)
          have c13 : w7.cell? ⟨S, 13, none⟩ = some (.complex .f32 (fs 12).1 (fs 12).2) := (blk_cell HS7.out 13)
          go_wp2_with fail
          refine (impl_FlowAt x y fs 21600 w7).mono ?_
          rintro e w8 ⟨rfl, hb⟩
          rw [HA.out]
          have B8 := Lib.hid (B7.out.trans (hb.mono B7.out.size))
          clear hb B7 HS7 c0 c1 c2 c3 c4 c5 c6 c7 c8 c9 c10 c11 c12 c13
          have N := Lib.hid (told_num fs)
          by_cases ht : 21600 ≤ t
          · rw [told_end (fs := fs) ht]
            go_wp2_with (go_at_call 15; refine (laws_sameAir _ _ N.out.1 N.out.2 _).mono ?_; rintro e w' ⟨rfl, rfl⟩)
            go_ret
            exact ⟨rfl, B8.out⟩
          · have ht' : t < 21600 := by omega
            go_wp2_with fail
            go_ret
            exact ⟨rfl, B8.out⟩
end Go.Proofs.Ytjohpjmfnghkoaa.Fl2
namespace Go.Proofs.Ytjohpjmfnghkoaa.Pure
open Go.RowKit Go.Proofs.YtjohpjmfnghkoaaW.PrintWords Go.Proofs.YtjohpjmfnghkoaaW.PrintLast Go.Proofs.YtjohpjmfnghkoaaW.PrintMore
theorem FnStreamHoursWalk (a0 : Option Addr) (len0 cap0 : Nat) (z0 : List Int) (w : World) (w0 : (a0 = none ∧ len0 = 0 ∧ cap0 = 0 ∧ z0 = []) ∨ ∃ x, a0 = some x ∧ len0 ≤ cap0 ∧ cap0 ≤ maxLen ∧ z0.length = cap0 ∧ (∀ i, i < z0.length → w.cell? (x.add i) = some (.int .u8 (z0.getD i 0))) ∧ ∀ n ∈ z0, (Lit.int .u8 n).wf = true) (_ : len0 * 1 ≤ 140737488351232) :
    Calls Try.prog 4 #[.slice a0 len0 cap0] w fun e w' => e = .returned (.bool true) ∧ Below w.heap.size w w' := by
  obtain ⟨l0, rfl, hr0, _, _, hc0⟩ := ReadsInt.ofRowC w0
  exact Fl2.law (Kd.C_of_reads (d := (0 : Int)) (h1 := fun _ => rfl) hr0) hc0
end Go.Proofs.Ytjohpjmfnghkoaa.Pure
