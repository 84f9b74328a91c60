/- The law of the best angle, walked: for every polar, whatever it holds. Printed by gen/mkbest.py. -/
import Derived.Test.YteaiaedhkhmgdaaBestD
import Derived.Test.YteaiaedhkhmgdaaEq
import Derived.Deep.RegionHeld3
namespace Go.Proofs.Yteaiaedhkhmgdaa.LawDown
open Go.RowKit Kit Fl Bd Pf Pw Cp BestDown
theorem far_below {w v v1 : World} (h : Below w.heap.size w v) (hb : Below v.heap.size v v1) : Below w.heap.size w v1 := h.trans (hb.mono h.size)
theorem form (d : Pol) (x : Nat) : ∃ (n : Int) (b : Bool), bestR d x = #[.int .i64 n, .bool b] := by
  unfold bestR
  split
  · exact ⟨_, _, rfl⟩
  · exact ⟨_, _, rfl⟩
set_option maxRecDepth 100000 in
set_option maxHeartbeats 1000000 in
theorem law {w : World} {A0 A1 A2 : Option Addr} {c0 c1 c2 : Nat} {d : Pol} (x : Nat) (hP : PRd w A0 A1 A2 d) (hS : Sz.Sane d) :
    Calls Try.prog 4 #[.agg #[.slice A0 d.ws.length c0, .slice A1 d.an.length c1, .slice A2 d.rows.length c2], .float .f32 x] w fun e w' => e = .returned (.bool true) ∧ Below w.heap.size w w' := by
  obtain ⟨W, hW, hBW⟩ : ∃ W, W = w.alloc (.cells #[.slice A0 d.ws.length c0, .slice A1 d.an.length c1, .slice A2 d.rows.length c2] 26) ∧ Below w.heap.size w W := ⟨_, rfl, (Below.refl w.heap.size w).alloc (Nat.le_refl _) _⟩
  have HX := Lib.hid (show W.cell? ⟨w.heap.size, 0, none⟩ = some (.slice A0 d.ws.length c0) ∧ W.cell? ⟨w.heap.size, 1, none⟩ = some (.slice A1 d.an.length c1) ∧ W.cell? ⟨w.heap.size, 2, none⟩ = some (.slice A2 d.rows.length c2) by rw [hW]; exact ⟨by go_simp, by go_simp, by go_simp⟩)
  have HP := Lib.hid hP
  have HS := Lib.hid hS
  have HB := Lib.hid hBW
  clear hP hS hBW
  obtain ⟨n, b, hR⟩ := form d x
  have HR := Lib.hid hR
  clear hR
  go_enter Try.func4, Try.ntmps4
  go_upto_region 1 with fail
  rw [← hW]
  clear hW
  obtain ⟨x0, x1, x2⟩ := HX.out
  go_wp2_with fail
  refine (Sz.szPolar (HP.out.below HB.out) HS.out).mono ?_
  rintro e w1 ⟨⟨r, rfl, hr⟩, hb⟩
  have y0 := kcb hb x0
  have y1 := kcb hb x1
  have y2 := kcb hb x2
  have B1 := Lib.hid (HB.out.trans (hb.mono HB.out.size))
  clear hb x0 x1 x2 HX HB
  rcases hr with hr | ⟨hr, hs⟩
  · go_wp2_with fail
    go_ret
    exact ⟨rfl, B1.out⟩
  · have HM := Lib.hid hs
    have TP := Lib.hid (fun (v : World) (hv : Below w.heap.size w v) => toPolar (c0 := c0) (c1 := c1) (c2 := c2) (HP.out.below hv) ⟨HM.out.f, HM.out.i, HM.out.r⟩ HM.out.q)
    clear hs
    go_wp2_with fail
    refine (TP.out _ B1.out).mono ?_
    rintro e w2 ⟨⟨p0, p1, p2, q, rfl, hc⟩, hb⟩
    have z0 := kcb hb y0
    have z1 := kcb hb y1
    have z2 := kcb hb y2
    have B2 := Lib.hid (B1.out.trans (hb.mono B1.out.size))
    have C2 := Lib.hid hc
    clear hc hb y0 y1 y2 B1
    go_wp2_with fail
    refine (spec_BestDown x C2.out.at).mono ?_
    rintro e w3 ⟨rfl, hb⟩
    have y0 := kcb hb z0
    have y1 := kcb hb z1
    have y2 := kcb hb z2
    have B3 := Lib.hid (B2.out.trans (hb.mono B2.out.size))
    clear hb z0 z1 z2 B2 C2
    rw [HR.out]
    go_wp2_with fail
    refine (TP.out _ B3.out).mono ?_
    rintro e w4 ⟨⟨p0, p1, p2, q, rfl, hc⟩, hb⟩
    have l0 := World.block_lt_of_cell? w4 _ (kcb hb y0)
    obtain ⟨W5, hW5, hB5⟩ : ∃ W5, W5 = w4.alloc (.cells #[.slice (some ⟨p0, 0, none⟩) d.ws.length d.ws.length, .slice (some ⟨p1, 0, none⟩) d.an.length d.an.length, .slice (some ⟨p2, 0, none⟩) d.rows.length d.rows.length] 31) ∧ Below w4.heap.size w4 W5 := ⟨_, rfl, (Below.refl w4.heap.size w4).alloc (Nat.le_refl _) _⟩
    have k0 : W5.cell? ⟨w4.heap.size, 0, none⟩ = some (.slice (some ⟨p0, 0, none⟩) d.ws.length d.ws.length) := by rw [hW5]; go_simp
    have k1 : W5.cell? ⟨w4.heap.size, 1, none⟩ = some (.slice (some ⟨p1, 0, none⟩) d.an.length d.an.length) := by rw [hW5]; go_simp
    have k2 : W5.cell? ⟨w4.heap.size, 2, none⟩ = some (.slice (some ⟨p2, 0, none⟩) d.rows.length d.rows.length) := by rw [hW5]; go_simp
    have z0 := kcb hB5 (kcb hb y0)
    have z1 := kcb hB5 (kcb hb y1)
    have z2 := kcb hB5 (kcb hb y2)
    have B4 := B3.out.trans (hb.mono B3.out.size)
    have B5 := Lib.hid (B4.trans (hB5.mono B4.size))
    have C5 := Lib.hid (hc.below hB5)
    clear hc hb y0 y1 y2 B3 B4 hB5
    go_upto_region 7 with fail
    rw [← hW5]
    clear hW5
    generalize w4.heap.size = T at *
    go_wp2_with fail
    refine (impl_BestDown x C5.out.at).mono ?_
    rintro e w6 ⟨rfl, hb⟩
    have x0 := kcb hb z0
    have x1 := kcb hb z1
    have x2 := kcb hb z2
    have y0 := kcb hb k0
    have y1 := kcb hb k1
    have y2 := kcb hb k2
    have B6 := Lib.hid (B5.out.trans (hb.mono B5.out.size))
    have C6 := Lib.hid (C5.out.below hb)
    clear hb z0 z1 z2 k0 k1 k2 B5 C5
    rw [HR.out]
    go_wp2_with fail
    go_region_held3 (fun v => v.cell? ⟨w.heap.size, 0, none⟩ = some (.slice A0 d.ws.length c0) ∧ v.cell? ⟨w.heap.size, 1, none⟩ = some (.slice A1 d.an.length c1) ∧ v.cell? ⟨w.heap.size, 2, none⟩ = some (.slice A2 d.rows.length c2) ∧ v.cell? ⟨T, 0, none⟩ = some (.slice (some ⟨p0, 0, none⟩) d.ws.length d.ws.length) ∧ v.cell? ⟨T, 1, none⟩ = some (.slice (some ⟨p1, 0, none⟩) d.an.length d.an.length) ∧ v.cell? ⟨T, 2, none⟩ = some (.slice (some ⟨p2, 0, none⟩) d.rows.length d.rows.length) ∧ Below w.heap.size w v ∧ Copy v p0 p1 p2 q d)
      (first | exact ⟨x0, x1, x2, y0, y1, y2, B6.out, C6.out⟩ | exact ⟨x0, x1, x2, y0, y1, y2, B6.out.drew, C6.out.below (Below.refl _ _).drew⟩ | assumption | (go_split_ands; exact ⟨kcb hb (by assumption), kcb hb (by assumption), kcb hb (by assumption), kcb hb (by assumption), kcb hb (by assumption), kcb hb (by assumption), far_below (by assumption) hb, Copy.below (by assumption) hb⟩))
      (first | (go_at_call 9; refine (TP.out _ (by first | exact B6.out | exact B6.out.drew | (go_split_ands; assumption))).mono ?_; rintro e v7 ⟨⟨s0, s1, s2, s, rfl, hc⟩, hb⟩) | (go_at_call 11; refine (Eq.eqPolar (Copy.at (by first | exact C6.out | exact C6.out.below (Below.refl _ _).drew | (go_split_ands; assumption))) hc.at HM.out).mono ?_; rintro e v8 ⟨rfl, hb⟩))
    all_goals (rename_i hH; have HZ := Lib.hid hH.2.2.2.2.2.2.1; clear hH)
    all_goals go_wp2_with fail
    all_goals go_ret
    all_goals exact ⟨rfl, HZ.out⟩
end Go.Proofs.Yteaiaedhkhmgdaa.LawDown
