/- Which polars are valid: the spec's side. -/
import Derived.Test.YteaiaedhkhmgdaaGreatPolW
namespace Go.Proofs.YteaiaedhkhmgdaaGreat.Pw
open Go.RowKit Kit Fl Bd Tn Pf
theorem leB_yes {x y : Nat} (h : leB x y = true) : (FloatKind.f32.format.order x y == some .lt || FloatKind.f32.format.order x y == some .eq) = true := h
set_option maxRecDepth 100000 in
set_option maxHeartbeats 2000000 in
theorem spec_PolarOk {w : World} {A0 A1 A2 : Option Addr} {c0 c1 c2 : Nat} {d : Pol} (hP : PolAt w A0 A1 A2 d) :
    Calls Tryz.prog 96 #[.agg #[.slice A0 d.ws.length c0, .slice A1 d.an.length c1, .slice A2 d.rows.length c2]] w fun e w' => e = .returned (.bool (okB d)) ∧ Below w.heap.size w w' := by
  obtain ⟨W, hW, hX⟩ := boxed (c0 := c0) (c1 := c1) (c2 := c2) hP
  have HX := Lib.hid hX
  clear hP
  cases h1 : (decide ((1 : Int) ≤ (d.ws.length : Int)) && decide ((d.ws.length : Int) ≤ 12))
  · have H1 := Lib.hid h1
    have HN := Lib.hid (okB_no (d := d) fun h => cnt_no h1 (by have := h.nw; omega) (by have := h.nw; omega))
    clear h1
    go_enter Tryz.func96, Tryz.ntmps96
    go_wp2_with (first | (go_at_call 97; refine (spec_l01In _ _ _ _).mono ?_; rintro e w' ⟨rfl, rfl⟩; rw [H1.out]))
    go_ret
    exact ⟨by rw [HN.out]; rfl, hW ▸ HX.out.b⟩
  cases h2 : (decide ((2 : Int) ≤ (d.an.length : Int)) && decide ((d.an.length : Int) ≤ 24))
  · have H1 := Lib.hid h1
    have H2 := Lib.hid h2
    have HN := Lib.hid (okB_no (d := d) fun h => cnt_no h2 (by have := h.na; omega) (by have := h.na; omega))
    clear h1 h2
    go_enter Tryz.func96, Tryz.ntmps96
    go_wp2_with (first | (go_at_call 97; refine (spec_l01In _ _ _ _).mono ?_; rintro e w' ⟨rfl, rfl⟩; first | rw [H1.out] | rw [H2.out]))
    go_ret
    exact ⟨by rw [HN.out]; rfl, hW ▸ HX.out.b⟩
  have H1 := Lib.hid h1
  have H2 := Lib.hid h2
  have L1 := cnt h1
  have L2 := cnt h2
  clear h1 h2
  by_cases h3 : d.rows.length = d.ws.length
  · rw [h3] at hW
    have HL := Lib.hid h3
    go_enter Tryz.func96, Tryz.ntmps96
    go_wp2_with (first | (go_at_call 97; refine (spec_l01In _ _ _ _).mono ?_; rintro e w' ⟨rfl, rfl⟩; first | rw [H1.out] | rw [H2.out]))
    rw [← hW]
    clear hW hX
    go_loopw [3] (fun k wr => ∃ j : Nat, j ≤ d.ws.length ∧ k = .int .i64 (j : Int) ∧ (∀ i, i < j → windB (fn d.ws i) = true) ∧ (∀ i, i + 1 < j → gtB (fn d.ws (i + 1)) (fn d.ws i) = true) ∧ (∀ i, i < j → (rn d.rows i).length = d.an.length) ∧ (∀ i, i < j → ∀ q, q < (rn d.rows i).length → speedB (fn (rn d.rows i) q) = true) ∧ Boxed w wr A0 A1 A2 c0 c1 c2 d) (fun k _ => d.ws.length - (intOf k).toNat)
    case atStart => exact ⟨0, by omega, rfl, fun i hi => by omega, fun i hi => by omega, fun i hi => by omega, fun i hi => by omega, HX.out⟩
    case round =>
      clear HX
      obtain ⟨j, hj, rfl, ha, hb, hc, hd, hY⟩ := hrel
      have HA := Lib.hid ha
      have HG := Lib.hid hb
      have HJ := Lib.hid hc
      have HK := Lib.hid hd
      clear ha hb hc hd
      have HY := Lib.hid hY
      clear hY
      obtain ⟨x0, x1, x2, _, hp, _⟩ := HY.out
      rw [h3] at x2
      by_cases hl : j < d.ws.length
      · obtain ⟨b, ob, rfl, hL⟩ := hp.f.resolve_left (by omega)
        obtain ⟨b2, ob2, rfl, hM⟩ := hp.r.resolve_left (by omega)
        obtain ⟨B, cc, r1, r2⟩ := hM j (by omega)
        have y1 := hL j hl
        have R2 := Lib.hid r2
        clear hM r2 hp
        have hlI : (j : Int) < (d.ws.length : Int) := by omega
        go_wp2_with fail
        cases e1 : gtB (fn d.ws j) 0
        · have HN := Lib.hid (okB_no (d := d) fun h => by have := h.w1 j hl; unfold windB at this; rw [e1] at this; cases this)
          unfold gtB at e1
          go_quiet (fail)
          go_wp2_with fail
          go_ret
          exact ⟨by rw [HN.out]; rfl, (HY.out.drewN _).b⟩
        cases e2 : leB (fn d.ws j) 1120403456
        · have HN := Lib.hid (okB_no (d := d) fun h => by have := h.w1 j hl; unfold windB at this; rw [e1, e2] at this; cases this)
          unfold gtB at e1
          unfold leB at e2
          go_quiet (fail)
          go_wp2_with fail
          go_ret
          exact ⟨by rw [HN.out]; rfl, (HY.out.drewN _).b⟩
        · have HE := Lib.hid (show windB (fn d.ws j) = true by unfold windB; rw [e1, e2]; rfl)
          unfold gtB at e1
          unfold leB at e2
          by_cases j0 : j = 0
          · subst j0
            rw [Nat.add_zero] at y1 r1
            have HF := Lib.hid (fun q (e : q + 1 = 0) => (show gtB (fn d.ws (q + 1)) (fn d.ws q) = true by omega))
            go_quiet (fail)
            by_cases hn : (rn d.rows 0).length = d.an.length
            · have NN := Lib.hid hn
              rw [hn] at r1
              go_wp2_with fail
              go_loopw [4] (fun k wr => ∃ i : Nat, i ≤ d.an.length ∧ k = .int .i64 (i : Int) ∧ (∀ q, q < i → speedB (fn (rn d.rows 0) q) = true) ∧ Boxed w wr (some ⟨b, ob, none⟩) A1 (some ⟨b2, ob2, none⟩) c0 c1 c2 d) (fun k _ => d.an.length - (intOf k).toNat)
              case atStart => exact ⟨0, by omega, rfl, fun q hq => by omega, HY.out.drewN _⟩
              case round =>
                clear HY x0 x1 x2 y1 R2 r1 hL
                obtain ⟨i, hi, rfl, hs, hZ⟩ := hrel
                have HS := Lib.hid hs
                have HZ := Lib.hid hZ
                clear hs hZ
                obtain ⟨x0, x1, x2, _, hp, _⟩ := HZ.out
                rw [h3] at x2
                obtain ⟨b', o', eb, hM⟩ := hp.r.resolve_left (by omega)
                obtain ⟨rfl, rfl⟩ : b2 = b' ∧ ob2 = o' := by injection eb with eb; injection eb with e1 e2; exact ⟨e1, e2⟩
                obtain ⟨B, cc, r1, r2⟩ := hM 0 (by omega)
                rw [hn, Nat.add_zero] at r1
                clear hM hp eb
                by_cases hi2 : i < d.an.length
                · obtain ⟨b3, ob3, rfl, hR⟩ := r2.resolve_left (by omega)
                  have z1 := hR i (by omega)
                  clear hR r2
                  cases s1 : geB (fn (rn d.rows 0) i) 0
                  · have HN := Lib.hid (okB_no (d := d) fun h => by have := h.r2 0 (by omega) i (by omega); unfold speedB at this; rw [s1] at this; cases this)
                    unfold geB at s1
                    go_wp2_with fail
                    go_ret
                    exact ⟨by rw [HN.out]; rfl, HZ.out.b⟩
                  cases s2 : leB (fn (rn d.rows 0) i) 1112014848
                  · have HN := Lib.hid (okB_no (d := d) fun h => by have := h.r2 0 (by omega) i (by omega); unfold speedB at this; rw [s1, s2] at this; cases this)
                    unfold geB at s1
                    unfold leB at s2
                    go_wp2_with fail
                    go_ret
                    exact ⟨by rw [HN.out]; rfl, HZ.out.b⟩
                  · have HT := Lib.hid (show speedB (fn (rn d.rows 0) i) = true by unfold speedB; rw [s1, s2]; rfl)
                    unfold geB at s1
                    unfold leB at s2
                    go_wp2_with fail
                    go_roundw
                    case rel => exact ⟨i + 1, by omega, by go_num, fun q hq => by
                                  by_cases e : q = i
                                  · rw [e]; exact HT.out
                                  · exact HS.out q (by omega), HZ.out⟩
                    case measure => simp [intOf]; omega
                · obtain rfl : i = d.an.length := by omega
                  go_wp2_with fail
                  go_roundw
                  case rel => exact ⟨0 + 1, by omega, by go_num, fun q hq => by
                                by_cases e : q = 0
                                · rw [e]; exact HE.out
                                · exact HA.out q (by omega), fun q hq => by
                                by_cases e : q + 1 = 0
                                · exact HF.out q e
                                · exact HG.out q (by omega), fun q hq => by
                                by_cases e : q = 0
                                · rw [e]; exact NN.out
                                · exact HJ.out q (by omega), fun q hq => by
                                by_cases e : q = 0
                                · rw [e, NN.out]; exact HS.out
                                · exact HK.out q (by omega), HZ.out⟩
                  case measure => simp [intOf]; omega
            · have HN := Lib.hid (okB_no (d := d) fun h => hn (h.r1 0 (by omega)))
              go_wp2_with fail
              go_ret
              exact ⟨by rw [HN.out]; rfl, (HY.out.drewN _).b⟩
          · have y2 := hL (j - 1) (by omega)
            have j1 : IntKind.i64.wrap ((j : Int) - 1) = (j : Int) - 1 := by rw [IntKind.wrap_i64]; omega
            have j2 : (0 : Int) ≤ (j : Int) - 1 := by omega
            have j3 : ((j : Int) - 1).toNat = j - 1 := by omega
            have j4 : (j : Int) - 1 < (d.ws.length : Int) := by omega
            have j5 : (0 : Int) < (j : Int) := by omega
            have j6 : 0 < j := by omega
            have j7 : decide ((0 : Int) < (j : Int)) = true := decide_eq_true j5
            cases e3 : leB (fn d.ws j) (fn d.ws (j - 1))
            · have HF := Lib.hid (fun q (e : q + 1 = j) => show gtB (fn d.ws (q + 1)) (fn d.ws q) = true by
                have n1 := wind_num HE.out
                have n2 := wind_num (HA.out q (by omega))
                subst e
                rw [show q + 1 - 1 = q by omega, le_not_gt n1 n2] at e3
                simpa using e3)
              unfold leB at e3
              go_quiet (fail)
              by_cases hn : (rn d.rows j).length = d.an.length
              · have NN := Lib.hid hn
                rw [hn] at r1
                go_wp2_with fail
                go_loopw [4] (fun k wr => ∃ i : Nat, i ≤ d.an.length ∧ k = .int .i64 (i : Int) ∧ (∀ q, q < i → speedB (fn (rn d.rows j) q) = true) ∧ Boxed w wr (some ⟨b, ob, none⟩) A1 (some ⟨b2, ob2, none⟩) c0 c1 c2 d) (fun k _ => d.an.length - (intOf k).toNat)
                case atStart => exact ⟨0, by omega, rfl, fun q hq => by omega, HY.out.drewN _⟩
                case round =>
                  clear HY x0 x1 x2 y1 R2 r1 hL
                  obtain ⟨i, hi, rfl, hs, hZ⟩ := hrel
                  have HS := Lib.hid hs
                  have HZ := Lib.hid hZ
                  clear hs hZ
                  obtain ⟨x0, x1, x2, _, hp, _⟩ := HZ.out
                  rw [h3] at x2
                  obtain ⟨b', o', eb, hM⟩ := hp.r.resolve_left (by omega)
                  obtain ⟨rfl, rfl⟩ : b2 = b' ∧ ob2 = o' := by injection eb with eb; injection eb with e1 e2; exact ⟨e1, e2⟩
                  obtain ⟨B, cc, r1, r2⟩ := hM j (by omega)
                  rw [hn] at r1
                  clear hM hp eb
                  by_cases hi2 : i < d.an.length
                  · obtain ⟨b3, ob3, rfl, hR⟩ := r2.resolve_left (by omega)
                    have z1 := hR i (by omega)
                    clear hR r2
                    cases s1 : geB (fn (rn d.rows j) i) 0
                    · have HN := Lib.hid (okB_no (d := d) fun h => by have := h.r2 j (by omega) i (by omega); unfold speedB at this; rw [s1] at this; cases this)
                      unfold geB at s1
                      go_wp2_with fail
                      go_ret
                      exact ⟨by rw [HN.out]; rfl, HZ.out.b⟩
                    cases s2 : leB (fn (rn d.rows j) i) 1112014848
                    · have HN := Lib.hid (okB_no (d := d) fun h => by have := h.r2 j (by omega) i (by omega); unfold speedB at this; rw [s1, s2] at this; cases this)
                      unfold geB at s1
                      unfold leB at s2
                      go_wp2_with fail
                      go_ret
                      exact ⟨by rw [HN.out]; rfl, HZ.out.b⟩
                    · have HT := Lib.hid (show speedB (fn (rn d.rows j) i) = true by unfold speedB; rw [s1, s2]; rfl)
                      unfold geB at s1
                      unfold leB at s2
                      go_wp2_with fail
                      go_roundw
                      case rel => exact ⟨i + 1, by omega, by go_num, fun q hq => by
                                    by_cases e : q = i
                                    · rw [e]; exact HT.out
                                    · exact HS.out q (by omega), HZ.out⟩
                      case measure => simp [intOf]; omega
                  · obtain rfl : i = d.an.length := by omega
                    go_wp2_with fail
                    go_roundw
                    case rel => exact ⟨j + 1, by omega, by go_num, fun q hq => by
                                  by_cases e : q = j
                                  · rw [e]; exact HE.out
                                  · exact HA.out q (by omega), fun q hq => by
                                  by_cases e : q + 1 = j
                                  · exact HF.out q e
                                  · exact HG.out q (by omega), fun q hq => by
                                  by_cases e : q = j
                                  · rw [e]; exact NN.out
                                  · exact HJ.out q (by omega), fun q hq => by
                                  by_cases e : q = j
                                  · rw [e, NN.out]; exact HS.out
                                  · exact HK.out q (by omega), HZ.out⟩
                    case measure => simp [intOf]; omega
              · have HN := Lib.hid (okB_no (d := d) fun h => hn (h.r1 j (by omega)))
                go_wp2_with fail
                go_ret
                exact ⟨by rw [HN.out]; rfl, (HY.out.drewN _).b⟩
            · have HN := Lib.hid (okB_no (d := d) fun h => by
                have n1 := wind_num (h.w1 j hl)
                have n2 := wind_num (h.w1 (j - 1) (by omega))
                have := h.w2 (j - 1) (by omega)
                rw [le_not_gt n1 n2] at e3
                rw [show j - 1 + 1 = j by omega] at this
                rw [this] at e3
                cases e3)
              unfold leB at e3
              go_quiet (fail)
              go_wp2_with fail
              go_ret
              exact ⟨by rw [HN.out]; rfl, (HY.out.drewN _).b⟩
      · obtain rfl : j = d.ws.length := by omega
        go_wp2_with fail
        clear x0 x1 x2 hp
        go_loopw [5] (fun k wr => ∃ j : Nat, 1 ≤ j ∧ j ≤ d.an.length ∧ k = .int .i64 (j : Int) ∧ (∀ i, i + 1 < j → zn d.an i < zn d.an (i + 1)) ∧ Boxed w wr A0 A1 A2 c0 c1 c2 d) (fun k _ => d.an.length - (intOf k).toNat)
        case atStart => exact ⟨1, by omega, by omega, rfl, fun i hi => by omega, HY.out⟩
        case round =>
          clear HY
          obtain ⟨j, j1, hj, rfl, ha, hY⟩ := hrel
          have HI := Lib.hid ha
          have HY := Lib.hid hY
          clear ha hY
          obtain ⟨x0, x1, x2, _, hp, _⟩ := HY.out
          obtain ⟨b, ob, rfl, hL⟩ := hp.i.resolve_left (by omega)
          clear hp
          by_cases hl : j < d.an.length
          · have y1 := hL j hl
            have y2 := hL (j - 1) (by omega)
            have i1 : IntKind.i64.wrap ((j : Int) - 1) = (j : Int) - 1 := by rw [IntKind.wrap_i64]; omega
            have i2 : (0 : Int) ≤ (j : Int) - 1 := by omega
            have i3 : ((j : Int) - 1).toNat = j - 1 := by omega
            have i4 : (j : Int) - 1 < (d.an.length : Int) := by omega
            have i5 : (j : Int) < (d.an.length : Int) := by omega
            go_wp2_with fail
            go_quiet (fail)
            by_cases e3 : zn d.an j ≤ zn d.an (j - 1)
            · have HN := Lib.hid (okB_no (d := d) fun h => by
                have := h.a1 (j - 1) (by omega)
                rw [show j - 1 + 1 = j by omega] at this
                omega)
              go_wp2_with fail
              go_ret
              exact ⟨by rw [HN.out]; rfl, (HY.out.drewN _).b⟩
            · have HF := Lib.hid e3
              go_wp2_with fail
              go_roundw
              case rel => exact ⟨j + 1, by omega, by omega, by go_num, fun i hi => by
                            by_cases e : i + 1 = j
                            · have := HF.out
                              subst e
                              rw [show i + 1 - 1 = i by omega] at this
                              omega
                            · exact HI.out i (by omega), HY.out.drewN _⟩
              case measure => simp [intOf]; omega
          · obtain rfl : j = d.an.length := by omega
            have y1 := hL 0 (by omega)
            rw [Nat.add_zero] at y1
            have y2 := hL (d.an.length - 1) (by omega)
            by_cases z0 : zn d.an 0 = 0
            · by_cases z9 : zn d.an (d.an.length - 1) = 180
              · have HQ := Lib.hid (okB_iff.2 (⟨by omega, by omega, HL.out, HA.out, HG.out, HI.out, z0, z9, fun i hi => HJ.out i (by have := HL.out; omega), fun i hi => HK.out i (by have := HL.out; omega)⟩ : Okp d))
                rw [z0] at y1
                rw [z9] at y2
                go_wp2_with fail
                go_ret
                exact ⟨by rw [HQ.out]; rfl, HY.out.b⟩
              · have HN := Lib.hid (okB_no (d := d) fun h => z9 h.a9)
                rw [z0] at y1
                go_wp2_with fail
                go_ret
                exact ⟨by rw [HN.out]; exact congrArg (fun b => Ending.returned (.bool b)) (beq_eq_false_iff_ne.2 z9), HY.out.b⟩
            · have HN := Lib.hid (okB_no (d := d) fun h => z0 h.a0)
              go_wp2_with fail
              go_ret
              exact ⟨by rw [HN.out]; rfl, HY.out.b⟩
  · have HN := Lib.hid (okB_no (d := d) fun h => h3 h.nr)
    go_enter Tryz.func96, Tryz.ntmps96
    go_wp2_with (first | (go_at_call 97; refine (spec_l01In _ _ _ _).mono ?_; rintro e w' ⟨rfl, rfl⟩; first | rw [H1.out] | rw [H2.out]))
    go_ret
    exact ⟨by rw [HN.out]; rfl, hW ▸ HX.out.b⟩
end Go.Proofs.YteaiaedhkhmgdaaGreat.Pw
