/- The speed that a polar tells: the spec's side. -/
import Derived.Test.YteaiaedhkhmgdaaGreatPolA
namespace Go.Proofs.YteaiaedhkhmgdaaGreat.Pw
open Go.RowKit Kit Fl Bd Tn Pf
set_option maxRecDepth 100000 in
set_option maxHeartbeats 1000000 in
theorem spec_SpeedAt_no {w : World} {A0 A1 A2 : Option Addr} {c0 c1 c2 : Nat} {d : Pol} (x : Nat) (g : Int) (hP : PolAt w A0 A1 A2 d) (hno : okS d x g = false) :
    Calls Tryz.prog 92 #[.agg #[.slice A0 d.ws.length c0, .slice A1 d.an.length c1, .slice A2 d.rows.length c2], .float .f32 x, .int .i64 g] w fun e w' => e = .returned (.tuple (told d x g)) ∧ Below w.heap.size w w' := by
  obtain ⟨W, hW, hX⟩ := boxed (c0 := c0) (c1 := c1) (c2 := c2) hP
  have HX := Lib.hid hX
  have HN := Lib.hid (told_no hno)
  clear hP hX
  go_enter Tryz.func92, Tryz.ntmps92
  go_upto_region 1 with fail
  rw [← hW]
  clear hW
  obtain ⟨x0, x1, x2⟩ := HX.out.of
  go_wp2_with fail
  refine (spec_PolarOk HX.out.p).mono ?_
  rintro e w1 ⟨rfl, hb⟩
  have HY := Lib.hid (HX.out.to hb)
  clear hb HX x0 x1 x2
  obtain ⟨x0, x1, x2⟩ := HY.out.of
  cases h1 : okB d
  · clear h1 hno
    go_wp2_with fail
    go_ret2
    exact ⟨by rw [HN.out]; rfl, HY.out.b⟩
  cases h2 : airB x
  · clear h1 hno
    unfold airB at h2
    cases e1 : geB x 0
    · unfold geB at e1
      go_wp2_with fail
      go_ret2
      exact ⟨by rw [HN.out]; rfl, HY.out.b⟩
    · rw [e1, Bool.true_and] at h2
      unfold geB at e1
      unfold leB at h2
      go_wp2_with fail
      go_ret2
      exact ⟨by rw [HN.out]; rfl, HY.out.b⟩
  · have H3 := Lib.hid (show (decide ((0 : Int) ≤ g) && decide (g ≤ 180)) = false by unfold okS at hno; rw [h1, h2] at hno; simpa using hno)
    clear h1 hno
    unfold airB at h2
    rw [Bool.and_eq_true] at h2
    obtain ⟨e1, e2⟩ := h2
    unfold geB at e1
    unfold leB at e2
    go_wp2_with (go_at_call 97; refine (spec_l01In _ _ _ _).mono ?_; rintro e w' ⟨rfl, rfl⟩; rw [H3.out])
    go_ret2
    exact ⟨by rw [HN.out]; rfl, HY.out.b⟩
set_option maxRecDepth 100000 in
set_option maxHeartbeats 2000000 in
theorem spec_SpeedAt_yes {w : World} {A0 A1 A2 : Option Addr} {c0 c1 c2 : Nat} {d : Pol} (x : Nat) (g : Int) (hP : PolAt w A0 A1 A2 d) (h1 : okB d = true) (h2 : airB x = true) (h3 : (decide ((0 : Int) ≤ g) && decide (g ≤ 180)) = true) :
    Calls Tryz.prog 92 #[.agg #[.slice A0 d.ws.length c0, .slice A1 d.an.length c1, .slice A2 d.rows.length c2], .float .f32 x, .int .i64 g] w fun e w' => e = .returned (.tuple (told d x g)) ∧ Below w.heap.size w w' := by
  obtain ⟨W, hW, hX⟩ := boxed (c0 := c0) (c1 := c1) (c2 := c2) hP
  have hO := okB_iff.1 h1
  obtain ⟨b0, o0, b1, o1, b2, o2, B, C, rfl, rfl, rfl, hF⟩ := frame hX hO
  have HX := Lib.hid hF
  have hn := hO.nw
  have hn3 := hO.nr
  rw [hn3] at hW ⊢
  have HN := Lib.hid (told_yes (d := d) (x := x) (g := g) (by unfold okS; rw [h1, h2, h3]; rfl))
  have HH := Lib.hid h1
  have H3 := Lib.hid h3
  have HO := Lib.hid hO
  have HA := Lib.hid h2
  have HG := Lib.hid (show 0 ≤ g ∧ g ≤ 180 by simpa using h3)
  have HROW := Lib.hid (fun j (hj : j < d.ws.length) => found hO HG.out.1 HG.out.2 (i := j) (by omega))
  have HP := Lib.hid (show ∀ v, Fr w b0 o0 b1 o1 b2 o2 B C c0 c1 c2 d v → Calls Tryz.prog 96 #[.agg #[.slice (some ⟨b0, o0, none⟩) d.ws.length c0, .slice (some ⟨b1, o1, none⟩) d.an.length c1, .slice (some ⟨b2, o2, none⟩) d.ws.length c2]] v fun e w' => e = .returned (.bool true) ∧ Below v.heap.size v w' from fun v hv => by
    have := spec_PolarOk (c0 := c0) (c1 := c1) (c2 := c2) hv.p
    rw [h1, hn3] at this
    exact this)
  clear h1 h3 hX hP hO
  unfold airB at h2
  rw [Bool.and_eq_true] at h2
  obtain ⟨e1, e2⟩ := h2
  unfold geB at e1
  unfold leB at e2
  obtain ⟨x0, x1, x2, _, _, _, _, _, _⟩ := hF
  go_enter Tryz.func92, Tryz.ntmps92
  go_upto_region 1 with fail
  rw [← hW]
  clear hW
  go_wp2_with fail
  refine (HP.out _ HX.out).mono ?_
  rintro e w1 ⟨rfl, hb⟩
  have HY := Lib.hid (HX.out.to hb)
  clear hb HX x0 x1 x2
  have y0 := HY.out.f 0 (by omega)
  rw [Nat.add_zero] at y0
  have y9 := HY.out.f (d.ws.length - 1) (by omega)
  have r0 := HY.out.r 0 (by omega)
  rw [Nat.add_zero] at r0
  have r9 := HY.out.r (d.ws.length - 1) (by omega)
  obtain ⟨x0, x1, x2, _, _, _, _, _, _⟩ := HY.out
  have l1 : IntKind.i64.wrap ((d.ws.length : Int) - 1) = (d.ws.length : Int) - 1 := by rw [IntKind.wrap_i64]; omega
  have l2 : (0 : Int) ≤ (d.ws.length : Int) - 1 := by omega
  have l3 : ((d.ws.length : Int) - 1).toNat = d.ws.length - 1 := by omega
  have l4 : (d.ws.length : Int) - 1 < (d.ws.length : Int) := by omega
  have l5 : (0 : Int) < (d.ws.length : Int) := by omega
  have l6 : 0 < d.ws.length := by omega
  cases hc : leB x (fn d.ws 0)
  · have hcc := hc
    unfold leB at hcc
    rw [Bool.or_eq_false_iff] at hcc
    obtain ⟨hcc1, hcc2⟩ := hcc
    cases hd : geB x (fn d.ws (d.ws.length - 1))
    · obtain ⟨M, _⟩ := mid HO.out HA.out hc hd HG.out.1 HG.out.2
      have HM := Lib.hid M
      have HS := Lib.hid (show speedF d x g = mixF (rowF d.an (rn d.rows (jOf d.ws x)) g) (rowF d.an (rn d.rows (jOf d.ws x + 1)) g) (shareW d.ws x (jOf d.ws x)) by unfold speedF; rw [if_neg (by rw [hc]; decide), if_neg (by rw [hd]; decide)])
      have hdd := hd
      unfold geB at hdd
      rw [Bool.or_eq_false_iff] at hdd
      obtain ⟨hdd1, hdd2⟩ := hdd
      have mlt := M.lt
      obtain ⟨s1, s2, s3, _⟩ := M.sh
      have HMX := Lib.hid M.mx
      clear M hc hd
      generalize speedF d x g = R at *
      generalize jOf d.ws x = j at *
      have u1 := HY.out.f j (by omega)
      have u2 := HY.out.f (j + 1) (by omega)
      go_wp2_with (go_at_call 97; refine (spec_l01In _ _ _ _).mono ?_; rintro e w' ⟨rfl, rfl⟩; rw [H3.out])
      go_loop [10] (fun q => ∃ i : Nat, i ≤ j ∧ q = .int .i64 (i : Int)) (fun q => j - (intOf q).toNat)
      case atStart => exact ⟨0, by omega, rfl⟩
      case round =>
        obtain ⟨i, hi, rfl⟩ := hrel
        have u3 := HY.out.f (i + 1) (by omega)
        by_cases hl : i < j
        · have e1 := HM.out.lo i hl
          unfold leB at e1
          go_wp2_with fail
          go_round
          case rel => exact ⟨i + 1, by omega, by go_num⟩
          case measure => simp [intOf]; omega
        · obtain rfl : i = j := by omega
          have e1 := HM.out.hi
          unfold leB at e1
          rw [Bool.or_eq_false_iff] at e1
          obtain ⟨e1, e2⟩ := e1
          have i1 : IntKind.i64.wrap ((i : Int) + 1) = (i : Int) + 1 := by rw [IntKind.wrap_i64]; omega
          have i2 : (0 : Int) ≤ (i : Int) + 1 := by omega
          have i3 : ((i : Int) + 1).toNat = i + 1 := by omega
          have i4 : (i : Int) + 1 < (d.ws.length : Int) := by omega
          have i5 : (i : Int) < (d.ws.length : Int) := by omega
          go_wp2_with fail
          go_quiet (fail)
          rename_i nq
          go_wp2_with fail
          have HZ := Lib.hid (HY.out.drewN nq)
          clear u1 u2 u3 x0 x1 x2 y0 y9 r0 r9 HY
          generalize w1.drewN nq = W2 at *
          have r1 := HZ.out.r i (by omega)
          have r2 := HZ.out.r (i + 1) (by omega)
          obtain ⟨x0, x1, x2, _, _, _, _, _, _⟩ := HZ.out
          go_quiet (first | (go_at_call 98; exact row_quiet HZ.out.i (HZ.out.q _ (by omega)) (HROW.out _ (by omega)).1 _) | (go_at_call 99; refine Calls.quiet_of_same (spec_l04Mix _ _ _ HMX.out _)))
          go_wp2_with fail
          go_ret2
          exact ⟨by rw [HN.out, HS.out]; rfl, (HZ.out.drewN _).b⟩
    · have HS := Lib.hid (show speedF d x g = rowF d.an (rn d.rows (d.ws.length - 1)) g by unfold speedF; rw [if_neg (by rw [hc]; decide), if_pos hd])
      unfold geB at hd
      unfold leB at hc
      go_wp2_with (go_at_call 97; refine (spec_l01In _ _ _ _).mono ?_; rintro e w' ⟨rfl, rfl⟩; rw [H3.out])
      go_quiet (first | (go_at_call 98; exact row_quiet HY.out.i (HY.out.q _ (by omega)) (HROW.out _ (by omega)).1 _))
      go_wp2_with fail
      go_ret2
      exact ⟨by rw [HN.out, HS.out]; rfl, (HY.out.drewN _).b⟩
  · obtain ⟨q1, q2, _⟩ := low HO.out HA.out hc HG.out.1 HG.out.2
    have HS := Lib.hid (show speedF d x g = fl .mul .f32 (fl .quo .f32 x (fn d.ws 0)) (rowF d.an (rn d.rows 0) g) by unfold speedF; rw [if_pos hc])
    unfold leB at hc
    go_wp2_with (go_at_call 97; refine (spec_l01In _ _ _ _).mono ?_; rintro e w' ⟨rfl, rfl⟩; rw [H3.out])
    go_quiet (first | (go_at_call 98; exact row_quiet HY.out.i (HY.out.q _ (by omega)) (HROW.out _ (by omega)).1 _))
    go_wp2_with fail
    go_ret2
    exact ⟨by rw [HN.out, HS.out]; rfl, (HY.out.drewN _).b⟩
theorem spec_SpeedAt {w : World} {A0 A1 A2 : Option Addr} {c0 c1 c2 : Nat} {d : Pol} (x : Nat) (g : Int) (hP : PolAt w A0 A1 A2 d) :
    Calls Tryz.prog 92 #[.agg #[.slice A0 d.ws.length c0, .slice A1 d.an.length c1, .slice A2 d.rows.length c2], .float .f32 x, .int .i64 g] w fun e w' => e = .returned (.tuple (told d x g)) ∧ Below w.heap.size w w' := by
  cases h : okS d x g
  · exact spec_SpeedAt_no x g hP h
  · have h' := h
    unfold okS at h'
    rw [Bool.and_eq_true, Bool.and_eq_true] at h'
    exact spec_SpeedAt_yes x g hP h'.1 h'.2.1 h'.2.2
end Go.Proofs.YteaiaedhkhmgdaaGreat.Pw
