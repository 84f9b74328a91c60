/- Legs, run one after the other: both sides walk to the same told position. -/
import Derived.Test.YtpapcohenejpmaaLeg
namespace Go.Proofs.Ytpapcohenejpmaa.Rl
open Go.RowKit Kit Fl Bd Tn Vl Al Ve Ro Lg
theorem run_next {c d : Nat} {l : List Leg} {p q : Nat × Nat} {j : Nat} (hj : j < l.length) (h : runL c d (l.take j) p = some q) : runL c d (l.take (j + 1)) p = legO c d q (nth l j) := by
  rw [take_succ hj, runL_app, h]
  exact runL_one c d (nth l j) q
theorem run_stop {c d : Nat} {l : List Leg} {p q : Nat × Nat} {j : Nat} (hj : j < l.length) (h : runL c d (l.take j) p = some q) (hn : legO c d q (nth l j) = none) : runL c d l p = none := by
  have e := runL_app c d (l.take (j + 1)) (l.drop (j + 1)) p
  rw [List.take_append_drop, run_next hj h, hn] at e
  exact e
theorem legs_all {l : List Leg} (h : legsB l = true) {j : Nat} (hj : j < l.length) : legB (nth l j) = true := by
  unfold legsB at h
  rw [Bool.and_eq_true] at h
  exact all_nth h.1 hj
theorem runR_some {c d : Nat} {l : List Leg} {p : Nat × Nat} (h1 : vec p = true) (h2 : legsB l = true) (h3 : air (c, d) = true) : runR c d l p = runL c d l p := by
  unfold runR
  rw [h1, h2, h3]; rfl
theorem runR_no {c d : Nat} {l : List Leg} {p : Nat × Nat} (h : (vec p && legsB l && air (c, d)) = false) : runR c d l p = none := by
  unfold runR
  rw [h]; rfl
theorem speed_leg {g : Leg} (h : legB g = true) : speedB g.s = true ∧ 0 ≤ g.n ∧ g.n ≤ 100000 := by
  unfold legB at h
  simpa only [Bool.and_eq_true, decide_eq_true_eq] using h
theorem drewN_below {B : Nat} {w v : World} (h : Below B w v) (n : Nat) : Below B w (v.drewN n) := ⟨h.os, h.tape, h.output, h.size, h.block⟩
set_option maxRecDepth 100000 in
set_option maxHeartbeats 1000000 in
theorem impl_RunLegs {w : World} {A : Option Addr} {cap : Nat} {l : List Leg} (c d : Nat) (p : Nat × Nat) (hA : At w A l) (hm : l.length ≤ 1000) : Calls Try.prog 23 #[.complex .f64 p.1 p.2, .slice A l.length cap, .complex .f32 c d] w fun e w' => e = .returned (.tuple (asR (runR c d l p))) ∧ Below w.heap.size w w' := by
  have HA := Lib.hid hA
  have HB0 := Lib.hid (Below.refl w.heap.size w)
  clear hA
  cases hp : vec p
  · have HP := Lib.hid hp
    have HR := Lib.hid (runR_no (c := c) (d := d) (l := l) (p := p) (by rw [hp]; rfl))
    clear hp
    go_enter Try.func23, Try.ntmps23
    go_wp2_with (go_at_call 35; refine (Ve.impl_VectorOk _ _ _).mono ?_; rintro e w' ⟨rfl, rfl⟩; rw [show (vOk p.1 && vOk p.2) = false from HP.out])
    go_ret2
    exact ⟨by rw [HR.out]; rfl, HB0.out⟩
  cases hl : legsB l
  · have HP := Lib.hid hp
    have HL := Lib.hid hl
    have HR := Lib.hid (runR_no (c := c) (d := d) (l := l) (p := p) (by rw [hp, hl]; rfl))
    clear hp hl
    go_enter Try.func23, Try.ntmps23
    go_wp2_with (first | (go_at_call 35; refine (Ve.impl_VectorOk _ _ _).mono ?_; rintro e w' ⟨rfl, rfl⟩; rw [show (vOk p.1 && vOk p.2) = true from HP.out]) | (go_at_call 64; refine (impl_legsOk HA.out hm).mono ?_; rintro e w1 ⟨rfl, hb⟩; rw [HL.out]; have HB := Lib.hid hb; clear hb))
    go_ret2
    exact ⟨by rw [HR.out]; rfl, HB.out⟩
  cases ha : air (c, d)
  · have HP := Lib.hid hp
    have HL := Lib.hid hl
    have HV := Lib.hid ha
    have HR := Lib.hid (runR_no (c := c) (d := d) (l := l) (p := p) (by rw [hp, hl, ha]; rfl))
    clear hp hl ha
    go_enter Try.func23, Try.ntmps23
    go_wp2_with (first | (go_at_call 35; refine (Ve.impl_VectorOk _ _ _).mono ?_; rintro e w' ⟨rfl, rfl⟩; rw [show (vOk p.1 && vOk p.2) = true from HP.out]) | (go_at_call 64; refine (impl_legsOk HA.out hm).mono ?_; rintro e w1 ⟨rfl, hb⟩; rw [HL.out]; have HB := Lib.hid hb; clear hb) | (go_at_call 50; refine (impl_VelocityOk _ _ _).mono ?_; rintro e w' ⟨rfl, rfl⟩; rw [show (within100 c && within100 d) = false from HV.out]))
    go_ret2
    exact ⟨by rw [HR.out]; rfl, HB.out⟩
  · have HP := Lib.hid hp
    have HL := Lib.hid hl
    have HV := Lib.hid ha
    have HR := Lib.hid (runR_some (c := c) (d := d) (l := l) (p := p) hp hl ha)
    clear hp hl ha
    go_enter Try.func23, Try.ntmps23
    go_wp2_with (first | (go_at_call 35; refine (Ve.impl_VectorOk _ _ _).mono ?_; rintro e w' ⟨rfl, rfl⟩; rw [show (vOk p.1 && vOk p.2) = true from HP.out]) | (go_at_call 64; refine (impl_legsOk HA.out hm).mono ?_; rintro e w1 ⟨rfl, hb⟩; rw [HL.out]; have HB1 := Lib.hid hb; clear hb) | (go_at_call 50; refine (impl_VelocityOk _ _ _).mono ?_; rintro e w' ⟨rfl, rfl⟩; rw [show (within100 c && within100 d) = true from HV.out]))
    go_loopw [0, 27] (fun u k wr => ∃ (j : Nat) (q : Nat × Nat), j ≤ l.length ∧ k = .int .i64 (j : Int) ∧ u = .complex .f64 q.1 q.2 ∧ runL c d (l.take j) p = some q ∧ vec q = true ∧ Below w.heap.size w wr) (fun _ k _ => l.length - (intOf k).toNat)
    case atStart => exact ⟨0, p, by omega, rfl, rfl, rfl, HP.out, HB1.out⟩
    case round =>
      obtain ⟨j, q, hj, rfl, rfl, hq, hv, hB⟩ := hrel
      have HQ := Lib.hid hq
      have HW := Lib.hid hv
      have HB := Lib.hid hB
      clear hq hv hB
      by_cases hl : j < l.length
      · obtain ⟨b, o, rfl, hL⟩ := HA.out.resolve_left (by omega)
        obtain ⟨c1, c2, c3⟩ := hL j hl
        have hbw : b < w.heap.size := World.block_lt_of_cell? w _ c1
        have d1 := (HB.out.cell (p := ⟨b, o + j * 3, none⟩) hbw).trans c1
        have d2 := (HB.out.cell (p := ⟨b, o + j * 3 + 1, none⟩) hbw).trans c2
        have d3 := (HB.out.cell (p := ⟨b, o + j * 3 + 2, none⟩) hbw).trans c3
        clear hL c1 c2 c3
        have HB1 := Lib.hid (HB.out.alloc HB.out.size (.cells #[.int .i64 (nth l j).h, .float .f32 (nth l j).s, .int .i64 (nth l j).n] 80))
        have HG := Lib.hid (legs_all HL.out hl)
        go_wp2_with fail
        refine (impl_sailed q (nth l j) c d HW.out HG.out HV.out _).mono ?_
        rintro e w1 ⟨rfl, hb⟩
        have HB2 := Lib.hid (HB1.out.trans (hb.mono HB1.out.size))
        clear hb HB1 HB
        cases ho : legO c d q (nth l j) with
        | none =>
          have HO := Lib.hid ho
          clear ho
          simp only [asR]
          go_wp2_with fail
          go_ret2
          exact ⟨by rw [HR.out, run_stop hl HQ.out HO.out]; rfl, HB2.out⟩
        | some q2 =>
          have HO := Lib.hid ho
          clear ho
          simp only [asR]
          go_wp2_with fail
          go_roundw
          case rel => exact ⟨j + 1, q2, by omega, by go_num, rfl, (run_next hl HQ.out).trans HO.out, legO_vec HO.out, HB2.out⟩
          case measure => simp [intOf]; omega
      · obtain rfl : j = l.length := by omega
        go_wp2_with fail
        go_ret2
        exact ⟨by rw [HR.out, ← List.take_length (l := l), HQ.out]; rfl, HB.out⟩
theorem over_quiet {k : Int} {s c d : Nat} (h : (speedB s && (within100 c && within100 d)) = true) (w : World) : Calls Try.prog 68 #[.int .i64 k, .float .f32 s, .complex .f32 c d] w fun e w' => e = .returned (.tuple #[.complex .f32 (vk (tb (deg k)) s c d).1 (vk (tb (deg k)) s c d).2, .bool true]) ∧ w' = w := by
  refine (spec_OverGround k s c d w).mono ?_
  rintro e w' ⟨rfl, rfl⟩
  rw [h, if_pos rfl]
  exact ⟨rfl, rfl⟩
set_option maxRecDepth 100000 in
set_option maxHeartbeats 1000000 in
theorem spec_RunLegs {w : World} {A : Option Addr} {cap : Nat} {l : List Leg} (c d : Nat) (p : Nat × Nat) (hA : At w A l) (hm : l.length ≤ 1000) : Calls Try.prog 24 #[.complex .f64 p.1 p.2, .slice A l.length cap, .complex .f32 c d] w fun e w' => e = .returned (.tuple (asR (runR c d l p))) ∧ Below w.heap.size w w' := by
  have HA := Lib.hid hA
  have HB0 := Lib.hid (Below.refl w.heap.size w)
  clear hA
  cases hp : vec p
  · have HP := Lib.hid hp
    have HR := Lib.hid (runR_no (c := c) (d := d) (l := l) (p := p) (by rw [hp]; rfl))
    clear hp
    go_enter Try.func24, Try.ntmps24
    go_wp2_with (go_at_call 39; refine (Ve.spec_VectorOk _ _ _).mono ?_; rintro e w' ⟨rfl, rfl⟩; rw [show (vOk p.1 && vOk p.2) = false from HP.out])
    go_ret2
    exact ⟨by rw [HR.out]; rfl, HB0.out⟩
  cases hl : legsB l
  · have HP := Lib.hid hp
    have HL := Lib.hid hl
    have HR := Lib.hid (runR_no (c := c) (d := d) (l := l) (p := p) (by rw [hp, hl]; rfl))
    clear hp hl
    go_enter Try.func24, Try.ntmps24
    go_wp2_with (first | (go_at_call 39; refine (Ve.spec_VectorOk _ _ _).mono ?_; rintro e w' ⟨rfl, rfl⟩; rw [show (vOk p.1 && vOk p.2) = true from HP.out]) | (go_at_call 66; refine (spec_l07Legs HA.out hm).mono ?_; rintro e w1 ⟨rfl, hb⟩; rw [HL.out]; have HB := Lib.hid hb; clear hb))
    go_ret2
    exact ⟨by rw [HR.out]; rfl, HB.out⟩
  cases ha : air (c, d)
  · have HP := Lib.hid hp
    have HL := Lib.hid hl
    have HV := Lib.hid ha
    have HR := Lib.hid (runR_no (c := c) (d := d) (l := l) (p := p) (by rw [hp, hl, ha]; rfl))
    clear hp hl ha
    go_enter Try.func24, Try.ntmps24
    go_wp2_with (first | (go_at_call 39; refine (Ve.spec_VectorOk _ _ _).mono ?_; rintro e w' ⟨rfl, rfl⟩; rw [show (vOk p.1 && vOk p.2) = true from HP.out]) | (go_at_call 66; refine (spec_l07Legs HA.out hm).mono ?_; rintro e w1 ⟨rfl, hb⟩; rw [HL.out]; have HB := Lib.hid hb; clear hb) | (go_at_call 67; refine (spec_VelocityOk _ _ _).mono ?_; rintro e w' ⟨rfl, rfl⟩; rw [show (within100 c && within100 d) = false from HV.out]))
    go_ret2
    exact ⟨by rw [HR.out]; rfl, HB.out⟩
  · have HP := Lib.hid hp
    have HL := Lib.hid hl
    have HV := Lib.hid ha
    have HR := Lib.hid (runR_some (c := c) (d := d) (l := l) (p := p) hp hl ha)
    clear hp hl ha
    go_enter Try.func24, Try.ntmps24
    go_wp2_with (first | (go_at_call 39; refine (Ve.spec_VectorOk _ _ _).mono ?_; rintro e w' ⟨rfl, rfl⟩; rw [show (vOk p.1 && vOk p.2) = true from HP.out]) | (go_at_call 66; refine (spec_l07Legs HA.out hm).mono ?_; rintro e w1 ⟨rfl, hb⟩; rw [HL.out]; have HB1 := Lib.hid hb; clear hb) | (go_at_call 67; refine (spec_VelocityOk _ _ _).mono ?_; rintro e w' ⟨rfl, rfl⟩; rw [show (within100 c && within100 d) = true from HV.out]))
    go_loopw [0, 8] (fun u k wr => ∃ (j : Nat) (q : Nat × Nat), j ≤ l.length ∧ k = .int .i64 (j : Int) ∧ u = .complex .f64 q.1 q.2 ∧ runL c d (l.take j) p = some q ∧ vec q = true ∧ Below w.heap.size w wr) (fun _ k _ => l.length - (intOf k).toNat)
    case atStart => exact ⟨0, p, by omega, rfl, rfl, rfl, HP.out, HB1.out⟩
    case round =>
      obtain ⟨j, q, hj, rfl, rfl, hq, hv, hB⟩ := hrel
      have HQ := Lib.hid hq
      have HW := Lib.hid hv
      have HB := Lib.hid hB
      clear hq hv hB
      by_cases hl : j < l.length
      · obtain ⟨b, o, rfl, hL⟩ := HA.out.resolve_left (by omega)
        obtain ⟨c1, c2, c3⟩ := hL j hl
        have hbw : b < w.heap.size := World.block_lt_of_cell? w _ c1
        have d1 := (HB.out.cell (p := ⟨b, o + j * 3, none⟩) hbw).trans c1
        have d2 := (HB.out.cell (p := ⟨b, o + j * 3 + 1, none⟩) hbw).trans c2
        have d3 := (HB.out.cell (p := ⟨b, o + j * 3 + 2, none⟩) hbw).trans c3
        clear hL c1 c2 c3
        have HG := Lib.hid (speed_leg (legs_all HL.out hl))
        have HO := Lib.hid (show (speedB (nth l j).s && (within100 c && within100 d)) = true by rw [HG.out.1]; exact HV.out)
        go_wp2_with fail
        go_quiet (first | (go_at_call 68; refine Calls.quiet_of_same (over_quiet HO.out _)))
        go_wp2_with fail
        refine (spec_StepOn q (vk (tb (deg (nth l j).h)) (nth l j).s c d) (nth l j).n HW.out HG.out.2.1 HG.out.2.2 _).mono ?_
        rintro e w1 ⟨rfl, rfl⟩
        have HL2 := Lib.hid (show legO c d q (nth l j) = if stepB q (vk (tb (deg (nth l j).h)) (nth l j).s c d) (nth l j).n = true then some (stepF q (vk (tb (deg (nth l j).h)) (nth l j).s c d) (nth l j).n) else none from rfl)
        rw [← HL2.out]
        clear HL2
        cases ho : legO c d q (nth l j) with
        | none =>
          have HO := Lib.hid ho
          clear ho
          simp only [asR]
          go_wp2_with fail
          go_ret2
          exact ⟨by rw [HR.out, run_stop hl HQ.out HO.out]; rfl, drewN_below HB.out _⟩
        | some q2 =>
          have HO := Lib.hid ho
          clear ho
          simp only [asR]
          go_wp2_with fail
          go_roundw
          case rel => exact ⟨j + 1, q2, by omega, by go_num, rfl, (run_next hl HQ.out).trans HO.out, legO_vec HO.out, drewN_below HB.out _⟩
          case measure => simp [intOf]; omega
      · obtain rfl : j = l.length := by omega
        go_wp2_with fail
        go_ret2
        exact ⟨by rw [HR.out, ← List.take_length (l := l), HQ.out]; rfl, HB.out⟩
end Go.Proofs.Ytpapcohenejpmaa.Rl
