/- Tack and jibe headings: both sides; the side of a wind. Printed by gen/mktack.py. -/
import Derived.Test.YteaiaedhkhmgdaaBear
import Derived.Test.YteaiaedhkhmgdaaBest3
import Derived.Deep.DeepCutAuto
import Derived.Deep.RegionWith
namespace Go.Proofs.Yteaiaedhkhmgdaa.Tk
open Go.RowKit Kit Fl Bd Tn Ve Be Pf Pw Mu
/-- how far a wind stands beside a heading -/
def asideI (h f : Int) : Int := if 180 < (f % 360 - h % 360) % 360 then (f % 360 - h % 360) % 360 - 360 else (f % 360 - h % 360) % 360
def sideI (h f : Int) : Int := if 1 ≤ asideI h f ∧ asideI h f ≤ 179 then 1 else if asideI h f < 0 then -1 else 0
theorem impl_Aside (h f : Int) (w : World) : Calls Try.prog 62 #[.int .i64 h, .int .i64 f] w fun e w' => e = .returned (.int .i64 (asideI h f)) ∧ w = w' := by
  obtain ⟨A, hA⟩ : ∃ A, h % 360 = A := ⟨_, rfl⟩
  obtain ⟨B, hB⟩ : ∃ B, f % 360 = B := ⟨_, rfl⟩
  obtain ⟨D, hD⟩ : ∃ D, (B - A) % 360 = D := ⟨_, rfl⟩
  have a1 : 0 ≤ A := by omega
  have a2 : A < 360 := by omega
  have b1 : 0 ≤ B := by omega
  have b2 : B < 360 := by omega
  have d1 : 0 ≤ D := by omega
  have d2 : D < 360 := by omega
  have HA := Lib.hid hA
  have HB := Lib.hid hB
  have HD := Lib.hid hD
  have HR := Lib.hid (show asideI h f = if 180 < D then D - 360 else D by unfold asideI; rw [hA, hB, hD])
  clear hA hB hD
  by_cases hc : 180 < D
  all_goals go_enter Try.func62, Try.ntmps62
  all_goals go_wp2_with fail
  all_goals refine (impl_mod _ _).mono ?_
  all_goals rintro e w' ⟨rfl, rfl⟩
  all_goals rw [HB.out]
  all_goals go_wp2_with fail
  all_goals refine (impl_mod _ _).mono ?_
  all_goals rintro e w' ⟨rfl, rfl⟩
  all_goals rw [HA.out]
  all_goals go_wp2_with fail
  all_goals refine (impl_mod _ _).mono ?_
  all_goals rintro e w' ⟨rfl, rfl⟩
  all_goals rw [HD.out]
  all_goals go_wp2
  all_goals go_ret
  all_goals exact ⟨congrArg (fun n => Ending.returned (.int .i64 n)) (by rw [HR.out]; split <;> omega), rfl⟩
theorem aside_range (h f : Int) : -180 ≤ asideI h f ∧ asideI h f ≤ 180 := by
  unfold asideI
  split <;> omega
theorem impl_WindSide (h f : Int) (w : World) : Calls Try.prog 27 #[.int .i64 h, .int .i64 f] w fun e w' => e = .returned (.int .i64 (sideI h f)) ∧ w = w' := by
  have hr := aside_range h f
  obtain ⟨D, hD⟩ : ∃ D, asideI h f = D := ⟨_, rfl⟩
  rw [hD] at hr
  have HR := Lib.hid (show sideI h f = if 1 ≤ D ∧ D ≤ 179 then 1 else if D < 0 then -1 else 0 by unfold sideI; rw [hD])
  have HD := Lib.hid hD
  clear hD
  rcases (show D < 0 ∨ (1 ≤ D ∧ D ≤ 179) ∨ (0 ≤ D ∧ (D = 0 ∨ D = 180)) by omega) with h1 | h1 | h1
  · have HW := Lib.hid (show (decide ((1 : Int) ≤ D) && decide (D ≤ 179)) = false by simp; omega)
    have HQ := Lib.hid h1
    go_enter Try.func27, Try.ntmps27
    go_wp2_with fail
    refine (impl_Aside _ _ _).mono ?_
    rintro e w' ⟨rfl, rfl⟩
    rw [HD.out]
    go_wp2_with fail
    refine (Ve.impl_within _ _ _ _).mono ?_
    rintro e w' ⟨rfl, rfl⟩
    rw [HW.out]
    go_wp2_with fail
    all_goals go_ret
    all_goals (have := HQ.out)
    all_goals exact ⟨congrArg (fun n => Ending.returned (.int .i64 n)) (by rw [HR.out]; (repeat' split) <;> omega), rfl⟩
  · have HW := Lib.hid (show (decide ((1 : Int) ≤ D) && decide (D ≤ 179)) = true by simp; omega)
    have HQ := Lib.hid h1
    go_enter Try.func27, Try.ntmps27
    go_wp2_with fail
    refine (impl_Aside _ _ _).mono ?_
    rintro e w' ⟨rfl, rfl⟩
    rw [HD.out]
    go_wp2_with fail
    refine (Ve.impl_within _ _ _ _).mono ?_
    rintro e w' ⟨rfl, rfl⟩
    rw [HW.out]
    go_wp2_with fail
    all_goals go_ret
    all_goals (have := HQ.out)
    all_goals exact ⟨congrArg (fun n => Ending.returned (.int .i64 n)) (by rw [HR.out]; (repeat' split) <;> omega), rfl⟩
  · have HW := Lib.hid (show (decide ((1 : Int) ≤ D) && decide (D ≤ 179)) = false by simp; omega)
    have HQ := Lib.hid h1
    go_enter Try.func27, Try.ntmps27
    go_wp2_with fail
    refine (impl_Aside _ _ _).mono ?_
    rintro e w' ⟨rfl, rfl⟩
    rw [HD.out]
    go_wp2_with fail
    refine (Ve.impl_within _ _ _ _).mono ?_
    rintro e w' ⟨rfl, rfl⟩
    rw [HW.out]
    go_wp2_with fail
    all_goals go_ret
    all_goals (have := HQ.out)
    all_goals exact ⟨congrArg (fun n => Ending.returned (.int .i64 n)) (by rw [HR.out]; (repeat' split) <;> omega), rfl⟩
noncomputable def headR (a b : Nat) (k : Int) (r : Bool) : Array Value := if 0 ≤ fromI a b ∧ r = true then #[.int .i64 ((fromI a b - k) % 360), .int .i64 ((fromI a b + k) % 360), .bool true] else #[.int .i64 0, .int .i64 0, .bool false]
theorem impl_headings (a b : Nat) (k : Int) (k0 : 0 ≤ k) (k1 : k ≤ 360) (r : Bool) (w : World) : Calls Try.prog 55 #[.complex .f32 a b, .int .i64 k, .bool r] w fun e w' => e = .returned (.tuple (headR a b k r)) ∧ Below w.heap.size w w' := by
  have hr := fromI_range a b
  obtain ⟨f, hf⟩ : ∃ f, fromI a b = f := ⟨_, rfl⟩
  rw [hf] at hr
  have HR := Lib.hid (show headR a b k r = if 0 ≤ f ∧ r = true then #[.int .i64 ((f - k) % 360), .int .i64 ((f + k) % 360), .bool true] else #[.int .i64 0, .int .i64 0, .bool false] by unfold headR; rw [hf])
  have HF := Lib.hid hf
  clear hf
  by_cases h0 : f < 0
  · have HE := Lib.hid (HR.out.trans (if_neg (by omega)))
    go_enter Try.func55, Try.ntmps55
    go_wp2_with fail
    refine (impl_FromOf _ _ _).mono ?_
    rintro e w1 ⟨rfl, hb⟩
    rw [HF.out]
    have HB := Lib.hid hb
    clear hb
    go_wp2_with fail
    go_ret3
    exact ⟨by rw [HE.out]; rfl, HB.out⟩
  · cases r
    · have HE := Lib.hid (HR.out.trans (if_neg (by simp)))
      go_enter Try.func55, Try.ntmps55
      go_wp2_with fail
      refine (impl_FromOf _ _ _).mono ?_
      rintro e w1 ⟨rfl, hb⟩
      rw [HF.out]
      have HB := Lib.hid hb
      clear hb
      go_wp2_with fail
      go_ret3
      exact ⟨by rw [HE.out]; rfl, HB.out⟩
    · have HE := Lib.hid (HR.out.trans (if_pos ⟨by omega, rfl⟩))
      go_enter Try.func55, Try.ntmps55
      go_wp2_with fail
      refine (impl_FromOf _ _ _).mono ?_
      rintro e w1 ⟨rfl, hb⟩
      rw [HF.out]
      have HB := Lib.hid hb
      clear hb
      go_wp2_with fail
      refine (impl_mod _ _).mono ?_
      rintro e w' ⟨rfl, rfl⟩
      go_wp2_with fail
      refine (impl_mod _ _).mono ?_
      rintro e w' ⟨rfl, rfl⟩
      go_wp2_with fail
      go_ret3
      exact ⟨by rw [HE.out]; rfl, HB.out⟩
set_option maxRecDepth 100000 in
set_option maxHeartbeats 1000000 in
theorem impl_TackHeadings {w : World} {A0 A1 A2 : Option Addr} {c0 c1 c2 : Nat} {d : Pol} (a b : Nat) {k : Nat} {r : Bool} (hP : PolAt w A0 A1 A2 d) (he : BestUp.bestR d (speedW a b) = #[.int .i64 (k : Int), .bool r]) (hk : k ≤ 180) :
    Calls Try.prog 22 #[.agg #[.slice A0 d.ws.length c0, .slice A1 d.an.length c1, .slice A2 d.rows.length c2], .complex .f32 a b] w fun e w' => e = .returned (.tuple (headR a b (k : Int) r)) ∧ Below w.heap.size w w' := by
  obtain ⟨W, hW, hX⟩ := boxed (c0 := c0) (c1 := c1) (c2 := c2) hP
  have HY := Lib.hid hX
  have HE := Lib.hid he
  clear hP hX he
  go_enter Try.func22, Try.ntmps22
  go_upto_region 1 with fail
  rw [← hW]
  clear hW
  obtain ⟨x0, x1, x2⟩ := HY.out.of
  go_cut [7, 8] (fun s t wr => s = .int .i64 (k : Int) ∧ t = .bool r ∧ Below w.heap.size w wr)
  case first =>
    go_region_with (first | (go_at_call 25; refine (impl_WindSpeed _ _ _).mono ?_; rintro e w' ⟨rfl, rfl⟩) | (go_at_call 10; refine (BestUp.impl_BestUp (speedW a b) (PolAt.below HY.out.p (Below.refl _ _).drew)).mono ?_; rintro e w1 ⟨rfl, hb⟩; have HB := Lib.hid (HY.out.b.trans (((Below.refl _ _).drew.trans hb).mono HY.out.b.size)); clear hb; rw [HE.out]))
    all_goals (go_wp2_with fail)
    all_goals go_meet
    all_goals exact ⟨rfl, rfl, HB.out⟩
  case rest =>
    obtain ⟨rfl, rfl, hB⟩ := hcut
    have HB := Lib.hid hB
    clear hB x0 x1 x2
    go_wp2_with fail
    refine (impl_headings a b (k : Int) (by omega) (by omega) r _).mono ?_
    rintro e w1 ⟨rfl, hb⟩
    have HC := Lib.hid (HB.out.trans (hb.mono HB.out.size))
    clear hb
    by_cases hc : 0 ≤ fromI a b ∧ r = true
    · have HH := Lib.hid (show headR a b (k : Int) r = _ from if_pos hc)
      rw [HH.out]
      clear hc
      go_wp2_with fail
      go_ret3
      exact ⟨by rw [HH.out]; rfl, HC.out⟩
    · have HH := Lib.hid (show headR a b (k : Int) r = _ from if_neg hc)
      rw [HH.out]
      clear hc
      go_wp2_with fail
      go_ret3
      exact ⟨by rw [HH.out]; rfl, HC.out⟩
set_option maxRecDepth 100000 in
set_option maxHeartbeats 1000000 in
theorem spec_TackHeadings {w : World} {A0 A1 A2 : Option Addr} {c0 c1 c2 : Nat} {d : Pol} (a b : Nat) {k : Nat} {r : Bool} (hP : PolAt w A0 A1 A2 d) (he : BestUp.bestR d (speedW a b) = #[.int .i64 (k : Int), .bool r]) (hk : k ≤ 180) :
    Calls Try.prog 23 #[.agg #[.slice A0 d.ws.length c0, .slice A1 d.an.length c1, .slice A2 d.rows.length c2], .complex .f32 a b] w fun e w' => (∃ x y : Int, e = .returned (.tuple #[.int .i64 x, .int .i64 y, .bool (decide (0 ≤ fromI a b) && r)])) ∧ Below w.heap.size w w' := by
  obtain ⟨W, hW, hX⟩ := boxed (c0 := c0) (c1 := c1) (c2 := c2) hP
  have HY := Lib.hid hX
  have HE := Lib.hid he
  clear hP hX he
  go_enter Try.func23, Try.ntmps23
  go_upto_region 1 with fail
  rw [← hW]
  clear hW
  obtain ⟨x0, x1, x2⟩ := HY.out.of
  go_wp2_with fail
  refine (spec_FromOf _ _ _).mono ?_
  rintro e w' ⟨⟨f, rfl, hs, f0, f1⟩, rfl⟩
  have HS := Lib.hid hs
  clear hs
  go_upto_region 2 with fail
  go_cut [8, 9] (fun s t wr => s = .int .i64 (k : Int) ∧ t = .bool r ∧ Below w.heap.size w wr)
  case first =>
    go_region_with (first | (go_at_call 57; refine (spec_WindSpeed _ _ _).mono ?_; rintro e w' ⟨rfl, rfl⟩) | (go_at_call 8; refine (BestUp.spec_BestUp (speedW a b) (PolAt.below HY.out.p (Below.refl _ _).drew)).mono ?_; rintro e w1 ⟨rfl, hb⟩; have HB := Lib.hid (HY.out.b.trans (((Below.refl _ _).drew.trans hb).mono HY.out.b.size)); clear hb; rw [HE.out]))
    all_goals (go_wp2_with fail)
    all_goals go_meet
    all_goals exact ⟨rfl, rfl, HB.out⟩
  case rest =>
    obtain ⟨rfl, rfl, hB⟩ := hcut
    have HB := Lib.hid hB
    clear hB x0 x1 x2
    by_cases hc : f < 0
    · have HD := Lib.hid (show decide (0 ≤ fromI a b) = false from decide_eq_false (by have := HS.out.1 hc; omega))
      go_wp2_with fail
      go_ret3
      exact ⟨⟨0, 0, by first | (rw [HD.out]; rfl) | rfl⟩, HB.out⟩
    · have HD := Lib.hid (show decide (0 ≤ fromI a b) = true from decide_eq_true (Int.not_lt.1 (fun h => hc (HS.out.2 h))))
      cases r
      · go_wp2_with fail
        go_ret3
        exact ⟨⟨0, 0, by first | (rw [HD.out]; rfl) | rfl⟩, HB.out⟩
      · go_wp2_with fail
        refine (spec_mod _ _).mono ?_
        rintro e w' ⟨rfl, rfl⟩
        go_wp2_with fail
        refine (spec_mod _ _).mono ?_
        rintro e w' ⟨rfl, rfl⟩
        go_wp2_with fail
        go_ret3
        exact ⟨⟨_, _, by first | (rw [HD.out]; rfl) | rfl⟩, HB.out⟩
set_option maxRecDepth 100000 in
set_option maxHeartbeats 1000000 in
theorem impl_JibeHeadings {w : World} {A0 A1 A2 : Option Addr} {c0 c1 c2 : Nat} {d : Pol} (a b : Nat) {k : Nat} {r : Bool} (hP : PolAt w A0 A1 A2 d) (he : BestDown.bestR d (speedW a b) = #[.int .i64 (k : Int), .bool r]) (hk : k ≤ 180) :
    Calls Try.prog 28 #[.agg #[.slice A0 d.ws.length c0, .slice A1 d.an.length c1, .slice A2 d.rows.length c2], .complex .f32 a b] w fun e w' => e = .returned (.tuple (headR a b (k : Int) r)) ∧ Below w.heap.size w w' := by
  obtain ⟨W, hW, hX⟩ := boxed (c0 := c0) (c1 := c1) (c2 := c2) hP
  have HY := Lib.hid hX
  have HE := Lib.hid he
  clear hP hX he
  go_enter Try.func28, Try.ntmps28
  go_upto_region 1 with fail
  rw [← hW]
  clear hW
  obtain ⟨x0, x1, x2⟩ := HY.out.of
  go_cut [7, 8] (fun s t wr => s = .int .i64 (k : Int) ∧ t = .bool r ∧ Below w.heap.size w wr)
  case first =>
    go_region_with (first | (go_at_call 25; refine (impl_WindSpeed _ _ _).mono ?_; rintro e w' ⟨rfl, rfl⟩) | (go_at_call 13; refine (BestDown.impl_BestDown (speedW a b) (PolAt.below HY.out.p (Below.refl _ _).drew)).mono ?_; rintro e w1 ⟨rfl, hb⟩; have HB := Lib.hid (HY.out.b.trans (((Below.refl _ _).drew.trans hb).mono HY.out.b.size)); clear hb; rw [HE.out]))
    all_goals (go_wp2_with fail)
    all_goals go_meet
    all_goals exact ⟨rfl, rfl, HB.out⟩
  case rest =>
    obtain ⟨rfl, rfl, hB⟩ := hcut
    have HB := Lib.hid hB
    clear hB x0 x1 x2
    go_wp2_with fail
    refine (impl_headings a b (k : Int) (by omega) (by omega) r _).mono ?_
    rintro e w1 ⟨rfl, hb⟩
    have HC := Lib.hid (HB.out.trans (hb.mono HB.out.size))
    clear hb
    by_cases hc : 0 ≤ fromI a b ∧ r = true
    · have HH := Lib.hid (show headR a b (k : Int) r = _ from if_pos hc)
      rw [HH.out]
      clear hc
      go_wp2_with fail
      go_ret3
      exact ⟨by rw [HH.out]; rfl, HC.out⟩
    · have HH := Lib.hid (show headR a b (k : Int) r = _ from if_neg hc)
      rw [HH.out]
      clear hc
      go_wp2_with fail
      go_ret3
      exact ⟨by rw [HH.out]; rfl, HC.out⟩
set_option maxRecDepth 100000 in
set_option maxHeartbeats 1000000 in
theorem spec_JibeHeadings {w : World} {A0 A1 A2 : Option Addr} {c0 c1 c2 : Nat} {d : Pol} (a b : Nat) {k : Nat} {r : Bool} (hP : PolAt w A0 A1 A2 d) (he : BestDown.bestR d (speedW a b) = #[.int .i64 (k : Int), .bool r]) (hk : k ≤ 180) :
    Calls Try.prog 24 #[.agg #[.slice A0 d.ws.length c0, .slice A1 d.an.length c1, .slice A2 d.rows.length c2], .complex .f32 a b] w fun e w' => (∃ x y : Int, e = .returned (.tuple #[.int .i64 x, .int .i64 y, .bool (decide (0 ≤ fromI a b) && r)])) ∧ Below w.heap.size w w' := by
  obtain ⟨W, hW, hX⟩ := boxed (c0 := c0) (c1 := c1) (c2 := c2) hP
  have HY := Lib.hid hX
  have HE := Lib.hid he
  clear hP hX he
  go_enter Try.func24, Try.ntmps24
  go_upto_region 1 with fail
  rw [← hW]
  clear hW
  obtain ⟨x0, x1, x2⟩ := HY.out.of
  go_wp2_with fail
  refine (spec_FromOf _ _ _).mono ?_
  rintro e w' ⟨⟨f, rfl, hs, f0, f1⟩, rfl⟩
  have HS := Lib.hid hs
  clear hs
  go_upto_region 2 with fail
  go_cut [8, 9] (fun s t wr => s = .int .i64 (k : Int) ∧ t = .bool r ∧ Below w.heap.size w wr)
  case first =>
    go_region_with (first | (go_at_call 57; refine (spec_WindSpeed _ _ _).mono ?_; rintro e w' ⟨rfl, rfl⟩) | (go_at_call 12; refine (BestDown.spec_BestDown (speedW a b) (PolAt.below HY.out.p (Below.refl _ _).drew)).mono ?_; rintro e w1 ⟨rfl, hb⟩; have HB := Lib.hid (HY.out.b.trans (((Below.refl _ _).drew.trans hb).mono HY.out.b.size)); clear hb; rw [HE.out]))
    all_goals (go_wp2_with fail)
    all_goals go_meet
    all_goals exact ⟨rfl, rfl, HB.out⟩
  case rest =>
    obtain ⟨rfl, rfl, hB⟩ := hcut
    have HB := Lib.hid hB
    clear hB x0 x1 x2
    by_cases hc : f < 0
    · have HD := Lib.hid (show decide (0 ≤ fromI a b) = false from decide_eq_false (by have := HS.out.1 hc; omega))
      go_wp2_with fail
      go_ret3
      exact ⟨⟨0, 0, by first | (rw [HD.out]; rfl) | rfl⟩, HB.out⟩
    · have HD := Lib.hid (show decide (0 ≤ fromI a b) = true from decide_eq_true (Int.not_lt.1 (fun h => hc (HS.out.2 h))))
      cases r
      · go_wp2_with fail
        go_ret3
        exact ⟨⟨0, 0, by first | (rw [HD.out]; rfl) | rfl⟩, HB.out⟩
      · go_wp2_with fail
        refine (spec_mod _ _).mono ?_
        rintro e w' ⟨rfl, rfl⟩
        go_wp2_with fail
        refine (spec_mod _ _).mono ?_
        rintro e w' ⟨rfl, rfl⟩
        go_wp2_with fail
        go_ret3
        exact ⟨⟨_, _, by first | (rw [HD.out]; rfl) | rfl⟩, HB.out⟩
end Go.Proofs.Yteaiaedhkhmgdaa.Tk
