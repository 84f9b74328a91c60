/- Tack and jibe headings: both sides; the side of a wind. Printed by gen/mktack.py. -/
import Derived.Test.YteaiaedhkhmgdaaGreatBear
import Derived.Test.YteaiaedhkhmgdaaGreatBest3
import Derived.Deep.DeepCutAuto
import Derived.Deep.RegionWith
namespace Go.Proofs.YteaiaedhkhmgdaaGreat.Tk
open Go.RowKit Kit Fl Bd Tn Ve Be Pf Pw Mu
/-- how far a wind stands beside a heading -/
def asideI (h f : Int) : Int := if 180 < (f % 360 - h % 360) % 360 then (f % 360 - h % 360) % 360 - 360 else (f % 360 - h % 360) % 360
def sideI (h f : Int) : Int := if 1 ≤ asideI h f ∧ asideI h f ≤ 179 then 1 else if asideI h f < 0 then -1 else 0
theorem aside_range (h f : Int) : -180 ≤ asideI h f ∧ asideI h f ≤ 180 := by
  unfold asideI
  split <;> omega
noncomputable def headR (a b : Nat) (k : Int) (r : Bool) : Array Value := if 0 ≤ fromI a b ∧ r = true then #[.int .i64 ((fromI a b - k) % 360), .int .i64 ((fromI a b + k) % 360), .bool true] else #[.int .i64 0, .int .i64 0, .bool false]
theorem impl_headings (a b : Nat) (k : Int) (k0 : 0 ≤ k) (k1 : k ≤ 360) (r : Bool) (w : World) : Calls Tryz.prog 37 #[.complex .f32 a b, .int .i64 k, .bool r] w fun e w' => e = .returned (.tuple (headR a b k r)) ∧ Below w.heap.size w w' := by
  have hr := fromI_range a b
  obtain ⟨f, hf⟩ : ∃ f, fromI a b = f := ⟨_, rfl⟩
  rw [hf] at hr
  have HR := Lib.hid (show headR a b k r = if 0 ≤ f ∧ r = true then #[.int .i64 ((f - k) % 360), .int .i64 ((f + k) % 360), .bool true] else #[.int .i64 0, .int .i64 0, .bool false] by unfold headR; rw [hf])
  have HF := Lib.hid hf
  clear hf
  by_cases h0 : f < 0
  · have HE := Lib.hid (HR.out.trans (if_neg (by omega)))
    go_enter Tryz.func37, Tryz.ntmps37
    go_wp2_with fail
    refine (impl_FromOf _ _ _).mono ?_
    rintro e w1 ⟨rfl, hb⟩
    rw [HF.out]
    have HB := Lib.hid hb
    clear hb
    go_wp2_with fail
    go_ret3
    exact ⟨by rw [HE.out]; rfl, HB.out⟩
  · cases r
    · have HE := Lib.hid (HR.out.trans (if_neg (by simp)))
      go_enter Tryz.func37, Tryz.ntmps37
      go_wp2_with fail
      refine (impl_FromOf _ _ _).mono ?_
      rintro e w1 ⟨rfl, hb⟩
      rw [HF.out]
      have HB := Lib.hid hb
      clear hb
      go_wp2_with fail
      go_ret3
      exact ⟨by rw [HE.out]; rfl, HB.out⟩
    · have HE := Lib.hid (HR.out.trans (if_pos ⟨by omega, rfl⟩))
      go_enter Tryz.func37, Tryz.ntmps37
      go_wp2_with fail
      refine (impl_FromOf _ _ _).mono ?_
      rintro e w1 ⟨rfl, hb⟩
      rw [HF.out]
      have HB := Lib.hid hb
      clear hb
      go_wp2_with fail
      refine (impl_mod _ _).mono ?_
      rintro e w' ⟨rfl, rfl⟩
      go_wp2_with fail
      refine (impl_mod _ _).mono ?_
      rintro e w' ⟨rfl, rfl⟩
      go_wp2_with fail
      go_ret3
      exact ⟨by rw [HE.out]; rfl, HB.out⟩
set_option maxRecDepth 100000 in
set_option maxHeartbeats 1000000 in
theorem impl_TackHeadings {w : World} {A0 A1 A2 : Option Addr} {c0 c1 c2 : Nat} {d : Pol} (a b : Nat) {k : Nat} {r : Bool} (hP : PolAt w A0 A1 A2 d) (he : BestUp.bestR d (speedW a b) = #[.int .i64 (k : Int), .bool r]) (hk : k ≤ 180) :
    Calls Tryz.prog 28 #[.agg #[.slice A0 d.ws.length c0, .slice A1 d.an.length c1, .slice A2 d.rows.length c2], .complex .f32 a b] w fun e w' => e = .returned (.tuple (headR a b (k : Int) r)) ∧ Below w.heap.size w w' := by
  obtain ⟨W, hW, hX⟩ := boxed (c0 := c0) (c1 := c1) (c2 := c2) hP
  have HY := Lib.hid hX
  have HE := Lib.hid he
  clear hP hX he
  go_enter Tryz.func28, Tryz.ntmps28
  go_upto_region 1 with fail
  rw [← hW]
  clear hW
  obtain ⟨x0, x1, x2⟩ := HY.out.of
  go_cut [7, 8] (fun s t wr => s = .int .i64 (k : Int) ∧ t = .bool r ∧ Below w.heap.size w wr)
  case first =>
    go_region_with (first | (go_at_call 7; refine (impl_WindSpeed _ _ _).mono ?_; rintro e w' ⟨rfl, rfl⟩) | (go_at_call 10; refine (BestUp.impl_BestUp (speedW a b) (PolAt.below HY.out.p (Below.refl _ _).drew)).mono ?_; rintro e w1 ⟨rfl, hb⟩; have HB := Lib.hid (HY.out.b.trans (((Below.refl _ _).drew.trans hb).mono HY.out.b.size)); clear hb; rw [HE.out]))
    all_goals (go_wp2_with fail)
    all_goals go_meet
    all_goals exact ⟨rfl, rfl, HB.out⟩
  case rest =>
    obtain ⟨rfl, rfl, hB⟩ := hcut
    have HB := Lib.hid hB
    clear hB x0 x1 x2
    go_wp2_with fail
    refine (impl_headings a b (k : Int) (by omega) (by omega) r _).mono ?_
    rintro e w1 ⟨rfl, hb⟩
    have HC := Lib.hid (HB.out.trans (hb.mono HB.out.size))
    clear hb
    by_cases hc : 0 ≤ fromI a b ∧ r = true
    · have HH := Lib.hid (show headR a b (k : Int) r = _ from if_pos hc)
      rw [HH.out]
      clear hc
      go_wp2_with fail
      go_ret3
      exact ⟨by rw [HH.out]; rfl, HC.out⟩
    · have HH := Lib.hid (show headR a b (k : Int) r = _ from if_neg hc)
      rw [HH.out]
      clear hc
      go_wp2_with fail
      go_ret3
      exact ⟨by rw [HH.out]; rfl, HC.out⟩
set_option maxRecDepth 100000 in
set_option maxHeartbeats 1000000 in
theorem spec_TackHeadingsX {w : World} {A0 A1 A2 : Option Addr} {c0 c1 c2 : Nat} {d : Pol} (a b : Nat) {k : Nat} {r : Bool} (hP : PolAt w A0 A1 A2 d) (he : BestUp.bestR d (speedW a b) = #[.int .i64 (k : Int), .bool r]) (hk : k ≤ 180) :
    Calls Tryz.prog 17 #[.agg #[.slice A0 d.ws.length c0, .slice A1 d.an.length c1, .slice A2 d.rows.length c2], .complex .f32 a b] w fun e w' => e = .returned (.tuple (headR a b (k : Int) r)) ∧ Below w.heap.size w w' := by
  obtain ⟨W, hW, hX⟩ := boxed (c0 := c0) (c1 := c1) (c2 := c2) hP
  have HY := Lib.hid hX
  have HE := Lib.hid he
  have hr := fromI_range a b
  obtain ⟨f, hf⟩ : ∃ f, fromI a b = f := ⟨_, rfl⟩
  rw [hf] at hr
  have HR := Lib.hid (show headR a b (k : Int) r = if 0 ≤ f ∧ r = true then #[.int .i64 ((f - (k : Int)) % 360), .int .i64 ((f + (k : Int)) % 360), .bool true] else #[.int .i64 0, .int .i64 0, .bool false] by unfold headR; rw [hf])
  have HF := Lib.hid hf
  clear hP hX he hf
  go_enter Tryz.func17, Tryz.ntmps17
  go_upto_region 1 with fail
  rw [← hW]
  clear hW
  obtain ⟨x0, x1, x2⟩ := HY.out.of
  go_wp2_with fail
  refine (spec_FromOf _ _ _).mono ?_
  rintro e w' ⟨rfl, rfl⟩
  rw [HF.out]
  go_upto_region 2 with fail
  go_cut [8, 9] (fun s t wr => s = .int .i64 (k : Int) ∧ t = .bool r ∧ Below w.heap.size w wr)
  case first =>
    go_region_with (first | (go_at_call 49; refine (spec_WindSpeed _ _ _).mono ?_; rintro e w' ⟨rfl, rfl⟩) | (go_at_call 48; refine (BestUp.spec_BestUp (speedW a b) (PolAt.below HY.out.p (Below.refl _ _).drew)).mono ?_; rintro e w1 ⟨rfl, hb⟩; have HB := Lib.hid (HY.out.b.trans (((Below.refl _ _).drew.trans hb).mono HY.out.b.size)); clear hb; rw [HE.out]))
    all_goals (go_wp2_with fail)
    all_goals go_meet
    all_goals exact ⟨rfl, rfl, HB.out⟩
  case rest =>
    obtain ⟨rfl, rfl, hB⟩ := hcut
    have HB := Lib.hid hB
    clear hB x0 x1 x2
    by_cases hc : f < 0
    · have HD := Lib.hid (HR.out.trans (if_neg (by omega)))
      go_wp2_with fail
      go_ret3
      exact ⟨by rw [HD.out]; rfl, HB.out⟩
    · cases r
      · have HD := Lib.hid (HR.out.trans (if_neg (by simp)))
        go_wp2_with fail
        go_ret3
        exact ⟨by rw [HD.out]; rfl, HB.out⟩
      · have HD := Lib.hid (HR.out.trans (if_pos ⟨by omega, rfl⟩))
        go_wp2_with fail
        refine (spec_mod _ _).mono ?_
        rintro e w' ⟨rfl, rfl⟩
        go_wp2_with fail
        refine (spec_mod _ _).mono ?_
        rintro e w' ⟨rfl, rfl⟩
        go_wp2_with fail
        go_ret3
        exact ⟨by rw [HD.out]; rfl, HB.out⟩
theorem spec_TackHeadings {w : World} {A0 A1 A2 : Option Addr} {c0 c1 c2 : Nat} {d : Pol} (a b : Nat) {k : Nat} {r : Bool} (hP : PolAt w A0 A1 A2 d) (he : BestUp.bestR d (speedW a b) = #[.int .i64 (k : Int), .bool r]) (hk : k ≤ 180) :
    Calls Tryz.prog 17 #[.agg #[.slice A0 d.ws.length c0, .slice A1 d.an.length c1, .slice A2 d.rows.length c2], .complex .f32 a b] w fun e w' => (∃ x y : Int, e = .returned (.tuple #[.int .i64 x, .int .i64 y, .bool (decide (0 ≤ fromI a b) && r)])) ∧ Below w.heap.size w w' := by
  refine (spec_TackHeadingsX a b hP he hk).mono ?_
  rintro e w' ⟨rfl, hb⟩
  refine ⟨?_, hb⟩
  unfold headR
  by_cases hc : 0 ≤ fromI a b ∧ r = true
  · rw [if_pos hc, decide_eq_true hc.1, hc.2]
    exact ⟨_, _, rfl⟩
  · rw [if_neg hc]
    have h : (decide (0 ≤ fromI a b) && r) = false := by
      cases hb : (decide (0 ≤ fromI a b) && r)
      · rfl
      · rw [Bool.and_eq_true] at hb
        exact absurd ⟨of_decide_eq_true hb.1, hb.2⟩ hc
    rw [h]
    exact ⟨0, 0, rfl⟩
end Go.Proofs.YteaiaedhkhmgdaaGreat.Tk
