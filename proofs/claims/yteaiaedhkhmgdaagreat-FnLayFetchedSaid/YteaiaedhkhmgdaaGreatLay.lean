/- On a layline, can it be fetched, how long: the walks that FnLayFetched wants. -/
import Derived.Test.YteaiaedhkhmgdaaGreatLayD
import Derived.Test.YteaiaedhkhmgdaaGreatPolB
import Derived.Test.YteaiaedhkhmgdaaGreatSeci
namespace Go.Proofs.YteaiaedhkhmgdaaGreat.Ly
open Go.RowKit Kit Fl Bd It Pf Pw Mu Be Tk Tn Ve Ro Sc
noncomputable def lay (a b p q : Nat) (k : Int) (r : Bool) : Int := if 0 ≤ fromI a b ∧ r = true then (if bearI p q = (fromI a b - k) % 360 then 1 else if bearI p q = (fromI a b + k) % 360 then 2 else 0) else 0
theorem bear_range (p q : Nat) : -1 ≤ bearI p q ∧ bearI p q < 360 := by
  unfold bearI
  split
  · have := runB_range p q 360 (Nat.le_refl _)
    omega
  · omega
set_option maxRecDepth 100000 in
set_option maxHeartbeats 1000000 in
theorem impl_OnLayline {w : World} {A0 A1 A2 : Option Addr} {c0 c1 c2 : Nat} {d : Pol} (a b p q : Nat) {k : Nat} {r : Bool} (hP : PolAt w A0 A1 A2 d) (he : BestUp.bestR d (speedW a b) = #[.int .i64 (k : Int), .bool r]) (hk : k ≤ 180) :
    Calls Tryz.prog 8 #[.agg #[.slice A0 d.ws.length c0, .slice A1 d.an.length c1, .slice A2 d.rows.length c2], .complex .f32 a b, .complex .f64 p q] w fun e w' => e = .returned (.int .i64 (lay a b p q (k : Int) r)) ∧ Below w.heap.size w w' := by
  obtain ⟨W, hW, hX⟩ := boxed (c0 := c0) (c1 := c1) (c2 := c2) hP
  have HY := Lib.hid hX
  have HE := Lib.hid he
  clear hP hX he
  by_cases hc : 0 ≤ fromI a b ∧ r = true
  · have HH := Lib.hid (show headR a b (k : Int) r = _ from if_pos hc)
    have HL := Lib.hid (show lay a b p q (k : Int) r = _ from if_pos hc)
    clear hc
    go_enter Tryz.func8, Tryz.ntmps8
    go_upto_region 1 with fail
    rw [← hW]
    clear hW
    obtain ⟨x0, x1, x2⟩ := HY.out.of
    go_wp2_with fail
    refine (impl_TackHeadings a b HY.out.p HE.out hk).mono ?_
    rintro e w1 ⟨rfl, hb⟩
    rw [HH.out]
    have HB := Lib.hid (HY.out.b.trans (hb.mono HY.out.b.size))
    clear hb x0 x1 x2
    go_wp2_with fail
    refine (impl_Bearing _ _ _).mono ?_
    rintro e w2 ⟨rfl, hb⟩
    have HC := Lib.hid (HB.out.trans (hb.mono HB.out.size))
    clear hb
    have HQ := Lib.hid (show (if bearI p q = (fromI a b - (k : Int)) % 360 then (1 : Int) else if bearI p q = (fromI a b + (k : Int)) % 360 then 2 else 0) = (if bearI p q = (fromI a b - (k : Int)) % 360 then (1 : Int) else if bearI p q = (fromI a b + (k : Int)) % 360 then 2 else 0) from rfl)
    generalize bearI p q = K at *
    generalize (fromI a b - (k : Int)) % 360 = X1 at *
    generalize (fromI a b + (k : Int)) % 360 = X2 at *
    by_cases h1 : K = X1
    · have R := Lib.hid (HL.out.trans (if_pos h1))
      have h1' : (K == X1) = true := beq_iff_eq.2 h1
      clear h1
      go_wp2_with fail
      go_ret
      exact ⟨by rw [R.out]; rfl, HC.out⟩
    · have R1 := HL.out.trans (if_neg h1)
      have h1' : (K == X1) = false := beq_eq_false_iff_ne.2 h1
      clear h1
      by_cases h2 : K = X2
      · have R := Lib.hid (R1.trans (if_pos h2))
        have h2' : (K == X2) = true := beq_iff_eq.2 h2
        clear h2 R1
        go_wp2_with fail
        go_ret
        exact ⟨by rw [R.out]; rfl, HC.out⟩
      · have R := Lib.hid (R1.trans (if_neg h2))
        have h2' : (K == X2) = false := beq_eq_false_iff_ne.2 h2
        clear h2 R1
        go_wp2_with fail
        go_ret
        exact ⟨by rw [R.out]; rfl, HC.out⟩
  · have HH := Lib.hid (show headR a b (k : Int) r = _ from if_neg hc)
    have HL := Lib.hid (show lay a b p q (k : Int) r = 0 from if_neg hc)
    clear hc
    go_enter Tryz.func8, Tryz.ntmps8
    go_upto_region 1 with fail
    rw [← hW]
    clear hW
    obtain ⟨x0, x1, x2⟩ := HY.out.of
    go_wp2_with fail
    refine (impl_TackHeadings a b HY.out.p HE.out hk).mono ?_
    rintro e w1 ⟨rfl, hb⟩
    rw [HH.out]
    have HB := Lib.hid (HY.out.b.trans (hb.mono HY.out.b.size))
    clear hb x0 x1 x2
    go_wp2_with fail
    refine (impl_Bearing _ _ _).mono ?_
    rintro e w2 ⟨rfl, hb⟩
    have HC := Lib.hid (HB.out.trans (hb.mono HB.out.size))
    clear hb
    go_wp2_with fail
    go_ret
    exact ⟨by rw [HL.out]; rfl, HC.out⟩
set_option maxRecDepth 100000 in
set_option maxHeartbeats 1000000 in
theorem spec_OnLayline {w : World} {A0 A1 A2 : Option Addr} {c0 c1 c2 : Nat} {d : Pol} (a b p q : Nat) {k : Nat} {r : Bool} (hP : PolAt w A0 A1 A2 d) (he : BestUp.bestR d (speedW a b) = #[.int .i64 (k : Int), .bool r]) (hk : k ≤ 180) :
    Calls Tryz.prog 9 #[.agg #[.slice A0 d.ws.length c0, .slice A1 d.an.length c1, .slice A2 d.rows.length c2], .complex .f32 a b, .complex .f64 p q] w fun e w' => e = .returned (.int .i64 (lay a b p q (k : Int) r)) ∧ Below w.heap.size w w' := by
  obtain ⟨W, hW, hX⟩ := boxed (c0 := c0) (c1 := c1) (c2 := c2) hP
  have HY := Lib.hid hX
  have HE := Lib.hid he
  clear hP hX he
  by_cases hc : 0 ≤ fromI a b ∧ r = true
  · have HH := Lib.hid (show headR a b (k : Int) r = _ from if_pos hc)
    have HL := Lib.hid (show lay a b p q (k : Int) r = _ from if_pos hc)
    clear hc
    go_enter Tryz.func9, Tryz.ntmps9
    go_upto_region 1 with fail
    rw [← hW]
    clear hW
    obtain ⟨x0, x1, x2⟩ := HY.out.of
    go_wp2_with fail
    refine (spec_TackHeadingsX a b HY.out.p HE.out hk).mono ?_
    rintro e w1 ⟨rfl, hb⟩
    rw [HH.out]
    have HB := Lib.hid (HY.out.b.trans (hb.mono HY.out.b.size))
    clear hb x0 x1 x2
    go_wp2_with fail
    refine (spec_Bearing _ _ _).mono ?_
    rintro e w' ⟨rfl, rfl⟩
    generalize bearI p q = K at *
    generalize (fromI a b - (k : Int)) % 360 = X1 at *
    generalize (fromI a b + (k : Int)) % 360 = X2 at *
    by_cases h1 : K = X1
    · have R := Lib.hid (HL.out.trans (if_pos h1))
      have h1' : (K == X1) = true := beq_iff_eq.2 h1
      clear h1
      go_wp2_with fail
      go_ret
      exact ⟨by rw [R.out]; rfl, HB.out⟩
    · have R1 := HL.out.trans (if_neg h1)
      have h1' : (K == X1) = false := beq_eq_false_iff_ne.2 h1
      clear h1
      by_cases h2 : K = X2
      · have R := Lib.hid (R1.trans (if_pos h2))
        have h2' : (K == X2) = true := beq_iff_eq.2 h2
        clear h2 R1
        go_wp2_with fail
        go_ret
        exact ⟨by rw [R.out]; rfl, HB.out⟩
      · have R := Lib.hid (R1.trans (if_neg h2))
        have h2' : (K == X2) = false := beq_eq_false_iff_ne.2 h2
        clear h2 R1
        go_wp2_with fail
        go_ret
        exact ⟨by rw [R.out]; rfl, HB.out⟩
  · have HH := Lib.hid (show headR a b (k : Int) r = _ from if_neg hc)
    have HL := Lib.hid (show lay a b p q (k : Int) r = 0 from if_neg hc)
    clear hc
    go_enter Tryz.func9, Tryz.ntmps9
    go_upto_region 1 with fail
    rw [← hW]
    clear hW
    obtain ⟨x0, x1, x2⟩ := HY.out.of
    go_wp2_with fail
    refine (spec_TackHeadingsX a b HY.out.p HE.out hk).mono ?_
    rintro e w1 ⟨rfl, hb⟩
    rw [HH.out]
    have HB := Lib.hid (HY.out.b.trans (hb.mono HY.out.b.size))
    clear hb x0 x1 x2
    go_wp2_with fail
    refine (spec_Bearing _ _ _).mono ?_
    rintro e w' ⟨rfl, rfl⟩
    go_wp2_with fail
    go_ret
    exact ⟨by rw [HL.out]; rfl, HB.out⟩
/-- what holds of a way that lies on a layline -/
structure Good (d : Pol) (a b p q u v s : Nat) (t : Bool) : Prop where
  eU : BestUp.bestR d (speedW a b) = #[.int .i64 (u : Int), .bool true]
  eD : BestDown.bestR d (speedW a b) = #[.int .i64 (v : Int), .bool true]
  f0 : 0 ≤ fromI a b
  k0 : 0 ≤ bearI p q
  bt : betw (bearI p q) (fromI a b) = (u : Int)
  uv : (u : Int) ≤ (v : Int)
  tS : told d (speedW a b) (u : Int) = #[.float .f32 s, .bool t]
  sS : (floatToFloatBits .f32 s .f64).isSome = true
set_option maxRecDepth 100000 in
set_option maxHeartbeats 1000000 in
theorem impl_CanFetch {w : World} {A0 A1 A2 : Option Addr} {c0 c1 c2 : Nat} {d : Pol} {a b p q u v s : Nat} {t : Bool} (hP : PolAt w A0 A1 A2 d) (hG : Good d a b p q u v s t) :
    Calls Tryz.prog 15 #[.agg #[.slice A0 d.ws.length c0, .slice A1 d.an.length c1, .slice A2 d.rows.length c2], .complex .f32 a b, .complex .f64 p q] w fun e w' => e = .returned (.bool true) ∧ Below w.heap.size w w' := by
  obtain ⟨W, hW, hX⟩ := boxed (c0 := c0) (c1 := c1) (c2 := c2) hP
  have HY := Lib.hid hX
  have HG := Lib.hid hG
  clear hP hX hG
  go_enter Tryz.func15, Tryz.ntmps15
  go_upto_region 1 with fail
  rw [← hW]
  clear hW
  obtain ⟨x0, x1, x2⟩ := HY.out.of
  go_cut [7, 8] (fun s t wr => s = .int .i64 (u : Int) ∧ t = .bool true ∧ Boxed w wr A0 A1 A2 c0 c1 c2 d)
  case first =>
    go_region_with (first | (go_at_call 7; refine (impl_WindSpeed _ _ _).mono ?_; rintro e w' ⟨rfl, rfl⟩) | (go_at_call 10; refine (BestUp.impl_BestUp (speedW a b) (PolAt.below HY.out.p (Below.refl _ _).drew)).mono ?_; rintro e w1 ⟨rfl, hb⟩; have HZ := Lib.hid (HY.out.to ((Below.refl _ _).drew.trans hb)); clear hb; rw [HG.out.eU]))
    all_goals (go_wp2_with fail)
    all_goals go_meet
    all_goals exact ⟨rfl, rfl, HZ.out⟩
  case rest =>
    obtain ⟨rfl, rfl, hZ⟩ := hcut
    have HY1 := Lib.hid hZ
    clear hZ HY x0 x1 x2
    obtain ⟨x0, x1, x2⟩ := HY1.out.of
    go_upto_region 2 with fail
    go_cut [9, 10] (fun s t wr => s = .int .i64 (v : Int) ∧ t = .bool true ∧ Boxed w wr A0 A1 A2 c0 c1 c2 d)
    case first =>
      go_region_with (first | (go_at_call 7; refine (impl_WindSpeed _ _ _).mono ?_; rintro e w' ⟨rfl, rfl⟩) | (go_at_call 6; refine (BestDown.impl_BestDown (speedW a b) (PolAt.below HY1.out.p (Below.refl _ _).drew)).mono ?_; rintro e w1 ⟨rfl, hb⟩; have HZ := Lib.hid (HY1.out.to ((Below.refl _ _).drew.trans hb)); clear hb; rw [HG.out.eD]))
      all_goals (go_wp2_with fail)
      all_goals go_meet
      all_goals exact ⟨rfl, rfl, HZ.out⟩
    case rest =>
      obtain ⟨rfl, rfl, hZ⟩ := hcut
      have HB := Lib.hid hZ.b
      clear hZ HY1 x0 x1 x2
      have hf := HG.out.f0
      have hk := HG.out.k0
      have huv := HG.out.uv
      go_wp2_with fail
      refine (impl_Bearing _ _ _).mono ?_
      rintro e w2 ⟨rfl, hb⟩
      have HC := Lib.hid (HB.out.trans (hb.mono HB.out.size))
      clear hb
      go_wp2_with fail
      refine (impl_FromOf _ _ _).mono ?_
      rintro e w3 ⟨rfl, hb⟩
      have HD := Lib.hid (HC.out.trans (hb.mono HC.out.size))
      clear hb
      have HT := Lib.hid (show (decide ((u : Int) ≤ (u : Int)) && decide ((u : Int) ≤ (v : Int))) = true by rw [decide_eq_true (Int.le_refl _), decide_eq_true huv]; rfl)
      go_wp2_with (first | (go_at_call 36; refine (Ve.impl_Between _ _ _).mono ?_; rintro e w' ⟨rfl, rfl⟩; rw [HG.out.bt]) | (go_at_call 33; refine (Ve.impl_within _ _ _ _).mono ?_; rintro e w' ⟨rfl, rfl⟩; rw [HT.out]))
      go_ret
      exact ⟨rfl, HD.out⟩
set_option maxRecDepth 100000 in
set_option maxHeartbeats 1000000 in
theorem impl_TimeTo {w : World} {A0 A1 A2 : Option Addr} {c0 c1 c2 : Nat} {d : Pol} {a b p q u v s : Nat} {t : Bool} (hP : PolAt w A0 A1 A2 d) (hG : Good d a b p q u v s t) :
    Calls Tryz.prog 12 #[.agg #[.slice A0 d.ws.length c0, .slice A1 d.an.length c1, .slice A2 d.rows.length c2], .complex .f32 a b, .complex .f64 p q] w fun e w' => e = .returned (.tuple #[.int .i64 (secN (lenF p q) (cv .f32 s .f64)), .bool (secB (lenF p q) (cv .f32 s .f64))]) ∧ Below w.heap.size w w' := by
  obtain ⟨W, hW, hX⟩ := boxed (c0 := c0) (c1 := c1) (c2 := c2) hP
  have HY := Lib.hid hX
  have HG := Lib.hid hG
  clear hP hX hG
  go_enter Tryz.func12, Tryz.ntmps12
  go_upto_region 1 with fail
  rw [← hW]
  clear hW
  obtain ⟨x0, x1, x2⟩ := HY.out.of
  go_wp2_with fail
  refine (impl_WindSpeed _ _ _).mono ?_
  rintro e w' ⟨rfl, rfl⟩
  go_wp2_with fail
  refine (BestUp.impl_BestUp (speedW a b) HY.out.p).mono ?_
  rintro e w1 ⟨rfl, hb⟩
  rw [HG.out.eU]
  have HY1 := Lib.hid (HY.out.to hb)
  clear hb HY x0 x1 x2
  obtain ⟨x0, x1, x2⟩ := HY1.out.of
  go_wp2_with fail
  refine (BestDown.impl_BestDown (speedW a b) HY1.out.p).mono ?_
  rintro e w2 ⟨rfl, hb⟩
  rw [HG.out.eD]
  have HY2 := Lib.hid (HY1.out.to hb)
  clear hb HY1 x0 x1 x2
  obtain ⟨x0, x1, x2⟩ := HY2.out.of
  go_wp2_with fail
  refine (impl_Bearing _ _ _).mono ?_
  rintro e w3 ⟨rfl, hb⟩
  have HY3 := Lib.hid (HY2.out.to hb)
  clear hb HY2 x0 x1 x2
  obtain ⟨x0, x1, x2⟩ := HY3.out.of
  go_wp2_with fail
  refine (impl_FromOf _ _ _).mono ?_
  rintro e w4 ⟨rfl, hb⟩
  have HY4 := Lib.hid (HY3.out.to hb)
  clear hb HY3 x0 x1 x2
  obtain ⟨x0, x1, x2⟩ := HY4.out.of
  have hf := HG.out.f0
  have hk := HG.out.k0
  have huv := HG.out.uv
  have HT := Lib.hid (show (decide ((u : Int) ≤ (u : Int)) && decide ((u : Int) ≤ (v : Int))) = true by rw [decide_eq_true (Int.le_refl _), decide_eq_true huv]; rfl)
  go_wp2_with (first | (go_at_call 36; refine (Ve.impl_Between _ _ _).mono ?_; rintro e w' ⟨rfl, rfl⟩; rw [HG.out.bt]) | (go_at_call 33; refine (Ve.impl_within _ _ _ _).mono ?_; rintro e w' ⟨rfl, rfl⟩; rw [HT.out]) | (go_at_call 14; refine (impl_Length _ _ _).mono ?_; rintro e w' ⟨rfl, rfl⟩))
  refine (impl_SpeedAt (speedW a b) (u : Int) HY4.out.p).mono ?_
  rintro e w5 ⟨rfl, hb⟩
  rw [HG.out.tS]
  have HB := Lib.hid (HY4.out.b.trans (hb.mono HY4.out.b.size))
  have hs := HG.out.sS
  clear hb HY4 x0 x1 x2
  go_wp2_with fail
  refine (impl_SecondsFor _ _ _).mono ?_
  rintro e w' ⟨rfl, rfl⟩
  go_wp2_with fail
  go_ret2
  exact ⟨rfl, HB.out⟩
end Go.Proofs.YteaiaedhkhmgdaaGreat.Ly
