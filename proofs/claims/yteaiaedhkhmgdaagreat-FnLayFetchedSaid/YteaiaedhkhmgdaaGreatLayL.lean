/- The law FnLayFetched: a way on a layline can be fetched, and takes as long as its length asks at the speed told. It holds for every code. -/
import Derived.Test.YteaiaedhkhmgdaaGreatLay
namespace Go.Proofs.YteaiaedhkhmgdaaGreat.Ly
open Go.RowKit Kit Fl Bd It Dw Dp Pf Pw Mu Be Tk Tn Ve Ro Sc Fed Go.Proofs.YteaiaedhkhmgdaaGreatW.PrintWords Go.Proofs.YteaiaedhkhmgdaaGreatW.PrintLast Go.Proofs.YteaiaedhkhmgdaaGreatW.PrintMore PFnLayFetched
theorem minus_betw {f k : Int} (h0 : 0 ≤ k) (h1 : k ≤ 180) : betw ((f - k) % 360) f = k := by
  unfold betw
  rw [show (f % 360 - (f - k) % 360 % 360) % 360 = k by omega, show (-k) % 360 = if k = 0 then 0 else 360 - k by split <;> omega]
  split <;> omega
theorem plus_betw {f k : Int} (h0 : 0 ≤ k) (h1 : k ≤ 180) : betw ((f + k) % 360) f = k := by
  unfold betw
  rw [show (f % 360 - (f + k) % 360 % 360) % 360 = (-k) % 360 by omega, show (-k) % 360 = if k = 0 then 0 else 360 - k by split <;> omega]
  split <;> omega
theorem down_any (d : Pol) (x : Nat) : ∃ (r : Bool) (u : Nat), BestDown.bestR d x = #[.int .i64 (u : Int), .bool r] ∧ u ≤ 180 ∧ (r = true → 91 ≤ u) := by
  cases ho : okS d x 91
  · exact ⟨false, 0, BestDown.best_none ho, by omega, fun h => by cases h⟩
  · obtain ⟨ok, hx, _, _⟩ := okS_get ho
    obtain ⟨r, u, e, h, h2, _⟩ := BestDown.best_form ho (fun k _ k2 => (neg_num (BestUp.up_num ok hx (a := k) (by omega))).1)
    exact ⟨r, u, e, h, fun hr => (h2 hr).1⟩
theorem told_any (d : Pol) (x : Nat) (g : Int) : ∃ (s : Nat) (t : Bool), told d x g = #[.float .f32 s, .bool t] ∧ (floatToFloatBits .f32 s .f64).isSome = true := by
  cases ho : okS d x g
  · exact ⟨0, false, told_no ho, (Ap.wide_num n0).1⟩
  · obtain ⟨ok, hx, g0, g1⟩ := okS_get ho
    exact ⟨_, true, told_yes ho, (Ap.wide_num (speed_num ok hx g0 g1).num).1⟩
theorem lay_good {d : Pol} {a b p q u v s : Nat} {rU t : Bool} (eU : BestUp.bestR d (speedW a b) = #[.int .i64 (u : Int), .bool rU]) (eD : BestDown.bestR d (speedW a b) = #[.int .i64 (v : Int), .bool true]) (u1 : u ≤ 90) (v2 : 91 ≤ v) (tS : told d (speedW a b) (u : Int) = #[.float .f32 s, .bool t]) (sS : (floatToFloatBits .f32 s .f64).isSome = true) (hl : lay a b p q (u : Int) rU ≠ 0) : rU = true ∧ Good d a b p q u v s t := by
  unfold lay at hl
  by_cases hc : 0 ≤ fromI a b ∧ rU = true
  · rw [if_pos hc] at hl
    obtain ⟨f0, rfl⟩ := hc
    refine ⟨rfl, ?_⟩
    by_cases h1 : bearI p q = (fromI a b - (u : Int)) % 360
    · exact ⟨eU, eD, f0, by rw [h1]; omega, by rw [h1]; exact minus_betw (by omega) (by omega), by omega, tS, sS⟩
    · rw [if_neg h1] at hl
      by_cases h2 : bearI p q = (fromI a b + (u : Int)) % 360
      · exact ⟨eU, eD, f0, by rw [h2]; omega, by rw [h2]; exact plus_betw (by omega) (by omega), by omega, tS, sS⟩
      · rw [if_neg h2] at hl
        exact absurd rfl hl
  · rw [if_neg hc] at hl
    exact absurd rfl hl
set_option maxRecDepth 100000 in
set_option maxHeartbeats 4000000 in
theorem law {w : World} {A : Option Addr} {c : Nat} {l0 : List Int} (hr0 : Kd.C (Kd.int .u8) w A l0.length l0) (hc0 : l0.length ≤ c) :
    Calls Tryz.prog 3 #[.slice A l0.length c] w fun e w' => e = .returned (.bool true) ∧ Below w.heap.size w w' := by
  have HR := Lib.hid hr0
  go_enter Tryz.func3, Tryz.ntmps3
  go_wp2_with fail
  refine (laws_big.calls A c l0 (decide ((l0.length : Int) > 1048576)) w hr0 hc0 rfl).mono ?_
  rintro e w1 ⟨rfl, hd⟩
  have B1 := Lib.hid hd.below
  clear hr0 hd
  by_cases hl : (l0.length : Int) > 1048576
  · rw [decide_eq_true hl]
    go_wp2_with fail
    go_ret
    exact ⟨rfl, B1.out⟩
  · rw [decide_eq_false hl]
    go_wp2_with fail
    refine (draw_lay B1.out HR.out hc0 (by omega)).mono ?_
    rintro e w2 ⟨A0, n0, c0, A1, n1, c1, A2, ls, c2, a, b, p, q, rfl, hB2, hS⟩
    obtain ⟨d, rfl, rfl, e2, hP⟩ := hS.pol
    rw [← e2]
    obtain ⟨W, hW, hX⟩ := boxed (c0 := c0) (c1 := c1) (c2 := c2) hP
    have HY := Lib.hid hX
    have B2 := Lib.hid hB2
    clear hB2 hS e2 hP hX
    obtain ⟨rU, u, eU, u1⟩ := up_any d (speedW a b)
    obtain ⟨rD, v, eD, v1, v2⟩ := down_any d (speedW a b)
    obtain ⟨s, t, tS, sS⟩ := told_any d (speedW a b) (u : Int)
    have EU := Lib.hid eU
    have ED := Lib.hid eD
    have ES := Lib.hid tS
    have HV := Lib.hid v2
    have HG := Lib.hid (fun (h1 : rD = true) (h2 : lay a b p q (u : Int) rU ≠ 0) => lay_good (p := p) (q := q) eU (by rw [← h1]; exact eD) u1 (v2 h1) tS sS h2)
    clear eU eD v2 tS
    go_upto_region 4 with fail
    rw [← hW]
    clear hW
    obtain ⟨x0, x1, x2⟩ := HY.out.of
    go_cut [6, 7] (fun s t wr => s = .int .i64 (v : Int) ∧ t = .bool rD ∧ Boxed w2 wr A0 A1 A2 c0 c1 c2 d)
    case first =>
      go_region_with (first | (go_at_call 7; refine (impl_WindSpeed _ _ _).mono ?_; rintro e w' ⟨rfl, rfl⟩) | (go_at_call 6; refine (BestDown.impl_BestDown (speedW a b) (PolAt.below HY.out.p (Below.refl _ _).drew)).mono ?_; rintro e w9 ⟨rfl, hb⟩; have HZ := Lib.hid (HY.out.to ((Below.refl _ _).drew.trans hb)); clear hb; rw [ED.out]))
      all_goals (go_wp2_with fail)
      all_goals go_meet
      all_goals exact ⟨rfl, rfl, HZ.out⟩
    case rest =>
      obtain ⟨rfl, rfl, hZ⟩ := hcut
      have HY1 := Lib.hid hZ
      clear hZ HY x0 x1 x2
      obtain ⟨x0, x1, x2⟩ := HY1.out.of
      obtain ⟨L, hL⟩ : ∃ L, lay a b p q (u : Int) rU = L := ⟨_, rfl⟩
      have HL := Lib.hid hL
      clear hL
      go_upto_region 5 with fail
      go_cut [39] (fun s wr => s = .bool false ∧ Boxed w2 wr A0 A1 A2 c0 c1 c2 d)
      case first =>
        go_region_with (first | (go_at_call 8; first | (refine (impl_OnLayline a b p q (HZ.out.p) EU.out (by omega)).mono ?_; rintro e w9 ⟨rfl, hb⟩; have HQ := Lib.hid (HZ.out.to hb); clear hb; rw [HL.out]) | (refine (impl_OnLayline a b p q (PolAt.below HY1.out.p (Below.refl _ _).drew) EU.out (by omega)).mono ?_; rintro e w9 ⟨rfl, hb⟩; have HZ := Lib.hid (HY1.out.to ((Below.refl _ _).drew.trans hb)); clear hb; rw [HL.out]; obtain ⟨x0, x1, x2⟩ := HZ.out.of)) | (go_at_call 9; first | (refine (spec_OnLayline a b p q (HZ.out.p) EU.out (by omega)).mono ?_; rintro e w9 ⟨rfl, hb⟩; have HQ := Lib.hid (HZ.out.to hb); clear hb; rw [HL.out]) | (refine (spec_OnLayline a b p q (PolAt.below HY1.out.p (Below.refl _ _).drew) EU.out (by omega)).mono ?_; rintro e w9 ⟨rfl, hb⟩; have HZ := Lib.hid (HY1.out.to ((Below.refl _ _).drew.trans hb)); clear hb; rw [HL.out]; obtain ⟨x0, x1, x2⟩ := HZ.out.of)))
        all_goals (go_wp2_with fail)
        all_goals go_meet
        all_goals exact ⟨by first | rfl | (congr 1; simp), HQ.out⟩
      case rest =>
        obtain ⟨rfl, hZ⟩ := hcut
        have HY2 := Lib.hid hZ
        clear hZ HY1 x0 x1 x2
        obtain ⟨x0, x1, x2⟩ := HY2.out.of
        go_wp2_with fail
        refine (impl_OnLayline a b p q HY2.out.p EU.out (by omega)).mono ?_
        rintro e w3 ⟨rfl, hb⟩
        rw [HL.out]
        have HY3 := Lib.hid (HY2.out.to hb)
        clear hb HY2 x0 x1 x2
        obtain ⟨x0, x1, x2⟩ := HY3.out.of
        by_cases hL0 : L = 0
        · have hq : (L == 0) = true := beq_iff_eq.2 hL0
          clear hL0
          go_wp2_with fail
          go_ret
          exact ⟨rfl, B2.out.trans (HY3.out.b.mono B2.out.size)⟩
        · have hq : (L == 0) = false := beq_eq_false_iff_ne.2 hL0
          cases rD
          · clear hL0
            go_wp2_with fail
            go_ret
            exact ⟨rfl, B2.out.trans (HY3.out.b.mono B2.out.size)⟩
          · obtain ⟨rfl, hG⟩ := HG.out rfl (by rw [HL.out]; exact hL0)
            have HX := Lib.hid hG
            clear hG HG hL0
            go_upto_region 9 with fail
            go_cut [8, 9] (fun s t wr => s = .int .i64 (u : Int) ∧ t = .bool true ∧ Boxed w2 wr A0 A1 A2 c0 c1 c2 d)
            case first =>
              go_region_with (first | (go_at_call 7; refine (impl_WindSpeed _ _ _).mono ?_; rintro e w' ⟨rfl, rfl⟩) | (go_at_call 10; refine (BestUp.impl_BestUp (speedW a b) (PolAt.below HY3.out.p (Below.refl _ _).drew)).mono ?_; rintro e w9 ⟨rfl, hb⟩; have HZ := Lib.hid (HY3.out.to ((Below.refl _ _).drew.trans hb)); clear hb; rw [EU.out]))
              all_goals (go_wp2_with fail)
              all_goals go_meet
              all_goals exact ⟨rfl, rfl, HZ.out⟩
            case rest =>
              obtain ⟨rfl, rfl, hZ⟩ := hcut
              have HY4 := Lib.hid hZ
              clear hZ HY3 x0 x1 x2
              obtain ⟨x0, x1, x2⟩ := HY4.out.of
              go_upto_region 10 with fail
              go_cut [10, 11] (fun z t' wr => z = .float .f32 s ∧ t' = .bool t ∧ Boxed w2 wr A0 A1 A2 c0 c1 c2 d)
              case first =>
                go_region_with (first | (go_at_call 7; refine (impl_WindSpeed _ _ _).mono ?_; rintro e w' ⟨rfl, rfl⟩) | (go_at_call 11; refine (impl_SpeedAt (speedW a b) (u : Int) (PolAt.below HY4.out.p (Below.refl _ _).drew)).mono ?_; rintro e w9 ⟨rfl, hb⟩; have HZ := Lib.hid (HY4.out.to ((Below.refl _ _).drew.trans hb)); clear hb; rw [ES.out]))
                all_goals (go_wp2_with fail)
                all_goals go_meet
                all_goals exact ⟨rfl, rfl, HZ.out⟩
              case rest =>
                obtain ⟨rfl, rfl, hZ⟩ := hcut
                have HY5 := Lib.hid hZ
                clear hZ HY4 x0 x1 x2
                obtain ⟨x0, x1, x2⟩ := HY5.out.of
                go_wp2_with fail
                refine (impl_TimeTo HY5.out.p HX.out).mono ?_
                rintro e w6 ⟨rfl, hb⟩
                have HY6 := Lib.hid (HY5.out.to hb)
                clear hb HY5 x0 x1 x2
                obtain ⟨x0, x1, x2⟩ := HY6.out.of
                go_wp2_with fail
                refine (impl_Length _ _ _).mono ?_
                rintro e w' ⟨rfl, rfl⟩
                go_wp2_with fail
                refine (impl_SecondsFor _ _ _).mono ?_
                rintro e w' ⟨rfl, rfl⟩
                generalize secN (lenF p q) (cv .f32 s .f64) = N at *
                generalize secB (lenF p q) (cv .f32 s .f64) = Q at *
                go_wp2_with fail
                refine (impl_CanFetch HY6.out.p HX.out).mono ?_
                rintro e w7 ⟨rfl, hb⟩
                have HY7 := Lib.hid (HY6.out.to hb)
                clear hb HY6 x0 x1 x2
                cases Q
                all_goals go_wp2_with fail
                all_goals go_ret
                all_goals exact ⟨by first | rfl | (simp; done), B2.out.trans (HY7.out.b.mono B2.out.size)⟩
end Go.Proofs.YteaiaedhkhmgdaaGreat.Ly
namespace Go.Proofs.YteaiaedhkhmgdaaGreat.Pure
open Go.RowKit Go.Proofs.YteaiaedhkhmgdaaGreatW.PrintWords Go.Proofs.YteaiaedhkhmgdaaGreatW.PrintLast Go.Proofs.YteaiaedhkhmgdaaGreatW.PrintMore
theorem FnLayFetchedWalk (a0 : Option Addr) (len0 cap0 : Nat) (z0 : List Int) (w : World) (w0 : (a0 = none ∧ len0 = 0 ∧ cap0 = 0 ∧ z0 = []) ∨ ∃ x, a0 = some x ∧ len0 ≤ cap0 ∧ cap0 ≤ maxLen ∧ z0.length = cap0 ∧ (∀ i, i < z0.length → w.cell? (x.add i) = some (.int .u8 (z0.getD i 0))) ∧ ∀ n ∈ z0, (Lit.int .u8 n).wf = true) (_ : len0 * 1 ≤ 140737488351232) :
    Calls Tryz.prog 3 #[.slice a0 len0 cap0] w fun e w' => e = .returned (.bool true) ∧ Below w.heap.size w w' := by
  obtain ⟨l0, rfl, hr0, _, _, hc0⟩ := ReadsInt.ofRowC w0
  exact Ly.law (Kd.C_of_reads (d := (0 : Int)) (h1 := fun _ => rfl) hr0) hc0
end Go.Proofs.YteaiaedhkhmgdaaGreat.Pure
