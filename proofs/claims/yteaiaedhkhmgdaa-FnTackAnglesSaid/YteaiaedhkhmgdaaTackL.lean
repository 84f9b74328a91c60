/- The law FnTackAngles: tack and jibe headings lie by the best angle off the wind, one to each side. It holds for every code. -/
import Derived.Test.YteaiaedhkhmgdaaDs
import Derived.Test.YteaiaedhkhmgdaaTack
namespace Go.Proofs.Yteaiaedhkhmgdaa.Ta
open Go.RowKit Kit Fl Bd Dw Pf Pw Mu Dp Be Tk Ve Tad Go.Proofs.YteaiaedhkhmgdaaW.PrintWords Go.Proofs.YteaiaedhkhmgdaaW.PrintLast Go.Proofs.YteaiaedhkhmgdaaW.PrintMore PFnTackAngles
set_option maxRecDepth 100000 in
theorem wind_k {w0 ws w : World} {g : Nat} {m : Int} (hm : m ≤ 1600000) (hC : Cur2 w0 ws w g m) :
    Calls Try.prog 52 #[.pointer (some ⟨g, 0, none⟩)] w fun e w' => ∃ a b : Nat, e = .returned (.complex .f32 a b) ∧ Cur2 w0 ws w' g (m + 70) := by
  have C0 := Lib.hid hC
  clear hC
  go_enter Try.func52, Try.ntmps52
  go_wp2_with fail
  refine (once_k 12 (by omega) (by omega) C0.out).mono ?_
  rintro e w1 ⟨r, rfl, hC1⟩
  have C1 := Lib.hid hC1
  clear hC1
  cases r
  · go_wp2_with fail
    refine (below_k 129 (by omega) (by omega) C1.out).mono ?_
    rintro e w2 ⟨k, rfl, k0, k1, hC2⟩
    have q1 := quo8 (int_num32 (k - 64) (by omega) (by omega))
    have q1a := q1
    have q1b := q1
    rw [← (show wrap64 (k - 64) = k - 64 by unfold wrap64; omega)] at q1a
    rw [← (show IntKind.i64.wrap (k - 64) = k - 64 by rw [IntKind.wrap_i64]; omega)] at q1b
    have C2 := Lib.hid hC2
    clear hC2
    go_wp2_with fail
    refine (below_k 129 (by omega) (by omega) C2.out).mono ?_
    rintro e w3 ⟨n, rfl, n0, n1, hC3⟩
    have q2 := quo8 (int_num32 (n - 64) (by omega) (by omega))
    have q2a := q2
    have q2b := q2
    rw [← (show wrap64 (n - 64) = n - 64 by unfold wrap64; omega)] at q2a
    rw [← (show IntKind.i64.wrap (n - 64) = n - 64 by rw [IntKind.wrap_i64]; omega)] at q2b
    have C3 := Lib.hid hC3
    clear hC3
    go_wp2_with fail
    go_ret
    exact ⟨_, _, rfl, C3.out.mono (by omega)⟩
  · go_wp2_with fail
    refine (air_k (by omega) C1.out).mono ?_
    rintro e w2 ⟨a, b, rfl, hC2⟩
    have C2 := Lib.hid hC2
    clear hC2
    go_wp2_with fail
    go_ret
    exact ⟨_, _, rfl, C2.out.mono (by omega)⟩
set_option maxRecDepth 100000 in
set_option maxHeartbeats 2000000 in
theorem draw_tack {w0 w : World} {A : Option Addr} {c : Nat} {l : List Int} (hB : Below w0.heap.size w0 w) (hr0 : Kd.C (Kd.int .u8) w0 A l.length l) (hc0 : l.length ≤ c) (hl : l.length ≤ 1048576) :
    Calls Try.prog 20 #[.slice A l.length c] w fun e w' => ∃ (A0 : Option Addr) (n0 c0 : Nat) (A1 : Option Addr) (n1 c1 : Nat) (A2 : Option Addr) (ls : List Nat) (c2 a b : Nat), e = .returned (.tuple #[.agg #[.slice A0 n0 c0, .slice A1 n1 c1, .slice A2 ls.length c2], .complex .f32 a b]) ∧ Below w0.heap.size w0 w' ∧ Shp w' w0.heap.size A0 n0 A1 n1 A2 ls := by
  have B0 := Lib.hid hB
  have HR := Lib.hid hr0
  clear hB hr0
  go_enter Try.func20, Try.ntmps20
  go_wp2_with fail
  have hX0 := blk_new w (.cells #[.slice none 0 0, .slice none 0 0, .slice none 0 0] 31)
  have hb0 := B0.out.alloc B0.out.size (.cells #[.slice none 0 0, .slice none 0 0, .slice none 0 0] 31)
  have hsz : w0.heap.size ≤ w.heap.size := B0.out.size
  generalize w.alloc (.cells #[.slice none 0 0, .slice none 0 0, .slice none 0 0] 31) = W at *
  generalize w.heap.size = X at *
  refine (new_k hb0 HR.out hc0 hl).mono ?_
  rintro e w1 ⟨g, rfl, hC1, hb1⟩
  have hX1 := blk_below hX0 hb1
  have C1 := Lib.hid hC1.root
  have hgX : X ≠ g := by
    obtain ⟨cs, e⟩ := hC1.blk
    exact blk_ne hX1 e (by decide)
  have HX1 := Lib.hid hX1
  clear hX0 hb0 hb1 hC1 hX1
  go_wp2_with fail
  refine (any_call C1.out).mono ?_
  rintro e w2 ⟨A0, n0, c0, A1, n1, c1, A2, ls, c2, rfl, ⟨hn0, hn1⟩, hC2, hS2⟩
  have HX2 := Lib.hid (hC2.keep.blk HX1.out hgX (by simp))
  have I4 := Lib.hid (NI.start (c0 := c0) (c1 := c1) (c2 := c2) hC2.root hS2)
  have HX4 := Lib.hid (blk_alloc HX2.out (.cells #[.slice A0 n0 c0, .slice A1 n1 c1, .slice A2 ls.length c2] 31))
  clear hC2 hS2 HX1 HX2
  go_upto_region 3 with fail
  generalize w2.alloc (.cells #[.slice A0 n0 c0, .slice A1 n1 c1, .slice A2 ls.length c2] 31) = w4 at *
  generalize w2.heap.size = Y at *
  obtain ⟨y0, y1, y2⟩ := I4.out.cells
  have hX5 := HX4.out
  have x0 : w4.cell? ⟨X, 0, none⟩ = some (.slice none 0 0) := blk_cell hX5 0
  have x1 : w4.cell? ⟨X, 1, none⟩ = some (.slice none 0 0) := blk_cell hX5 1
  have x2 : w4.cell? ⟨X, 2, none⟩ = some (.slice none 0 0) := blk_cell hX5 2
  have xf0 := blk_frozen hX5 0
  have xf1 := blk_frozen hX5 1
  have xf2 := blk_frozen hX5 2
  clear hX5
  go_region_with (first | (go_at_call 52; refine (wind_k (by omega) I4.out.drew.cur.here).mono ?_; rintro e w5 ⟨a, b, rfl, hC5⟩; have I5 := Lib.hid (I4.out.drew.move hC5); have HX5 := Lib.hid (hC5.keep.blk (show w4.drew.heap[X]? = _ from HX4.out) hgX (by simp)); obtain ⟨y0, y1, y2⟩ := I5.out.cells; have hX5 := HX5.out; have x0 : w5.cell? ⟨X, 0, none⟩ = some (.slice none 0 0) := blk_cell hX5 0; have x1 : w5.cell? ⟨X, 1, none⟩ = some (.slice none 0 0) := blk_cell hX5 1; have x2 : w5.cell? ⟨X, 2, none⟩ = some (.slice none 0 0) := blk_cell hX5 2; have xf0 := blk_frozen hX5 0; have xf1 := blk_frozen hX5 1; have xf2 := blk_frozen hX5 2; have P := Lib.hid (I5.out.fin HX5.out hgX hsz (.slice A0 n0 c0) (.slice A1 n1 c1) (.slice A2 ls.length c2)); clear hC5 hX5))
  all_goals (go_wp2_with fail)
  all_goals exact bodyPost_ret (v := .tuple #[.agg #[.slice A0 n0 c0, .slice A1 n1 c1, .slice A2 ls.length c2], .complex .f32 a b]) (by simp [results, Try.results20, go_sem, x0, x1, x2]) rfl ⟨A0, n0, c0, A1, n1, c1, A2, ls, c2, a, b, rfl, P.out⟩
/-! ### the plain law -/
theorem minus_betw {f k : Int} (h0 : 0 ≤ k) (h1 : k ≤ 180) : betw ((f - k) % 360) f = k := by
  unfold betw
  rw [show (f % 360 - (f - k) % 360 % 360) % 360 = k by omega, show (-k) % 360 = if k = 0 then 0 else 360 - k by split <;> omega]
  split <;> omega
theorem plus_betw {f k : Int} (h0 : 0 ≤ k) (h1 : k ≤ 180) : betw ((f + k) % 360) f = k := by
  unfold betw
  rw [show (f % 360 - (f + k) % 360 % 360) % 360 = (-k) % 360 by omega, show (-k) % 360 = if k = 0 then 0 else 360 - k by split <;> omega]
  split <;> omega
theorem minus_side {f k : Int} (h0 : 0 < k) (h1 : k < 180) : sideI ((f - k) % 360) f = 1 := by
  have e : asideI ((f - k) % 360) f = k := by
    unfold asideI
    rw [show (f % 360 - (f - k) % 360 % 360) % 360 = k by omega]
    split <;> omega
  unfold sideI
  rw [e, if_pos (by omega)]
theorem plus_side {f k : Int} (h0 : 0 < k) (h1 : k < 180) : sideI ((f + k) % 360) f = -1 := by
  have e : asideI ((f + k) % 360) f = -k := by
    unfold asideI
    rw [show (f % 360 - (f + k) % 360 % 360) % 360 = 360 - k by omega]
    split <;> omega
  unfold sideI
  rw [e, if_neg (by omega), if_pos (by omega)]
theorem up_any (d : Pol) (x : Nat) : ∃ (r : Bool) (u : Nat), BestUp.bestR d x = #[.int .i64 (u : Int), .bool r] ∧ u ≤ 90 := by
  cases ho : okS d x 0
  · exact ⟨false, 0, BestUp.best_none ho, by omega⟩
  · obtain ⟨ok, hx, _, _⟩ := okS_get ho
    obtain ⟨r, u, e, h, _⟩ := BestUp.best_form ho (fun k _ k2 => BestUp.up_num ok hx (a := k) (by omega))
    exact ⟨r, u, e, h⟩
theorem down_any (d : Pol) (x : Nat) : ∃ (r : Bool) (u : Nat), BestDown.bestR d x = #[.int .i64 (u : Int), .bool r] ∧ u ≤ 180 ∧ (r = true → 91 ≤ u) := by
  cases ho : okS d x 91
  · exact ⟨false, 0, BestDown.best_none ho, by omega, fun h => by cases h⟩
  · obtain ⟨ok, hx, _, _⟩ := okS_get ho
    obtain ⟨r, u, e, h, h2, _⟩ := BestDown.best_form ho (fun k _ k2 => (neg_num (BestUp.up_num ok hx (a := k) (by omega))).1)
    exact ⟨r, u, e, h, fun hr => (h2 hr).1⟩
set_option maxRecDepth 100000 in
set_option maxHeartbeats 6000000 in
theorem law {w : World} {A : Option Addr} {c : Nat} {l0 : List Int} (hr0 : Kd.C (Kd.int .u8) w A l0.length l0) (hc0 : l0.length ≤ c) :
    Calls Try.prog 6 #[.slice A l0.length c] w fun e w' => e = .returned (.bool true) ∧ Below w.heap.size w w' := by
  have HR := Lib.hid hr0
  go_enter Try.func6, Try.ntmps6
  go_wp2_with fail
  refine (laws_big.calls A c l0 (decide ((l0.length : Int) > 1048576)) w hr0 hc0 rfl).mono ?_
  rintro e w1 ⟨rfl, hd⟩
  have B1 := Lib.hid hd.below
  clear hr0 hd
  by_cases hl : (l0.length : Int) > 1048576
  · rw [decide_eq_true hl]
    go_wp2_with fail
    go_ret
    exact ⟨rfl, B1.out⟩
  · rw [decide_eq_false hl]
    go_wp2_with fail
    refine (draw_tack B1.out HR.out hc0 (by omega)).mono ?_
    rintro e w2 ⟨A0, n0, c0, A1, n1, c1, A2, ls, c2, a, b, rfl, hB2, hS⟩
    obtain ⟨d, rfl, rfl, e2, hP⟩ := hS.pol
    rw [← e2]
    obtain ⟨W, hW, hX⟩ := boxed (c0 := c0) (c1 := c1) (c2 := c2) hP
    have HY := Lib.hid hX
    have B2 := Lib.hid hB2
    clear hB2 hS e2 hP hX
    obtain ⟨rU, u, eU, u1⟩ := up_any d (speedW a b)
    obtain ⟨rD, v, eD, v1, v2⟩ := down_any d (speedW a b)
    have EU := Lib.hid eU
    have ED := Lib.hid eD
    have HV := Lib.hid v2
    have hr := fromI_range a b
    obtain ⟨f, hf⟩ : ∃ f, fromI a b = f := ⟨_, rfl⟩
    rw [hf] at hr
    have HF := Lib.hid hf
    have UI := Lib.hid (show headR a b (u : Int) rU = if 0 ≤ f ∧ rU = true then #[.int .i64 ((f - (u : Int)) % 360), .int .i64 ((f + (u : Int)) % 360), .bool true] else #[.int .i64 0, .int .i64 0, .bool false] by unfold headR; rw [hf])
    have DI := Lib.hid (show headR a b (v : Int) rD = if 0 ≤ f ∧ rD = true then #[.int .i64 ((f - (v : Int)) % 360), .int .i64 ((f + (v : Int)) % 360), .bool true] else #[.int .i64 0, .int .i64 0, .bool false] by unfold headR; rw [hf])
    have TU := Lib.hid (show (decide (0 ≤ fromI a b) && rU) = (decide (0 ≤ f) && rU) by rw [hf])
    have TD := Lib.hid (show (decide (0 ≤ fromI a b) && rD) = (decide (0 ≤ f) && rD) by rw [hf])
    have HB1 := Lib.hid (minus_betw (f := f) (k := (u : Int)) (by omega) (by omega))
    have HB2 := Lib.hid (plus_betw (f := f) (k := (u : Int)) (by omega) (by omega))
    have HB3 := Lib.hid (minus_betw (f := f) (k := (v : Int)) (by omega) (by omega))
    have HB4 := Lib.hid (plus_betw (f := f) (k := (v : Int)) (by omega) (by omega))
    clear eU eD v2 hf
    go_upto_region 4 with fail
    rw [← hW]
    clear hW
    obtain ⟨x0, x1, x2⟩ := HY.out.of
    go_wp2_with fail
    refine (impl_FromOf _ _ _).mono ?_
    rintro e w3 ⟨rfl, hb⟩
    rw [HF.out]
    have HY3 := Lib.hid (HY.out.to hb)
    clear hb HY x0 x1 x2
    obtain ⟨x0, x1, x2⟩ := HY3.out.of
    go_wp2_with fail
    refine (impl_TackHeadings a b HY3.out.p EU.out (by omega)).mono ?_
    rintro e w4 ⟨rfl, hb⟩
    have HY4 := Lib.hid (HY3.out.to hb)
    clear hb HY3 x0 x1 x2
    obtain ⟨x0, x1, x2⟩ := HY4.out.of
    by_cases hu : 0 ≤ f ∧ rU = true
    · by_cases hd : 0 ≤ f ∧ rD = true
      · have UH := Lib.hid (UI.out.trans (if_pos hu))
        have TU2 := Lib.hid (show (decide (0 ≤ f) && rU) = true by rw [decide_eq_true hu.1, hu.2]; rfl)
        obtain ⟨_, rfl⟩ := hu
        have DH := Lib.hid (DI.out.trans (if_pos hd))
        have TD2 := Lib.hid (show (decide (0 ≤ f) && rD) = true by rw [decide_eq_true hd.1, hd.2]; rfl)
        obtain ⟨_, rfl⟩ := hd
        rw [UH.out]
        go_wp2_with fail
        refine (spec_TackHeadings a b HY4.out.p EU.out (by omega)).mono ?_
        rintro e w5 ⟨⟨p1, p2, rfl⟩, hb⟩
        rw [TU.out, TU2.out]
        have HY5 := Lib.hid (HY4.out.to hb)
        clear hb HY4 x0 x1 x2
        obtain ⟨x0, x1, x2⟩ := HY5.out.of
        go_wp2_with fail
        refine (spec_JibeHeadings a b HY5.out.p ED.out (by omega)).mono ?_
        rintro e w6 ⟨⟨p3, p4, rfl⟩, hb⟩
        rw [TD.out, TD2.out]
        have HY6 := Lib.hid (HY5.out.to hb)
        clear hb HY5 x0 x1 x2
        obtain ⟨x0, x1, x2⟩ := HY6.out.of
        go_upto_region 11 with fail
        go_cut [15, 16] (fun s t wr => s = .int .i64 (u : Int) ∧ t = .bool true ∧ Boxed w2 wr A0 A1 A2 c0 c1 c2 d)
        case first =>
          go_region_with (first | (go_at_call 25; refine (impl_WindSpeed _ _ _).mono ?_; rintro e w' ⟨rfl, rfl⟩) | (go_at_call 10; refine (BestUp.impl_BestUp (speedW a b) (PolAt.below HY6.out.p (Below.refl _ _).drew)).mono ?_; rintro e w7 ⟨rfl, hb⟩; have HZ := Lib.hid (HY6.out.to ((Below.refl _ _).drew.trans hb)); clear hb; rw [EU.out]))
          all_goals (go_wp2_with fail)
          all_goals go_meet
          all_goals exact ⟨rfl, rfl, HZ.out⟩
        case rest =>
          obtain ⟨rfl, rfl, hZ⟩ := hcut
          have HY7 := Lib.hid hZ
          clear hZ HY6 x0 x1 x2
          obtain ⟨x0, x1, x2⟩ := HY7.out.of
          by_cases hu0 : u = 0
          · have hu1 : (u : Int) ≤ 0 := by omega
            clear hu0
            go_wp2_with (go_at_call 26; refine (impl_Between _ _ _).mono ?_; rintro e w' ⟨rfl, rfl⟩; first | rw [HB1.out] | rw [HB2.out])
            refine (impl_JibeHeadings a b HY7.out.p ED.out (by omega)).mono ?_
            rintro e w8 ⟨rfl, hb⟩
            have HY8 := Lib.hid (HY7.out.to hb)
            clear hb HY7 x0 x1 x2
            obtain ⟨x0, x1, x2⟩ := HY8.out.of
            rw [DH.out]
            go_upto_region 19 with fail
            go_cut [20, 21] (fun s t wr => s = .int .i64 (v : Int) ∧ t = .bool true ∧ Boxed w2 wr A0 A1 A2 c0 c1 c2 d)
            case first =>
              go_region_with (first | (go_at_call 25; refine (impl_WindSpeed _ _ _).mono ?_; rintro e w' ⟨rfl, rfl⟩) | (go_at_call 13; refine (BestDown.impl_BestDown (speedW a b) (PolAt.below HY8.out.p (Below.refl _ _).drew)).mono ?_; rintro e w9 ⟨rfl, hb⟩; have HZ := Lib.hid (HY8.out.to ((Below.refl _ _).drew.trans hb)); clear hb; rw [ED.out]))
              all_goals (go_wp2_with fail)
              all_goals go_meet
              all_goals exact ⟨rfl, rfl, HZ.out⟩
            case rest =>
              obtain ⟨rfl, rfl, hZ⟩ := hcut
              have HY9 := Lib.hid hZ
              clear hZ HY8 x0 x1 x2
              by_cases hv0 : v = 180
              · have hvq : ((v : Int) == 180) = true := beq_iff_eq.2 (by omega)
                clear hv0
                go_wp2_with (go_at_call 26; refine (impl_Between _ _ _).mono ?_; rintro e w' ⟨rfl, rfl⟩; first | rw [HB3.out] | rw [HB4.out])
                go_ret
                exact ⟨rfl, B2.out.trans (HY9.out.b.mono B2.out.size)⟩
              · have hv9 : 91 ≤ v := HV.out (by first | rfl | trivial)
                have hvq : ((v : Int) == 180) = false := beq_eq_false_iff_ne.2 (by omega)
                have HS3 := Lib.hid (minus_side (f := f) (k := (v : Int)) (by omega) (by omega))
                have HS4 := Lib.hid (plus_side (f := f) (k := (v : Int)) (by omega) (by omega))
                go_wp2_with (first | (go_at_call 26; refine (impl_Between _ _ _).mono ?_; rintro e w' ⟨rfl, rfl⟩; first | rw [HB3.out] | rw [HB4.out]) | (go_at_call 27; refine (impl_WindSide _ _ _).mono ?_; rintro e w' ⟨rfl, rfl⟩; first | rw [HS3.out] | rw [HS4.out]))
                go_ret
                exact ⟨rfl, B2.out.trans (HY9.out.b.mono B2.out.size)⟩
          · have HS1 := Lib.hid (minus_side (f := f) (k := (u : Int)) (by omega) (by omega))
            have HS2 := Lib.hid (plus_side (f := f) (k := (u : Int)) (by omega) (by omega))
            go_wp2_with (first | (go_at_call 26; refine (impl_Between _ _ _).mono ?_; rintro e w' ⟨rfl, rfl⟩; first | rw [HB1.out] | rw [HB2.out]) | (go_at_call 27; refine (impl_WindSide _ _ _).mono ?_; rintro e w' ⟨rfl, rfl⟩; first | rw [HS1.out] | rw [HS2.out]))
            refine (impl_JibeHeadings a b HY7.out.p ED.out (by omega)).mono ?_
            rintro e w8 ⟨rfl, hb⟩
            have HY8 := Lib.hid (HY7.out.to hb)
            clear hb HY7 x0 x1 x2
            obtain ⟨x0, x1, x2⟩ := HY8.out.of
            rw [DH.out]
            go_upto_region 19 with fail
            go_cut [20, 21] (fun s t wr => s = .int .i64 (v : Int) ∧ t = .bool true ∧ Boxed w2 wr A0 A1 A2 c0 c1 c2 d)
            case first =>
              go_region_with (first | (go_at_call 25; refine (impl_WindSpeed _ _ _).mono ?_; rintro e w' ⟨rfl, rfl⟩) | (go_at_call 13; refine (BestDown.impl_BestDown (speedW a b) (PolAt.below HY8.out.p (Below.refl _ _).drew)).mono ?_; rintro e w9 ⟨rfl, hb⟩; have HZ := Lib.hid (HY8.out.to ((Below.refl _ _).drew.trans hb)); clear hb; rw [ED.out]))
              all_goals (go_wp2_with fail)
              all_goals go_meet
              all_goals exact ⟨rfl, rfl, HZ.out⟩
            case rest =>
              obtain ⟨rfl, rfl, hZ⟩ := hcut
              have HY9 := Lib.hid hZ
              clear hZ HY8 x0 x1 x2
              by_cases hv0 : v = 180
              · have hvq : ((v : Int) == 180) = true := beq_iff_eq.2 (by omega)
                clear hv0
                go_wp2_with (go_at_call 26; refine (impl_Between _ _ _).mono ?_; rintro e w' ⟨rfl, rfl⟩; first | rw [HB3.out] | rw [HB4.out])
                go_ret
                exact ⟨rfl, B2.out.trans (HY9.out.b.mono B2.out.size)⟩
              · have hv9 : 91 ≤ v := HV.out (by first | rfl | trivial)
                have hvq : ((v : Int) == 180) = false := beq_eq_false_iff_ne.2 (by omega)
                have HS3 := Lib.hid (minus_side (f := f) (k := (v : Int)) (by omega) (by omega))
                have HS4 := Lib.hid (plus_side (f := f) (k := (v : Int)) (by omega) (by omega))
                go_wp2_with (first | (go_at_call 26; refine (impl_Between _ _ _).mono ?_; rintro e w' ⟨rfl, rfl⟩; first | rw [HB3.out] | rw [HB4.out]) | (go_at_call 27; refine (impl_WindSide _ _ _).mono ?_; rintro e w' ⟨rfl, rfl⟩; first | rw [HS3.out] | rw [HS4.out]))
                go_ret
                exact ⟨rfl, B2.out.trans (HY9.out.b.mono B2.out.size)⟩
      · have UH := Lib.hid (UI.out.trans (if_pos hu))
        have TU2 := Lib.hid (show (decide (0 ≤ f) && rU) = true by rw [decide_eq_true hu.1, hu.2]; rfl)
        obtain ⟨_, rfl⟩ := hu
        have DH := Lib.hid (DI.out.trans (if_neg hd))
        have TD2 := Lib.hid (show (decide (0 ≤ f) && rD) = false by
          cases hb : (decide (0 ≤ f) && rD)
          · rfl
          · rw [Bool.and_eq_true] at hb
            exact absurd ⟨of_decide_eq_true hb.1, hb.2⟩ hd)
        clear hd
        rw [UH.out]
        go_wp2_with fail
        refine (spec_TackHeadings a b HY4.out.p EU.out (by omega)).mono ?_
        rintro e w5 ⟨⟨p1, p2, rfl⟩, hb⟩
        rw [TU.out, TU2.out]
        have HY5 := Lib.hid (HY4.out.to hb)
        clear hb HY4 x0 x1 x2
        obtain ⟨x0, x1, x2⟩ := HY5.out.of
        go_wp2_with fail
        refine (spec_JibeHeadings a b HY5.out.p ED.out (by omega)).mono ?_
        rintro e w6 ⟨⟨p3, p4, rfl⟩, hb⟩
        rw [TD.out, TD2.out]
        have HY6 := Lib.hid (HY5.out.to hb)
        clear hb HY5 x0 x1 x2
        obtain ⟨x0, x1, x2⟩ := HY6.out.of
        go_upto_region 11 with fail
        go_cut [15, 16] (fun s t wr => s = .int .i64 (u : Int) ∧ t = .bool true ∧ Boxed w2 wr A0 A1 A2 c0 c1 c2 d)
        case first =>
          go_region_with (first | (go_at_call 25; refine (impl_WindSpeed _ _ _).mono ?_; rintro e w' ⟨rfl, rfl⟩) | (go_at_call 10; refine (BestUp.impl_BestUp (speedW a b) (PolAt.below HY6.out.p (Below.refl _ _).drew)).mono ?_; rintro e w7 ⟨rfl, hb⟩; have HZ := Lib.hid (HY6.out.to ((Below.refl _ _).drew.trans hb)); clear hb; rw [EU.out]))
          all_goals (go_wp2_with fail)
          all_goals go_meet
          all_goals exact ⟨rfl, rfl, HZ.out⟩
        case rest =>
          obtain ⟨rfl, rfl, hZ⟩ := hcut
          have HY7 := Lib.hid hZ
          clear hZ HY6 x0 x1 x2
          obtain ⟨x0, x1, x2⟩ := HY7.out.of
          by_cases hu0 : u = 0
          · have hu1 : (u : Int) ≤ 0 := by omega
            clear hu0
            go_wp2_with (go_at_call 26; refine (impl_Between _ _ _).mono ?_; rintro e w' ⟨rfl, rfl⟩; first | rw [HB1.out] | rw [HB2.out])
            refine (impl_JibeHeadings a b HY7.out.p ED.out (by omega)).mono ?_
            rintro e w8 ⟨rfl, hb⟩
            have HY8 := Lib.hid (HY7.out.to hb)
            clear hb HY7 x0 x1 x2
            obtain ⟨x0, x1, x2⟩ := HY8.out.of
            rw [DH.out]
            go_wp2_with fail
            go_ret
            exact ⟨rfl, B2.out.trans (HY8.out.b.mono B2.out.size)⟩
          · have HS1 := Lib.hid (minus_side (f := f) (k := (u : Int)) (by omega) (by omega))
            have HS2 := Lib.hid (plus_side (f := f) (k := (u : Int)) (by omega) (by omega))
            go_wp2_with (first | (go_at_call 26; refine (impl_Between _ _ _).mono ?_; rintro e w' ⟨rfl, rfl⟩; first | rw [HB1.out] | rw [HB2.out]) | (go_at_call 27; refine (impl_WindSide _ _ _).mono ?_; rintro e w' ⟨rfl, rfl⟩; first | rw [HS1.out] | rw [HS2.out]))
            refine (impl_JibeHeadings a b HY7.out.p ED.out (by omega)).mono ?_
            rintro e w8 ⟨rfl, hb⟩
            have HY8 := Lib.hid (HY7.out.to hb)
            clear hb HY7 x0 x1 x2
            obtain ⟨x0, x1, x2⟩ := HY8.out.of
            rw [DH.out]
            go_wp2_with fail
            go_ret
            exact ⟨rfl, B2.out.trans (HY8.out.b.mono B2.out.size)⟩
    · by_cases hd : 0 ≤ f ∧ rD = true
      · have UH := Lib.hid (UI.out.trans (if_neg hu))
        have TU2 := Lib.hid (show (decide (0 ≤ f) && rU) = false by
          cases hb : (decide (0 ≤ f) && rU)
          · rfl
          · rw [Bool.and_eq_true] at hb
            exact absurd ⟨of_decide_eq_true hb.1, hb.2⟩ hu)
        clear hu
        have DH := Lib.hid (DI.out.trans (if_pos hd))
        have TD2 := Lib.hid (show (decide (0 ≤ f) && rD) = true by rw [decide_eq_true hd.1, hd.2]; rfl)
        obtain ⟨_, rfl⟩ := hd
        rw [UH.out]
        go_wp2_with fail
        refine (spec_TackHeadings a b HY4.out.p EU.out (by omega)).mono ?_
        rintro e w5 ⟨⟨p1, p2, rfl⟩, hb⟩
        rw [TU.out, TU2.out]
        have HY5 := Lib.hid (HY4.out.to hb)
        clear hb HY4 x0 x1 x2
        obtain ⟨x0, x1, x2⟩ := HY5.out.of
        go_wp2_with fail
        refine (spec_JibeHeadings a b HY5.out.p ED.out (by omega)).mono ?_
        rintro e w6 ⟨⟨p3, p4, rfl⟩, hb⟩
        rw [TD.out, TD2.out]
        have HY6 := Lib.hid (HY5.out.to hb)
        clear hb HY5 x0 x1 x2
        obtain ⟨x0, x1, x2⟩ := HY6.out.of
        go_wp2_with fail
        refine (impl_JibeHeadings a b HY6.out.p ED.out (by omega)).mono ?_
        rintro e w8 ⟨rfl, hb⟩
        have HY8 := Lib.hid (HY6.out.to hb)
        clear hb HY6 x0 x1 x2
        obtain ⟨x0, x1, x2⟩ := HY8.out.of
        rw [DH.out]
        go_upto_region 19 with fail
        go_cut [20, 21] (fun s t wr => s = .int .i64 (v : Int) ∧ t = .bool true ∧ Boxed w2 wr A0 A1 A2 c0 c1 c2 d)
        case first =>
          go_region_with (first | (go_at_call 25; refine (impl_WindSpeed _ _ _).mono ?_; rintro e w' ⟨rfl, rfl⟩) | (go_at_call 13; refine (BestDown.impl_BestDown (speedW a b) (PolAt.below HY8.out.p (Below.refl _ _).drew)).mono ?_; rintro e w9 ⟨rfl, hb⟩; have HZ := Lib.hid (HY8.out.to ((Below.refl _ _).drew.trans hb)); clear hb; rw [ED.out]))
          all_goals (go_wp2_with fail)
          all_goals go_meet
          all_goals exact ⟨rfl, rfl, HZ.out⟩
        case rest =>
          obtain ⟨rfl, rfl, hZ⟩ := hcut
          have HY9 := Lib.hid hZ
          clear hZ HY8 x0 x1 x2
          by_cases hv0 : v = 180
          · have hvq : ((v : Int) == 180) = true := beq_iff_eq.2 (by omega)
            clear hv0
            go_wp2_with (go_at_call 26; refine (impl_Between _ _ _).mono ?_; rintro e w' ⟨rfl, rfl⟩; first | rw [HB3.out] | rw [HB4.out])
            go_ret
            exact ⟨rfl, B2.out.trans (HY9.out.b.mono B2.out.size)⟩
          · have hv9 : 91 ≤ v := HV.out (by first | rfl | trivial)
            have hvq : ((v : Int) == 180) = false := beq_eq_false_iff_ne.2 (by omega)
            have HS3 := Lib.hid (minus_side (f := f) (k := (v : Int)) (by omega) (by omega))
            have HS4 := Lib.hid (plus_side (f := f) (k := (v : Int)) (by omega) (by omega))
            go_wp2_with (first | (go_at_call 26; refine (impl_Between _ _ _).mono ?_; rintro e w' ⟨rfl, rfl⟩; first | rw [HB3.out] | rw [HB4.out]) | (go_at_call 27; refine (impl_WindSide _ _ _).mono ?_; rintro e w' ⟨rfl, rfl⟩; first | rw [HS3.out] | rw [HS4.out]))
            go_ret
            exact ⟨rfl, B2.out.trans (HY9.out.b.mono B2.out.size)⟩
      · have UH := Lib.hid (UI.out.trans (if_neg hu))
        have TU2 := Lib.hid (show (decide (0 ≤ f) && rU) = false by
          cases hb : (decide (0 ≤ f) && rU)
          · rfl
          · rw [Bool.and_eq_true] at hb
            exact absurd ⟨of_decide_eq_true hb.1, hb.2⟩ hu)
        clear hu
        have DH := Lib.hid (DI.out.trans (if_neg hd))
        have TD2 := Lib.hid (show (decide (0 ≤ f) && rD) = false by
          cases hb : (decide (0 ≤ f) && rD)
          · rfl
          · rw [Bool.and_eq_true] at hb
            exact absurd ⟨of_decide_eq_true hb.1, hb.2⟩ hd)
        clear hd
        rw [UH.out]
        go_wp2_with fail
        refine (spec_TackHeadings a b HY4.out.p EU.out (by omega)).mono ?_
        rintro e w5 ⟨⟨p1, p2, rfl⟩, hb⟩
        rw [TU.out, TU2.out]
        have HY5 := Lib.hid (HY4.out.to hb)
        clear hb HY4 x0 x1 x2
        obtain ⟨x0, x1, x2⟩ := HY5.out.of
        go_wp2_with fail
        refine (spec_JibeHeadings a b HY5.out.p ED.out (by omega)).mono ?_
        rintro e w6 ⟨⟨p3, p4, rfl⟩, hb⟩
        rw [TD.out, TD2.out]
        have HY6 := Lib.hid (HY5.out.to hb)
        clear hb HY5 x0 x1 x2
        obtain ⟨x0, x1, x2⟩ := HY6.out.of
        go_wp2_with fail
        refine (impl_JibeHeadings a b HY6.out.p ED.out (by omega)).mono ?_
        rintro e w8 ⟨rfl, hb⟩
        have HY8 := Lib.hid (HY6.out.to hb)
        clear hb HY6 x0 x1 x2
        obtain ⟨x0, x1, x2⟩ := HY8.out.of
        rw [DH.out]
        go_wp2_with fail
        go_ret
        exact ⟨rfl, B2.out.trans (HY8.out.b.mono B2.out.size)⟩
end Go.Proofs.Yteaiaedhkhmgdaa.Ta
namespace Go.Proofs.Yteaiaedhkhmgdaa.Pure
open Go.RowKit Go.Proofs.YteaiaedhkhmgdaaW.PrintWords Go.Proofs.YteaiaedhkhmgdaaW.PrintLast Go.Proofs.YteaiaedhkhmgdaaW.PrintMore
theorem FnTackAnglesWalk (a0 : Option Addr) (len0 cap0 : Nat) (z0 : List Int) (w : World) (w0 : (a0 = none ∧ len0 = 0 ∧ cap0 = 0 ∧ z0 = []) ∨ ∃ x, a0 = some x ∧ len0 ≤ cap0 ∧ cap0 ≤ maxLen ∧ z0.length = cap0 ∧ (∀ i, i < z0.length → w.cell? (x.add i) = some (.int .u8 (z0.getD i 0))) ∧ ∀ n ∈ z0, (Lit.int .u8 n).wf = true) (_ : len0 * 1 ≤ 140737488351232) :
    Calls Try.prog 6 #[.slice a0 len0 cap0] w fun e w' => e = .returned (.bool true) ∧ Below w.heap.size w w' := by
  obtain ⟨l0, rfl, hr0, _, _, hc0⟩ := ReadsInt.ofRowC w0
  exact Ta.law (Kd.C_of_reads (d := (0 : Int)) (h1 := fun _ => rfl) hr0) hc0
end Go.Proofs.Yteaiaedhkhmgdaa.Pure
