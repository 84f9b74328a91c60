/- What is drawn for FnLayFetched: a polar, a wind, a way. -/
import Derived.Test.YteaiaedhkhmgdaaGreatDs
import Derived.Test.YteaiaedhkhmgdaaGreatTack
namespace Go.Proofs.YteaiaedhkhmgdaaGreat.Ly
open Go.RowKit Kit Fl Bd It Dw Pf Pw Mu Dp Be Tk Tn Fed Go.Proofs.YteaiaedhkhmgdaaGreatW.PrintWords Go.Proofs.YteaiaedhkhmgdaaGreatW.PrintLast Go.Proofs.YteaiaedhkhmgdaaGreatW.PrintMore PFnLayFetched
set_option maxRecDepth 100000 in
theorem wind_k {w0 ws w : World} {g : Nat} {m : Int} (hm : m ≤ 1600000) (hC : Cur2 w0 ws w g m) :
    Calls Tryz.prog 45 #[.pointer (some ⟨g, 0, none⟩)] w fun e w' => ∃ a b : Nat, e = .returned (.complex .f32 a b) ∧ Cur2 w0 ws w' g (m + 70) := by
  have C0 := Lib.hid hC
  clear hC
  go_enter Tryz.func45, Tryz.ntmps45
  go_wp2_with fail
  refine (once_k 12 (by omega) (by omega) C0.out).mono ?_
  rintro e w1 ⟨r, rfl, hC1⟩
  have C1 := Lib.hid hC1
  clear hC1
  cases r
  · go_wp2_with fail
    refine (below_k 129 (by omega) (by omega) C1.out).mono ?_
    rintro e w2 ⟨k, rfl, k0, k1, hC2⟩
    have q1 := quo8 (int_num32 (k - 64) (by omega) (by omega))
    have q1a := q1
    have q1b := q1
    rw [← (show wrap64 (k - 64) = k - 64 by unfold wrap64; omega)] at q1a
    rw [← (show IntKind.i64.wrap (k - 64) = k - 64 by rw [IntKind.wrap_i64]; omega)] at q1b
    have C2 := Lib.hid hC2
    clear hC2
    go_wp2_with fail
    refine (below_k 129 (by omega) (by omega) C2.out).mono ?_
    rintro e w3 ⟨n, rfl, n0, n1, hC3⟩
    have q2 := quo8 (int_num32 (n - 64) (by omega) (by omega))
    have q2a := q2
    have q2b := q2
    rw [← (show wrap64 (n - 64) = n - 64 by unfold wrap64; omega)] at q2a
    rw [← (show IntKind.i64.wrap (n - 64) = n - 64 by rw [IntKind.wrap_i64]; omega)] at q2b
    have C3 := Lib.hid hC3
    clear hC3
    go_wp2_with fail
    go_ret
    exact ⟨_, _, rfl, C3.out.mono (by omega)⟩
  · go_wp2_with fail
    refine (air_k (by omega) C1.out).mono ?_
    rintro e w2 ⟨a, b, rfl, hC2⟩
    have C2 := Lib.hid hC2
    clear hC2
    go_wp2_with fail
    go_ret
    exact ⟨_, _, rfl, C2.out.mono (by omega)⟩
theorem up_any (d : Pol) (x : Nat) : ∃ (r : Bool) (u : Nat), BestUp.bestR d x = #[.int .i64 (u : Int), .bool r] ∧ u ≤ 90 := by
  cases ho : okS d x 0
  · exact ⟨false, 0, BestUp.best_none ho, by omega⟩
  · obtain ⟨ok, hx, _, _⟩ := okS_get ho
    obtain ⟨r, u, e, h, _⟩ := BestUp.best_form ho (fun k _ k2 => BestUp.up_num ok hx (a := k) (by omega))
    exact ⟨r, u, e, h⟩
theorem NI.or {w0 ws w w1 : World} {g X B : Nat} {A0 A1 A2 : Option Addr} {n0 c0 n1 c1 c2 : Nat} {ls : List Nat} {m : Int} (h : NI w0 ws w g X B A0 n0 c0 A1 n1 c1 A2 ls c2 m) (e : w1 = w ∨ w1 = w.drew) : NI w0 ws w1 g X B A0 n0 c0 A1 n1 c1 A2 ls c2 m := by
  rcases e with rfl | rfl
  · exact h
  · exact h.drew
theorem or_blk {w w1 : World} {X : Nat} {o : Obj} (h : w.heap[X]? = some o) (e : w1 = w ∨ w1 = w.drew) : w1.heap[X]? = some o := by
  rcases e with rfl | rfl
  · exact h
  · exact h
/-- a product, whatever it comes to -/
theorem mul_any (t : TypeId) (x y : Nat) (w : World) : ∃ z w', (binOp .mul t (.float .f64 x) (.float .f64 y)).run Tryz.prog w = .ok (.float .f64 z) w' ∧ (w' = w ∨ w' = w.drew) := by
  have key : ∃ z w', (Op.floatArith .mul .f64 x y).run Tryz.prog w = .ok (.float .f64 z) w' ∧ (w' = w ∨ w' = w.drew) := by
    unfold Op.floatArith
    simp only [Sem.run_bind, Sem.run_pure, Result.andThen]
    cases FloatKind.f64.format.mul x y with
    | some r => exact ⟨r, w, rfl, Or.inl rfl⟩
    | none =>
      obtain ⟨n, w', h1, h2⟩ := run_any_choose (P := Tryz.prog) (.nanBits .f64 x y) w
      exact ⟨n, w', by simp only [Sem.run_bind, h1, Result.andThen]; rfl, h2⟩
  obtain ⟨z, w', h1, h2⟩ := key
  exact ⟨z, w', h1, h2⟩
theorem tb_num (i : Nat) (h : i < 360) : Num FloatKind.f64.format (tb i).1 ∧ Num FloatKind.f64.format (tb i).2 := by
  have hz := okT_tb i h
  unfold okT at hz
  rw [Bool.and_eq_true] at hz
  exact ⟨(bnd_lit hz.1).num, (bnd_lit hz.2).num⟩
set_option maxRecDepth 100000 in
set_option maxHeartbeats 1000000 in
theorem way_k {w0 ws w : World} {g : Nat} {m : Int} (a b : Nat) (hm : m ≤ 1600000) (hC : Cur2 w0 ws w g m) :
    Calls Tryz.prog 46 #[.pointer (some ⟨g, 0, none⟩), .complex .f32 a b] w fun e w' => ∃ p q : Nat, e = .returned (.complex .f64 p q) ∧ Cur2 w0 ws w' g (m + 70) := by
  have C0 := Lib.hid hC
  clear hC
  go_enter Tryz.func46, Tryz.ntmps46
  go_wp2_with fail
  refine (below_k 4000 (by omega) (by omega) C0.out).mono ?_
  rintro e w1 ⟨k, rfl, k0, k1, hC1⟩
  have C1 := Lib.hid hC1
  have k1 := k1 (by omega)
  have hk := int_num k (by omega) (by omega)
  clear hC1
  go_wp2_with fail
  refine (spec_FromOf _ _ _).mono ?_
  rintro e w' ⟨rfl, rfl⟩
  generalize fromI a b = f
  go_upto_region 3 with fail
  go_cut [18] (fun s wr => ∃ t : Bool, s = .bool t ∧ Cur2 w0 ws wr g (m + 8))
  case first =>
    by_cases hf : 0 ≤ f
    · go_wp2_with fail
      refine (once_k 2 (by omega) (by omega) C1.out).mono ?_
      rintro e w2 ⟨r, rfl, hC2⟩
      have C2 := Lib.hid (hC2.mono (show m + 4 + 4 ≤ m + 8 by omega))
      clear hC2
      go_wp2_with fail
      go_meet
      case rel => exact ⟨_, rfl, C2.out⟩
    · have C2 := Lib.hid (C1.out.mono (show m + 4 ≤ m + 8 by omega))
      go_wp2_with fail
      go_meet
      case rel => exact ⟨_, rfl, C2.out⟩
  case rest =>
    obtain ⟨t, rfl, hC2⟩ := hcut
    have C2 := Lib.hid hC2
    clear hC2
    cases t
    · go_wp2_with fail
      refine (vector_k 3000 (by omega) (by omega) (by omega) C2.out).mono ?_
      rintro e w3 ⟨x, y, rfl, hC3⟩
      have C3 := Lib.hid hC3
      clear hC3
      go_wp2_with fail
      go_ret
      exact ⟨_, _, rfl, C3.out.mono (by omega)⟩
    · go_wp2_with fail
      obtain ⟨l, hl4, hL⟩ := litN wc [0, 180, 20, -20, 45, -45, 160, 200, 90] 3 #[.int .i64 0, .int .i64 180, .int .i64 20, .int .i64 (-20), .int .i64 45, .int .i64 (-45), .int .i64 160, .int .i64 200, .int .i64 90] rfl (by decide) (by decide) (by decide)
      have hgl := C2.out.lt
      have hp := pick_k (by omega) (C2.out.alloc (.cells #[.int .i64 0, .int .i64 180, .int .i64 20, .int .i64 (-20), .int .i64 45, .int .i64 (-45), .int .i64 160, .int .i64 200, .int .i64 90] 3)) hL (c := 9) (by rw [hl4]; decide) (fun ad e _ => by cases e; exact Nat.ne_of_gt hgl) (by rw [hl4]; decide)
      rw [hl4] at hp
      refine hp.mono ?_
      clear hp hL hgl hl4
      rintro e w3 ⟨x, rfl, _, hC3⟩
      have C3 := Lib.hid hC3
      clear hC3
      go_wp2_with fail
      refine (below_k 5 (by omega) (by omega) C3.out).mono ?_
      rintro e w4 ⟨y, rfl, _, _, hC4⟩
      have C4 := Lib.hid hC4
      clear hC4
      go_wp2_with fail
      refine (spec_Turn _ _).mono ?_
      rintro e w' ⟨rfl, rfl⟩
      generalize hT : deg _ = T
      have hT9 : T < 360 := by rw [← hT]; exact deg_lt _
      clear hT
      have hn := tb_num T hT9
      have q1 := Sm.isSome_mul hn.1 hk
      have q2 := Sm.isSome_mul hn.2 hk
      go_wp2_with fail
      go_ret
      exact ⟨_, _, rfl, C4.out.mono (by omega)⟩
set_option maxRecDepth 100000 in
set_option maxHeartbeats 2000000 in
theorem draw_fetch {w0 w : World} {A : Option Addr} {c : Nat} {l : List Int} (hB : Below w0.heap.size w0 w) (hr0 : Kd.C (Kd.int .u8) w0 A l.length l) (hc0 : l.length ≤ c) (hl : l.length ≤ 1048576) :
    Calls Tryz.prog 16 #[.slice A l.length c] w fun e w' => ∃ (A0 : Option Addr) (n0 c0 : Nat) (A1 : Option Addr) (n1 c1 : Nat) (A2 : Option Addr) (ls : List Nat) (c2 a b p q : Nat), e = .returned (.tuple #[.agg #[.slice A0 n0 c0, .slice A1 n1 c1, .slice A2 ls.length c2], .complex .f32 a b, .complex .f64 p q]) ∧ Below w0.heap.size w0 w' ∧ Shp w' w0.heap.size A0 n0 A1 n1 A2 ls := by
  have B0 := Lib.hid hB
  have HR := Lib.hid hr0
  clear hB hr0
  go_enter Tryz.func16, Tryz.ntmps16
  go_wp2_with fail
  have hX0 := blk_new w (.cells #[.slice none 0 0, .slice none 0 0, .slice none 0 0] 28)
  have hb0 := B0.out.alloc B0.out.size (.cells #[.slice none 0 0, .slice none 0 0, .slice none 0 0] 28)
  have hsz : w0.heap.size ≤ w.heap.size := B0.out.size
  generalize w.alloc (.cells #[.slice none 0 0, .slice none 0 0, .slice none 0 0] 28) = W at *
  generalize w.heap.size = X at *
  refine (new_k hb0 HR.out hc0 hl).mono ?_
  rintro e w1 ⟨g, rfl, hC1, hb1⟩
  have hX1 := blk_below hX0 hb1
  have C1 := Lib.hid hC1.root
  have hgX : X ≠ g := by
    obtain ⟨cs, e⟩ := hC1.blk
    exact blk_ne hX1 e (by decide)
  have HX1 := Lib.hid hX1
  clear hX0 hb0 hb1 hC1 hX1
  go_wp2_with fail
  refine (any_call C1.out).mono ?_
  rintro e w2 ⟨A0, n0, c0, A1, n1, c1, A2, ls, c2, rfl, ⟨hn0, hn1⟩, hC2, hS2⟩
  have HX2 := Lib.hid (hC2.keep.blk HX1.out hgX (by simp))
  have I4 := Lib.hid (NI.start (c0 := c0) (c1 := c1) (c2 := c2) hC2.root hS2)
  have HX4 := Lib.hid (blk_alloc HX2.out (.cells #[.slice A0 n0 c0, .slice A1 n1 c1, .slice A2 ls.length c2] 28))
  clear hC2 hS2 HX1 HX2
  go_wp2_with fail
  generalize w2.alloc (.cells #[.slice A0 n0 c0, .slice A1 n1 c1, .slice A2 ls.length c2] 28) = w9 at *
  generalize w2.heap.size = Y at *
  refine (wind_k (by omega) I4.out.cur.here).mono ?_
  rintro e w3 ⟨a, b, rfl, hC3⟩
  have J4 := Lib.hid (I4.out.move hC3)
  have HX3 := Lib.hid (hC3.keep.blk HX4.out hgX (by simp))
  clear hC3 I4 HX4
  have I4 := J4
  have HX4 := HX3
  clear J4 HX3
  go_upto_region 4 with fail
  obtain ⟨y0, y1, y2⟩ := I4.out.cells
  have hX5 := HX4.out
  have x0 : w3.cell? ⟨X, 0, none⟩ = some (.slice none 0 0) := blk_cell hX5 0
  have x1 : w3.cell? ⟨X, 1, none⟩ = some (.slice none 0 0) := blk_cell hX5 1
  have x2 : w3.cell? ⟨X, 2, none⟩ = some (.slice none 0 0) := blk_cell hX5 2
  have xf0 := blk_frozen hX5 0
  have xf1 := blk_frozen hX5 1
  have xf2 := blk_frozen hX5 2
  clear hX5
  go_region_with (first | (go_at_call 46; refine (way_k a b (by omega) I4.out.drew.cur.here).mono ?_; rintro e w5 ⟨p, q, rfl, hC5⟩; have I5 := Lib.hid (I4.out.drew.move hC5); have HX5 := Lib.hid (hC5.keep.blk (show w3.drew.heap[X]? = _ from HX4.out) hgX (by simp)); obtain ⟨y0, y1, y2⟩ := I5.out.cells; have hX5 := HX5.out; have x0 : w5.cell? ⟨X, 0, none⟩ = some (.slice none 0 0) := blk_cell hX5 0; have x1 : w5.cell? ⟨X, 1, none⟩ = some (.slice none 0 0) := blk_cell hX5 1; have x2 : w5.cell? ⟨X, 2, none⟩ = some (.slice none 0 0) := blk_cell hX5 2; have xf0 := blk_frozen hX5 0; have xf1 := blk_frozen hX5 1; have xf2 := blk_frozen hX5 2; have P := Lib.hid (I5.out.fin HX5.out hgX hsz (.slice A0 n0 c0) (.slice A1 n1 c1) (.slice A2 ls.length c2)); clear hC5 hX5))
  all_goals (go_wp2_with fail)
  all_goals exact bodyPost_ret (v := .tuple #[.agg #[.slice A0 n0 c0, .slice A1 n1 c1, .slice A2 ls.length c2], .complex .f32 a b, .complex .f64 p q]) (by simp [results, Tryz.results16, go_sem, x0, x1, x2]) rfl ⟨A0, n0, c0, A1, n1, c1, A2, ls, c2, a, b, p, q, rfl, P.out⟩
set_option maxRecDepth 100000 in
set_option maxHeartbeats 2000000 in
theorem draw_lay {w0 w : World} {A : Option Addr} {c : Nat} {l : List Int} (hB : Below w0.heap.size w0 w) (hr0 : Kd.C (Kd.int .u8) w0 A l.length l) (hc0 : l.length ≤ c) (hl : l.length ≤ 1048576) :
    Calls Tryz.prog 5 #[.slice A l.length c] w fun e w' => ∃ (A0 : Option Addr) (n0 c0 : Nat) (A1 : Option Addr) (n1 c1 : Nat) (A2 : Option Addr) (ls : List Nat) (c2 a b p q : Nat), e = .returned (.tuple #[.agg #[.slice A0 n0 c0, .slice A1 n1 c1, .slice A2 ls.length c2], .complex .f32 a b, .complex .f64 p q]) ∧ Below w0.heap.size w0 w' ∧ Shp w' w0.heap.size A0 n0 A1 n1 A2 ls := by
  have B0 := Lib.hid hB
  have HR := Lib.hid hr0
  clear hB hr0
  go_enter Tryz.func5, Tryz.ntmps5
  go_wp2_with fail
  have hX0 := blk_new w (.cells #[.slice none 0 0, .slice none 0 0, .slice none 0 0] 28)
  have hb0 := B0.out.alloc B0.out.size (.cells #[.slice none 0 0, .slice none 0 0, .slice none 0 0] 28)
  have hsz : w0.heap.size ≤ w.heap.size := B0.out.size
  generalize w.alloc (.cells #[.slice none 0 0, .slice none 0 0, .slice none 0 0] 28) = W at *
  generalize w.heap.size = X at *
  have hRW := Lib.hid (Kd.C_below HR.out hb0)
  refine (draw_fetch (Below.refl W.heap.size W) hRW.out hc0 hl).mono ?_
  rintro e w1 ⟨A0, n0, c0, A1, n1, c1, A2, ls, c2, a, b, p, q, rfl, hB1, hS1⟩
  obtain ⟨d, e0, e1, e2, hP⟩ := hS1.pol
  have HW := Lib.hid hb0
  have HX := Lib.hid hX0
  have hS2 := hS1.below ((Below.refl w1.heap.size w1).alloc (Nat.le_refl _) (.cells #[.slice A0 n0 c0, .slice A1 n1 c1, .slice A2 ls.length c2] 28))
  have hB2 := hB1.alloc hB1.size (.cells #[.slice A0 n0 c0, .slice A1 n1 c1, .slice A2 ls.length c2] 28)
  have hP2 := hP.below ((Below.refl w1.heap.size w1).alloc (Nat.le_refl _) (.cells #[.slice A0 n0 c0, .slice A1 n1 c1, .slice A2 ls.length c2] 28))
  have hY2 := blk_new w1 (.cells #[.slice A0 n0 c0, .slice A1 n1 c1, .slice A2 ls.length c2] 28)
  clear hX0 hb0 hB1 hS1 hP
  go_upto_region 2 with fail
  generalize w1.alloc (.cells #[.slice A0 n0 c0, .slice A1 n1 c1, .slice A2 ls.length c2] 28) = w2 at *
  generalize w1.heap.size = Y at *
  have y0 : w2.cell? ⟨Y, 0, none⟩ = some (.slice A0 n0 c0) := blk_cell hY2 0
  have y1 : w2.cell? ⟨Y, 1, none⟩ = some (.slice A1 n1 c1) := blk_cell hY2 1
  have y2 : w2.cell? ⟨Y, 2, none⟩ = some (.slice A2 ls.length c2) := blk_cell hY2 2
  have HP := Lib.hid hP2
  have HB := Lib.hid hB2
  have HS := Lib.hid hS2
  have HY := Lib.hid hY2
  clear hP2 hB2 hS2 hY2
  obtain ⟨rU, u, eU, u1⟩ := up_any d (speedW a b)
  have EU := Lib.hid eU
  clear eU
  go_cut [8, 9, 10] (fun k o t wr => ∃ (ki oi : Int) (tb : Bool), k = .int .i64 ki ∧ o = .int .i64 oi ∧ t = .bool tb ∧ Below w2.heap.size w2 wr)
  case first =>
    subst e0 e1
    rw [← e2] at *
    go_wp2_with fail
    refine (spec_TackHeadingsX a b HP.out EU.out (by omega)).mono ?_
    rintro e w3 ⟨rfl, hb⟩
    have HC := Lib.hid hb
    clear hb
    by_cases hc : 0 ≤ fromI a b ∧ rU = true
    · have HH := Lib.hid (show headR a b (u : Int) rU = _ from if_pos hc)
      rw [HH.out]
      clear hc
      go_wp2_with fail
      go_meet
      case rel => exact ⟨_, _, _, rfl, rfl, rfl, HC.out⟩
    · have HH := Lib.hid (show headR a b (u : Int) rU = _ from if_neg hc)
      rw [HH.out]
      clear hc
      go_wp2_with fail
      go_meet
      case rel => exact ⟨_, _, _, rfl, rfl, rfl, HC.out⟩
  case rest =>
    obtain ⟨ki, oi, t, rfl, rfl, rfl, hC⟩ := hcut
    have BW := Lib.hid (HB.out.trans (hC.mono HB.out.size))
    have HX1 := Lib.hid (blk_below (blk_below HX.out HB.out) hC)
    have HY1 := Lib.hid (blk_below HY.out hC)
    have HS1 := Lib.hid (HS.out.below hC)
    clear hC HP HS HY HB HX EU y0 y1 y2
    go_wp2_with fail
    refine (new_k BW.out hRW.out hc0 hl).mono ?_
    rintro e w3 ⟨g, rfl, hC3, hb3⟩
    have hX3 := blk_below HX1.out hb3
    have hgX : X ≠ g := by
      obtain ⟨cs, e⟩ := hC3.blk
      exact blk_ne hX3 e (by decide)
    have I3 := Lib.hid (NI.mk (B := W.heap.size) (m := 0) (ls := ls) (c0 := c0) (c1 := c1) (c2 := c2) hC3.root (blk_below HY1.out hb3) (HS1.out.below hb3))
    have HX3 := Lib.hid hX3
    clear hC3 hb3 hX3 HX1 HY1 HS1
    go_wp2_with fail
    refine (once_k 2 (by omega) (by omega) I3.out.cur.here).mono ?_
    rintro e w4 ⟨r, rfl, hC4⟩
    have I4 := Lib.hid (I3.out.move hC4)
    have HX4 := Lib.hid (hC4.keep.blk HX3.out hgX (by simp))
    clear hC4 I3 HX3
    go_upto_if 30 with fail
    go_cut [8] (fun k wr => (∃ ki : Int, k = .int .i64 ki) ∧ wr = w4)
    case first =>
      cases r
      · go_wp2_with fail
        go_meet
        case rel => exact ⟨⟨_, rfl⟩, rfl⟩
      · go_wp2_with fail
        go_meet
        case rel => exact ⟨⟨_, rfl⟩, rfl⟩
    case rest =>
      obtain ⟨⟨ki, rfl⟩, rfl⟩ := hcut
      go_upto_region 6 with fail
      go_cut [37] (fun s wr => ∃ t : Bool, s = .bool t ∧ NI W W wr g Y W.heap.size A0 n0 c0 A1 n1 c1 A2 ls c2 8 ∧ wr.heap[X]? = some (.cells #[.slice none 0 0, .slice none 0 0, .slice none 0 0] 28 (0, 0)))
      case first =>
        cases t
        · have I5 := Lib.hid (I4.out.mono (show (0 : Int) + 4 ≤ 8 by omega))
          go_wp2_with fail
          go_meet
          case rel => exact ⟨_, rfl, I5.out, HX4.out⟩
        · go_wp2_with fail
          refine (once_k 3 (by omega) (by omega) I4.out.cur.here).mono ?_
          rintro e w5 ⟨v, rfl, hC5⟩
          have I5 := Lib.hid ((I4.out.move hC5).mono (show (0 : Int) + 4 + 4 ≤ 8 by omega))
          have HX5 := Lib.hid (hC5.keep.blk HX4.out hgX (by simp))
          clear hC5
          go_wp2_with fail
          go_meet
          case rel => exact ⟨_, rfl, I5.out, HX5.out⟩
      case rest =>
        obtain ⟨t2, rfl, hI, hX⟩ := hcut
        have I5 := Lib.hid hI
        have HX5 := Lib.hid hX
        clear hI hX I4 HX4
        go_upto_if 37 with fail
        go_cut [7] (fun z wr => (∃ p q : Nat, z = .complex .f64 p q) ∧ NI W W wr g Y W.heap.size A0 n0 c0 A1 n1 c1 A2 ls c2 20 ∧ wr.heap[X]? = some (.cells #[.slice none 0 0, .slice none 0 0, .slice none 0 0] 28 (0, 0)))
        case first =>
          cases t2
          · have I6 := Lib.hid (I5.out.mono (show (8 : Int) ≤ 20 by omega))
            go_wp2_with fail
            go_meet
            case rel => exact ⟨⟨_, _, rfl⟩, I6.out, HX5.out⟩
          · go_wp2_with fail
            refine (spec_Turn _ _).mono ?_
            rintro e w' ⟨rfl, rfl⟩
            generalize hT : deg _ = T
            have hT9 : T < 360 := by rw [← hT]; exact deg_lt _
            clear hT
            have hn := tb_num T hT9
            go_wp2_with fail
            obtain ⟨lz, hl4, hL⟩ := litN wc [1, 64, 512, 2048] 3 #[.int .i64 1, .int .i64 64, .int .i64 512, .int .i64 2048] rfl (by decide) (by decide) (by decide)
            have hgl := I5.out.cur.lt
            have hp := pick_k (by omega) (I5.out.cur.here.alloc (.cells #[.int .i64 1, .int .i64 64, .int .i64 512, .int .i64 2048] 3)) hL (c := 4) (by rw [hl4]; decide) (fun ad e _ => by cases e; exact Nat.ne_of_gt hgl) (by rw [hl4]; decide)
            rw [hl4] at hp
            refine hp.mono ?_
            clear hp hL hgl hl4
            rintro e w6 ⟨x, rfl, _, hC6⟩
            have I6 := Lib.hid (I5.out.move hC6)
            have HX6 := Lib.hid (hC6.keep.blk HX5.out hgX (by simp))
            clear hC6
            go_wp2_with fail
            obtain ⟨z7, w7, h1, h2⟩ := mul_any 42 (tb T).1 (floatOfInt .f64 x) w6
            rw [h1]
            dsimp only [Result.andThen]
            have I7 := Lib.hid (NI.or I6.out h2)
            have HX7 := Lib.hid (or_blk HX6.out h2)
            clear h1 h2
            go_wp2_with fail
            obtain ⟨z8, w8, h1, h2⟩ := mul_any 42 (tb T).2 (floatOfInt .f64 x) w7
            rw [h1]
            dsimp only [Result.andThen]
            have I8 := Lib.hid ((NI.or I7.out h2).mono (show (8 : Int) + 4 ≤ 20 by omega))
            have HX8 := Lib.hid (or_blk HX7.out h2)
            clear h1 h2
            go_wp2_with fail
            go_meet
            case rel => exact ⟨⟨_, _, rfl⟩, I8.out, HX8.out⟩
        case rest =>
          obtain ⟨⟨p, q, rfl⟩, hI, hX⟩ := hcut
          have I6 := Lib.hid hI
          clear hI I5 HX5
          obtain ⟨y0, y1, y2⟩ := I6.out.cells
          have x0 : wc.cell? ⟨X, 0, none⟩ = some (.slice none 0 0) := blk_cell hX 0
          have x1 : wc.cell? ⟨X, 1, none⟩ = some (.slice none 0 0) := blk_cell hX 1
          have x2 : wc.cell? ⟨X, 2, none⟩ = some (.slice none 0 0) := blk_cell hX 2
          have xf0 := blk_frozen hX 0
          have xf1 := blk_frozen hX 1
          have xf2 := blk_frozen hX 2
          have P := Lib.hid (I6.out.s.fin2 (HW.out.trans (I6.out.cur.below.mono HW.out.size)) hX hsz HW.out.size (.slice A0 n0 c0) (.slice A1 n1 c1) (.slice A2 ls.length c2))
          clear hX
          go_wp2_with fail
          exact bodyPost_ret (v := .tuple #[.agg #[.slice A0 n0 c0, .slice A1 n1 c1, .slice A2 ls.length c2], .complex .f32 a b, .complex .f64 p q]) (by simp [results, Tryz.results5, go_sem, x0, x1, x2]) rfl ⟨A0, n0, c0, A1, n1, c1, A2, ls, c2, a, b, p, q, rfl, P.out⟩
end Go.Proofs.YteaiaedhkhmgdaaGreat.Ly
