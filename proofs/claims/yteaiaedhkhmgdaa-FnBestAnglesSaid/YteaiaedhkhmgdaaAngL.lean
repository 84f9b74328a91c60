/- The law FnBestAngles: no angle makes more way up, down or through the water than the best ones. It holds for every code. -/
import Derived.Test.YteaiaedhkhmgdaaDs
import Derived.Test.YteaiaedhkhmgdaaBest3
import Derived.Test.YteaiaedhkhmgdaaPolB
import Derived.BigQuiet
namespace Go.Proofs.Yteaiaedhkhmgdaa.Ba
open Go.RowKit Kit Fl Bd Dw Pf Pw Mu Dp Tad Go.Proofs.YteaiaedhkhmgdaaW.PrintWords Go.Proofs.YteaiaedhkhmgdaaW.PrintLast Go.Proofs.YteaiaedhkhmgdaaW.PrintMore PFnTackAngles
def ltB (x y : Nat) : Bool := FloatKind.f32.format.order x y == some .lt
theorem geI {g : Int} (h : 0 ≤ g) : ((g.toNat : Nat) : Int) = g := by omega
theorem up_fact {d : Pol} {x : Nat} (ok : Okp d) (hx : airB x = true) {r : Bool} {u : Nat} (hu : u ≤ 90) (h1 : r = true → 0 ≤ u ∧ 0 < V FloatKind.f32.format (BestUp.fF d x u) ∧ ∀ k, 0 ≤ k → k ≤ 90 → V FloatKind.f32.format (BestUp.fF d x k) ≤ V FloatKind.f32.format (BestUp.fF d x u)) (h2 : r = false → ∀ k, 0 ≤ k → k ≤ 90 → V FloatKind.f32.format (BestUp.fF d x k) ≤ 0) {g : Int} (g0 : 0 ≤ g) :
    (r = true → leB (upF d x (u : Int)) 0 = false ∧ (g ≤ 90 → gtB (upF d x g) (upF d x (u : Int)) = false)) ∧ (r = false → g ≤ 90 → leB (upF d x g) 0 = true) := by
  have nu := BestUp.up_num ok hx (a := u) (by omega)
  have eg := geI g0
  constructor
  · intro hr
    obtain ⟨_, p, q⟩ := h1 hr
    unfold BestUp.fF at p
    refine ⟨by rw [leB_num nu n0, v0]; exact decide_eq_false (by grind), fun hg => ?_⟩
    have ng := BestUp.up_num ok hx (a := g.toNat) (by omega)
    have := q g.toNat (by omega) (by omega)
    unfold BestUp.fF at this
    rw [eg] at this ng
    rw [gtB_num ng nu]
    exact decide_eq_false (by grind)
  · intro hr hg
    have ng := BestUp.up_num ok hx (a := g.toNat) (by omega)
    have := h2 hr g.toNat (by omega) (by omega)
    unfold BestUp.fF at this
    rw [eg] at this ng
    rw [leB_num ng n0, v0]
    exact decide_eq_true this
theorem down_fact {d : Pol} {x : Nat} (ok : Okp d) (hx : airB x = true) {r : Bool} {u : Nat} (hu : u ≤ 180) (h1 : r = true → 91 ≤ u ∧ 0 < V FloatKind.f32.format (BestDown.fF d x u) ∧ ∀ k, 91 ≤ k → k ≤ 180 → V FloatKind.f32.format (BestDown.fF d x k) ≤ V FloatKind.f32.format (BestDown.fF d x u)) (h2 : r = false → ∀ k, 91 ≤ k → k ≤ 180 → V FloatKind.f32.format (BestDown.fF d x k) ≤ 0) {g : Int} (g0 : 0 ≤ g) (g1 : g ≤ 180) :
    (r = true → (91 : Int) ≤ (u : Int) ∧ geB (upF d x (u : Int)) 0 = false ∧ (90 < g → ltB (upF d x g) (upF d x (u : Int)) = false)) ∧ (r = false → 90 < g → geB (upF d x g) 0 = true) := by
  have nu := BestUp.up_num ok hx (a := u) (by omega)
  have eu := (neg_num nu).2
  have eg := geI g0
  constructor
  · intro hr
    obtain ⟨u1, p, q⟩ := h1 hr
    unfold BestDown.fF at p
    rw [eu] at p
    refine ⟨by omega, by rw [geB_num nu n0, v0]; exact decide_eq_false (by grind), fun hg => ?_⟩
    have ng := BestUp.up_num ok hx (a := g.toNat) (by omega)
    have := q g.toNat (by omega) (by omega)
    unfold BestDown.fF at this
    rw [(neg_num ng).2, eu] at this
    rw [eg] at this ng
    unfold ltB
    rw [lss_num ng nu]
    exact decide_eq_false (by grind)
  · intro hr hg
    have ng := BestUp.up_num ok hx (a := g.toNat) (by omega)
    have := h2 hr g.toNat (by omega) (by omega)
    unfold BestDown.fF at this
    rw [(neg_num ng).2] at this
    rw [eg] at this ng
    rw [geB_num ng n0, v0]
    exact decide_eq_true (by grind)
theorem fast_fact {d : Pol} {x : Nat} (ok : Okp d) (hx : airB x = true) {r : Bool} {u : Nat} (hu : u ≤ 180) (h1 : r = true → 0 ≤ u ∧ 0 < V FloatKind.f32.format (BestF.fF d x u) ∧ ∀ k, 0 ≤ k → k ≤ 180 → V FloatKind.f32.format (BestF.fF d x k) ≤ V FloatKind.f32.format (BestF.fF d x u)) (h2 : r = false → ∀ k, 0 ≤ k → k ≤ 180 → V FloatKind.f32.format (BestF.fF d x k) ≤ 0) {g : Int} (g0 : 0 ≤ g) (g1 : g ≤ 180) :
    (r = true → leB (speedF d x g) (speedF d x (u : Int)) = true) ∧ (r = false → leB (speedF d x g) 0 = true) := by
  have nu := (speed_num ok hx (g := (u : Int)) (by omega) (by omega)).num
  have ng := (speed_num ok hx g0 g1).num
  have eg := geI g0
  constructor
  · intro hr
    obtain ⟨_, _, q⟩ := h1 hr
    have := q g.toNat (by omega) (by omega)
    unfold BestF.fF at this
    rw [eg] at this
    rw [leB_num ng nu]
    exact decide_eq_true this
  · intro hr
    have := h2 hr g.toNat (by omega) (by omega)
    unfold BestF.fF at this
    rw [eg] at this
    rw [leB_num ng n0, v0]
    exact decide_eq_true this
theorem zero_eq : (FloatKind.f32.format.order 0 0 == some .eq) = true := by decide +kernel
set_option maxRecDepth 100000 in
set_option maxHeartbeats 2000000 in
theorem law {w : World} {A : Option Addr} {c : Nat} {l0 : List Int} (hr0 : Kd.C (Kd.int .u8) w A l0.length l0) (hc0 : l0.length ≤ c) :
    Calls Try.prog 5 #[.slice A l0.length c] w fun e w' => e = .returned (.bool true) ∧ Below w.heap.size w w' := by
  have HR := Lib.hid hr0
  go_enter Try.func5, Try.ntmps5
  go_wp2_with fail
  refine (laws_big.calls A c l0 (decide ((l0.length : Int) > 1048576)) w hr0 hc0 rfl).mono ?_
  rintro e w1 ⟨rfl, hd⟩
  have B1 := Lib.hid hd.below
  clear hr0 hd
  by_cases hl : (l0.length : Int) > 1048576
  · rw [decide_eq_true hl]
    go_wp2_with fail
    go_ret
    exact ⟨rfl, B1.out⟩
  · rw [decide_eq_false hl]
    go_wp2_with fail
    refine (draw_made B1.out HR.out hc0 (by omega)).mono ?_
    rintro e w2 ⟨A0, n0, c0, A1, n1, c1, A2, ls, c2, x, g, rfl, hB2, hS⟩
    obtain ⟨d, rfl, rfl, e2, hP⟩ := hS.pol
    rw [← e2]
    obtain ⟨W, hW, hX⟩ := boxed (c0 := c0) (c1 := c1) (c2 := c2) hP
    have HY := Lib.hid hX
    have B2 := Lib.hid hB2
    clear hB2 hS e2 hP hX
    go_upto_region 4 with fail
    rw [← hW]
    clear hW
    obtain ⟨x0, x1, x2⟩ := HY.out.of
    cases ho : okS d x g
    · have M := Lib.hid (made_no ho)
      have S := Lib.hid (told_no ho)
      have z := zero_eq
      clear ho
      go_wp2_with fail
      refine (impl_MadeUp x g HY.out.p).mono ?_
      rintro e w3 ⟨rfl, hb⟩
      have HY3 := Lib.hid (HY.out.to hb)
      clear hb HY x0 x1 x2
      obtain ⟨x0, x1, x2⟩ := HY3.out.of
      rw [M.out]
      go_wp2_with fail
      refine (impl_SpeedAt x g HY3.out.p).mono ?_
      rintro e w4 ⟨rfl, hb⟩
      have HY4 := Lib.hid (HY3.out.to hb)
      clear hb HY3 x0 x1 x2
      obtain ⟨x0, x1, x2⟩ := HY4.out.of
      rw [S.out]
      go_wp2_with fail
      refine (spec_MadeUp x g HY4.out.p).mono ?_
      rintro e w5 ⟨rfl, hb⟩
      have HY5 := Lib.hid (HY4.out.to hb)
      clear hb HY4 x0 x1 x2
      obtain ⟨x0, x1, x2⟩ := HY5.out.of
      rw [M.out]
      go_wp2_with fail
      go_ret
      exact ⟨rfl, B2.out.trans (HY5.out.b.mono B2.out.size)⟩
    · obtain ⟨ok, hx, g0, g1⟩ := okS_get ho
      obtain ⟨rU, u, eU, u1, pU, qU⟩ := BestUp.best_form (okS_at ho (k := 0) (by omega) (by omega)) (fun k _ k2 => BestUp.up_num ok hx (a := k) (by omega))
      obtain ⟨rD, v, eD, v1, pD, qD⟩ := BestDown.best_form (okS_at ho (k := 91) (by omega) (by omega)) (fun k _ k2 => (neg_num (BestUp.up_num ok hx (a := k) (by omega))).1)
      obtain ⟨rF, f, eF, f1, pF, qF⟩ := BestF.best_form (okS_at ho (k := 0) (by omega) (by omega)) (fun k _ k2 => (speed_num ok hx (g := (k : Int)) (by omega) (by omega)).num)
      have FU := Lib.hid (up_fact ok hx u1 pU qU g0)
      have FD := Lib.hid (down_fact ok hx v1 pD qD g0 g1)
      have FF := Lib.hid (fast_fact ok hx f1 pF qF g0 g1)
      have M := Lib.hid (made_yes ho)
      have S := Lib.hid (told_yes ho)
      have MU := Lib.hid (made_yes (okS_at ho (k := (u : Int)) (by omega) (by omega)))
      have MV := Lib.hid (made_yes (okS_at ho (k := (v : Int)) (by omega) (by omega)))
      have SF := Lib.hid (told_yes (okS_at ho (k := (f : Int)) (by omega) (by omega)))
      have EU := Lib.hid eU
      have ED := Lib.hid eD
      have EF := Lib.hid eF
      clear ho ok hx eU eD eF pU qU pD qD pF qF
      go_wp2_with fail
      refine (impl_MadeUp x g HY.out.p).mono ?_
      rintro e w3 ⟨rfl, hb⟩
      have HY3 := Lib.hid (HY.out.to hb)
      clear hb HY x0 x1 x2
      obtain ⟨x0, x1, x2⟩ := HY3.out.of
      rw [M.out]
      go_wp2_with fail
      refine (impl_SpeedAt x g HY3.out.p).mono ?_
      rintro e w4 ⟨rfl, hb⟩
      have HY4 := Lib.hid (HY3.out.to hb)
      clear hb HY3 x0 x1 x2
      obtain ⟨x0, x1, x2⟩ := HY4.out.of
      rw [S.out]
      go_wp2_with fail
      refine (spec_MadeUp x g HY4.out.p).mono ?_
      rintro e w5 ⟨rfl, hb⟩
      have HY5 := Lib.hid (HY4.out.to hb)
      clear hb HY4 x0 x1 x2
      obtain ⟨x0, x1, x2⟩ := HY5.out.of
      rw [M.out]
      go_wp2_with fail
      refine (BestUp.impl_BestUp x HY5.out.p).mono ?_
      rintro e w6 ⟨rfl, hb⟩
      have HY6 := Lib.hid (HY5.out.to hb)
      clear hb HY5 x0 x1 x2
      obtain ⟨x0, x1, x2⟩ := HY6.out.of
      rw [EU.out]
      go_wp2_with fail
      refine (BestDown.impl_BestDown x HY6.out.p).mono ?_
      rintro e w7 ⟨rfl, hb⟩
      have HY7 := Lib.hid (HY6.out.to hb)
      clear hb HY6 x0 x1 x2
      obtain ⟨x0, x1, x2⟩ := HY7.out.of
      rw [ED.out]
      go_wp2_with fail
      refine (BestF.impl_Fastest x HY7.out.p).mono ?_
      rintro e w8 ⟨rfl, hb⟩
      have HY8 := Lib.hid (HY7.out.to hb)
      clear hb HY7 x0 x1 x2
      obtain ⟨x0, x1, x2⟩ := HY8.out.of
      rw [EF.out]
      go_wp2_with fail
      refine (impl_MadeUp x (u : Int) HY8.out.p).mono ?_
      rintro e w9 ⟨rfl, hb⟩
      have HY9 := Lib.hid (HY8.out.to hb)
      clear hb HY8 x0 x1 x2
      obtain ⟨x0, x1, x2⟩ := HY9.out.of
      rw [MU.out]
      go_wp2_with fail
      refine (impl_MadeUp x (v : Int) HY9.out.p).mono ?_
      rintro e w10 ⟨rfl, hb⟩
      have HY10 := Lib.hid (HY9.out.to hb)
      clear hb HY9 x0 x1 x2
      obtain ⟨x0, x1, x2⟩ := HY10.out.of
      rw [MV.out]
      go_wp2_with fail
      refine (impl_SpeedAt x (f : Int) HY10.out.p).mono ?_
      rintro e w11 ⟨rfl, hb⟩
      have HY11 := Lib.hid (HY10.out.to hb)
      clear hb HY10 x0 x1 x2
      obtain ⟨x0, x1, x2⟩ := HY11.out.of
      rw [SF.out]
      generalize upF d x g = m at *
      generalize upF d x (u : Int) = mu at *
      generalize upF d x (v : Int) = mv at *
      generalize speedF d x g = s at *
      generalize speedF d x (f : Int) = sf at *
      go_upto_region 17 with fail
      clear x0 x1 x2 HR M S MU MV SF EU ED EF
      by_cases hg : g ≤ 90
      · cases rU
        · have a1 := FU.out.2 rfl hg
          cases rD
          · cases rF
            · have q1 := FF.out.2 rfl
              clear FU FD FF
              (try unfold leB at *); (try unfold geB at *); (try unfold gtB at *); (try unfold ltB at *)
              go_wp2_with fail
              go_ret
              exact ⟨rfl, B2.out.trans (HY11.out.b.mono B2.out.size)⟩
            · have q1 := FF.out.1 rfl
              clear FU FD FF
              (try unfold leB at *); (try unfold geB at *); (try unfold gtB at *); (try unfold ltB at *)
              go_wp2_with fail
              go_ret
              exact ⟨rfl, B2.out.trans (HY11.out.b.mono B2.out.size)⟩
          · obtain ⟨b0, b1, b2⟩ := FD.out.1 rfl
            clear b2
            cases rF
            · have q1 := FF.out.2 rfl
              clear FU FD FF
              (try unfold leB at *); (try unfold geB at *); (try unfold gtB at *); (try unfold ltB at *)
              go_wp2_with fail
              go_ret
              exact ⟨rfl, B2.out.trans (HY11.out.b.mono B2.out.size)⟩
            · have q1 := FF.out.1 rfl
              clear FU FD FF
              (try unfold leB at *); (try unfold geB at *); (try unfold gtB at *); (try unfold ltB at *)
              go_wp2_with fail
              go_ret
              exact ⟨rfl, B2.out.trans (HY11.out.b.mono B2.out.size)⟩
        · obtain ⟨a1, a2⟩ := FU.out.1 rfl
          have a2 := a2 hg
          cases rD
          · cases rF
            · have q1 := FF.out.2 rfl
              clear FU FD FF
              (try unfold leB at *); (try unfold geB at *); (try unfold gtB at *); (try unfold ltB at *)
              go_wp2_with fail
              go_ret
              exact ⟨rfl, B2.out.trans (HY11.out.b.mono B2.out.size)⟩
            · have q1 := FF.out.1 rfl
              clear FU FD FF
              (try unfold leB at *); (try unfold geB at *); (try unfold gtB at *); (try unfold ltB at *)
              go_wp2_with fail
              go_ret
              exact ⟨rfl, B2.out.trans (HY11.out.b.mono B2.out.size)⟩
          · obtain ⟨b0, b1, b2⟩ := FD.out.1 rfl
            clear b2
            cases rF
            · have q1 := FF.out.2 rfl
              clear FU FD FF
              (try unfold leB at *); (try unfold geB at *); (try unfold gtB at *); (try unfold ltB at *)
              go_wp2_with fail
              go_ret
              exact ⟨rfl, B2.out.trans (HY11.out.b.mono B2.out.size)⟩
            · have q1 := FF.out.1 rfl
              clear FU FD FF
              (try unfold leB at *); (try unfold geB at *); (try unfold gtB at *); (try unfold ltB at *)
              go_wp2_with fail
              go_ret
              exact ⟨rfl, B2.out.trans (HY11.out.b.mono B2.out.size)⟩
      · have hg2 : 90 < g := by omega
        cases rU
        · cases rD
          · have b1 := FD.out.2 rfl hg2
            cases rF
            · have q1 := FF.out.2 rfl
              clear FU FD FF
              (try unfold leB at *); (try unfold geB at *); (try unfold gtB at *); (try unfold ltB at *)
              go_wp2_with fail
              go_ret
              exact ⟨rfl, B2.out.trans (HY11.out.b.mono B2.out.size)⟩
            · have q1 := FF.out.1 rfl
              clear FU FD FF
              (try unfold leB at *); (try unfold geB at *); (try unfold gtB at *); (try unfold ltB at *)
              go_wp2_with fail
              go_ret
              exact ⟨rfl, B2.out.trans (HY11.out.b.mono B2.out.size)⟩
          · obtain ⟨b0, b1, b2⟩ := FD.out.1 rfl
            have b2 := b2 hg2
            cases rF
            · have q1 := FF.out.2 rfl
              clear FU FD FF
              (try unfold leB at *); (try unfold geB at *); (try unfold gtB at *); (try unfold ltB at *)
              go_wp2_with fail
              go_ret
              exact ⟨rfl, B2.out.trans (HY11.out.b.mono B2.out.size)⟩
            · have q1 := FF.out.1 rfl
              clear FU FD FF
              (try unfold leB at *); (try unfold geB at *); (try unfold gtB at *); (try unfold ltB at *)
              go_wp2_with fail
              go_ret
              exact ⟨rfl, B2.out.trans (HY11.out.b.mono B2.out.size)⟩
        · obtain ⟨a1, a2⟩ := FU.out.1 rfl
          clear a2
          cases rD
          · have b1 := FD.out.2 rfl hg2
            cases rF
            · have q1 := FF.out.2 rfl
              clear FU FD FF
              (try unfold leB at *); (try unfold geB at *); (try unfold gtB at *); (try unfold ltB at *)
              go_wp2_with fail
              go_ret
              exact ⟨rfl, B2.out.trans (HY11.out.b.mono B2.out.size)⟩
            · have q1 := FF.out.1 rfl
              clear FU FD FF
              (try unfold leB at *); (try unfold geB at *); (try unfold gtB at *); (try unfold ltB at *)
              go_wp2_with fail
              go_ret
              exact ⟨rfl, B2.out.trans (HY11.out.b.mono B2.out.size)⟩
          · obtain ⟨b0, b1, b2⟩ := FD.out.1 rfl
            have b2 := b2 hg2
            cases rF
            · have q1 := FF.out.2 rfl
              clear FU FD FF
              (try unfold leB at *); (try unfold geB at *); (try unfold gtB at *); (try unfold ltB at *)
              go_wp2_with fail
              go_ret
              exact ⟨rfl, B2.out.trans (HY11.out.b.mono B2.out.size)⟩
            · have q1 := FF.out.1 rfl
              clear FU FD FF
              (try unfold leB at *); (try unfold geB at *); (try unfold gtB at *); (try unfold ltB at *)
              go_wp2_with fail
              go_ret
              exact ⟨rfl, B2.out.trans (HY11.out.b.mono B2.out.size)⟩
end Go.Proofs.Yteaiaedhkhmgdaa.Ba
namespace Go.Proofs.Yteaiaedhkhmgdaa.Pure
open Go.RowKit Go.Proofs.YteaiaedhkhmgdaaW.PrintWords Go.Proofs.YteaiaedhkhmgdaaW.PrintLast Go.Proofs.YteaiaedhkhmgdaaW.PrintMore
theorem FnBestAnglesWalk (a0 : Option Addr) (len0 cap0 : Nat) (z0 : List Int) (w : World) (w0 : (a0 = none ∧ len0 = 0 ∧ cap0 = 0 ∧ z0 = []) ∨ ∃ x, a0 = some x ∧ len0 ≤ cap0 ∧ cap0 ≤ maxLen ∧ z0.length = cap0 ∧ (∀ i, i < z0.length → w.cell? (x.add i) = some (.int .u8 (z0.getD i 0))) ∧ ∀ n ∈ z0, (Lit.int .u8 n).wf = true) (_ : len0 * 1 ≤ 140737488351232) :
    Calls Try.prog 5 #[.slice a0 len0 cap0] w fun e w' => e = .returned (.bool true) ∧ Below w.heap.size w w' := by
  obtain ⟨l0, rfl, hr0, _, _, hc0⟩ := ReadsInt.ofRowC w0
  exact Ba.law (Kd.C_of_reads (d := (0 : Int)) (h1 := fun _ => rfl) hr0) hc0
end Go.Proofs.Yteaiaedhkhmgdaa.Pure
