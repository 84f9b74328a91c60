/- Polars in memory; which are valid: both sides. -/
import Derived.Test.YteaiaedhkhmgdaaGreatPolF
import Derived.Test.YteaiaedhkhmgdaaGreatTurn
import Derived.Deep.QuietTactic
import Derived.BigQuiet
namespace Go.Proofs.YteaiaedhkhmgdaaGreat.Pw
open Go.RowKit Kit Fl Bd Tn Pf
def FAt (w : World) (A : Option Addr) (l : List Nat) : Prop := l.length = 0 ∨ ∃ b o, A = some ⟨b, o, none⟩ ∧ ∀ j, j < l.length → w.cell? ⟨b, o + j, none⟩ = some (.float .f32 (fn l j))
def IAt (w : World) (A : Option Addr) (l : List Int) : Prop := l.length = 0 ∨ ∃ b o, A = some ⟨b, o, none⟩ ∧ ∀ j, j < l.length → w.cell? ⟨b, o + j, none⟩ = some (.int .i64 (zn l j))
def RAt (w : World) (A : Option Addr) (l : List (List Nat)) : Prop := l.length = 0 ∨ ∃ b o, A = some ⟨b, o, none⟩ ∧ ∀ j, j < l.length → ∃ B c, w.cell? ⟨b, o + j, none⟩ = some (.slice B (rn l j).length c) ∧ FAt w B (rn l j)
structure PolAt (w : World) (A0 A1 A2 : Option Addr) (d : Pol) : Prop where
  f : FAt w A0 d.ws
  i : IAt w A1 d.an
  r : RAt w A2 d.rows
theorem FAt.below {w w1 : World} {A : Option Addr} {l : List Nat} (h : FAt w A l) (hb : Below w.heap.size w w1) : FAt w1 A l := by
  rcases h with h | ⟨b, o, e, h⟩
  · exact Or.inl h
  · exact Or.inr ⟨b, o, e, fun j hj => (hb.cell (World.block_lt_of_cell? w _ (h j hj))).trans (h j hj)⟩
theorem IAt.below {w w1 : World} {A : Option Addr} {l : List Int} (h : IAt w A l) (hb : Below w.heap.size w w1) : IAt w1 A l := by
  rcases h with h | ⟨b, o, e, h⟩
  · exact Or.inl h
  · exact Or.inr ⟨b, o, e, fun j hj => (hb.cell (World.block_lt_of_cell? w _ (h j hj))).trans (h j hj)⟩
theorem RAt.below {w w1 : World} {A : Option Addr} {l : List (List Nat)} (h : RAt w A l) (hb : Below w.heap.size w w1) : RAt w1 A l := by
  rcases h with h | ⟨b, o, e, h⟩
  · exact Or.inl h
  · refine Or.inr ⟨b, o, e, fun j hj => ?_⟩
    obtain ⟨B, c, h1, h2⟩ := h j hj
    exact ⟨B, c, (hb.cell (World.block_lt_of_cell? w _ h1)).trans h1, h2.below hb⟩
theorem PolAt.below {w w1 : World} {A0 A1 A2 : Option Addr} {d : Pol} (h : PolAt w A0 A1 A2 d) (hb : Below w.heap.size w w1) : PolAt w1 A0 A1 A2 d := ⟨h.f.below hb, h.i.below hb, h.r.below hb⟩
theorem drewN_below {B : Nat} {w v : World} (h : Below B w v) (n : Nat) : Below B w (v.drewN n) := ⟨h.os, h.tape, h.output, h.size, h.block⟩
theorem PolAt.drewN {w : World} {A0 A1 A2 : Option Addr} {d : Pol} (h : PolAt w A0 A1 A2 d) (n : Nat) : PolAt (w.drewN n) A0 A1 A2 d := h.below (drewN_below (Below.refl _ _) n)
/-- a polar in a box of its own -/
structure Boxed (w W : World) (A0 A1 A2 : Option Addr) (c0 c1 c2 : Nat) (d : Pol) : Prop where
  x0 : W.cell? ⟨w.heap.size, 0, none⟩ = some (.slice A0 d.ws.length c0)
  x1 : W.cell? ⟨w.heap.size, 1, none⟩ = some (.slice A1 d.an.length c1)
  x2 : W.cell? ⟨w.heap.size, 2, none⟩ = some (.slice A2 d.rows.length c2)
  b : Below w.heap.size w W
  p : PolAt W A0 A1 A2 d
  lt : w.heap.size < W.heap.size
theorem boxed {w : World} {A0 A1 A2 : Option Addr} {c0 c1 c2 : Nat} {d : Pol} (h : PolAt w A0 A1 A2 d) : ∃ W, W = w.alloc (.cells #[.slice A0 d.ws.length c0, .slice A1 d.an.length c1, .slice A2 d.rows.length c2] 28) ∧ Boxed w W A0 A1 A2 c0 c1 c2 d :=
  ⟨_, rfl, by simp, by simp, by simp, (Below.refl w.heap.size w).alloc (Nat.le_refl _) _, h.below ((Below.refl w.heap.size w).alloc (Nat.le_refl _) _), by simp⟩
theorem Boxed.to {w W W1 : World} {A0 A1 A2 : Option Addr} {c0 c1 c2 : Nat} {d : Pol} (h : Boxed w W A0 A1 A2 c0 c1 c2 d) (hb : Below W.heap.size W W1) : Boxed w W1 A0 A1 A2 c0 c1 c2 d :=
  ⟨(hb.cell (World.block_lt_of_cell? W _ h.x0)).trans h.x0, (hb.cell (World.block_lt_of_cell? W _ h.x1)).trans h.x1, (hb.cell (World.block_lt_of_cell? W _ h.x2)).trans h.x2, h.b.trans (hb.mono h.b.size), h.p.below hb, Nat.lt_of_lt_of_le h.lt hb.size⟩
theorem Boxed.drewN {w W : World} {A0 A1 A2 : Option Addr} {c0 c1 c2 : Nat} {d : Pol} (h : Boxed w W A0 A1 A2 c0 c1 c2 d) (n : Nat) : Boxed w (W.drewN n) A0 A1 A2 c0 c1 c2 d := h.to (drewN_below (Below.refl _ _) n)
/-! ### small functions -/
theorem impl_within (x a b : Int) (w : World) : Calls Tryz.prog 33 #[.int .i64 x, .int .i64 a, .int .i64 b] w fun e w' => e = .returned (.bool (decide (a ≤ x) && decide (x ≤ b))) ∧ w = w' := by
  by_cases h : a ≤ x
  all_goals go_enter Tryz.func33, Tryz.ntmps33
  all_goals go_wp2
  all_goals go_ret
  all_goals exact ⟨by first | (simp [h]; done) | (congr 2; simp; omega), rfl⟩
theorem spec_l01In (x a b : Int) (w : World) : Calls Tryz.prog 97 #[.int .i64 x, .int .i64 a, .int .i64 b] w fun e w' => e = .returned (.bool (decide (a ≤ x) && decide (x ≤ b))) ∧ w = w' := by
  by_cases h : a ≤ x
  all_goals go_enter Tryz.func97, Tryz.ntmps97
  all_goals go_wp2
  all_goals go_ret
  all_goals exact ⟨by first | (simp [h]; done) | (congr 2; simp; omega), rfl⟩
theorem impl_boatOk (s : Nat) (w : World) : Calls Tryz.prog 63 #[.float .f32 s] w fun e w' => e = .returned (.bool (speedB s)) ∧ w = w' := by
  go_enter Tryz.func63, Tryz.ntmps63
  go_wp2
  all_goals go_ret
  all_goals refine ⟨congrArg (fun b => Ending.returned (.bool b)) ?_, rfl⟩
  all_goals simp_all [speedB, geB, leB]
theorem impl_bad (s : Nat) (w : World) : Calls Tryz.prog 62 #[.float .f32 s] w fun e w' => e = .returned (.bool (!speedB s)) ∧ w = w' := by
  go_enter Tryz.func62, Tryz.ntmps62
  go_wp2_with (go_at_call 63; refine (impl_boatOk _ _).mono ?_; rintro e w' ⟨rfl, rfl⟩)
  go_ret
  exact ⟨rfl, rfl⟩
def bads (l : List Nat) : Int := if (∀ j, j < l.length → speedB (fn l j) = true) then -1 else 0
theorem indexFunc {w : World} {A : Option Addr} {c : Nat} {l : List Nat} (hA : FAt w A l) (hm : l.length ≤ 1000) : Calls Tryz.prog 85 #[.slice A l.length c, .func (.func 62) #[] #[]] w fun e w' => (∃ r : Int, e = .returned (.int .i64 r) ∧ ((0 ≤ r ∧ ∃ j, j < l.length ∧ speedB (fn l j) = false) ∨ (r < 0 ∧ ∀ j, j < l.length → speedB (fn l j) = true))) ∧ w = w' := by
  have HA := Lib.hid hA
  clear hA
  go_enter Tryz.func85, Tryz.ntmps85
  go_wp2_with fail
  go_loop [8] (fun k => ∃ j : Nat, j ≤ l.length ∧ k = .int .i64 (j : Int) ∧ ∀ i, i < j → speedB (fn l i) = true) (fun k => l.length - (intOf k).toNat)
  case atStart => exact ⟨0, by omega, rfl, fun i hi => by omega⟩
  case round =>
    obtain ⟨j, hj, rfl, ha⟩ := hrel
    have HJ := Lib.hid ha
    clear ha
    by_cases hl : j < l.length
    · obtain ⟨b, ob, rfl, hL⟩ := HA.out.resolve_left (by omega)
      have c1 := hL j hl
      clear hL
      cases hs : speedB (fn l j)
      · have HS := Lib.hid hs
        clear hs
        go_wp2_with (go_at_call 62; refine (impl_bad _ _).mono ?_; rintro e w' ⟨rfl, rfl⟩; rw [HS.out])
        go_ret
        exact ⟨⟨_, rfl, Or.inl ⟨by omega, j, hl, HS.out⟩⟩, rfl⟩
      · have HS := Lib.hid hs
        clear hs
        go_wp2_with (go_at_call 62; refine (impl_bad _ _).mono ?_; rintro e w' ⟨rfl, rfl⟩; rw [HS.out])
        go_round
        case rel => exact ⟨j + 1, by omega, by go_num, fun i hi => by
                      by_cases e : i = j
                      · rw [e]; exact HS.out
                      · exact HJ.out i (by omega)⟩
        case measure => simp [intOf]; omega
    · obtain rfl : j = l.length := by omega
      go_wp2_with fail
      go_ret
      exact ⟨⟨_, rfl, Or.inr ⟨by omega, HJ.out⟩⟩, rfl⟩
noncomputable def badB (l : List Nat) : Bool := @decide (∃ j, j < l.length ∧ speedB (fn l j) = false) (Classical.propDecidable _)
theorem badB_yes {l : List Nat} (h : ∃ j, j < l.length ∧ speedB (fn l j) = false) : badB l = true := @decide_eq_true _ (Classical.propDecidable _) h
theorem badB_no {l : List Nat} (h : ∀ j, j < l.length → speedB (fn l j) = true) : badB l = false := @decide_eq_false _ (Classical.propDecidable _) (fun ⟨j, h1, h2⟩ => by rw [h j h1] at h2; cases h2)
theorem badB_get {l : List Nat} (h : badB l = true) : ∃ j, j < l.length ∧ speedB (fn l j) = false := @of_decide_eq_true _ (Classical.propDecidable _) h
theorem badB_none {l : List Nat} (h : badB l = false) : ∀ j, j < l.length → speedB (fn l j) = true := fun j hj => by
  cases e : speedB (fn l j)
  · rw [badB_yes ⟨j, hj, e⟩] at h; cases h
  · rfl
theorem containsFunc {w : World} {A : Option Addr} {c : Nat} {l : List Nat} (hA : FAt w A l) (hm : l.length ≤ 1000) : Calls Tryz.prog 61 #[.slice A l.length c, .func (.func 62) #[] #[]] w fun e w' => e = .returned (.bool (badB l)) ∧ w = w' := by
  have HA := Lib.hid hA
  clear hA
  go_enter Tryz.func61, Tryz.ntmps61
  go_wp2_with fail
  refine (indexFunc HA.out hm).mono ?_
  rintro e w' ⟨⟨r, rfl, h⟩, rfl⟩
  rcases h with ⟨h1, h2⟩ | ⟨h1, h2⟩
  · have H := Lib.hid (badB_yes h2)
    clear h2
    go_wp2_with fail
    go_ret
    exact ⟨by rw [H.out]; exact congrArg (fun b => Ending.returned (.bool b)) (show true = true from rfl), rfl⟩
  · have H := Lib.hid (badB_no h2)
    clear h2
    go_wp2_with fail
    go_ret
    exact ⟨by rw [H.out]; exact congrArg (fun b => Ending.returned (.bool b)) (decide_eq_false (p := 0 ≤ r) (by omega)), rfl⟩
/-! ### which polars are valid -/
theorem cnt {n : Nat} {a b : Int} (h : (decide (a ≤ (n : Int)) && decide ((n : Int) ≤ b)) = true) : a ≤ (n : Int) ∧ (n : Int) ≤ b := by simpa using h
theorem cnt_no {n : Nat} {a b : Int} (h : (decide (a ≤ (n : Int)) && decide ((n : Int) ≤ b)) = false) (h1 : a ≤ (n : Int)) (h2 : (n : Int) ≤ b) : False := by
  rw [decide_eq_true h1, decide_eq_true h2] at h
  cases h
set_option maxRecDepth 100000 in
set_option maxHeartbeats 1000000 in
theorem impl_PolarOk {w : World} {A0 A1 A2 : Option Addr} {c0 c1 c2 : Nat} {d : Pol} (hP : PolAt w A0 A1 A2 d) :
    Calls Tryz.prog 32 #[.agg #[.slice A0 d.ws.length c0, .slice A1 d.an.length c1, .slice A2 d.rows.length c2]] w fun e w' => e = .returned (.bool (okB d)) ∧ Below w.heap.size w w' := by
  obtain ⟨W, hW, hX⟩ := boxed (c0 := c0) (c1 := c1) (c2 := c2) hP
  have HX := Lib.hid hX
  clear hP
  obtain ⟨x0, x1, x2, _, _, _⟩ := hX
  cases h1 : (decide ((1 : Int) ≤ (d.ws.length : Int)) && decide ((d.ws.length : Int) ≤ 12))
  · have H1 := Lib.hid h1
    have HN := Lib.hid (okB_no (d := d) fun h => cnt_no h1 (by have := h.nw; omega) (by have := h.nw; omega))
    clear h1
    go_enter Tryz.func32, Tryz.ntmps32
    go_wp2_with (first | (go_at_call 33; refine (impl_within _ _ _ _).mono ?_; rintro e w' ⟨rfl, rfl⟩; rw [H1.out]))
    go_ret
    exact ⟨by rw [HN.out]; rfl, hW ▸ HX.out.b⟩
  cases h2 : (decide ((2 : Int) ≤ (d.an.length : Int)) && decide ((d.an.length : Int) ≤ 24))
  · have H1 := Lib.hid h1
    have H2 := Lib.hid h2
    have HN := Lib.hid (okB_no (d := d) fun h => cnt_no h2 (by have := h.na; omega) (by have := h.na; omega))
    clear h1 h2
    go_enter Tryz.func32, Tryz.ntmps32
    go_wp2_with (first | (go_at_call 33; refine (impl_within _ _ _ _).mono ?_; rintro e w' ⟨rfl, rfl⟩; first | rw [H1.out] | rw [H2.out]))
    go_ret
    exact ⟨by rw [HN.out]; rfl, hW ▸ HX.out.b⟩
  have H1 := Lib.hid h1
  have H2 := Lib.hid h2
  have L1 := cnt h1
  have L2 := cnt h2
  clear h1 h2
  by_cases h3 : d.rows.length = d.ws.length
  · rw [h3] at hW x2
    go_enter Tryz.func32, Tryz.ntmps32
    go_wp2_with (first | (go_at_call 33; refine (impl_within _ _ _ _).mono ?_; rintro e w' ⟨rfl, rfl⟩; first | rw [H1.out] | rw [H2.out]))
    rw [← hW]
    have HL := Lib.hid h3
    have HW := Lib.hid hW
    clear hW
    go_loop [33] (fun k => ∃ j : Nat, j ≤ d.ws.length ∧ k = .int .i64 (j : Int) ∧ (∀ i, i < j → windB (fn d.ws i) = true) ∧ (∀ i, i + 1 < j → gtB (fn d.ws (i + 1)) (fn d.ws i) = true)) (fun k => d.ws.length - (intOf k).toNat)
    case atStart => exact ⟨0, by omega, rfl, fun i hi => by omega, fun i hi => by omega⟩
    case round =>
      obtain ⟨j, hj, rfl, ha, hb⟩ := hrel
      have HA := Lib.hid ha
      have HG := Lib.hid hb
      clear ha hb
      by_cases hl : j < d.ws.length
      · obtain ⟨b, ob, rfl, hL⟩ := HX.out.p.f.resolve_left (by omega)
        have y1 := hL j hl
        cases e1 : gtB (fn d.ws j) 0
        · have HN := Lib.hid (okB_no (d := d) fun h => by have := h.w1 j hl; unfold windB at this; rw [e1] at this; cases this)
          unfold gtB at e1
          go_wp2_with fail
          go_ret
          exact ⟨by rw [HN.out]; rfl, HX.out.b⟩
        cases e2 : leB (fn d.ws j) 1120403456
        · have HN := Lib.hid (okB_no (d := d) fun h => by have := h.w1 j hl; unfold windB at this; rw [e1, e2] at this; cases this)
          unfold gtB at e1
          unfold leB at e2
          rw [Bool.or_eq_false_iff] at e2
          obtain ⟨e2, e2'⟩ := e2
          go_wp2_with fail
          go_ret
          exact ⟨by rw [HN.out]; rfl, HX.out.b⟩
        · have HE := Lib.hid (show windB (fn d.ws j) = true by unfold windB; rw [e1, e2]; rfl)
          unfold gtB at e1
          unfold leB at e2
          by_cases j0 : j = 0
          · subst j0
            rw [Nat.add_zero] at y1
            go_wp2_with fail
            go_round
            case rel => exact ⟨1, by omega, by go_num, fun i hi => by
                          obtain rfl : i = 0 := by omega
                          exact HE.out, fun i hi => by omega⟩
            case measure => simp [intOf]; omega
          · obtain ⟨m, rfl⟩ : ∃ m, j = m + 1 := ⟨j - 1, by omega⟩
            have y2 := hL m (by omega)
            cases e3 : gtB (fn d.ws (m + 1)) (fn d.ws m)
            · have HN := Lib.hid (okB_no (d := d) fun h => by have := h.w2 m hl; rw [e3] at this; cases this)
              unfold gtB at e3
              go_wp2_with fail
              go_ret
              exact ⟨by rw [HN.out]; rfl, HX.out.b⟩
            · have HF := Lib.hid e3
              unfold gtB at e3
              go_wp2_with fail
              go_round
              case rel => exact ⟨m + 1 + 1, by omega, by go_num, fun i hi => by
                            by_cases e : i = m + 1
                            · rw [e]; exact HE.out
                            · exact HA.out i (by omega), fun i hi => by
                            by_cases e : i = m
                            · rw [e]; exact HF.out
                            · exact HG.out i (by omega)⟩
              case measure => simp [intOf]; omega
      · obtain rfl : j = d.ws.length := by omega
        go_wp2_with fail
        go_loop [64] (fun k => ∃ j : Nat, j ≤ d.an.length ∧ k = .int .i64 (j : Int) ∧ (∀ i, i + 1 < j → zn d.an i < zn d.an (i + 1))) (fun k => d.an.length - (intOf k).toNat)
        case atStart => exact ⟨0, by omega, rfl, fun i hi => by omega⟩
        case round =>
          obtain ⟨j, hj, rfl, ha⟩ := hrel
          have HI := Lib.hid ha
          clear ha
          obtain ⟨b, ob, rfl, hL⟩ := HX.out.p.i.resolve_left (by omega)
          by_cases hl : j < d.an.length
          · have y1 := hL j hl
            by_cases j0 : j = 0
            · subst j0
              rw [Nat.add_zero] at y1
              go_wp2_with fail
              go_round
              case rel => exact ⟨1, by omega, by go_num, fun i hi => by omega⟩
              case measure => simp [intOf]; omega
            · obtain ⟨m, rfl⟩ : ∃ m, j = m + 1 := ⟨j - 1, by omega⟩
              have y2 := hL m (by omega)
              by_cases e3 : zn d.an (m + 1) ≤ zn d.an m
              · have HN := Lib.hid (okB_no (d := d) fun h => by have := h.a1 m hl; omega)
                go_wp2_with fail
                go_ret
                exact ⟨by rw [HN.out]; rfl, HX.out.b⟩
              · have HF := Lib.hid e3
                go_wp2_with fail
                go_round
                case rel => exact ⟨m + 1 + 1, by omega, by go_num, fun i hi => by
                              by_cases e : i = m
                              · rw [e]; have := HF.out; omega
                              · exact HI.out i (by omega)⟩
                case measure => simp [intOf]; omega
          · obtain rfl : j = d.an.length := by omega
            have y1 := hL 0 (by omega)
            rw [Nat.add_zero] at y1
            have y2 := hL (d.an.length - 1) (by omega)
            by_cases z0 : zn d.an 0 = 0
            · by_cases z9 : zn d.an (d.an.length - 1) = 180
              · have Z0 := Lib.hid z0
                have Z9 := Lib.hid z9
                rw [z0] at y1
                rw [z9] at y2
                go_wp2_with fail
                clear y1 y2 z0 z9
                go_loop [101] (fun k => ∃ j : Nat, j ≤ d.ws.length ∧ k = .int .i64 (j : Int) ∧ (∀ i, i < j → (rn d.rows i).length = d.an.length) ∧ (∀ i, i < j → ∀ q, q < (rn d.rows i).length → speedB (fn (rn d.rows i) q) = true)) (fun k => d.ws.length - (intOf k).toNat)
                case atStart => exact ⟨0, by omega, rfl, fun i hi => by omega, fun i hi => by omega⟩
                case round =>
                  obtain ⟨j, hj, rfl, ha, hb⟩ := hrel
                  have HJ := Lib.hid ha
                  have HK := Lib.hid hb
                  clear ha hb
                  by_cases hl : j < d.ws.length
                  · obtain ⟨b, ob, rfl, hL⟩ := HX.out.p.r.resolve_left (by omega)
                    obtain ⟨B, c, r1, r2⟩ := hL j (by omega)
                    have R2 := Lib.hid r2
                    clear hL r2
                    by_cases hn : (rn d.rows j).length = d.an.length
                    · have NN := Lib.hid hn
                      rw [hn] at r1
                      cases hbad : badB (rn d.rows j)
                      · have HBAD := Lib.hid hbad
                        have CF := containsFunc (c := c) R2.out (by omega)
                        rw [hn, HBAD.out] at CF
                        have CG := Lib.hid CF
                        clear hbad CF
                        go_wp2_with (go_at_call 61; refine CG.out.mono ?_; rintro e w' ⟨rfl, rfl⟩)
                        go_round
                        case rel => exact ⟨j + 1, by omega, by go_num, fun i hi => by
                                      by_cases e : i = j
                                      · rw [e]; exact NN.out
                                      · exact HJ.out i (by omega), fun i hi => by
                                      by_cases e : i = j
                                      · rw [e]; exact badB_none HBAD.out
                                      · exact HK.out i (by omega)⟩
                        case measure => simp [intOf]; omega
                      · have HBAD := Lib.hid hbad
                        have HN := Lib.hid (okB_no (d := d) fun h => by
                          obtain ⟨q, q1, q2⟩ := badB_get HBAD.out
                          have := h.r2 j (by omega) q q1
                          rw [q2] at this; cases this)
                        have CF := containsFunc (c := c) R2.out (by omega)
                        rw [hn, HBAD.out] at CF
                        have CG := Lib.hid CF
                        clear hbad CF
                        go_wp2_with (go_at_call 61; refine CG.out.mono ?_; rintro e w' ⟨rfl, rfl⟩)
                        go_ret
                        exact ⟨by rw [HN.out]; rfl, HX.out.b⟩
                    · have HN := Lib.hid (okB_no (d := d) fun h => hn (h.r1 j (by omega)))
                      go_wp2_with fail
                      go_ret
                      exact ⟨by rw [HN.out]; rfl, HX.out.b⟩
                  · obtain rfl : j = d.ws.length := by omega
                    have HY := Lib.hid (okB_iff.2 (⟨by omega, by omega, HL.out, HA.out, HG.out, HI.out, Z0.out, Z9.out, fun i hi => HJ.out i (by have := HL.out; omega), fun i hi => HK.out i (by have := HL.out; omega)⟩ : Okp d))
                    go_wp2_with fail
                    go_ret
                    exact ⟨by rw [HY.out]; rfl, HX.out.b⟩
              · have HN := Lib.hid (okB_no (d := d) fun h => z9 h.a9)
                rw [z0] at y1
                go_wp2_with fail
                go_ret
                exact ⟨by rw [HN.out]; rfl, HX.out.b⟩
            · have HN := Lib.hid (okB_no (d := d) fun h => z0 h.a0)
              go_wp2_with fail
              go_ret
              exact ⟨by rw [HN.out]; rfl, HX.out.b⟩
  · have HN := Lib.hid (okB_no (d := d) fun h => h3 h.nr)
    go_enter Tryz.func32, Tryz.ntmps32
    go_wp2_with (first | (go_at_call 33; refine (impl_within _ _ _ _).mono ?_; rintro e w' ⟨rfl, rfl⟩; first | rw [H1.out] | rw [H2.out]))
    go_ret
    exact ⟨by rw [HN.out]; rfl, hW ▸ HX.out.b⟩
end Go.Proofs.YteaiaedhkhmgdaaGreat.Pw
