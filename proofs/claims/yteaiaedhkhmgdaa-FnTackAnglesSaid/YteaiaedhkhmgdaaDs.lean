/- What is drawn for a polar's laws: a polar in memory, a wind, an angle. -/
import Derived.Test.YteaiaedhkhmgdaaDa
namespace Go.Proofs.Yteaiaedhkhmgdaa.Dp
open Go.RowKit Kit Fl Bd Dw Pf Pw Tad Go.Proofs.YteaiaedhkhmgdaaW.PrintWords Go.Proofs.YteaiaedhkhmgdaaW.PrintLast Go.Proofs.YteaiaedhkhmgdaaW.PrintMore PFnTackAngles
theorem pickl {α : Type} (d0 : α) {P : Nat → α → Prop} : ∀ n, (∀ j, j < n → ∃ x, P j x) → ∃ l : List α, l.length = n ∧ ∀ j, j < n → P j (l.getD j d0) := by
  intro n
  induction n with
  | zero => exact fun _ => ⟨[], rfl, fun j hj => by omega⟩
  | succ n ih =>
    intro h
    obtain ⟨l, e, hl⟩ := ih (fun j hj => h j (by omega))
    obtain ⟨x, hx⟩ := h n (by omega)
    refine ⟨l ++ [x], by simp [e], fun j hj => ?_⟩
    by_cases e1 : j = n
    · subst e1
      have : (l ++ [x]).getD j d0 = x := by simp [List.getD_eq_getElem?_getD, ← e]
      rw [this]; exact hx
    · have : (l ++ [x]).getD j d0 = l.getD j d0 := by
        rw [List.getD_eq_getElem?_getD, List.getD_eq_getElem?_getD, List.getElem?_append_left (by omega)]
      rw [this]; exact hl j (by omega)
theorem FB.at {w : World} {base : Nat} {A : Option Addr} {n : Nat} (h : FB w base (fun _ => True) A n) : ∃ l : List Nat, l.length = n ∧ FAt w A l := by
  rcases h.reads with h | ⟨b, o, e, h⟩
  · exact ⟨[], h.symm, .inl rfl⟩
  · obtain ⟨l, e1, hl⟩ := pickl 0 n h
    exact ⟨l, e1, .inr ⟨b, o, e, fun j hj => hl j (by omega)⟩⟩
theorem Shp.pol {w : World} {base : Nat} {A0 A1 A2 : Option Addr} {n0 n1 : Nat} {ls : List Nat} (h : Shp w base A0 n0 A1 n1 A2 ls) : ∃ d : Pol, d.ws.length = n0 ∧ d.an.length = n1 ∧ d.rows.length = ls.length ∧ PolAt w A0 A1 A2 d := by
  obtain ⟨ws, e0, h0⟩ := h.f.at
  have q1 : ∃ l : List Int, l.length = n1 ∧ IAt w A1 l := by
    rcases h.i with h | ⟨b, o, cells, e, _, hb, h⟩
    · exact ⟨[], h.symm, .inl rfl⟩
    · obtain ⟨l, e1, hl⟩ := pickl (0 : Int) n1 h
      exact ⟨l, e1, .inr ⟨b, o, e, fun j hj => (blk_cell hb (o + j)).trans (hl j (by omega))⟩⟩
  have q2 : ∃ l : List (List Nat), l.length = ls.length ∧ RAt w A2 l := by
    rcases h.r with h | ⟨b, o, cells, e, _, hb, h⟩
    · exact ⟨[], h.symm, .inl rfl⟩
    · obtain ⟨l, e1, hl⟩ := pickl (P := fun j (r : List Nat) => ∃ B c, w.cell? ⟨b, o + j, none⟩ = some (.slice B r.length c) ∧ FAt w B r) [] ls.length (fun j hj => by
        obtain ⟨B, c, h1, _, h3⟩ := h j hj
        obtain ⟨r, e2, hr⟩ := h3.at
        exact ⟨r, B, c, (blk_cell hb (o + j)).trans (h1.trans (by rw [e2])), hr⟩)
      exact ⟨l, e1, .inr ⟨b, o, e, fun j hj => hl j (by omega)⟩⟩
  obtain ⟨an, e1, h1⟩ := q1
  obtain ⟨rs, e2, h2⟩ := q2
  exact ⟨⟨ws, an, rs⟩, e0, e1, e2, h0, h1, h2⟩
/-- a polar in a box, a cursor beside it -/
structure NI (w0 ws w : World) (g X B : Nat) (A0 : Option Addr) (n0 c0 : Nat) (A1 : Option Addr) (n1 c1 : Nat) (A2 : Option Addr) (ls : List Nat) (c2 : Nat) (m : Int) : Prop where
  cur : Cur2 w0 ws w g m
  x : w.heap[X]? = some (.cells #[.slice A0 n0 c0, .slice A1 n1 c1, .slice A2 ls.length c2] 31 (0, 0))
  s : Shp w B A0 n0 A1 n1 A2 ls
section
variable {w0 ws w w1 : World} {g X B : Nat} {A0 A1 A2 : Option Addr} {n0 c0 n1 c1 c2 : Nat} {ls : List Nat} {m n : Int}
theorem NI.start (hC : Cur2 w0 ws w g m) (hS : Shp w B A0 n0 A1 n1 A2 ls) : NI w0 ws (w.alloc (.cells #[.slice A0 n0 c0, .slice A1 n1 c1, .slice A2 ls.length c2] 31)) g w.heap.size B A0 n0 c0 A1 n1 c1 A2 ls c2 m := ⟨hC.alloc _, blk_new w _, hS.below ((Below.refl _ _).alloc (Nat.le_refl _) _)⟩
theorem NI.move (h : NI w0 ws w g X B A0 n0 c0 A1 n1 c1 A2 ls c2 m) (hk : Cur2 w0 w w1 g n) : NI w0 ws w1 g X B A0 n0 c0 A1 n1 c1 A2 ls c2 n := by
  obtain ⟨cs, e⟩ := h.cur.blk
  exact ⟨h.cur.trans hk, hk.keep.blk h.x (blk_ne h.x e (by decide)) (by simp), h.s.cur h.cur hk⟩
theorem NI.drew (h : NI w0 ws w g X B A0 n0 c0 A1 n1 c1 A2 ls c2 m) : NI w0 ws w.drew g X B A0 n0 c0 A1 n1 c1 A2 ls c2 m := ⟨h.cur.drew, h.x, h.s.below (Below.refl _ _).drew⟩
theorem NI.mono (h : NI w0 ws w g X B A0 n0 c0 A1 n1 c1 A2 ls c2 m) (hm : m ≤ n) : NI w0 ws w g X B A0 n0 c0 A1 n1 c1 A2 ls c2 n := ⟨h.cur.mono hm, h.x, h.s⟩
theorem NI.cells (h : NI w0 ws w g X B A0 n0 c0 A1 n1 c1 A2 ls c2 m) : w.cell? ⟨X, 0, none⟩ = some (.slice A0 n0 c0) ∧ w.cell? ⟨X, 1, none⟩ = some (.slice A1 n1 c1) ∧ w.cell? ⟨X, 2, none⟩ = some (.slice A2 ls.length c2) := ⟨blk_cell h.x 0, blk_cell h.x 1, blk_cell h.x 2⟩
theorem NI.wind (h : NI w0 ws w g X B A0 n0 c0 A1 n1 c1 A2 ls c2 m) {i : Nat} (hi : i < n0) : ∃ b o x, A0 = some ⟨b, o, none⟩ ∧ w.cell? ⟨b, o + i, none⟩ = some (.float .f32 x) := by
  obtain ⟨b, o, cells, h1, _, _, h3, h4⟩ := h.s.f.resolve_left (by omega)
  obtain ⟨x, hx⟩ := h4 i hi
  exact ⟨b, o, x, h1, (blk_cell h3 (o + i)).trans hx⟩
theorem NI.ang (h : NI w0 ws w g X B A0 n0 c0 A1 n1 c1 A2 ls c2 m) {i : Nat} (hi : i < n1) : ∃ b o x, A1 = some ⟨b, o, none⟩ ∧ w.cell? ⟨b, o + i, none⟩ = some (.int .i64 x) := by
  obtain ⟨b, o, cells, h1, _, h3, h4⟩ := h.s.i.resolve_left (by omega)
  obtain ⟨x, hx⟩ := h4 i hi
  exact ⟨b, o, x, h1, (blk_cell h3 (o + i)).trans hx⟩
end
set_option maxRecDepth 100000 in
set_option maxHeartbeats 1000000 in
theorem near_k {w0 ws w : World} {g : Nat} {m : Int} {B : Nat} {A0 A1 A2 : Option Addr} {n0 c0 n1 c1 c2 : Nat} {ls : List Nat} (hm : m ≤ 1700000) (hC : Cur2 w0 ws w g m) (hS : Shp w B A0 n0 A1 n1 A2 ls) (hn : n0 ≤ 14) :
    Calls Try.prog 66 #[.pointer (some ⟨g, 0, none⟩), .agg #[.slice A0 n0 c0, .slice A1 n1 c1, .slice A2 ls.length c2]] w fun e w' => ∃ z : Nat, e = .returned (.float .f32 z) ∧ Cur2 w0 ws w' g (m + 40) := by
  have I0 := Lib.hid (NI.start (c0 := c0) (c1 := c1) (c2 := c2) hC hS)
  clear hC hS
  by_cases h0 : n0 = 0
  · subst h0
    go_enter Try.func66, Try.ntmps66
    go_wp2_with fail
    refine (single_k 120 (by omega) (by omega) (by omega) I0.out.cur).mono ?_
    rintro e w1 ⟨z, rfl, hC1⟩
    have C1 := Lib.hid hC1
    clear hC1
    go_wp2_with fail
    go_ret
    exact ⟨_, rfl, C1.out.mono (by omega)⟩
  · have h0' : ((n0 : Int) == 0) = false := by
      rw [beq_eq_false_iff_ne]; omega
    go_enter Try.func66, Try.ntmps66
    go_wp2_with fail
    refine (once_k 20 (by omega) (by omega) I0.out.cur.here).mono ?_
    rintro e w1 ⟨r, rfl, hC1⟩
    have I1 := Lib.hid (I0.out.move hC1)
    clear hC1 I0
    generalize w.heap.size = X at *
    cases r
    · obtain ⟨x0, x1, x2⟩ := I1.out.cells
      go_upto_region 3 with fail
      go_cut [5] (fun s wr => ∃ z : Nat, s = .float .f32 z ∧ NI w0 ws wr g X B A0 n0 c0 A1 n1 c1 A2 ls c2 (m + 8))
      case first =>
        go_region_with (first | (go_at_call 81; refine (below_k (n0 : Int) (by omega) (by omega) I1.out.drew.cur.here).mono ?_; rintro e w2 ⟨q, rfl, q0, q1, hC2⟩; have I2 := Lib.hid ((I1.out.drew.move hC2).mono (show _ ≤ (m + 8 : Int) by omega)); obtain ⟨x0, x1, x2⟩ := I2.out.cells; have q1 := q1 (by omega); clear hC2; obtain ⟨q, rfl⟩ : ∃ k : Nat, q = (k : Int) := ⟨q.toNat, by omega⟩; obtain ⟨b, o, y, rfl, hy⟩ := I2.out.wind (i := q) (by omega)))
        all_goals (go_wp2_with fail)
        all_goals go_meet
        all_goals exact ⟨_, rfl, I2.out⟩
      case rest =>
        obtain ⟨z, rfl, hI⟩ := hcut
        have I2 := Lib.hid hI
        clear hI I1 x0 x1 x2
        go_wp2_with fail
        refine (below_k 4 (by omega) (by omega) I2.out.cur.here).mono ?_
        rintro e w3 ⟨q, rfl, q0, q1, hC3⟩
        have I3 := Lib.hid (I2.out.move hC3)
        clear hC3 I2
        go_wp2_with fail
        all_goals first
          | (go_ret; exact ⟨_, rfl, I3.out.cur.mono (by omega)⟩)
          | (refine (below_k 161 (by omega) (by omega) I3.out.cur.here).mono ?_
             rintro e w4 ⟨k, rfl, k0, k1, hC4⟩
             have q8 := quo8 (int_num32 k (by omega) (by omega))
             have I4 := Lib.hid (I3.out.move hC4)
             clear hC4
             go_wp2_with fail
             go_ret
             exact ⟨_, rfl, I4.out.cur.mono (by omega)⟩)
          | (obtain ⟨t, w5, h1, h2⟩ := arith_any .quo (Or.inr rfl) 27 z 1073741824 w3
             rw [h1]
             dsimp only [Result.andThen]
             have C5 := Lib.hid (Cur2.or I3.out.cur h2)
             clear h1 h2
             go_wp2_with fail
             go_ret
             exact ⟨_, rfl, C5.out.mono (by omega)⟩)
    · go_wp2_with fail
      refine (single_k 120 (by omega) (by omega) (by omega) I1.out.cur).mono ?_
      rintro e w2 ⟨z, rfl, hC2⟩
      have C2 := Lib.hid hC2
      clear hC2
      go_wp2_with fail
      go_ret
      exact ⟨_, rfl, C2.out.mono (by omega)⟩
set_option maxRecDepth 100000 in
set_option maxHeartbeats 1000000 in
theorem angle_k {w0 ws w : World} {g : Nat} {m : Int} {B : Nat} {A0 A1 A2 : Option Addr} {n0 c0 n1 c1 c2 : Nat} {ls : List Nat} (hm : m ≤ 1700000) (hC : Cur2 w0 ws w g m) (hS : Shp w B A0 n0 A1 n1 A2 ls) (hn : n1 ≤ 21) :
    Calls Try.prog 67 #[.pointer (some ⟨g, 0, none⟩), .agg #[.slice A0 n0 c0, .slice A1 n1 c1, .slice A2 ls.length c2]] w fun e w' => ∃ z : Int, e = .returned (.int .i64 z) ∧ Cur2 w0 ws w' g (m + 40) := by
  have I0 := Lib.hid (NI.start (c0 := c0) (c1 := c1) (c2 := c2) hC hS)
  clear hC hS
  go_enter Try.func67, Try.ntmps67
  go_upto_region 1 with fail
  generalize w.alloc (.cells #[.slice A0 n0 c0, .slice A1 n1 c1, .slice A2 ls.length c2] 31) = W at *
  generalize w.heap.size = X at *
  obtain ⟨x0, x1, x2⟩ := I0.out.cells
  go_cut [12] (fun s wr => ∃ b : Bool, s = .bool b ∧ (b = true → 0 < n1) ∧ NI w0 ws wr g X B A0 n0 c0 A1 n1 c1 A2 ls c2 (m + 4))
  case first =>
    by_cases h0 : 0 < n1
    · have h0' : (0 : Int) < (n1 : Int) := by omega
      go_wp2_with fail
      refine (once_k 3 (by omega) (by omega) I0.out.cur.here).mono ?_
      rintro e w1 ⟨r, rfl, hC1⟩
      have I1 := Lib.hid (I0.out.move hC1)
      clear hC1
      go_wp2_with fail
      go_meet
      case rel => exact ⟨_, rfl, fun _ => h0, I1.out⟩
    · obtain rfl : n1 = 0 := by omega
      have I1 := Lib.hid (I0.out.mono (show m ≤ m + 4 by omega))
      go_wp2_with fail
      go_meet
      case rel => exact ⟨_, rfl, fun h => by simp at h, I1.out⟩
  case rest =>
    obtain ⟨b, rfl, hb, hI⟩ := hcut
    have I1 := Lib.hid hI
    clear hI I0 x0 x1 x2
    cases b
    · clear hb
      go_wp2_with fail
      refine (once_k 20 (by omega) (by omega) I1.out.cur.here).mono ?_
      rintro e w2 ⟨r, rfl, hC2⟩
      have I2 := Lib.hid (I1.out.move hC2)
      clear hC2 I1
      cases r
      · go_wp2_with fail
        refine (below_k 182 (by omega) (by omega) I2.out.cur.here).mono ?_
        rintro e w3 ⟨q, rfl, q0, q1, hC3⟩
        have I3 := Lib.hid (I2.out.move hC3)
        clear hC3
        go_wp2_with fail
        go_ret
        exact ⟨_, rfl, I3.out.cur.mono (by omega)⟩
      · go_wp2_with fail
        refine (number_k (by omega) I2.out.cur.here).mono ?_
        rintro e w3 ⟨q, rfl, hC3⟩
        have I3 := Lib.hid (I2.out.move hC3)
        clear hC3
        go_wp2_with fail
        go_ret
        exact ⟨_, rfl, I3.out.cur.mono (by omega)⟩
    · have hb := hb rfl
      obtain ⟨x0, x1, x2⟩ := I1.out.cells
      go_upto_region 2 with fail
      go_region_with (first | (go_at_call 81; refine (below_k (n1 : Int) (by omega) (by omega) I1.out.drew.cur.here).mono ?_; rintro e w2 ⟨q, rfl, q0, q1, hC2⟩; have I2 := Lib.hid ((I1.out.drew.move hC2).mono (show _ ≤ (m + 40 : Int) by omega)); obtain ⟨x0, x1, x2⟩ := I2.out.cells; have q1 := q1 (by omega); clear hC2; obtain ⟨q, rfl⟩ : ∃ k : Nat, q = (k : Int) := ⟨q.toNat, by omega⟩; obtain ⟨b, o, y, rfl, hy⟩ := I2.out.ang (i := q) (by omega)))
      all_goals (go_wp2_with fail)
      all_goals go_ret
      all_goals exact ⟨_, rfl, I2.out.cur⟩
theorem NI.fin {w0 ws w : World} {g X Y B : Nat} {A0 A1 A2 : Option Addr} {n0 c0 n1 c1 c2 : Nat} {ls : List Nat} {m : Int} (h : NI w0 ws w g Y B A0 n0 c0 A1 n1 c1 A2 ls c2 m) {cs : Array Value} (hX : w.heap[X]? = some (.cells cs 31 (0, 0))) (_ : X ≠ g) (hw : w0.heap.size ≤ X) (u0 u1 u2 : Value) :
    Below w0.heap.size w0 (((w.setCell ⟨X, 0, none⟩ u0).setCell ⟨X, 1, none⟩ u1).setCell ⟨X, 2, none⟩ u2) ∧ Shp (((w.setCell ⟨X, 0, none⟩ u0).setCell ⟨X, 1, none⟩ u1).setCell ⟨X, 2, none⟩ u2) B A0 n0 A1 n1 A2 ls := by
  have hX2 := blk_set hX 0 u0
  have hX3 := blk_set hX2 1 u1
  have hT : ¬ ofPol 31 := by
    rintro (e | e | e) <;> exact absurd e (by decide)
  exact ⟨((h.cur.below.setCell hw u0).setCell hw u1).setCell hw u2, ((h.s.set hX hT 0 u0).set hX2 hT 1 u1).set hX3 hT 2 u2⟩
theorem Shp.fin2 {w0 w : World} {X B : Nat} {A0 A1 A2 : Option Addr} {n0 n1 : Nat} {ls : List Nat} (h : Shp w B A0 n0 A1 n1 A2 ls) (hb : Below w0.heap.size w0 w) {cs : Array Value} (hX : w.heap[X]? = some (.cells cs 31 (0, 0))) (hw : w0.heap.size ≤ X) (hB : w0.heap.size ≤ B) (u0 u1 u2 : Value) :
    Below w0.heap.size w0 (((w.setCell ⟨X, 0, none⟩ u0).setCell ⟨X, 1, none⟩ u1).setCell ⟨X, 2, none⟩ u2) ∧ Shp (((w.setCell ⟨X, 0, none⟩ u0).setCell ⟨X, 1, none⟩ u1).setCell ⟨X, 2, none⟩ u2) w0.heap.size A0 n0 A1 n1 A2 ls := by
  have hX2 := blk_set hX 0 u0
  have hX3 := blk_set hX2 1 u1
  have hT : ¬ ofPol 31 := by
    rintro (e | e | e) <;> exact absurd e (by decide)
  exact ⟨((hb.setCell hw u0).setCell hw u1).setCell hw u2, (((h.set hX hT 0 u0).set hX2 hT 1 u1).set hX3 hT 2 u2).lower hB⟩
set_option maxRecDepth 100000 in
set_option maxHeartbeats 2000000 in
theorem draw_speed {w0 w : World} {A : Option Addr} {c : Nat} {l : List Int} (hB : Below w0.heap.size w0 w) (hr0 : Kd.C (Kd.int .u8) w0 A l.length l) (hc0 : l.length ≤ c) (hl : l.length ≤ 1048576) :
    Calls Try.prog 42 #[.slice A l.length c] w fun e w' => ∃ (A0 : Option Addr) (n0 c0 : Nat) (A1 : Option Addr) (n1 c1 : Nat) (A2 : Option Addr) (ls : List Nat) (c2 x : Nat) (z : Int), e = .returned (.tuple #[.agg #[.slice A0 n0 c0, .slice A1 n1 c1, .slice A2 ls.length c2], .float .f32 x, .int .i64 z]) ∧ Below w0.heap.size w0 w' ∧ Shp w' w0.heap.size A0 n0 A1 n1 A2 ls := by
  have B0 := Lib.hid hB
  have HR := Lib.hid hr0
  clear hB hr0
  go_enter Try.func42, Try.ntmps42
  go_wp2_with fail
  have hX0 := blk_new w (.cells #[.slice none 0 0, .slice none 0 0, .slice none 0 0] 31)
  have hb0 := B0.out.alloc B0.out.size (.cells #[.slice none 0 0, .slice none 0 0, .slice none 0 0] 31)
  have hsz : w0.heap.size ≤ w.heap.size := B0.out.size
  generalize w.alloc (.cells #[.slice none 0 0, .slice none 0 0, .slice none 0 0] 31) = W at *
  generalize w.heap.size = X at *
  refine (new_k hb0 HR.out hc0 hl).mono ?_
  rintro e w1 ⟨g, rfl, hC1, hb1⟩
  have hX1 := blk_below hX0 hb1
  have C1 := Lib.hid hC1.root
  have hgX : X ≠ g := by
    obtain ⟨cs, e⟩ := hC1.blk
    exact blk_ne hX1 e (by decide)
  have HX1 := Lib.hid hX1
  clear hX0 hb0 hb1 hC1 hX1
  go_wp2_with fail
  refine (any_call C1.out).mono ?_
  rintro e w2 ⟨A0, n0, c0, A1, n1, c1, A2, ls, c2, rfl, ⟨hn0, hn1⟩, hC2, hS2⟩
  have HX2 := Lib.hid (hC2.keep.blk HX1.out hgX (by simp))
  have I2 := Lib.hid (NI.start (c0 := c0) (c1 := c1) (c2 := c2) hC2.root hS2)
  have HX3 := Lib.hid (blk_alloc HX2.out (.cells #[.slice A0 n0 c0, .slice A1 n1 c1, .slice A2 ls.length c2] 31))
  clear hC2 hS2 HX1 HX2
  go_wp2_with fail
  generalize w2.alloc (.cells #[.slice A0 n0 c0, .slice A1 n1 c1, .slice A2 ls.length c2] 31) = W3 at *
  generalize w2.heap.size = Y at *
  refine (near_k (by omega) I2.out.cur.here I2.out.s hn0).mono ?_
  rintro e w4 ⟨x, rfl, hC4⟩
  have I4 := Lib.hid (I2.out.move hC4)
  have HX4 := Lib.hid (hC4.keep.blk HX3.out hgX (by simp))
  clear hC4 I2 HX3
  obtain ⟨y0, y1, y2⟩ := I4.out.cells
  have hX5 := HX4.out
  have x0 : w4.cell? ⟨X, 0, none⟩ = some (.slice none 0 0) := blk_cell hX5 0
  have x1 : w4.cell? ⟨X, 1, none⟩ = some (.slice none 0 0) := blk_cell hX5 1
  have x2 : w4.cell? ⟨X, 2, none⟩ = some (.slice none 0 0) := blk_cell hX5 2
  have xf0 := blk_frozen hX5 0
  have xf1 := blk_frozen hX5 1
  have xf2 := blk_frozen hX5 2
  clear hX5
  go_upto_region 4 with fail
  go_region_with (first | (go_at_call 67; refine (angle_k (by omega) I4.out.drew.cur.here I4.out.drew.s hn1).mono ?_; rintro e w5 ⟨q, rfl, hC5⟩; have I5 := Lib.hid (I4.out.drew.move hC5); have HX5 := Lib.hid (hC5.keep.blk (show w4.drew.heap[X]? = _ from HX4.out) hgX (by simp)); obtain ⟨y0, y1, y2⟩ := I5.out.cells; have hX5 := HX5.out; have x0 : w5.cell? ⟨X, 0, none⟩ = some (.slice none 0 0) := blk_cell hX5 0; have x1 : w5.cell? ⟨X, 1, none⟩ = some (.slice none 0 0) := blk_cell hX5 1; have x2 : w5.cell? ⟨X, 2, none⟩ = some (.slice none 0 0) := blk_cell hX5 2; have xf0 := blk_frozen hX5 0; have xf1 := blk_frozen hX5 1; have xf2 := blk_frozen hX5 2; have P := Lib.hid (I5.out.fin HX5.out hgX hsz (.slice A0 n0 c0) (.slice A1 n1 c1) (.slice A2 ls.length c2)); clear hC5 hX5))
  all_goals (go_wp2_with fail)
  all_goals exact bodyPost_ret (v := .tuple #[.agg #[.slice A0 n0 c0, .slice A1 n1 c1, .slice A2 ls.length c2], .float .f32 x, .int .i64 q]) (by simp [results, Try.results42, go_sem, x0, x1, x2]) rfl ⟨A0, n0, c0, A1, n1, c1, A2, ls, c2, x, q, rfl, P.out⟩
set_option maxRecDepth 100000 in
set_option maxHeartbeats 2000000 in
theorem draw_made {w0 w : World} {A : Option Addr} {c : Nat} {l : List Int} (hB : Below w0.heap.size w0 w) (hr0 : Kd.C (Kd.int .u8) w0 A l.length l) (hc0 : l.length ≤ c) (hl : l.length ≤ 1048576) :
    Calls Try.prog 15 #[.slice A l.length c] w fun e w' => ∃ (A0 : Option Addr) (n0 c0 : Nat) (A1 : Option Addr) (n1 c1 : Nat) (A2 : Option Addr) (ls : List Nat) (c2 x : Nat) (z : Int), e = .returned (.tuple #[.agg #[.slice A0 n0 c0, .slice A1 n1 c1, .slice A2 ls.length c2], .float .f32 x, .int .i64 z]) ∧ Below w0.heap.size w0 w' ∧ Shp w' w0.heap.size A0 n0 A1 n1 A2 ls := by
  have B0 := Lib.hid hB
  have HR := Lib.hid hr0
  clear hB hr0
  go_enter Try.func15, Try.ntmps15
  go_wp2_with fail
  have hX0 := blk_new w (.cells #[.slice none 0 0, .slice none 0 0, .slice none 0 0] 31)
  have hb0 := B0.out.alloc B0.out.size (.cells #[.slice none 0 0, .slice none 0 0, .slice none 0 0] 31)
  have hsz : w0.heap.size ≤ w.heap.size := B0.out.size
  generalize w.alloc (.cells #[.slice none 0 0, .slice none 0 0, .slice none 0 0] 31) = W at *
  generalize w.heap.size = X at *
  refine (draw_speed (Below.refl W.heap.size W) (Kd.C_below HR.out hb0) hc0 hl).mono ?_
  rintro e w1 ⟨A0, n0, c0, A1, n1, c1, A2, ls, c2, x, z, rfl, hB1, hS1⟩
  have hX1 := blk_alloc (blk_below hX0 hB1) (.cells #[.slice A0 n0 c0, .slice A1 n1 c1, .slice A2 ls.length c2] 31)
  have hB2 := hB1.alloc hB1.size (.cells #[.slice A0 n0 c0, .slice A1 n1 c1, .slice A2 ls.length c2] 31)
  have hS2 := hS1.below ((Below.refl w1.heap.size w1).alloc (Nat.le_refl _) (.cells #[.slice A0 n0 c0, .slice A1 n1 c1, .slice A2 ls.length c2] 31))
  clear hB1 hS1
  go_upto_region 2 with fail
  have hY : (w1.alloc (.cells #[.slice A0 n0 c0, .slice A1 n1 c1, .slice A2 ls.length c2] 31)).heap[w1.heap.size]? = _ := blk_new w1 _
  generalize w1.alloc (.cells #[.slice A0 n0 c0, .slice A1 n1 c1, .slice A2 ls.length c2] 31) = w2 at *
  generalize w1.heap.size = Y at *
  have y0 : w2.cell? ⟨Y, 0, none⟩ = some (.slice A0 n0 c0) := blk_cell hY 0
  have y1 : w2.cell? ⟨Y, 1, none⟩ = some (.slice A1 n1 c1) := blk_cell hY 1
  have y2 : w2.cell? ⟨Y, 2, none⟩ = some (.slice A2 ls.length c2) := blk_cell hY 2
  have P := Lib.hid (hS2.fin2 (hb0.trans (hB2.mono hb0.size)) hX1 hsz (Nat.le_trans hsz (Nat.le_of_lt (blk_lt hX0))) (.slice A0 n0 c0) (.slice A1 n1 c1) (.slice A2 ls.length c2))
  have x0 : w2.cell? ⟨X, 0, none⟩ = some (.slice none 0 0) := blk_cell hX1 0
  have x1 : w2.cell? ⟨X, 1, none⟩ = some (.slice none 0 0) := blk_cell hX1 1
  have x2 : w2.cell? ⟨X, 2, none⟩ = some (.slice none 0 0) := blk_cell hX1 2
  have xf0 := blk_frozen hX1 0
  have xf1 := blk_frozen hX1 1
  have xf2 := blk_frozen hX1 2
  clear hX0 hX1 hB2 hS2 hY
  go_wp2_with fail
  exact bodyPost_ret (v := .tuple #[.agg #[.slice A0 n0 c0, .slice A1 n1 c1, .slice A2 ls.length c2], .float .f32 x, .int .i64 z]) (by simp [results, Try.results15, go_sem, x0, x1, x2]) rfl ⟨A0, n0, c0, A1, n1, c1, A2, ls, c2, x, z, rfl, P.out⟩
end Go.Proofs.Yteaiaedhkhmgdaa.Dp
