/- What is drawn for a polar's laws: a polar in memory, a wind, an angle. -/
import Derived.Test.YteaiaedhkhmgdaaGreatDa
namespace Go.Proofs.YteaiaedhkhmgdaaGreat.Dp
open Go.RowKit Kit Fl Bd Dw Pf Pw Fed Go.Proofs.YteaiaedhkhmgdaaGreatW.PrintWords Go.Proofs.YteaiaedhkhmgdaaGreatW.PrintLast Go.Proofs.YteaiaedhkhmgdaaGreatW.PrintMore PFnLayFetched
theorem pickl {α : Type} (d0 : α) {P : Nat → α → Prop} : ∀ n, (∀ j, j < n → ∃ x, P j x) → ∃ l : List α, l.length = n ∧ ∀ j, j < n → P j (l.getD j d0) := by
  intro n
  induction n with
  | zero => exact fun _ => ⟨[], rfl, fun j hj => by omega⟩
  | succ n ih =>
    intro h
    obtain ⟨l, e, hl⟩ := ih (fun j hj => h j (by omega))
    obtain ⟨x, hx⟩ := h n (by omega)
    refine ⟨l ++ [x], by simp [e], fun j hj => ?_⟩
    by_cases e1 : j = n
    · subst e1
      have : (l ++ [x]).getD j d0 = x := by simp [List.getD_eq_getElem?_getD, ← e]
      rw [this]; exact hx
    · have : (l ++ [x]).getD j d0 = l.getD j d0 := by
        rw [List.getD_eq_getElem?_getD, List.getD_eq_getElem?_getD, List.getElem?_append_left (by omega)]
      rw [this]; exact hl j (by omega)
theorem FB.at {w : World} {base : Nat} {A : Option Addr} {n : Nat} (h : FB w base (fun _ => True) A n) : ∃ l : List Nat, l.length = n ∧ FAt w A l := by
  rcases h.reads with h | ⟨b, o, e, h⟩
  · exact ⟨[], h.symm, .inl rfl⟩
  · obtain ⟨l, e1, hl⟩ := pickl 0 n h
    exact ⟨l, e1, .inr ⟨b, o, e, fun j hj => hl j (by omega)⟩⟩
theorem Shp.pol {w : World} {base : Nat} {A0 A1 A2 : Option Addr} {n0 n1 : Nat} {ls : List Nat} (h : Shp w base A0 n0 A1 n1 A2 ls) : ∃ d : Pol, d.ws.length = n0 ∧ d.an.length = n1 ∧ d.rows.length = ls.length ∧ PolAt w A0 A1 A2 d := by
  obtain ⟨ws, e0, h0⟩ := h.f.at
  have q1 : ∃ l : List Int, l.length = n1 ∧ IAt w A1 l := by
    rcases h.i with h | ⟨b, o, cells, e, _, hb, h⟩
    · exact ⟨[], h.symm, .inl rfl⟩
    · obtain ⟨l, e1, hl⟩ := pickl (0 : Int) n1 h
      exact ⟨l, e1, .inr ⟨b, o, e, fun j hj => (blk_cell hb (o + j)).trans (hl j (by omega))⟩⟩
  have q2 : ∃ l : List (List Nat), l.length = ls.length ∧ RAt w A2 l := by
    rcases h.r with h | ⟨b, o, cells, e, _, hb, h⟩
    · exact ⟨[], h.symm, .inl rfl⟩
    · obtain ⟨l, e1, hl⟩ := pickl (P := fun j (r : List Nat) => ∃ B c, w.cell? ⟨b, o + j, none⟩ = some (.slice B r.length c) ∧ FAt w B r) [] ls.length (fun j hj => by
        obtain ⟨B, c, h1, _, h3⟩ := h j hj
        obtain ⟨r, e2, hr⟩ := h3.at
        exact ⟨r, B, c, (blk_cell hb (o + j)).trans (h1.trans (by rw [e2])), hr⟩)
      exact ⟨l, e1, .inr ⟨b, o, e, fun j hj => hl j (by omega)⟩⟩
  obtain ⟨an, e1, h1⟩ := q1
  obtain ⟨rs, e2, h2⟩ := q2
  exact ⟨⟨ws, an, rs⟩, e0, e1, e2, h0, h1, h2⟩
/-- a polar in a box, a cursor beside it -/
structure NI (w0 ws w : World) (g X B : Nat) (A0 : Option Addr) (n0 c0 : Nat) (A1 : Option Addr) (n1 c1 : Nat) (A2 : Option Addr) (ls : List Nat) (c2 : Nat) (m : Int) : Prop where
  cur : Cur2 w0 ws w g m
  x : w.heap[X]? = some (.cells #[.slice A0 n0 c0, .slice A1 n1 c1, .slice A2 ls.length c2] 28 (0, 0))
  s : Shp w B A0 n0 A1 n1 A2 ls
section
variable {w0 ws w w1 : World} {g X B : Nat} {A0 A1 A2 : Option Addr} {n0 c0 n1 c1 c2 : Nat} {ls : List Nat} {m n : Int}
theorem NI.start (hC : Cur2 w0 ws w g m) (hS : Shp w B A0 n0 A1 n1 A2 ls) : NI w0 ws (w.alloc (.cells #[.slice A0 n0 c0, .slice A1 n1 c1, .slice A2 ls.length c2] 28)) g w.heap.size B A0 n0 c0 A1 n1 c1 A2 ls c2 m := ⟨hC.alloc _, blk_new w _, hS.below ((Below.refl _ _).alloc (Nat.le_refl _) _)⟩
theorem NI.move (h : NI w0 ws w g X B A0 n0 c0 A1 n1 c1 A2 ls c2 m) (hk : Cur2 w0 w w1 g n) : NI w0 ws w1 g X B A0 n0 c0 A1 n1 c1 A2 ls c2 n := by
  obtain ⟨cs, e⟩ := h.cur.blk
  exact ⟨h.cur.trans hk, hk.keep.blk h.x (blk_ne h.x e (by decide)) (by simp), h.s.cur h.cur hk⟩
theorem NI.drew (h : NI w0 ws w g X B A0 n0 c0 A1 n1 c1 A2 ls c2 m) : NI w0 ws w.drew g X B A0 n0 c0 A1 n1 c1 A2 ls c2 m := ⟨h.cur.drew, h.x, h.s.below (Below.refl _ _).drew⟩
theorem NI.mono (h : NI w0 ws w g X B A0 n0 c0 A1 n1 c1 A2 ls c2 m) (hm : m ≤ n) : NI w0 ws w g X B A0 n0 c0 A1 n1 c1 A2 ls c2 n := ⟨h.cur.mono hm, h.x, h.s⟩
theorem NI.cells (h : NI w0 ws w g X B A0 n0 c0 A1 n1 c1 A2 ls c2 m) : w.cell? ⟨X, 0, none⟩ = some (.slice A0 n0 c0) ∧ w.cell? ⟨X, 1, none⟩ = some (.slice A1 n1 c1) ∧ w.cell? ⟨X, 2, none⟩ = some (.slice A2 ls.length c2) := ⟨blk_cell h.x 0, blk_cell h.x 1, blk_cell h.x 2⟩
theorem NI.wind (h : NI w0 ws w g X B A0 n0 c0 A1 n1 c1 A2 ls c2 m) {i : Nat} (hi : i < n0) : ∃ b o x, A0 = some ⟨b, o, none⟩ ∧ w.cell? ⟨b, o + i, none⟩ = some (.float .f32 x) := by
  obtain ⟨b, o, cells, h1, _, _, h3, h4⟩ := h.s.f.resolve_left (by omega)
  obtain ⟨x, hx⟩ := h4 i hi
  exact ⟨b, o, x, h1, (blk_cell h3 (o + i)).trans hx⟩
theorem NI.ang (h : NI w0 ws w g X B A0 n0 c0 A1 n1 c1 A2 ls c2 m) {i : Nat} (hi : i < n1) : ∃ b o x, A1 = some ⟨b, o, none⟩ ∧ w.cell? ⟨b, o + i, none⟩ = some (.int .i64 x) := by
  obtain ⟨b, o, cells, h1, _, h3, h4⟩ := h.s.i.resolve_left (by omega)
  obtain ⟨x, hx⟩ := h4 i hi
  exact ⟨b, o, x, h1, (blk_cell h3 (o + i)).trans hx⟩
end
theorem NI.fin {w0 ws w : World} {g X Y B : Nat} {A0 A1 A2 : Option Addr} {n0 c0 n1 c1 c2 : Nat} {ls : List Nat} {m : Int} (h : NI w0 ws w g Y B A0 n0 c0 A1 n1 c1 A2 ls c2 m) {cs : Array Value} (hX : w.heap[X]? = some (.cells cs 28 (0, 0))) (_ : X ≠ g) (hw : w0.heap.size ≤ X) (u0 u1 u2 : Value) :
    Below w0.heap.size w0 (((w.setCell ⟨X, 0, none⟩ u0).setCell ⟨X, 1, none⟩ u1).setCell ⟨X, 2, none⟩ u2) ∧ Shp (((w.setCell ⟨X, 0, none⟩ u0).setCell ⟨X, 1, none⟩ u1).setCell ⟨X, 2, none⟩ u2) B A0 n0 A1 n1 A2 ls := by
  have hX2 := blk_set hX 0 u0
  have hX3 := blk_set hX2 1 u1
  have hT : ¬ ofPol 28 := by
    rintro (e | e | e) <;> exact absurd e (by decide)
  exact ⟨((h.cur.below.setCell hw u0).setCell hw u1).setCell hw u2, ((h.s.set hX hT 0 u0).set hX2 hT 1 u1).set hX3 hT 2 u2⟩
theorem Shp.fin2 {w0 w : World} {X B : Nat} {A0 A1 A2 : Option Addr} {n0 n1 : Nat} {ls : List Nat} (h : Shp w B A0 n0 A1 n1 A2 ls) (hb : Below w0.heap.size w0 w) {cs : Array Value} (hX : w.heap[X]? = some (.cells cs 28 (0, 0))) (hw : w0.heap.size ≤ X) (hB : w0.heap.size ≤ B) (u0 u1 u2 : Value) :
    Below w0.heap.size w0 (((w.setCell ⟨X, 0, none⟩ u0).setCell ⟨X, 1, none⟩ u1).setCell ⟨X, 2, none⟩ u2) ∧ Shp (((w.setCell ⟨X, 0, none⟩ u0).setCell ⟨X, 1, none⟩ u1).setCell ⟨X, 2, none⟩ u2) w0.heap.size A0 n0 A1 n1 A2 ls := by
  have hX2 := blk_set hX 0 u0
  have hX3 := blk_set hX2 1 u1
  have hT : ¬ ofPol 28 := by
    rintro (e | e | e) <;> exact absurd e (by decide)
  exact ⟨((hb.setCell hw u0).setCell hw u1).setCell hw u2, (((h.set hX hT 0 u0).set hX2 hT 1 u1).set hX3 hT 2 u2).lower hB⟩
end Go.Proofs.YteaiaedhkhmgdaaGreat.Dp
