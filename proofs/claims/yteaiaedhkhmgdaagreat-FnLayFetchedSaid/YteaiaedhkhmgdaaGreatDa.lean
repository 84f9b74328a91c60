/- Polars as they are drawn with their faults: l04Any. -/
import Derived.Test.YteaiaedhkhmgdaaGreatDp
import Derived.Deep.RegionLaw
namespace Go.Proofs.YteaiaedhkhmgdaaGreat.Dp
open Go.RowKit Kit Fl Bd Dw Pf Pw Fed Go.Proofs.YteaiaedhkhmgdaaGreatW.PrintWords Go.Proofs.YteaiaedhkhmgdaaGreatW.PrintLast Go.Proofs.YteaiaedhkhmgdaaGreatW.PrintMore PFnLayFetched
/-- whole numbers in a block -/
def IB (w : World) (base : Nat) (A : Option Addr) (n : Nat) : Prop := n = 0 ∨ ∃ b o cells, A = some ⟨b, o, none⟩ ∧ base ≤ b ∧ w.heap[b]? = some (.cells cells 3 (0, 0)) ∧ ∀ j, j < n → ∃ x, cells[o + j]? = some (.int .i64 x)
/-- rows in a block -/
def RB (w : World) (base : Nat) (A : Option Addr) (ls : List Nat) : Prop := ls.length = 0 ∨ ∃ b o cells, A = some ⟨b, o, none⟩ ∧ base ≤ b ∧ w.heap[b]? = some (.cells cells 24 (0, 0)) ∧ ∀ j, j < ls.length → ∃ B c, cells[o + j]? = some (.slice B (ls.getD j 0) c) ∧ ls.getD j 0 ≤ c ∧ FB w base (fun _ => True) B (ls.getD j 0)
/-- the shape of a polar -/
structure Shp (w : World) (base : Nat) (A0 : Option Addr) (n0 : Nat) (A1 : Option Addr) (n1 : Nat) (A2 : Option Addr) (ls : List Nat) : Prop where
  f : FB w base (fun _ => True) A0 n0
  i : IB w base A1 n1
  r : RB w base A2 ls
def ofPol (q : Nat) : Prop := q = 35 ∨ q = 3 ∨ q = 24
theorem FB.step {w w1 : World} {base : Nat} {A : Option Addr} {n : Nat} (h : FB w base (fun _ => True) A n) (hm : ∀ k cells q, base ≤ k → w.heap[k]? = some (.cells cells q (0, 0)) → ofPol q → w1.heap[k]? = w.heap[k]?) : FB w1 base (fun _ => True) A n :=
  (h.bound.move (fun k hk => by
    obtain ⟨_, h1, _, cells, h2⟩ := hk
    exact hm k cells _ h1 h2 (Or.inl rfl))).mono (fun _ _ => trivial)
theorem Shp.step {w w1 : World} {base : Nat} {A0 A1 A2 : Option Addr} {n0 n1 : Nat} {ls : List Nat} (h : Shp w base A0 n0 A1 n1 A2 ls) (hm : ∀ k cells q, base ≤ k → w.heap[k]? = some (.cells cells q (0, 0)) → ofPol q → w1.heap[k]? = w.heap[k]?) : Shp w1 base A0 n0 A1 n1 A2 ls := by
  refine ⟨h.f.step hm, ?_, ?_⟩
  · rcases h.i with h | ⟨b, o, cells, h1, h2, h3, h4⟩
    · exact .inl h
    · exact .inr ⟨b, o, cells, h1, h2, (hm b cells _ h2 h3 (Or.inr (Or.inl rfl))).trans h3, h4⟩
  · rcases h.r with h | ⟨b, o, cells, h1, h2, h3, h4⟩
    · exact .inl h
    · refine .inr ⟨b, o, cells, h1, h2, (hm b cells _ h2 h3 (Or.inr (Or.inr rfl))).trans h3, fun j hj => ?_⟩
      obtain ⟨B, c, q1, q2, q3⟩ := h4 j hj
      exact ⟨B, c, q1, q2, q3.step hm⟩
theorem Shp.below {w w1 : World} {base : Nat} {A0 A1 A2 : Option Addr} {n0 n1 : Nat} {ls : List Nat} (h : Shp w base A0 n0 A1 n1 A2 ls) (hb : Below w.heap.size w w1) : Shp w1 base A0 n0 A1 n1 A2 ls := h.step (fun k _ _ _ hk _ => hb.block k (blk_lt hk))
theorem Shp.cur {w0 ws w w1 : World} {g : Nat} {m n : Int} {base : Nat} {A0 A1 A2 : Option Addr} {n0 n1 : Nat} {ls : List Nat} (h : Shp w base A0 n0 A1 n1 A2 ls) (hC : Cur2 w0 ws w g m) (hk : Cur2 w0 w w1 g n) : Shp w1 base A0 n0 A1 n1 A2 ls := by
  obtain ⟨cs, e⟩ := hC.blk
  refine h.step (fun k _ _ _ hb hq => hk.keep.2 k (blk_lt hb) (blk_ne hb e ?_) (by simp))
  rcases hq with rfl | rfl | rfl <;> decide
theorem Shp.lower {w : World} {base base' : Nat} {A0 A1 A2 : Option Addr} {n0 n1 : Nat} {ls : List Nat} (h : Shp w base A0 n0 A1 n1 A2 ls) (hb : base' ≤ base) : Shp w base' A0 n0 A1 n1 A2 ls := by
  refine ⟨h.f.lower hb, ?_, ?_⟩
  · rcases h.i with h | ⟨b, o, cells, h1, h2, h3, h4⟩
    · exact .inl h
    · exact .inr ⟨b, o, cells, h1, Nat.le_trans hb h2, h3, h4⟩
  · rcases h.r with h | ⟨b, o, cells, h1, h2, h3, h4⟩
    · exact .inl h
    · refine .inr ⟨b, o, cells, h1, Nat.le_trans hb h2, h3, fun j hj => ?_⟩
      obtain ⟨B, c, q1, q2, q3⟩ := h4 j hj
      exact ⟨B, c, q1, q2, q3.lower hb⟩
/-- a store into a box that is none of the polar's rows -/
theorem Shp.set {w : World} {g t : Nat} {cs : Array Value} {base : Nat} {A0 A1 A2 : Option Addr} {n0 n1 : Nat} {ls : List Nat} (h : Shp w base A0 n0 A1 n1 A2 ls) (hb : w.heap[g]? = some (.cells cs t (0, 0))) (ht : ¬ ofPol t) (i : Nat) (u : Value) : Shp (w.setCell ⟨g, i, none⟩ u) base A0 n0 A1 n1 A2 ls :=
  h.step (fun k _ _ _ hk hq => Below.heap_setCell w ⟨g, i, none⟩ u k (blk_ne hk hb (fun e => ht (e ▸ hq))))
theorem Shp.putf {w : World} {b : Nat} {cs : Array Value} {base : Nat} {A0 A1 A2 : Option Addr} {n0 n1 : Nat} {ls : List Nat} (h : Shp w base A0 n0 A1 n1 A2 ls) (hb : w.heap[b]? = some (.cells cs 35 (0, 0))) (i x : Nat) : Shp (w.setCell ⟨b, i, none⟩ (.float .f32 x)) base A0 n0 A1 n1 A2 ls := by
  refine ⟨h.f.put b i x, ?_, ?_⟩
  · rcases h.i with h | ⟨b', o, cells, h1, h2, h3, h4⟩
    · exact .inl h
    · exact .inr ⟨b', o, cells, h1, h2, blk_far h3 (p := ⟨b, i, none⟩) (blk_ne h3 hb (by decide)) _, h4⟩
  · rcases h.r with h | ⟨b', o, cells, h1, h2, h3, h4⟩
    · exact .inl h
    · refine .inr ⟨b', o, cells, h1, h2, blk_far h3 (p := ⟨b, i, none⟩) (blk_ne h3 hb (by decide)) _, fun j hj => ?_⟩
      obtain ⟨B, c, q1, q2, q3⟩ := h4 j hj
      exact ⟨B, c, q1, q2, q3.put b i x⟩
theorem Shp.puti {w : World} {b : Nat} {cs : Array Value} {base : Nat} {A0 A1 A2 : Option Addr} {n0 n1 : Nat} {ls : List Nat} (h : Shp w base A0 n0 A1 n1 A2 ls) (hb : w.heap[b]? = some (.cells cs 3 (0, 0))) (i : Nat) (x : Int) : Shp (w.setCell ⟨b, i, none⟩ (.int .i64 x)) base A0 n0 A1 n1 A2 ls := by
  have hm : ∀ (k : Nat) (cells : Array Value) (q : Nat), w.heap[k]? = some (.cells cells q (0, 0)) → q ≠ 3 → (w.setCell ⟨b, i, none⟩ (.int .i64 x)).heap[k]? = w.heap[k]? := fun k _ _ hk hq => Below.heap_setCell w ⟨b, i, none⟩ _ k (blk_ne hk hb hq)
  have hf : ∀ {A n}, FB w base (fun _ => True) A n → FB (w.setCell ⟨b, i, none⟩ (.int .i64 x)) base (fun _ => True) A n := fun hA => (hA.bound.move (fun k hk => by
    obtain ⟨_, h1, _, cells, h2⟩ := hk
    exact hm k cells _ h2 (by decide))).mono (fun _ _ => trivial)
  refine ⟨hf h.f, ?_, ?_⟩
  · rcases h.i with h | ⟨b', o, cells, h1, h2, h3, h4⟩
    · exact .inl h
    · by_cases e : b' = b
      · subst e
        refine .inr ⟨b', o, _, h1, h2, blk_set h3 i _, fun j hj => ?_⟩
        obtain ⟨y, hy⟩ := h4 j hj
        by_cases ei : i = o + j
        · subst ei
          exact ⟨x, by rw [Array.getElem?_setIfInBounds_self, if_pos (Array.getElem?_eq_some_iff.1 hy).1]⟩
        · exact ⟨y, by rw [Array.getElem?_setIfInBounds_ne ei]; exact hy⟩
      · exact .inr ⟨b', o, cells, h1, h2, blk_far h3 (p := ⟨b, i, none⟩) e _, h4⟩
  · rcases h.r with h | ⟨b', o, cells, h1, h2, h3, h4⟩
    · exact .inl h
    · refine .inr ⟨b', o, cells, h1, h2, (hm b' cells _ h3 (by decide)).trans h3, fun j hj => ?_⟩
      obtain ⟨B, c, q1, q2, q3⟩ := h4 j hj
      exact ⟨B, c, q1, q2, hf q3⟩
structure AI (w0 ws w : World) (g T : Nat) (A0 : Option Addr) (n0 c0 : Nat) (A1 : Option Addr) (n1 c1 : Nat) (A2 : Option Addr) (ls : List Nat) (c2 : Nat) (m : Int) : Prop where
  cur : Cur2 w0 ws w g m
  t : w.heap[T]? = some (.cells #[.slice A0 n0 c0, .slice A1 n1 c1, .slice A2 ls.length c2] 28 (0, 0))
  ge : w0.heap.size ≤ ws.heap.size ∧ ws.heap.size ≤ T
  s : Shp w ws.heap.size A0 n0 A1 n1 A2 ls
section
variable {w0 ws w w1 : World} {g T : Nat} {A0 A1 A2 : Option Addr} {n0 c0 n1 c1 c2 : Nat} {ls : List Nat} {m n : Int}
theorem AI.mono (h : AI w0 ws w g T A0 n0 c0 A1 n1 c1 A2 ls c2 m) (hm : m ≤ n) : AI w0 ws w g T A0 n0 c0 A1 n1 c1 A2 ls c2 n := ⟨h.cur.mono hm, h.t, h.ge, h.s⟩
theorem AI.ne (h : AI w0 ws w g T A0 n0 c0 A1 n1 c1 A2 ls c2 m) : T ≠ g := by
  obtain ⟨cs, e⟩ := h.cur.blk
  exact blk_ne h.t e (by decide)
theorem AI.move (h : AI w0 ws w g T A0 n0 c0 A1 n1 c1 A2 ls c2 m) (hk : Cur2 w0 w w1 g n) : AI w0 ws w1 g T A0 n0 c0 A1 n1 c1 A2 ls c2 n := ⟨h.cur.trans hk, hk.keep.blk h.t h.ne (by simp), h.ge, h.s.cur h.cur hk⟩
theorem AI.drew (h : AI w0 ws w g T A0 n0 c0 A1 n1 c1 A2 ls c2 m) : AI w0 ws w.drew g T A0 n0 c0 A1 n1 c1 A2 ls c2 m := ⟨h.cur.drew, h.t, h.ge, h.s.below (Below.refl _ _).drew⟩
theorem AI.cells (h : AI w0 ws w g T A0 n0 c0 A1 n1 c1 A2 ls c2 m) : (w.cell? ⟨T, 0, none⟩ = some (.slice A0 n0 c0) ∧ w.cell? ⟨T, 1, none⟩ = some (.slice A1 n1 c1) ∧ w.cell? ⟨T, 2, none⟩ = some (.slice A2 ls.length c2)) ∧ w.frozen? ⟨T, 0, none⟩ = false ∧ w.frozen? ⟨T, 1, none⟩ = false ∧ w.frozen? ⟨T, 2, none⟩ = false :=
  ⟨⟨blk_cell h.t 0, blk_cell h.t 1, blk_cell h.t 2⟩, blk_frozen h.t 0, blk_frozen h.t 1, blk_frozen h.t 2⟩
theorem AI.putf (h : AI w0 ws w g T A0 n0 c0 A1 n1 c1 A2 ls c2 m) {b : Nat} {cs : Array Value} (hb : w.heap[b]? = some (.cells cs 35 (0, 0))) (hge : ws.heap.size ≤ b) (i x : Nat) : AI w0 ws (w.setCell ⟨b, i, none⟩ (.float .f32 x)) g T A0 n0 c0 A1 n1 c1 A2 ls c2 m := by
  obtain ⟨cs', e⟩ := h.cur.blk
  exact ⟨Cur2.far h.cur _ (blk_ne e hb (by decide)) hge (Nat.le_trans h.ge.1 hge), blk_far h.t (p := ⟨b, i, none⟩) (blk_ne h.t hb (by decide)) _, h.ge, h.s.putf hb i x⟩
theorem AI.puti (h : AI w0 ws w g T A0 n0 c0 A1 n1 c1 A2 ls c2 m) {b : Nat} {cs : Array Value} (hb : w.heap[b]? = some (.cells cs 3 (0, 0))) (hge : ws.heap.size ≤ b) (i : Nat) (x : Int) : AI w0 ws (w.setCell ⟨b, i, none⟩ (.int .i64 x)) g T A0 n0 c0 A1 n1 c1 A2 ls c2 m := by
  obtain ⟨cs', e⟩ := h.cur.blk
  exact ⟨Cur2.far h.cur _ (blk_ne e hb (by decide)) hge (Nat.le_trans h.ge.1 hge), blk_far h.t (p := ⟨b, i, none⟩) (blk_ne h.t hb (by decide)) _, h.ge, h.s.puti hb i x⟩
end
section
variable {w0 ws w w1 : World} {g T : Nat} {A0 A1 A2 : Option Addr} {n0 c0 n1 c1 c2 : Nat} {ls : List Nat} {m n : Int}
theorem AI.wind (h : AI w0 ws w g T A0 n0 c0 A1 n1 c1 A2 ls c2 m) {i : Nat} (hi : i < n0) : ∃ b o cells x, A0 = some ⟨b, o, none⟩ ∧ ws.heap.size ≤ b ∧ w.heap[b]? = some (.cells cells 35 (0, 0)) ∧ cells[o + i]? = some (.float .f32 x) := by
  obtain ⟨b, o, cells, h1, h2, _, h3, h4⟩ := h.s.f.resolve_left (by omega)
  obtain ⟨x, hx⟩ := h4 i hi
  exact ⟨b, o, cells, x, h1, h2, h3, hx⟩
theorem AI.ang (h : AI w0 ws w g T A0 n0 c0 A1 n1 c1 A2 ls c2 m) {i : Nat} (hi : i < n1) : ∃ b o cells x, A1 = some ⟨b, o, none⟩ ∧ ws.heap.size ≤ b ∧ w.heap[b]? = some (.cells cells 3 (0, 0)) ∧ cells[o + i]? = some (.int .i64 x) := by
  obtain ⟨b, o, cells, h1, h2, h3, h4⟩ := h.s.i.resolve_left (by omega)
  obtain ⟨x, hx⟩ := h4 i hi
  exact ⟨b, o, cells, x, h1, h2, h3, hx⟩
theorem AI.row (h : AI w0 ws w g T A0 n0 c0 A1 n1 c1 A2 ls c2 m) {i q : Nat} (hi : i < ls.length) (hq : ∀ r ∈ ls, r = q) (hp : 0 < q) : ∃ b o cells b' o' cells' c, A2 = some ⟨b, o, none⟩ ∧ ws.heap.size ≤ b ∧ w.heap[b]? = some (.cells cells 24 (0, 0)) ∧ cells[o + i]? = some (.slice (some ⟨b', o', none⟩) q c) ∧ q ≤ c ∧ ws.heap.size ≤ b' ∧ w.heap[b']? = some (.cells cells' 35 (0, 0)) ∧ ∀ j, j < q → ∃ x, cells'[o' + j]? = some (.float .f32 x) := by
  obtain ⟨b, o, cells, h1, h2, h3, h4⟩ := h.s.r.resolve_left (by omega)
  obtain ⟨B, c, q1, q2, q3⟩ := h4 i hi
  have e : ls.getD i 0 = q := by
    rw [List.getD_eq_getElem?_getD, List.getElem?_eq_getElem hi]
    exact hq _ (List.getElem_mem _)
  rw [e] at q1 q2 q3
  obtain ⟨b', o', cells', rfl, r2, _, r3, r4⟩ := q3.resolve_left (by omega)
  exact ⟨b, o, cells, b', o', cells', c, h1, h2, h3, q1, q2, r2, r3, r4⟩
theorem FB_tail {b o q : Nat} {cells : Array Value} {base : Nat} (h1 : base ≤ b) (h2 : w.heap[b]? = some (.cells cells 35 (0, 0))) (h3 : ∀ j, j < q → ∃ x, cells[o + j]? = some (.float .f32 x)) : FB w base (fun _ => True) (some ⟨b, o + 1, none⟩) (q - 1) :=
  .inr ⟨b, o + 1, cells, rfl, h1, trivial, h2, fun j hj => by
    obtain ⟨x, hx⟩ := h3 (j + 1) (by omega)
    exact ⟨x, by rw [← hx]; congr 1; omega⟩⟩
theorem AI.puts {b o i q c : Nat} {B : Option Addr} {cells : Array Value} (h : AI w0 ws w g T A0 n0 c0 A1 n1 c1 (some ⟨b, o, none⟩) ls c2 m) (hb : w.heap[b]? = some (.cells cells 24 (0, 0))) (hge : ws.heap.size ≤ b) (hi : i < ls.length) (hn : q ≤ c) (hF : FB w ws.heap.size (fun _ => True) B q) :
    AI w0 ws (w.setCell ⟨b, o + i, none⟩ (.slice B q c)) g T A0 n0 c0 A1 n1 c1 (some ⟨b, o, none⟩) (ls.set i q) c2 m := by
  obtain ⟨cs', e⟩ := h.cur.blk
  have hm : ∀ (k : Nat) (cells : Array Value) (t : Nat), w.heap[k]? = some (.cells cells t (0, 0)) → t ≠ 24 → (w.setCell ⟨b, o + i, none⟩ (.slice B q c)).heap[k]? = w.heap[k]? := fun k _ _ hk hq => Below.heap_setCell w ⟨b, o + i, none⟩ _ k (blk_ne hk hb hq)
  have hf : ∀ {A n}, FB w ws.heap.size (fun _ => True) A n → FB (w.setCell ⟨b, o + i, none⟩ (.slice B q c)) ws.heap.size (fun _ => True) A n := fun hA => (hA.bound.move (fun k hk => by
    obtain ⟨_, h1, _, cells, h2⟩ := hk
    exact hm k cells _ h2 (by decide))).mono (fun _ _ => trivial)
  refine ⟨Cur2.far h.cur _ (blk_ne e hb (by decide)) hge (Nat.le_trans h.ge.1 hge), ?_, h.ge, hf h.s.f, ?_, ?_⟩
  · rw [List.length_set]
    exact blk_far h.t (p := ⟨b, o + i, none⟩) (blk_ne h.t hb (by decide)) _
  · rcases h.s.i with h | ⟨b', o', cells', h1, h2, h3, h4⟩
    · exact .inl h
    · exact .inr ⟨b', o', cells', h1, h2, (hm b' cells' _ h3 (by decide)).trans h3, h4⟩
  · obtain ⟨b', o', cells', h1, h2, h3, h4⟩ := h.s.r.resolve_left (by omega)
    cases h1
    refine .inr ⟨b, o, _, rfl, h2, blk_set h3 (o + i) _, fun j hj => ?_⟩
    rw [List.length_set] at hj
    obtain ⟨B', c', q1, q2, q3⟩ := h4 j hj
    by_cases ej : i = j
    · subst ej
      refine ⟨B, c, ?_, ?_, ?_⟩
      · rw [Array.getElem?_setIfInBounds_self, if_pos (Array.getElem?_eq_some_iff.1 q1).1]
        simp [List.getD_eq_getElem?_getD, hi]
      · simpa [List.getD_eq_getElem?_getD, hi] using hn
      · have e1 : (ls.set i q).getD i 0 = q := by simp [List.getD_eq_getElem?_getD, hi]
        rw [e1]
        exact hf hF
    · have e1 : (ls.set i q).getD j 0 = ls.getD j 0 := by simp [List.getD_eq_getElem?_getD, ej]
      rw [e1, Array.getElem?_setIfInBounds_ne (by omega)]
      exact ⟨B', c', q1, q2, hf q3⟩
theorem AI.put2 {A2' : Option Addr} {ls' : List Nat} {c2' k : Nat} (h : AI w0 ws w g T A0 n0 c0 A1 n1 c1 A2 ls c2 m) (hR : RB w ws.heap.size A2' ls') (hk : k = ls'.length) : AI w0 ws (w.setCell ⟨T, 2, none⟩ (.slice A2' k c2')) g T A0 n0 c0 A1 n1 c1 A2' ls' c2' m := by
  subst hk
  have hT : ¬ ofPol 28 := by
    rintro (e | e | e) <;> exact absurd e (by decide)
  exact ⟨Cur2.far h.cur _ h.ne.symm h.ge.2 (Nat.le_trans h.ge.1 h.ge.2), blk_put h.t 2 _ rfl, h.ge, (Shp.mk h.s.f h.s.i hR).set h.t hT 2 _⟩
theorem RB.tail {base : Nat} (h : RB w base A2 ls) : RB w base (Option.map (fun x => ⟨x.block, x.off + 1, none⟩) A2) ls.tail := by
  rcases h with h | ⟨b, o, cells, rfl, h2, h3, h4⟩
  · exact .inl (by simp [h])
  · refine .inr ⟨b, o + 1, cells, rfl, h2, h3, fun j hj => ?_⟩
    rw [List.length_tail] at hj
    obtain ⟨B, c, q1, q2, q3⟩ := h4 (j + 1) (by omega)
    have e : ls.tail.getD j 0 = ls.getD (j + 1) 0 := by simp [List.getD_eq_getElem?_getD]
    rw [e, show o + 1 + j = o + (j + 1) by omega]
    exact ⟨B, c, q1, q2, q3⟩
theorem AI.far (h : AI w0 ws w g T A0 n0 c0 A1 n1 c1 A2 ls c2 m) {b t : Nat} {cells : Array Value} (hb : w.heap[b]? = some (.cells cells t (0, 0))) (ht : t ≠ 76) : b ≠ g := by
  obtain ⟨cs, e⟩ := h.cur.blk
  exact blk_ne hb e ht
end
theorem elem {α : Type} {R : α → List Value → Prop} {ps : List α} {cs : List Value} (h : Reps R 1 ps cs) (j : Nat) (hj : j < ps.length) : ∃ u, cs[j]? = some u ∧ R ps[j] [u] := by
  have hx := h.2 j ps[j] (List.getElem?_eq_getElem hj)
  have hl : j < cs.length := by have := h.1; omega
  rw [Nat.mul_one, List.drop_eq_getElem_cons hl, List.take_succ_cons, List.take_zero] at hx
  exact ⟨cs[j], List.getElem?_eq_getElem hl, hx⟩
/-- a row of one's own, laid open -/
theorem R_open {α : Type} {d : Kd α} {e base : Nat} {ok : Nat → Prop} {w : World} {A : Option Addr} {n c : Nat} {xs : List α} (hs : d.sz = 1) (h : d.R e w base ok (.slice A n c) xs) : n = xs.length ∧ n ≤ c ∧ (xs.length = 0 ∨ ∃ b cells, A = some ⟨b, 0, none⟩ ∧ base ≤ b ∧ ok b ∧ w.heap[b]? = some (.cells cells e (0, 0)) ∧ ∀ j (hj : j < xs.length), ∃ u, cells[j]? = some u ∧ d.M w base ok xs[j] [u]) := by
  obtain ⟨h0, inner, ⟨hl, ho⟩, hr⟩ := h
  rcases ho with ⟨hv, h1⟩ | ⟨b, cap, cur, hv, hb, hh, h1, h2, h3, h4⟩
  · cases hv
    exact ⟨h1.symm, by omega, .inl h1⟩
  · cases hv
    refine ⟨rfl, h1, .inr ⟨b, cur, rfl, hb, h0 b rfl, hh, fun j hj => ?_⟩⟩
    rw [hs] at hr h4
    obtain ⟨u, q1, q2⟩ := elem hr j hj
    refine ⟨u, ?_, d.M_mono (fun k hk => hk.1) q2⟩
    rw [← h4, Nat.mul_one, List.getElem?_take, if_pos hj] at q1
    simpa using q1
theorem PI.any {w0 ws w : World} {g T : Nat} {A0 A1 A2 : Option Addr} {n0 c0 n1 c1 n2 c2 : Nat} {us : List Unit} {ns : List Int} {ls : List Nat} {m : Int} (h : PI w0 ws w g T (.slice A0 n0 c0) (.slice A1 n1 c1) (.slice A2 n2 c2) us ns ls m) : AI w0 ws w g T A0 n0 c0 A1 n1 c1 A2 ls c2 m ∧ n0 = us.length ∧ n1 = ns.length ∧ n2 = ls.length ∧ n0 ≤ c0 ∧ n2 ≤ c2 := by
  obtain ⟨e0, k0, q0⟩ := R_open rfl h.r0
  obtain ⟨e1, k1, q1⟩ := R_open rfl h.r1
  obtain ⟨e2, k2, q2⟩ := R_open rfl h.r2
  subst e0 e1 e2
  refine ⟨⟨h.cur, h.t, h.ge, ?_, ?_, ?_⟩, rfl, rfl, rfl, k0, k2⟩
  · rcases q0 with q | ⟨b, cells, r1, r2, _, r3, r4⟩
    · exact .inl q
    · refine .inr ⟨b, 0, cells, r1, r2, trivial, r3, fun j hj => ?_⟩
      obtain ⟨u, s1, x, s2⟩ := r4 j hj
      rw [Nat.zero_add]
      exact ⟨x, s1.trans (congrArg some (List.singleton_inj.1 s2))⟩
  · rcases q1 with q | ⟨b, cells, r1, r2, _, r3, r4⟩
    · exact .inl q
    · refine .inr ⟨b, 0, cells, r1, r2, r3, fun j hj => ?_⟩
      obtain ⟨u, s1, s2⟩ := r4 j hj
      rw [Nat.zero_add]
      exact ⟨_, s1.trans (congrArg some (List.singleton_inj.1 s2))⟩
  · rcases q2 with q | ⟨b, cells, r1, r2, _, r3, r4⟩
    · exact .inl q
    · refine .inr ⟨b, 0, cells, r1, r2, r3, fun j hj => ?_⟩
      obtain ⟨u, s1, A, c, s2, s3, s4⟩ := r4 j hj
      rw [Nat.zero_add, List.getD_eq_getElem?_getD, List.getElem?_eq_getElem hj]
      exact ⟨A, c, s1.trans (congrArg some (List.singleton_inj.1 s2)), s3, s4.mono (fun _ _ => trivial)⟩
theorem AI.fin {w0 ws w wr : World} {g T : Nat} {A0 A1 A2 : Option Addr} {n0 c0 n1 c1 c2 : Nat} {ls : List Nat} {m : Int} (h : AI w0 ws wr g T A0 n0 c0 A1 n1 c1 A2 ls c2 m) {o : Obj} (hws : ws = w.alloc o) (hw : w0.heap.size ≤ w.heap.size) {cs : Array Value} (hX : wr.heap[w.heap.size]? = some (.cells cs 28 (0, 0))) (hg : g ≠ w.heap.size) (u0 u1 u2 : Value) :
    Cur2 w0 w (((wr.setCell ⟨w.heap.size, 0, none⟩ u0).setCell ⟨w.heap.size, 1, none⟩ u1).setCell ⟨w.heap.size, 2, none⟩ u2) g m ∧ Shp (((wr.setCell ⟨w.heap.size, 0, none⟩ u0).setCell ⟨w.heap.size, 1, none⟩ u1).setCell ⟨w.heap.size, 2, none⟩ u2) w0.heap.size A0 n0 A1 n1 A2 ls := by
  have k0 : KeepBut w ws g none := by rw [hws]; exact KeepBut.of_below ((Below.refl _ _).alloc (Nat.le_refl _) _) g none
  have c0 : Cur2 w0 w wr g m := ⟨h.cur.cur, k0.trans h.cur.keep (.inl rfl)⟩
  have hX2 := blk_set hX 0 u0
  have hX3 := blk_set hX2 1 u1
  have hT : ¬ ofPol 28 := by
    rintro (e | e | e) <;> exact absurd e (by decide)
  refine ⟨Cur2.far (Cur2.far (Cur2.far c0 u0 hg (Nat.le_refl _) hw) u1 hg (Nat.le_refl _) hw) u2 hg (Nat.le_refl _) hw, ?_⟩
  exact (((h.s.set hX hT 0 u0).set hX2 hT 1 u1).set hX3 hT 2 u2).lower h.ge.1
theorem Own.toPI {w0 ws w : World} {g : Nat} {v0 v1 v2 : Value} {us : List Unit} {ns : List Int} {ls : List Nat} {m : Int} (h : Own ws.heap.size w v0 v1 v2 us ns ls) (hC : Cur2 w0 ws w g m) (hw : w0.heap.size ≤ ws.heap.size) : PI w0 ws (w.alloc (.cells #[v0, v1, v2] 28)) g w.heap.size v0 v1 v2 us ns ls m :=
  ⟨hC.alloc _, blk_new w _, ⟨hw, hC.keep.1⟩, Kd.R_below h.r0 ((Below.refl _ _).alloc (Nat.le_refl _) _), Kd.R_below h.r1 ((Below.refl _ _).alloc (Nat.le_refl _) _), Kd.R_below h.r2 ((Below.refl _ _).alloc (Nat.le_refl _) _)⟩
def Rel6 (w0 ws : World) (g T : Nat) (wr : World) : Prop := ∃ (v0 v1 v2 : Value) (us : List Unit) (ns : List Int) (ls : List Nat), 1 ≤ us.length ∧ us.length ≤ 13 ∧ 1 ≤ ls.length ∧ ls.length ≤ us.length ∧ ns.length ≤ 21 ∧ PI w0 ws wr g T v0 v1 v2 us ns ls (2020 + 8 * (us.length : Nat))
def lenAt (w : World) (T : Nat) : Nat := match w.cell? ⟨T, 0, none⟩ with
  | some (.slice _ n _) => n
  | _ => 0
theorem PI.lenAt {w0 ws w : World} {g T : Nat} {A0 : Option Addr} {n0 c0 : Nat} {v1 v2 : Value} {us : List Unit} {ns : List Int} {ls : List Nat} {m : Int} (h : PI w0 ws w g T (.slice A0 n0 c0) v1 v2 us ns ls m) : Dp.lenAt w T = n0 := by
  unfold Dp.lenAt
  rw [h.cells.1.1]
set_option maxRecDepth 100000 in
set_option maxHeartbeats 2000000 in
theorem any_call {w0 w : World} {g : Nat} (hC : Cur2 w0 w0 w g 0) :
    Calls Tryz.prog 44 #[.pointer (some ⟨g, 0, none⟩)] w fun e w' => ∃ (A0 : Option Addr) (n0 c0 : Nat) (A1 : Option Addr) (n1 c1 : Nat) (A2 : Option Addr) (ls : List Nat) (c2 : Nat), e = .returned (.agg #[.slice A0 n0 c0, .slice A1 n1 c1, .slice A2 ls.length c2]) ∧ (n0 ≤ 14 ∧ n1 ≤ 21) ∧ Cur2 w0 w w' g 4000 ∧ Shp w' w0.heap.size A0 n0 A1 n1 A2 ls := by
  have C0 := Lib.hid hC
  clear hC
  go_enter Tryz.func44, Tryz.ntmps44
  go_wp2_with fail
  obtain ⟨ws, hws⟩ : ∃ ws : World, ws = w.alloc (.cells #[.slice none 0 0, .slice none 0 0, .slice none 0 0] 28) := ⟨_, rfl⟩
  have hX : ws.heap[w.heap.size]? = some (.cells #[.slice none 0 0, .slice none 0 0, .slice none 0 0] 28 (0, 0)) := by rw [hws]; exact blk_new w _
  have hc : Cur2 w0 w0 ws g 0 := by
    have := C0.out.alloc (.cells #[.slice none 0 0, .slice none 0 0, .slice none 0 0] 28)
    rw [← hws] at this
    exact this
  rw [← hws]
  have HX := Lib.hid hX
  have HS := Lib.hid hws
  have C1 := Lib.hid hc
  clear hX hws hc
  refine (polar_call C1.out).mono ?_
  rintro e w2 ⟨v0, v1, v2, us, ns, ls, rfl, hC2, hO⟩
  have I2 := Lib.hid (hO.toPI hC2 C1.out.below.size)
  have l0 := hO.l0
  have l1 := hO.l1
  have H2 := Lib.hid hO.l2
  have H3 := Lib.hid hO.l3
  clear hO hC2
  obtain ⟨A0, c0, A1, c1, A2, c2, rfl, rfl, rfl⟩ := I2.out.slices
  go_wp2_with fail
  refine (below_k (us.length : Int) (by omega) (by omega) I2.out.cur.here).mono ?_
  rintro e w3 ⟨i, rfl, i0, i1, hC3⟩
  have I3 := Lib.hid (I2.out.move hC3)
  have i1 := i1 (by omega)
  clear hC3 I2
  obtain ⟨i, rfl⟩ : ∃ k : Nat, i = (k : Int) := ⟨i.toNat, by omega⟩
  clear i0
  obtain ⟨⟨t0, t1, t2⟩, tf0, tf1, tf2⟩ := I3.out.cells
  generalize w2.heap.size = T at *
  go_wp2_with fail
  refine (below_k (ns.length : Int) (by omega) (by omega) I3.out.cur.here).mono ?_
  rintro e w4 ⟨k, rfl, k0, k1, hC4⟩
  have I4 := Lib.hid (I3.out.move hC4)
  have k1 := k1 (by omega)
  clear hC4 I3 t0 t1 t2 tf0 tf1 tf2
  obtain ⟨k, rfl⟩ : ∃ j : Nat, k = (j : Int) := ⟨k.toNat, by omega⟩
  clear k0
  obtain ⟨hA, _, _, _, d0, d2⟩ := I4.out.any
  have K4 := Lib.hid hA
  clear hA
  go_wp2_with fail
  refine (below_k 24 (by omega) (by omega) I4.out.cur.here).mono ?_
  rintro e w5 ⟨r, rfl, r0, r1, hC5⟩
  have r1 := r1 (by omega)
  have I5 := Lib.hid (I4.out.move hC5)
  have K5 := Lib.hid (K4.out.move hC5)
  clear hC5 I4 K4
  go_upto_block 0 with fail
  go_cut [] (fun wr => ∃ (A0 : Option Addr) (n0 c0 : Nat) (A1 : Option Addr) (n1 c1 : Nat) (A2 : Option Addr) (ls : List Nat) (c2 : Nat), (n0 ≤ 14 ∧ n1 ≤ 21) ∧ AI w0 ws wr g T A0 n0 c0 A1 n1 c1 A2 ls c2 3900)
  case first =>
    rcases (show r = 0 ∨ r = 1 ∨ r = 2 ∨ r = 3 ∨ r = 4 ∨ r = 5 ∨ r = 6 ∨ r = 7 ∨ r = 8 ∨ 9 ≤ r by omega) with rfl | rfl | rfl | rfl | rfl | rfl | rfl | rfl | rfl | r9
    · -- 0
      clear I5 d0 d2
      obtain ⟨b, o, cells, x, rfl, hb, hB, hx⟩ := K5.out.wind (i := i) (by omega)
      have HG := Lib.hid (K5.out.far hB (by decide))
      have HB := Lib.hid hB
      have Hx := Lib.hid hx
      have hge := Lib.hid hb
      obtain ⟨⟨t0, t1, t2⟩, tf0, tf1, tf2⟩ := K5.out.cells
      have cx := (blk_cell hB (o + i)).trans hx
      have cf := blk_frozen hB (o + i)
      clear hB hx hb
      go_upto_region 6 with fail
      go_region_with (first | (go_at_call 74; refine (single_k 120 (by omega) (by omega) (by omega) K5.out.drew.cur.here).mono ?_; rintro e w6 ⟨z, rfl, hC6⟩; have K6 := Lib.hid (K5.out.drew.move hC6); have hB6 := hC6.keep.blk (show w5.drew.heap[b]? = _ from HB.out) HG.out (by simp); obtain ⟨⟨t0, t1, t2⟩, tf0, tf1, tf2⟩ := K6.out.cells; have cx := (blk_cell hB6 (o + i)).trans Hx.out; have cf := blk_frozen hB6 (o + i); have P6 := Lib.hid ((K6.out.putf hB6 hge.out (o + i) z).mono (show _ ≤ (3900 : Int) by omega)); clear hC6 hB6 K6))
      all_goals (go_wp2_with fail)
      all_goals go_meet
      all_goals exact ⟨_, _, _, _, _, _, _, _, _, ⟨by omega, by omega⟩, P6.out⟩
    · -- 1
      clear I5 d0 d2
      obtain ⟨b, o, cells, x, rfl, hb, hB, hx⟩ := K5.out.ang (i := k) (by omega)
      have HG := Lib.hid (K5.out.far hB (by decide))
      have HB := Lib.hid hB
      have Hx := Lib.hid hx
      have hge := Lib.hid hb
      obtain ⟨⟨t0, t1, t2⟩, tf0, tf1, tf2⟩ := K5.out.cells
      have cx := (blk_cell hB (o + k)).trans hx
      have cf := blk_frozen hB (o + k)
      clear hB hx hb
      go_upto_region 8 with fail
      go_region_with (first | (go_at_call 75; refine (number_k (by omega) K5.out.drew.cur.here).mono ?_; rintro e w6 ⟨z, rfl, hC6⟩; have K6 := Lib.hid (K5.out.drew.move hC6); have hB6 := hC6.keep.blk (show w5.drew.heap[b]? = _ from HB.out) HG.out (by simp); obtain ⟨⟨t0, t1, t2⟩, tf0, tf1, tf2⟩ := K6.out.cells; have cx := (blk_cell hB6 (o + k)).trans Hx.out; have cf := blk_frozen hB6 (o + k); have P6 := Lib.hid ((K6.out.puti hB6 hge.out (o + k) z).mono (show _ ≤ (3900 : Int) by omega)); clear hC6 hB6 K6))
      all_goals (go_wp2_with fail)
      all_goals go_meet
      all_goals exact ⟨_, _, _, _, _, _, _, _, _, ⟨by omega, by omega⟩, P6.out⟩
    · -- 2
      clear I5 d0 d2
      obtain ⟨b, o, cells, b', o', cells', c, rfl, hb, hB, hx, hqc, hb', hB', hy⟩ := K5.out.row (i := i) (by have := H2.out; omega) H3.out (by omega)
      obtain ⟨y, hy⟩ := hy k (by omega)
      have HG := Lib.hid (K5.out.far hB (by decide))
      have HG' := Lib.hid (K5.out.far hB' (by decide))
      have HB := Lib.hid hB
      have HB' := Lib.hid hB'
      have Hx := Lib.hid hx
      have Hy := Lib.hid hy
      have hge := Lib.hid hb
      have hge' := Lib.hid hb'
      obtain ⟨⟨t0, t1, t2⟩, tf0, tf1, tf2⟩ := K5.out.cells
      have cx := (blk_cell hB (o + i)).trans hx
      have cf := blk_frozen hB (o + i)
      have cy := (blk_cell hB' (o' + k)).trans hy
      have cg := blk_frozen hB' (o' + k)
      have hi2 : i < ls.length := by have := H2.out; omega
      clear hB hx hb hB' hy hb'
      go_upto_region 10 with fail
      go_region_with (first | (go_at_call 74; refine (single_k 60 (by omega) (by omega) (by omega) K5.out.drew.cur.here).mono ?_; rintro e w6 ⟨z, rfl, hC6⟩; have K6 := Lib.hid (K5.out.drew.move hC6); have hB6 := hC6.keep.blk (show w5.drew.heap[b]? = _ from HB.out) HG.out (by simp); have hB6' := hC6.keep.blk (show w5.drew.heap[b']? = _ from HB'.out) HG'.out (by simp); obtain ⟨⟨t0, t1, t2⟩, tf0, tf1, tf2⟩ := K6.out.cells; have cx := (blk_cell hB6 (o + i)).trans Hx.out; have cf := blk_frozen hB6 (o + i); have cy := (blk_cell hB6' (o' + k)).trans Hy.out; have cg := blk_frozen hB6' (o' + k); have P6 := Lib.hid ((K6.out.putf hB6' hge'.out (o' + k) z).mono (show _ ≤ (3900 : Int) by omega)); clear hC6 hB6 hB6' K6))
      all_goals (go_wp2_with fail)
      all_goals go_meet
      all_goals exact ⟨_, _, _, _, _, _, _, _, _, ⟨by omega, by omega⟩, P6.out⟩
    · -- 3
      clear I5 d0 d2
      obtain ⟨b, o, cells, b', o', cells', c, rfl, hb, hB, hx, hqc, hb', hB', hy⟩ := K5.out.row (i := i) (by have := H2.out; omega) H3.out (by omega)
      have hY := hy
      obtain ⟨y, hy⟩ := hy k (by omega)
      have HG := Lib.hid (K5.out.far hB (by decide))
      have HG' := Lib.hid (K5.out.far hB' (by decide))
      have HB := Lib.hid hB
      have HB' := Lib.hid hB'
      have Hx := Lib.hid hx
      have Hy := Lib.hid hy
      have hge := Lib.hid hb
      have hge' := Lib.hid hb'
      obtain ⟨⟨t0, t1, t2⟩, tf0, tf1, tf2⟩ := K5.out.cells
      have cx := (blk_cell hB (o + i)).trans hx
      have cf := blk_frozen hB (o + i)
      have cy := (blk_cell hB' (o' + k)).trans hy
      have cg := blk_frozen hB' (o' + k)
      have hi2 : i < ls.length := by have := H2.out; omega
      clear hB hx hb hB' hy hb'
      have P6 := Lib.hid (((K5.out.puts HB.out hge.out hi2 (q := ns.length - 1) (c := c - 1) (by omega) (FB_tail hge'.out HB'.out hY)).drew).mono (show _ ≤ (3900 : Int) by omega))
      clear hY
      go_upto_region 12 with fail
      go_region_with fail
      all_goals (go_wp2_with fail)
      all_goals go_meet
      all_goals exact ⟨_, _, _, _, _, _, _, _, _, ⟨by omega, by omega⟩, P6.out⟩
    · -- 4
      clear I5
      obtain ⟨⟨t0, t1, t2⟩, tf0, tf1, tf2⟩ := K5.out.cells
      obtain ⟨u, hu⟩ : ∃ u, ls.length = u + 1 := ⟨ls.length - 1, by have := H2.out; omega⟩
      by_cases hc : c2 = 1
      · subst hc
        obtain rfl : u = 0 := by omega
        have P6 := Lib.hid ((K5.out.put2 (A2' := A2) (ls' := []) (c2' := 0) (k := 0) (.inl rfl) rfl).mono (show _ ≤ (3900 : Int) by omega))
        go_wp2_with fail
        go_meet
        case rel => exact ⟨_, _, _, _, _, _, _, _, _, ⟨by omega, by omega⟩, P6.out⟩
      · have P6 := Lib.hid ((K5.out.put2 (c2' := c2 - 1) (k := u) (K5.out.s.r.tail) (by simp [hu])).mono (show _ ≤ (3900 : Int) by omega))
        go_wp2_with fail
        go_meet
        case rel => exact ⟨_, _, _, _, _, _, _, _, _, ⟨by omega, by omega⟩, P6.out⟩
    · -- 5
      clear I5
      have hgX : w.heap.size ≠ g := fun e => by have := C0.out.lt; omega
      have hXr := K5.out.cur.keep.blk HX.out hgX (by simp)
      have x0 : w5.cell? ⟨w.heap.size, 0, none⟩ = some (.slice none 0 0) := blk_cell hXr 0
      have x1 : w5.cell? ⟨w.heap.size, 1, none⟩ = some (.slice none 0 0) := blk_cell hXr 1
      have x2 : w5.cell? ⟨w.heap.size, 2, none⟩ = some (.slice none 0 0) := blk_cell hXr 2
      have xf0 := blk_frozen hXr 0
      have xf1 := blk_frozen hXr 1
      have xf2 := blk_frozen hXr 2
      have F := Lib.hid (K5.out.fin HS.out C0.out.below.size hXr hgX.symm (.slice none 0 0) (.slice none 0 0) (.slice none 0 0))
      have hbn := build_none
      clear hXr
      go_wp2_with fail
      exact bodyPost_ret (v := .agg #[.slice none 0 0, .slice none 0 0, .slice none 0 0]) (by simp [results, Tryz.results44, go_sem, x0, x1, x2]) rfl ⟨none, 0, 0, none, 0, 0, none, [], 0, rfl, ⟨by omega, by omega⟩, F.out.1.mono (by omega), .inl rfl, .inl rfl, .inl rfl⟩
    · -- 6
      have H6 := Lib.hid (show Rel6 w0 ws g T w5 from ⟨_, _, _, us, ns, ls, by omega, by omega, by have := H2.out; omega, by have := H2.out; omega, by omega, I5.out.mono (by omega)⟩)
      clear K5 I5
      go_wp2_with fail
      go_loopw [] (fun wr => Rel6 w0 ws g T wr) (fun wr => 20 - lenAt wr T)
      case atStart => exact H6.out
      case round =>
        clear H6
        obtain ⟨v0, v1, v2, us, ns, ls, u1, u2, u3, u4, u5, hI⟩ := hrel
        have I := Lib.hid hI
        clear hI
        obtain ⟨A0, c0, A1, c1, A2, c2, rfl, rfl, rfl⟩ := I.out.slices
        have hla := I.out.lenAt
        obtain ⟨⟨t0, t1, t2⟩, tf0, tf1, tf2⟩ := I.out.cells
        go_upto_region 18 with fail
        go_cut [77] (fun s wr => ∃ b, s = .bool b ∧ (b = true → us.length ≤ 12) ∧ PI w0 ws wr g T (.slice A0 us.length c0) (.slice A1 ns.length c1) (.slice A2 ls.length c2) us ns ls (2024 + 8 * (us.length : Nat)))
        case first =>
          go_region_with (first | (go_at_call 51; refine (below_k 2 (by omega) (by omega) I.out.drew.cur.here).mono ?_; rintro e w6 ⟨r, rfl, r0, r1, hC6⟩; have I6 := Lib.hid ((I.out.drew.move hC6).mono (show _ ≤ (2024 + 8 * (us.length : Nat) : Int) by omega)); obtain ⟨⟨t0, t1, t2⟩, tf0, tf1, tf2⟩ := I6.out.cells; clear hC6))
          all_goals (go_wp2_with fail)
          all_goals go_meet
          all_goals exact ⟨_, rfl, fun h => by (have := of_decide_eq_true h; rw [show IntKind.i64.wrap (12 + r) = 12 + r from by rw [IntKind.wrap_i64]; omega] at this; omega), I6.out⟩
        case rest =>
          obtain ⟨b, rfl, hb, hI⟩ := hcut
          have I6 := Lib.hid hI
          clear hI I t0 t1 t2 tf0 tf1 tf2
          cases b
          · obtain ⟨hA, _⟩ := I6.out.any
            have P := Lib.hid hA
            clear hA
            go_wp2_with fail
            go_meet
            case rel => exact ⟨_, _, _, _, _, _, _, _, _, ⟨by omega, by omega⟩, P.out.mono (by omega)⟩
          · have hu := hb rfl
            clear hb
            obtain ⟨q, hq⟩ : ∃ q, us.length = q + 1 := ⟨us.length - 1, by omega⟩
            obtain ⟨hA, _, _, _, k0, _⟩ := I6.out.any
            obtain ⟨bb, oo, cells, x, rfl, hbb, hB, hx⟩ := hA.wind (i := q) (by omega)
            obtain ⟨F, hF⟩ := Classical.axiomOfChoice (r := fun (v : World) (p : Nat × World) => (binOp .add 35 (.float .f32 x) (.float .f32 1065353216)).run Tryz.prog v = .ok (.float .f32 p.1) p.2 ∧ (p.2 = v ∨ p.2 = v.drew)) (fun v => by
              obtain ⟨z, v', h1, h2⟩ := arith_any .add (Or.inl rfl) 35 x 1065353216 v
              exact ⟨(z, v'), h1, h2⟩)
            have hrun : ∀ v, (binOp .add 35 (.float .f32 x) (.float .f32 1065353216)).run Tryz.prog v = .ok (.float .f32 (F v).1) (F v).2 := fun v => (hF v).1
            have hcell : ∀ v p, (F v).2.cell? p = v.cell? p := fun v p => by
              rcases (hF v).2 with h | h <;> rw [h]
              rfl
            have hsize : ∀ v, (F v).2.heap.size = v.heap.size := fun v => by
              rcases (hF v).2 with h | h <;> rw [h]
              rfl
            have hfz : ∀ v p, (F v).2.frozen? p = v.frozen? p := fun v p => by
              rcases (hF v).2 with h | h <;> rw [h]
              rfl
            have HF := Lib.hid hF
            clear hF
            obtain ⟨⟨t0, t1, t2⟩, tf0, tf1, tf2⟩ := I6.out.cells
            have cx := (blk_cell hB (oo + q)).trans hx
            rw [hq] at t0
            have hq1 : IntKind.i64.wrap (q : Int) = (q : Int) := by rw [IntKind.wrap_i64]; omega
            have hq2 : (0 : Int) ≤ (q : Int) := by omega
            have hq3 : (q : Int) < (q : Int) + 1 := by omega
            clear hA
            go_upto_region 19 with fail
            have hI7 := I6.out
            rw [hq] at hI7
            have I7 := Lib.hid (hI7.drew.or (HF.out wc.drew).2)
            clear hI7
            have ta := (I7.out.alloc (.cells #[.float .f32 (F wc.drew).1] 35)).cells.1.1
            go_cut [] (fun wr => ∃ (A0 : Option Addr) (c0 : Nat), PI w0 ws wr g T (.slice A0 (q + 1 + 1) c0) (.slice A1 ns.length c1) (.slice A2 ls.length c2) (us ++ [()]) ns ls (2024 + 8 * (us.length : Nat)))
            case first =>
              go_region_law (refine Kd.R_append_step anyF (w0 := (F wc.drew).2) ws.heap.size (by rfl) (.tmp 79) (.tmp 89) 24 35 (.float .f32 0) 4 rfl Tryz.underlying24 f32_info rfl (by decide) (by omega) (.slice (some ⟨bb, oo, none⟩) (q + 1) c0) us () [.float .f32 (F wc.drew).1] (fun _ => True) (fun _ => False) rfl ?aX ?aP (fun _ hk => hk.elim) ?aF ?aO ?aB ?aS ?aL ?_; (case aX => (rw [hsize]; rfl)); (case aP => exact ⟨_, rfl⟩); (case aF => exact (fun _ _ => trivial)); (case aO => exact I7.out.r0); (case aB => exact Below.refl _ _); (case aS => exact I7.out.cur.keep.1); (case aL => omega); intro v6 w6 hR hb hg hat; obtain ⟨A6, c6, hv6⟩ := Kd.R_slice hR; subst hv6; obtain ⟨hI8, hT8⟩ := I7.out.app0 hg hR hat; have I8 := Lib.hid (hI8.mono (show _ ≤ (2024 + 8 * (us.length : Nat) : Int) by omega)); have s1 := blk_cell hT8 0; have sf1 := blk_frozen hT8 0; clear hR hb hg hat hI8 hT8)
              all_goals (have e8 : (us ++ [()]).length = q + 1 + 1 := by simp [hq])
              all_goals (have P8 := I8.out)
              all_goals (rw [e8] at P8)
              all_goals (have P8 := Lib.hid P8)
              all_goals (go_wp2_with fail)
              all_goals go_meet
              all_goals exact ⟨_, _, P8.out⟩
            case rest =>
              obtain ⟨A0, c0, hI⟩ := hcut
              have I8 := Lib.hid hI
              clear hI I7 I6 t0 t1 t2 tf0 tf1 tf2 cx ta hrun hcell hsize hfz HF hB hx
              obtain ⟨_, _, hr2⟩ := R_open rfl I8.out.r2
              obtain ⟨b2, cells2, rfl, hb2, _, hB2, he2⟩ := hr2.resolve_left (by omega)
              obtain ⟨u, hu2, hM⟩ := he2 0 (by omega)
              have HM := Lib.hid (Kd.M_types (Kd.M_below hM (Below.refl _ _).drew) (show wc.drew.heap[b2]? = _ from hB2) (by intro t ht; simp [shK] at ht; rw [ht]; decide))
              obtain ⟨Au, cu, hue, _, _⟩ := hM
              have hue := List.singleton_inj.1 hue
              subst hue
              obtain ⟨⟨t0, t1, t2⟩, tf0, tf1, tf2⟩ := I8.out.cells
              have cx := (blk_cell hB2 0).trans hu2
              clear he2 hB2 hu2
              have hl0 : 0 < ls.length := by omega
              have ta := (I8.out.alloc (.cells #[.slice Au (ls[0]'hl0) cu] 24)).cells.1.2.2
              go_upto_region 20 with fail
              go_region_law (rw [show (wc.alloc (.cells #[.slice Au (ls[0]'hl0) cu] 24)).drew = wc.drew.alloc (.cells [.slice Au (ls[0]'hl0) cu].toArray 24) from rfl]; refine Kd.R_append_step shK (w0 := wc.drew) ws.heap.size (by rfl) (.tmp 93) (.tmp 98) 26 24 (.slice none 0 0) 24 rfl Tryz.underlying26 sl_info rfl (by decide) (by omega) (.slice (some ⟨b2, 0, none⟩) ls.length c2) ls (ls[0]'hl0) [.slice Au (ls[0]'hl0) cu] (fun k => some k ≠ Value.ownBlock (.slice A0 (q + 1 + 1) c0)) (fun k => some k ≠ Value.ownBlock (.slice A0 (q + 1 + 1) c0) ∧ k ≠ b2) rfl ?aX ?aP ?aK ?aF ?aO ?aB ?aS ?aL ?_; (case aX => rfl); (case aP => exact HM.out); (case aK => exact (fun k hk => ⟨hk.1, fun e => hk.2 (Option.some.inj e)⟩)); (case aF => exact I8.out.drew.fresh); (case aO => exact I8.out.drew.r2); (case aB => exact Below.refl _ _); (case aS => exact I8.out.drew.cur.keep.1); (case aL => omega); intro v6 w6 hR hb hg hat; obtain ⟨A6, c6, hv6⟩ := Kd.R_slice hR; rw [List.length_append, List.length_singleton] at hv6; subst hv6; obtain ⟨hI9, hT9⟩ := I8.out.drew.app2 hg hR; have I9 := Lib.hid hI9; have s1 := blk_cell hT9 2; have sf1 := blk_frozen hT9 2; clear hR hb hg hat hI9 hT9)
              all_goals (go_wp2_with fail)
              all_goals go_roundw
              all_goals first
                | exact ⟨_, _, _, us ++ [()], ns, ls ++ [ls[0]'hl0], by simp, by simp; omega, by simp, by simp; omega, u5, I9.out.mono (by simp; omega)⟩
                | (rw [I9.out.lenAt, hla]; omega)
    · -- 7
      clear I5 d0 d2
      obtain ⟨b, o, cells, b', o', cells', c, rfl, hb, hB, hx, hqc, hb', hB', hy⟩ := K5.out.row (i := i) (by have := H2.out; omega) H3.out (by omega)
      obtain ⟨y, hy⟩ := hy k (by omega)
      have HG := Lib.hid (K5.out.far hB (by decide))
      have HG' := Lib.hid (K5.out.far hB' (by decide))
      have HB := Lib.hid hB
      have HB' := Lib.hid hB'
      have Hx := Lib.hid hx
      have Hy := Lib.hid hy
      have hge := Lib.hid hb
      have hge' := Lib.hid hb'
      obtain ⟨⟨t0, t1, t2⟩, tf0, tf1, tf2⟩ := K5.out.cells
      have cx := (blk_cell hB (o + i)).trans hx
      have cf := blk_frozen hB (o + i)
      have cy := (blk_cell hB' (o' + k)).trans hy
      have cg := blk_frozen hB' (o' + k)
      have hi2 : i < ls.length := by have := H2.out; omega
      clear hB hx hb hB' hy hb'
      have P6 := Lib.hid ((K5.out.putf HB'.out hge'.out (o' + k) 1112014848).mono (show _ ≤ (3900 : Int) by omega))
      go_wp2_with fail
      go_meet
      case rel => exact ⟨_, _, _, _, _, _, _, _, _, ⟨by omega, by omega⟩, P6.out⟩
    · -- 8
      clear I5 d0 d2
      obtain ⟨b, o, cells, b', o', cells', c, rfl, hb, hB, hx, hqc, hb', hB', hy⟩ := K5.out.row (i := i) (by have := H2.out; omega) H3.out (by omega)
      obtain ⟨y, hy⟩ := hy k (by omega)
      have HG := Lib.hid (K5.out.far hB (by decide))
      have HG' := Lib.hid (K5.out.far hB' (by decide))
      have HB := Lib.hid hB
      have HB' := Lib.hid hB'
      have Hx := Lib.hid hx
      have Hy := Lib.hid hy
      have hge := Lib.hid hb
      have hge' := Lib.hid hb'
      obtain ⟨⟨t0, t1, t2⟩, tf0, tf1, tf2⟩ := K5.out.cells
      have P8 := Lib.hid (show ∃ j : Nat, j ≤ ns.length ∧ Value.int .i64 0 = .int .i64 (j : Int) ∧ AI w0 ws w5 g T A0 us.length c0 A1 ns.length c1 (some ⟨b, o, none⟩) ls c2 3900 from ⟨0, by omega, rfl, K5.out.mono (by omega)⟩)
      have cx := (blk_cell hB (o + i)).trans hx
      have cf := blk_frozen hB (o + i)
      have cy := (blk_cell hB' (o' + k)).trans hy
      have cg := blk_frozen hB' (o' + k)
      have hi2 : i < ls.length := by have := H2.out; omega
      clear hB hx hb hB' hy hb'
      go_wp2_with fail
      go_loopw [118] (fun k wr => ∃ j : Nat, j ≤ ns.length ∧ k = .int .i64 (j : Int) ∧ AI w0 ws wr g T A0 us.length c0 A1 ns.length c1 (some ⟨b, o, none⟩) ls c2 3900) (fun k _ => ns.length - (intOf k).toNat)
      case atStart => exact P8.out
      case round =>
        clear P8 K5 HB HB' Hx Hy
        obtain ⟨j, hj, rfl, hI⟩ := hrel
        have I := Lib.hid hI
        clear hI
        by_cases hl : j < ns.length
        · obtain ⟨b1, o1, cells1, b1', o1', cells1', cc, e1, hb1, hB1, hx1, hqc1, hb1', hB1', hy1⟩ := I.out.row (i := i) hi2 H3.out (by omega)
          cases e1
          obtain ⟨y, hy⟩ := hy1 j hl
          obtain ⟨⟨t0, t1, t2⟩, tf0, tf1, tf2⟩ := I.out.cells
          have cx := (blk_cell hB1 (o + i)).trans hx1
          have cf := blk_frozen hB1 (o + i)
          have cy := (blk_cell hB1' (o1' + j)).trans hy
          have cg := blk_frozen hB1' (o1' + j)
          have P := Lib.hid (I.out.putf hB1' hb1' (o1' + j) 0)
          clear hB1 hx1 hB1' hy1 hy I
          go_wp2_with fail
          go_roundw
          case rel => exact ⟨j + 1, by omega, by go_num, P.out⟩
          case measure => simp [intOf]; omega
        · obtain rfl : j = ns.length := by omega
          go_wp2_with fail
          go_meet
          case rel => exact ⟨_, _, _, _, _, _, _, _, _, ⟨by omega, by omega⟩, I.out⟩
    · clear I5
      go_wp2_with fail
      go_meet
      case rel => exact ⟨_, _, _, _, _, _, _, _, _, ⟨by omega, by omega⟩, K5.out.mono (by omega)⟩
  case rest =>
    obtain ⟨A0', n0', c0', A1', n1', c1', A2', ls', c2', hn', hI⟩ := hcut
    clear I5 K5
    have I := Lib.hid hI
    clear hI
    obtain ⟨⟨t0, t1, t2⟩, tf0, tf1, tf2⟩ := I.out.cells
    have hgX : w.heap.size ≠ g := fun e => by have := C0.out.lt; omega
    have hXr := I.out.cur.keep.blk HX.out hgX (by simp)
    have x0 : wc.cell? ⟨w.heap.size, 0, none⟩ = some (.slice none 0 0) := blk_cell hXr 0
    have x1 : wc.cell? ⟨w.heap.size, 1, none⟩ = some (.slice none 0 0) := blk_cell hXr 1
    have x2 : wc.cell? ⟨w.heap.size, 2, none⟩ = some (.slice none 0 0) := blk_cell hXr 2
    have xf0 := blk_frozen hXr 0
    have xf1 := blk_frozen hXr 1
    have xf2 := blk_frozen hXr 2
    have F := Lib.hid (I.out.fin HS.out C0.out.below.size hXr hgX.symm (.slice A0' n0' c0') (.slice A1' n1' c1') (.slice A2' ls'.length c2'))
    clear hXr
    go_wp2_with fail
    exact bodyPost_ret (v := .agg #[.slice A0' n0' c0', .slice A1' n1' c1', .slice A2' ls'.length c2']) (by simp [results, Tryz.results44, go_sem, x0, x1, x2]) rfl ⟨_, _, _, _, _, _, _, _, _, rfl, hn', F.out.1.mono (by omega), F.out.2⟩
end Go.Proofs.YteaiaedhkhmgdaaGreat.Dp
