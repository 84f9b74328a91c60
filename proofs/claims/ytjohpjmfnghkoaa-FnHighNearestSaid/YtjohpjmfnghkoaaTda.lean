/- Tides as they are drawn with their faults, told by shape alone: l05Any, l05Time, DrawHighAt. -/
import Derived.Test.YtjohpjmfnghkoaaTide
import Derived.Deep.CutBlock
import Derived.Deep.DeepCutAuto
import Derived.Deep.RegionLaw
namespace Go.Proofs.Ytjohpjmfnghkoaa.Ty
open Go.RowKit Kit Fl Bd Dw Td Hnd Go.Proofs.YtjohpjmfnghkoaaW.PrintWords Go.Proofs.YtjohpjmfnghkoaaW.PrintLast Go.Proofs.YtjohpjmfnghkoaaW.PrintMore PFnHighNearest
/-- a station from cell o on -/
def SC (cells : Array Value) (o : Nat) : Prop := (∃ x y, cells[o]? = some (.complex .f64 x y)) ∧ ∀ i, i < 13 → ∃ a b, cells[o + 1 + i]? = some (.complex .f32 a b)
/-- stations in a block -/
def SB (w : World) (base : Nat) (A : Option Addr) (n : Nat) : Prop := n = 0 ∨ ∃ b cells, A = some ⟨b, 0, none⟩ ∧ base ≤ b ∧ w.heap[b]? = some (.cells cells 32 (0, 0)) ∧ ∀ j, j < n → SC cells (14 * j)
/-- whole numbers in a block -/
def IB (w : World) (base : Nat) (A : Option Addr) (n : Nat) : Prop := n = 0 ∨ ∃ b o cells, A = some ⟨b, o, none⟩ ∧ base ≤ b ∧ w.heap[b]? = some (.cells cells 3 (0, 0)) ∧ ∀ j, j < n → ∃ x, cells[o + j]? = some (.int .i64 x)
structure Shp (w : World) (base : Nat) (A1 : Option Addr) (n1 : Nat) (A2 : Option Addr) (n2 : Nat) : Prop where
  s : SB w base A1 n1
  h : IB w base A2 n2
def ofTide (q : Nat) : Prop := q = 32 ∨ q = 3
section
variable {w w1 : World} {base : Nat} {A1 A2 : Option Addr} {n1 n2 : Nat}
theorem Shp.step (h : Shp w base A1 n1 A2 n2) (hm : ∀ (k : Nat) (cells : Array Value) (q : Nat), base ≤ k → w.heap[k]? = some (.cells cells q (0, 0)) → ofTide q → w1.heap[k]? = w.heap[k]?) : Shp w1 base A1 n1 A2 n2 := by
  refine ⟨?_, ?_⟩
  · rcases h.s with h | ⟨b, cells, h1, h2, h3, h4⟩
    · exact .inl h
    · exact .inr ⟨b, cells, h1, h2, (hm b cells _ h2 h3 (Or.inl rfl)).trans h3, h4⟩
  · rcases h.h with h | ⟨b, o, cells, h1, h2, h3, h4⟩
    · exact .inl h
    · exact .inr ⟨b, o, cells, h1, h2, (hm b cells _ h2 h3 (Or.inr rfl)).trans h3, h4⟩
theorem Shp.below (h : Shp w base A1 n1 A2 n2) (hb : Below w.heap.size w w1) : Shp w1 base A1 n1 A2 n2 := h.step (fun k _ _ _ hk _ => hb.block k (blk_lt hk))
theorem Shp.cur {w0 ws : World} {g : Nat} {m n : Int} (h : Shp w base A1 n1 A2 n2) (hC : Cur2 w0 ws w g m) (hk : Cur2 w0 w w1 g n) : Shp w1 base A1 n1 A2 n2 := by
  obtain ⟨cs, e⟩ := hC.blk
  refine h.step (fun k _ _ _ hb hq => hk.keep.2 k (blk_lt hb) (blk_ne hb e ?_) (by simp))
  rcases hq with rfl | rfl <;> decide
theorem Shp.set (h : Shp w base A1 n1 A2 n2) {g t : Nat} {cs : Array Value} (hb : w.heap[g]? = some (.cells cs t (0, 0))) (ht : ¬ ofTide t) (i : Nat) (u : Value) : Shp (w.setCell ⟨g, i, none⟩ u) base A1 n1 A2 n2 :=
  h.step (fun k _ _ _ hk hq => Below.heap_setCell w ⟨g, i, none⟩ u k (blk_ne hk hb (fun e => ht (e ▸ hq))))
theorem Shp.lower {base' : Nat} (h : Shp w base A1 n1 A2 n2) (hb : base' ≤ base) : Shp w base' A1 n1 A2 n2 := by
  refine ⟨?_, ?_⟩
  · rcases h.s with h | ⟨b, cells, h1, h2, h3, h4⟩
    · exact .inl h
    · exact .inr ⟨b, cells, h1, Nat.le_trans hb h2, h3, h4⟩
  · rcases h.h with h | ⟨b, o, cells, h1, h2, h3, h4⟩
    · exact .inl h
    · exact .inr ⟨b, o, cells, h1, Nat.le_trans hb h2, h3, h4⟩
theorem SC.at {cells : Array Value} {k : Nat} (x y : Nat) {j : Nat} (h : SC cells (14 * j)) : SC (cells.setIfInBounds (14 * k) (.complex .f64 x y)) (14 * j) := by
  obtain ⟨⟨x', y', h1⟩, h2⟩ := h
  refine ⟨?_, fun i hi => ?_⟩
  · by_cases e : k = j
    · subst e
      exact ⟨x, y, by rw [Array.getElem?_setIfInBounds_self, if_pos (Array.getElem?_eq_some_iff.1 h1).1]⟩
    · exact ⟨x', y', by rw [Array.getElem?_setIfInBounds_ne (by omega)]; exact h1⟩
  · obtain ⟨a, b, h3⟩ := h2 i hi
    exact ⟨a, b, by rw [Array.getElem?_setIfInBounds_ne (by omega)]; exact h3⟩
theorem SC.flow {cells : Array Value} {k i0 : Nat} (hi0 : i0 < 13) (x y : Nat) {j : Nat} (h : SC cells (14 * j)) : SC (cells.setIfInBounds (14 * k + 1 + i0) (.complex .f32 x y)) (14 * j) := by
  obtain ⟨⟨x', y', h1⟩, h2⟩ := h
  refine ⟨⟨x', y', by rw [Array.getElem?_setIfInBounds_ne (by omega)]; exact h1⟩, fun i hi => ?_⟩
  obtain ⟨a, b, h3⟩ := h2 i hi
  by_cases e : 14 * k + 1 + i0 = 14 * j + 1 + i
  · rw [e]
    exact ⟨x, y, by rw [Array.getElem?_setIfInBounds_self, if_pos (Array.getElem?_eq_some_iff.1 h3).1]⟩
  · exact ⟨a, b, by rw [Array.getElem?_setIfInBounds_ne e]; exact h3⟩
theorem Shp.puts (h : Shp w base A1 n1 A2 n2) {b : Nat} {cs : Array Value} (hb : w.heap[b]? = some (.cells cs 32 (0, 0))) (i : Nat) (u : Value) (hu : ∀ cells j, SC cells (14 * j) → SC (cells.setIfInBounds i u) (14 * j)) : Shp (w.setCell ⟨b, i, none⟩ u) base A1 n1 A2 n2 := by
  refine ⟨?_, ?_⟩
  · rcases h.s with h | ⟨b', cells, h1, h2, h3, h4⟩
    · exact .inl h
    · by_cases e : b' = b
      · subst e
        exact .inr ⟨b', _, h1, h2, blk_set h3 i _, fun j hj => hu _ _ (h4 j hj)⟩
      · exact .inr ⟨b', cells, h1, h2, blk_far h3 (p := ⟨b, i, none⟩) e _, h4⟩
  · rcases h.h with h | ⟨b', o, cells, h1, h2, h3, h4⟩
    · exact .inl h
    · exact .inr ⟨b', o, cells, h1, h2, blk_far h3 (p := ⟨b, i, none⟩) (blk_ne h3 hb (by decide)) _, h4⟩
theorem Shp.puti (h : Shp w base A1 n1 A2 n2) {b : Nat} {cs : Array Value} (hb : w.heap[b]? = some (.cells cs 3 (0, 0))) (i : Nat) (x : Int) : Shp (w.setCell ⟨b, i, none⟩ (.int .i64 x)) base A1 n1 A2 n2 := by
  refine ⟨?_, ?_⟩
  · rcases h.s with h | ⟨b', cells, h1, h2, h3, h4⟩
    · exact .inl h
    · exact .inr ⟨b', cells, h1, h2, blk_far h3 (p := ⟨b, i, none⟩) (blk_ne h3 hb (by decide)) _, h4⟩
  · rcases h.h with h | ⟨b', o, cells, h1, h2, h3, h4⟩
    · exact .inl h
    · by_cases e : b' = b
      · subst e
        refine .inr ⟨b', o, _, h1, h2, blk_set h3 i _, fun j hj => ?_⟩
        obtain ⟨y, hy⟩ := h4 j hj
        by_cases ei : i = o + j
        · subst ei
          exact ⟨x, by rw [Array.getElem?_setIfInBounds_self, if_pos (Array.getElem?_eq_some_iff.1 hy).1]⟩
        · exact ⟨y, by rw [Array.getElem?_setIfInBounds_ne ei]; exact hy⟩
      · exact .inr ⟨b', o, cells, h1, h2, blk_far h3 (p := ⟨b, i, none⟩) e _, h4⟩
end
/-- a tide in a box T, a cursor beside it -/
structure AI (w0 ws w : World) (g T : Nat) (A1 : Option Addr) (n1 c1 : Nat) (A2 : Option Addr) (n2 c2 : Nat) (m : Int) : Prop where
  cur : Cur2 w0 ws w g m
  t : w.heap[T]? = some (.cells #[.slice A1 n1 c1, .slice A2 n2 c2] 41 (0, 0))
  ge : w0.heap.size ≤ ws.heap.size ∧ ws.heap.size ≤ T
  s : Shp w ws.heap.size A1 n1 A2 n2
theorem notT : ¬ ofTide 41 := by
  rintro (e | e) <;> exact absurd e (by decide)
section
variable {w0 ws w w1 : World} {g T : Nat} {A1 A2 : Option Addr} {n1 c1 n2 c2 : Nat} {m n : Int}
theorem AI.mono (h : AI w0 ws w g T A1 n1 c1 A2 n2 c2 m) (hm : m ≤ n) : AI w0 ws w g T A1 n1 c1 A2 n2 c2 n := ⟨h.cur.mono hm, h.t, h.ge, h.s⟩
theorem AI.ne (h : AI w0 ws w g T A1 n1 c1 A2 n2 c2 m) : T ≠ g := by
  obtain ⟨cs, e⟩ := h.cur.blk
  exact blk_ne h.t e (by decide)
theorem AI.move (h : AI w0 ws w g T A1 n1 c1 A2 n2 c2 m) (hk : Cur2 w0 w w1 g n) : AI w0 ws w1 g T A1 n1 c1 A2 n2 c2 n := ⟨h.cur.trans hk, hk.keep.blk h.t h.ne (by simp), h.ge, h.s.cur h.cur hk⟩
theorem AI.drew (h : AI w0 ws w g T A1 n1 c1 A2 n2 c2 m) : AI w0 ws w.drew g T A1 n1 c1 A2 n2 c2 m := ⟨h.cur.drew, h.t, h.ge, h.s.below (Below.refl _ _).drew⟩
theorem AI.alloc (h : AI w0 ws w g T A1 n1 c1 A2 n2 c2 m) (o : Obj) : AI w0 ws (w.alloc o) g T A1 n1 c1 A2 n2 c2 m := ⟨h.cur.alloc o, blk_alloc h.t o, h.ge, h.s.below ((Below.refl _ _).alloc (Nat.le_refl _) _)⟩
theorem AI.cells (h : AI w0 ws w g T A1 n1 c1 A2 n2 c2 m) : (w.cell? ⟨T, 0, none⟩ = some (.slice A1 n1 c1) ∧ w.cell? ⟨T, 1, none⟩ = some (.slice A2 n2 c2)) ∧ w.frozen? ⟨T, 0, none⟩ = false ∧ w.frozen? ⟨T, 1, none⟩ = false :=
  ⟨⟨blk_cell h.t 0, blk_cell h.t 1⟩, blk_frozen h.t 0, blk_frozen h.t 1⟩
theorem AI.puts (h : AI w0 ws w g T A1 n1 c1 A2 n2 c2 m) {b : Nat} {cs : Array Value} (hb : w.heap[b]? = some (.cells cs 32 (0, 0))) (hge : ws.heap.size ≤ b) (i : Nat) (u : Value) (hu : ∀ cells j, SC cells (14 * j) → SC (cells.setIfInBounds i u) (14 * j)) : AI w0 ws (w.setCell ⟨b, i, none⟩ u) g T A1 n1 c1 A2 n2 c2 m := by
  obtain ⟨cs', e⟩ := h.cur.blk
  exact ⟨Cur2.far h.cur _ (blk_ne e hb (by decide)) hge (Nat.le_trans h.ge.1 hge), blk_far h.t (p := ⟨b, i, none⟩) (blk_ne h.t hb (by decide)) _, h.ge, h.s.puts hb i u hu⟩
theorem AI.puti (h : AI w0 ws w g T A1 n1 c1 A2 n2 c2 m) {b : Nat} {cs : Array Value} (hb : w.heap[b]? = some (.cells cs 3 (0, 0))) (hge : ws.heap.size ≤ b) (i : Nat) (x : Int) : AI w0 ws (w.setCell ⟨b, i, none⟩ (.int .i64 x)) g T A1 n1 c1 A2 n2 c2 m := by
  obtain ⟨cs', e⟩ := h.cur.blk
  exact ⟨Cur2.far h.cur _ (blk_ne e hb (by decide)) hge (Nat.le_trans h.ge.1 hge), blk_far h.t (p := ⟨b, i, none⟩) (blk_ne h.t hb (by decide)) _, h.ge, h.s.puti hb i x⟩
/-- an empty row is laid -/
theorem AI.put1 (h : AI w0 ws w g T A1 n1 c1 A2 n2 c2 m) (A : Option Addr) (c : Nat) : AI w0 ws (w.setCell ⟨T, 0, none⟩ (.slice A 0 c)) g T A 0 c A2 n2 c2 m :=
  ⟨Cur2.far h.cur _ h.ne.symm h.ge.2 (Nat.le_trans h.ge.1 h.ge.2), blk_put h.t 0 _ rfl, h.ge, (Shp.mk (.inl rfl) h.s.h).set h.t notT 0 _⟩
theorem AI.put2 (h : AI w0 ws w g T A1 n1 c1 A2 n2 c2 m) (A : Option Addr) (c : Nat) : AI w0 ws (w.setCell ⟨T, 1, none⟩ (.slice A 0 c)) g T A1 n1 c1 A 0 c m :=
  ⟨Cur2.far h.cur _ h.ne.symm h.ge.2 (Nat.le_trans h.ge.1 h.ge.2), blk_put h.t 1 _ rfl, h.ge, (Shp.mk h.s.s (.inl rfl)).set h.t notT 1 _⟩
theorem AI.st (h : AI w0 ws w g T A1 n1 c1 A2 n2 c2 m) {k : Nat} (hk : k < n1) : ∃ b cells, A1 = some ⟨b, 0, none⟩ ∧ ws.heap.size ≤ b ∧ w.heap[b]? = some (.cells cells 32 (0, 0)) ∧ SC cells (14 * k) := by
  obtain ⟨b, cells, h1, h2, h3, h4⟩ := h.s.s.resolve_left (by omega)
  exact ⟨b, cells, h1, h2, h3, h4 k hk⟩
theorem AI.hi (h : AI w0 ws w g T A1 n1 c1 A2 n2 c2 m) {k : Nat} (hk : k < n2) : ∃ b o cells x, A2 = some ⟨b, o, none⟩ ∧ ws.heap.size ≤ b ∧ w.heap[b]? = some (.cells cells 3 (0, 0)) ∧ cells[o + k]? = some (.int .i64 x) := by
  obtain ⟨b, o, cells, h1, h2, h3, h4⟩ := h.s.h.resolve_left (by omega)
  obtain ⟨x, hx⟩ := h4 k hk
  exact ⟨b, o, cells, x, h1, h2, h3, hx⟩
theorem AI.far (h : AI w0 ws w g T A1 n1 c1 A2 n2 c2 m) {b t : Nat} {cells : Array Value} (hb : w.heap[b]? = some (.cells cells t (0, 0))) (ht : t ≠ 86) : b ≠ g := by
  obtain ⟨cs, e⟩ := h.cur.blk
  exact blk_ne hb e ht
end
theorem stn_SC (s : Stn) : SC s.cells 0 := ⟨⟨s.x, s.y, rfl⟩, fun i hi => ⟨_, _, by rw [Nat.zero_add]; exact stn_at s.x s.y s.fs i hi⟩⟩
theorem st_SB {w : World} {e base : Nat} {ok : Nat → Prop} {A : Option Addr} {n c : Nat} {sts : List Stn} (he : e = 32) (h : stKd.R e w base ok (.slice A n c) sts) : n = sts.length ∧ n ≤ c ∧ SB w base A n := by
  obtain ⟨h0, inner, ⟨hl, ho⟩, hr⟩ := h
  rcases ho with ⟨hv, h1⟩ | ⟨b, cap, cur, hv, hb, hh, h1, h2, h3, h4⟩
  · cases hv
    exact ⟨h1.symm, by omega, .inl rfl⟩
  · cases hv
    subst he
    refine ⟨rfl, h1, .inr ⟨b, cur, rfl, hb, hh, fun j hj => ?_⟩⟩
    have hs : stKd.sz = 14 := rfl
    rw [hs] at hr h4 hl
    have hK := hr.2 j _ (List.getElem?_eq_getElem hj)
    have hK : (inner.drop (j * 14)).take 14 = (sts[j]'hj).cells.toList := hK
    have hcell : ∀ i, i < 14 → cur[14 * j + i]? = (sts[j]'hj).cells[i]? := fun i hi => by
      have e1 := congrArg (fun l => l[i]?) hK
      simp only [List.getElem?_take, hi, if_true, List.getElem?_drop, Array.getElem?_toList] at e1
      rw [← e1, ← h4, List.getElem?_take, if_pos (by omega), Array.getElem?_toList]
      congr 1
      omega
    obtain ⟨⟨x, y, g1⟩, g2⟩ := stn_SC (sts[j]'hj)
    refine ⟨⟨x, y, by have := hcell 0 (by omega); rw [Nat.add_zero] at this; rw [this]; exact g1⟩, fun i hi => ?_⟩
    obtain ⟨a, b', g3⟩ := g2 i hi
    exact ⟨a, b', by rw [Nat.add_assoc, hcell (1 + i) (by omega)]; rw [Nat.zero_add] at g3; exact g3⟩
theorem in_IB {w : World} {e base : Nat} {ok : Nat → Prop} {A : Option Addr} {n c : Nat} {hs : List Int} (he : e = 3) (h : (Kd.int .i64).R e w base ok (.slice A n c) hs) : n = hs.length ∧ n ≤ c ∧ IB w base A n := by
  obtain ⟨h0, inner, ⟨hl, ho⟩, hr⟩ := h
  rcases ho with ⟨hv, h1⟩ | ⟨b, cap, cur, hv, hb, hh, h1, h2, h3, h4⟩
  · cases hv
    exact ⟨h1.symm, by omega, .inl rfl⟩
  · cases hv
    subst he
    refine ⟨rfl, h1, .inr ⟨b, 0, cur, rfl, hb, hh, fun j hj => ?_⟩⟩
    have hz : (Kd.int .i64).sz = 1 := rfl
    rw [hz, Nat.mul_one] at h4
    have hK : (inner.drop (j * 1)).take 1 = [Value.int .i64 (hs[j]'hj)] := hr.2 j _ (List.getElem?_eq_getElem hj)
    have e1 := congrArg (fun l => l[0]?) hK
    simp only [List.getElem?_take, List.getElem?_drop, Nat.mul_one, Nat.add_zero] at e1
    rw [Nat.zero_add]
    refine ⟨hs[j]'hj, ?_⟩
    rw [← h4, List.getElem?_take, if_pos hj, Array.getElem?_toList] at e1
    simpa using e1
theorem TI.any {w0 ws w : World} {g T : Nat} {ok : Nat → Prop} {A1 A2 : Option Addr} {n1 c1 n2 c2 : Nat} {sts : List Stn} {hs : List Int} {m : Int} (h : TI w0 ws w g T ok (.slice A1 n1 c1) (.slice A2 n2 c2) sts hs m) : AI w0 ws w g T A1 n1 c1 A2 n2 c2 m ∧ n1 = sts.length ∧ n2 = hs.length ∧ n1 ≤ c1 ∧ n2 ≤ c2 := by
  obtain ⟨e1, k1, q1⟩ := st_SB rfl h.r1
  obtain ⟨e2, k2, q2⟩ := in_IB rfl h.r2
  exact ⟨⟨h.cur, h.t, h.ge, q1, q2⟩, e1, e2, k1, k2⟩
end Go.Proofs.Ytjohpjmfnghkoaa.Ty
