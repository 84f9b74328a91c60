/- Boxes that a call has made, told as a list: which block holds what; no block that was there before has changed. No condition. -/
import Derived.Test.YtfllkcmmaibijaaCu0
namespace Go.Proofs.Ytfllkcmmaibijaa.Cus
open Go.RowKit Go.Proofs.Ytfllkcmmaibijaa.PFnCutTrack Go.Proofs.YtfllkcmmaibijaaW.PrintWords Go.Proofs.YtfllkcmmaibijaaW.PrintLast Go.Proofs.YtfllkcmmaibijaaW.PrintMore
/-- the blocks of L hold what L tells, are new since w0 and are no two the same -/
structure St (w0 w : World) (L : List (Nat × Obj)) : Prop where
  has : ∀ p ∈ L, w.heap[p.1]? = some p.2
  ge : ∀ p ∈ L, w0.heap.size ≤ p.1
  nd : ∀ (i j : Nat) (p q : Nat × Obj), L[i]? = some p → L[j]? = some q → p.1 = q.1 → i = j
  below : Below w0.heap.size w0 w
section
variable {w0 w w1 : World} {L : List (Nat × Obj)} {g : Nat} {t : TypeId} {cs : Array Value}
theorem St.at_ (h : St w0 w L) (k : Nat) {p : Nat × Obj} (hk : L[k]? = some p) : w.heap[p.1]? = some p.2 := h.has p (List.mem_of_getElem? hk)
theorem St.cell (h : St w0 w L) (k i : Nat) (hk : L[k]? = some (g, .cells cs t (0, 0))) : w.cell? ⟨g, i, none⟩ = cs[i]? := blk_cell (h.at_ k hk) i
theorem St.is (h : St w0 w L) (k i : Nat) {v : Value} (hk : L[k]? = some (g, .cells cs t (0, 0))) (hv : cs[i]? = some v) : w.cell? ⟨g, i, none⟩ = some v := (h.cell k i hk).trans hv
theorem St.frozen (h : St w0 w L) (k i : Nat) (hk : L[k]? = some (g, .cells cs t (0, 0))) : w.frozen? ⟨g, i, none⟩ = false := blk_frozen (h.at_ k hk) i
theorem St.b2 (h : St w0 w L) (k : Nat) {x y : Int} (hk : L[k]? = some (g, .cells #[.int .i64 x, .int .i64 y] 31 (0, 0))) : w.cell? ⟨g, 0, none⟩ = some (.int .i64 x) ∧ w.cell? ⟨g, 1, none⟩ = some (.int .i64 y) ∧ w.frozen? ⟨g, 0, none⟩ = false ∧ w.frozen? ⟨g, 1, none⟩ = false :=
  ⟨h.is k 0 hk rfl, h.is k 1 hk rfl, h.frozen k 0 hk, h.frozen k 1 hk⟩
theorem St.b3 (h : St w0 w L) (k : Nat) {x y s : Int} (hk : L[k]? = some (g, .cells #[.int .i64 x, .int .i64 y, .int .i64 s] 44 (0, 0))) : w.cell? ⟨g, 0, none⟩ = some (.int .i64 x) ∧ w.cell? ⟨g, 1, none⟩ = some (.int .i64 y) ∧ w.cell? ⟨g, 2, none⟩ = some (.int .i64 s) ∧ w.frozen? ⟨g, 0, none⟩ = false ∧ w.frozen? ⟨g, 1, none⟩ = false ∧ w.frozen? ⟨g, 2, none⟩ = false :=
  ⟨h.is k 0 hk rfl, h.is k 1 hk rfl, h.is k 2 hk rfl, h.frozen k 0 hk, h.frozen k 1 hk, h.frozen k 2 hk⟩
theorem St.b4 (h : St w0 w L) (k : Nat) {a b c d : Int} (hk : L[k]? = some (g, .cells #[.int .i64 a, .int .i64 b, .int .i64 c, .int .i64 d] 33 (0, 0))) : w.cell? ⟨g, 0, none⟩ = some (.int .i64 a) ∧ w.cell? ⟨g, 1, none⟩ = some (.int .i64 b) ∧ w.cell? ⟨g, 2, none⟩ = some (.int .i64 c) ∧ w.cell? ⟨g, 3, none⟩ = some (.int .i64 d) ∧ w.frozen? ⟨g, 0, none⟩ = false ∧ w.frozen? ⟨g, 1, none⟩ = false ∧ w.frozen? ⟨g, 2, none⟩ = false ∧ w.frozen? ⟨g, 3, none⟩ = false :=
  ⟨h.is k 0 hk rfl, h.is k 1 hk rfl, h.is k 2 hk rfl, h.is k 3 hk rfl, h.frozen k 0 hk, h.frozen k 1 hk, h.frozen k 2 hk, h.frozen k 3 hk⟩
theorem St.ne (h : St w0 w L) (i j : Nat) {p q : Nat × Obj} (hi : L[i]? = some p) (hj : L[j]? = some q) (hij : i ≠ j) : p.1 ≠ q.1 := fun e => hij (h.nd i j p q hi hj e)
theorem St.lt (h : St w0 w L) (k : Nat) {p : Nat × Obj} (hk : L[k]? = some p) : p.1 < w.heap.size := blk_lt (h.at_ k hk)
theorem St.nil (hb : Below w0.heap.size w0 w) : St w0 w [] := ⟨fun p hp => by simp at hp, fun p hp => by simp at hp, fun i j p q hi => by simp at hi, hb⟩
theorem St.call (h : St w0 w L) (hb : Below w.heap.size w w1) : St w0 w1 L := ⟨fun p hp => blk_below (h.has p hp) hb, h.ge, h.nd, below_step h.below hb⟩
theorem St.drew (h : St w0 w L) : St w0 w.drew L := ⟨h.has, h.ge, h.nd, h.below.drew⟩
theorem St.new (h : St w0 w L) {o : Obj} (hg : g = w.heap.size) (hbox : w1.heap[g]? = some o) (hb : Below w.heap.size w w1) : St w0 w1 ((g, o) :: L) := by
  have h1 := h.call hb
  have hlt : ∀ (k : Nat) (p : Nat × Obj), L[k]? = some p → p.1 ≠ g := fun k p hk => by have := h.lt k hk; omega
  refine ⟨?_, ?_, ?_, h1.below⟩
  · intro p hp
    rcases List.mem_cons.1 hp with rfl | hp
    · exact hbox
    · exact h1.has p hp
  · intro p hp
    rcases List.mem_cons.1 hp with rfl | hp
    · have := h.below.size; simp only [hg]; exact this
    · exact h1.ge p hp
  · intro i j p q hi hj e
    cases i with
    | zero =>
      cases j with
      | zero => rfl
      | succ j =>
        simp only [List.getElem?_cons_zero, List.getElem?_cons_succ, Option.some.injEq] at hi hj
        subst hi
        exact absurd e.symm (hlt j q hj)
    | succ i =>
      cases j with
      | zero =>
        simp only [List.getElem?_cons_zero, List.getElem?_cons_succ, Option.some.injEq] at hi hj
        subst hj
        exact absurd e (hlt i p hi)
      | succ j =>
        simp only [List.getElem?_cons_succ] at hi hj
        rw [h.nd i j p q hi hj e]
theorem St.alloc (h : St w0 w L) (o : Obj) : St w0 (w.alloc o) ((w.heap.size, o) :: L) := h.new rfl (blk_new w o) (below_alloc (Below.refl _ _) o)
theorem size_alloc (w : World) (o : Obj) : (w.alloc o).heap.size = w.heap.size + 1 := by simp
theorem St.alloc2 (h : St w0 w L) (o p : Obj) : St w0 ((w.alloc o).alloc p) ((w.heap.size + 1, p) :: (w.heap.size, o) :: L) := by
  have h1 := (h.alloc o).alloc p
  rw [size_alloc] at h1
  exact h1
theorem St.alloc3 (h : St w0 w L) (o p q : Obj) : St w0 (((w.alloc o).alloc p).alloc q) ((w.heap.size + 2, q) :: (w.heap.size + 1, p) :: (w.heap.size, o) :: L) := by
  have h1 := (h.alloc2 o p).alloc q
  rw [size_alloc, size_alloc] at h1
  exact h1
theorem St.put (h : St w0 w L) (k i : Nat) (hk : L[k]? = some (g, .cells cs t (0, 0))) (u : Value) : St w0 (w.setCell ⟨g, i, none⟩ u) (L.set k (g, .cells (cs.setIfInBounds i u) t (0, 0))) := by
  have hklt : k < L.length := by
    by_cases hlt : k < L.length
    · exact hlt
    · rw [List.getElem?_eq_none (by omega)] at hk; cases hk
  have hset : ∀ (j : Nat) (p : Nat × Obj), (L.set k (g, .cells (cs.setIfInBounds i u) t (0, 0)))[j]? = some p → (j = k ∧ p = (g, .cells (cs.setIfInBounds i u) t (0, 0))) ∨ (j ≠ k ∧ L[j]? = some p) := by
    intro j p hj
    rw [List.getElem?_set] at hj
    by_cases e : k = j
    · subst e
      rw [if_pos rfl, if_pos hklt] at hj
      exact Or.inl ⟨rfl, (Option.some.inj hj).symm⟩
    · rw [if_neg e] at hj
      exact Or.inr ⟨fun e' => e e'.symm, hj⟩
  have hfst : ∀ (j : Nat) (p : Nat × Obj), (L.set k (g, .cells (cs.setIfInBounds i u) t (0, 0)))[j]? = some p → ∃ q : Nat × Obj, L[j]? = some q ∧ q.1 = p.1 := by
    intro j p hj
    rcases hset j p hj with ⟨rfl, rfl⟩ | ⟨_, e⟩
    · exact ⟨_, hk, rfl⟩
    · exact ⟨_, e, rfl⟩
  refine ⟨?_, ?_, ?_, ?_⟩
  · intro p hp
    obtain ⟨j, hj⟩ := List.getElem?_of_mem hp
    rcases hset j p hj with ⟨rfl, rfl⟩ | ⟨hne, e⟩
    · exact blk_set (h.at_ j hk) i u
    · have hneg : p.1 ≠ g := fun e' => hne (h.nd j k p _ e hk e')
      exact (Below.heap_setCell w ⟨g, i, none⟩ u p.1 hneg).trans (h.at_ j e)
  · intro p hp
    obtain ⟨j, hj⟩ := List.getElem?_of_mem hp
    obtain ⟨q, hq, e⟩ := hfst j p hj
    rw [← e]
    exact h.ge q (List.mem_of_getElem? hq)
  · intro a b p q hp hq e
    obtain ⟨p', hp', e1⟩ := hfst a p hp
    obtain ⟨q', hq', e2⟩ := hfst b q hq
    exact h.nd a b p' q' hp' hq' (by omega)
  · exact below_set h.below (h.ge _ (List.mem_of_getElem? hk))
theorem St.fill3 (h : St w0 w L) (k : Nat) {p q r : Value} (hk : L[k]? = some (g, .cells #[p, q, r] t (0, 0))) (a b c : Value) : St w0 (((w.setCell ⟨g, 0, none⟩ a).setCell ⟨g, 1, none⟩ b).setCell ⟨g, 2, none⟩ c) (L.set k (g, .cells #[a, b, c] t (0, 0))) := by
  have hlt : k < L.length := by
    by_cases hlt : k < L.length
    · exact hlt
    · rw [List.getElem?_eq_none (by omega)] at hk; cases hk
  have h1 := h.put k 0 hk a
  have h2 := h1.put k 1 (by rw [List.getElem?_set_self hlt]) b
  rw [List.set_set] at h2
  have h3 := h2.put k 2 (by rw [List.getElem?_set_self hlt]) c
  rw [List.set_set] at h3
  exact h3
theorem St.fill4 (h : St w0 w L) (k : Nat) {p q r s : Value} (hk : L[k]? = some (g, .cells #[p, q, r, s] t (0, 0))) (a b c d : Value) : St w0 ((((w.setCell ⟨g, 0, none⟩ a).setCell ⟨g, 1, none⟩ b).setCell ⟨g, 2, none⟩ c).setCell ⟨g, 3, none⟩ d) (L.set k (g, .cells #[a, b, c, d] t (0, 0))) := by
  have hlt : k < L.length := by
    by_cases hlt : k < L.length
    · exact hlt
    · rw [List.getElem?_eq_none (by omega)] at hk; cases hk
  have h1 := h.put k 0 hk a
  have h2 := h1.put k 1 (by rw [List.getElem?_set_self hlt]) b
  rw [List.set_set] at h2
  have h3 := h2.put k 2 (by rw [List.getElem?_set_self hlt]) c
  rw [List.set_set] at h3
  have h4 := h3.put k 3 (by rw [List.getElem?_set_self hlt]) d
  rw [List.set_set] at h4
  exact h4
theorem St.box (h : St w0 w L) (k : Nat) {o : Obj} (hk : L[k]? = some (g, o)) : w.heap[g]? = some o := h.at_ k hk
theorem St.keep (h : St w0 w L) {c : Nat} (hk : KeepBut w w1 c none) (hc : ∀ p ∈ L, p.1 ≠ c) (hb : Below w0.heap.size w0 w1) : St w0 w1 L :=
  ⟨fun p hp => KeepBut.blk hk (h.has p hp) (hc p hp) (by simp), h.ge, h.nd, hb⟩
theorem St.drop (h : St w0 w L) (n : Nat) : St w0 w (L.drop n) :=
  ⟨fun p hp => h.has p (List.mem_of_mem_drop hp), fun p hp => h.ge p (List.mem_of_mem_drop hp), fun i j p q hi hj e => by
    rw [List.getElem?_drop] at hi hj
    have := h.nd _ _ p q hi hj e
    omega, h.below⟩
end
/-- the three cells of a sight -/
def cells3 (s : S44) : List Value := [.int .i64 s.f0.f0, .int .i64 s.f0.f1, .int .i64 s.f1]
theorem lit_reads (w : World) (e : Nat) (xs : List S44) (cs : Array Value) (hcs : cs = (xs.flatMap cells3).toArray) (hn : xs.length ≤ 1000) :
    Kd.C k44 (w.alloc (.cells cs e)) (some ⟨w.heap.size, 0, none⟩) xs.length xs := by
  refine ⟨rfl, by omega, fun _ => ⟨_, rfl, fun j p hj => ⟨cells3 p, rfl, k44_mk _ p, fun i u hi => ?_⟩⟩⟩
  subst hcs
  have hlen : ∀ (ys : List S44), (ys.flatMap cells3).length = ys.length * 3 := by
    intro ys
    induction ys with
    | nil => rfl
    | cons y ys ih => rw [List.flatMap_cons, List.length_append, ih, List.length_cons]; simp [cells3]; omega
  have key : ∀ (ys : List S44) (j : Nat), ys[j]? = some p → (ys.flatMap cells3)[j * 3 + i]? = some u := by
    intro ys
    induction ys with
    | nil => intro j hj; simp at hj
    | cons y ys ih =>
      intro j hj
      cases j with
      | zero =>
        simp only [List.getElem?_cons_zero, Option.some.injEq] at hj
        subst hj
        have : i < (cells3 y).length := by
          by_cases hlt : i < (cells3 y).length
          · exact hlt
          · rw [List.getElem?_eq_none (by omega)] at hi; cases hi
        rw [Nat.zero_mul, Nat.zero_add, List.flatMap_cons, List.getElem?_append_left this]
        exact hi
      | succ j =>
        rw [List.getElem?_cons_succ] at hj
        rw [List.flatMap_cons, List.getElem?_append_right (by simp [cells3]; omega), ← ih j hj]
        congr 1
        simp [cells3]; omega
  rw [Addr.add_lit, World.cell?_alloc_at _ _ _ _ rfl, Nat.zero_add]
  have := key xs j hj
  change ((List.flatMap cells3 xs).toArray)[j * 3 + i]? = some u
  simpa using this
end Go.Proofs.Ytfllkcmmaibijaa.Cus
