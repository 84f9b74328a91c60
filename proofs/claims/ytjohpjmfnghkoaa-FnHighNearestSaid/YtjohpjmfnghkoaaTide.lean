/- Tides as they are drawn: stations of fourteen cells in rows, and times. -/
import Derived.Test.YtjohpjmfnghkoaaDrw
import Derived.Laws.Build
namespace Go.Proofs.Ytjohpjmfnghkoaa.Td
open Go.RowKit Kit Fl Bd Dw Hnd Go.Proofs.YtjohpjmfnghkoaaW.PrintWords Go.Proofs.YtjohpjmfnghkoaaW.PrintLast Go.Proofs.YtjohpjmfnghkoaaW.PrintMore PFnHighNearest
/-- the cells of a station -/
def stn (x y : Nat) (fs : Nat → Nat × Nat) : Array Value := #[.complex .f64 x y, .complex .f32 (fs 0).1 (fs 0).2, .complex .f32 (fs 1).1 (fs 1).2, .complex .f32 (fs 2).1 (fs 2).2, .complex .f32 (fs 3).1 (fs 3).2, .complex .f32 (fs 4).1 (fs 4).2, .complex .f32 (fs 5).1 (fs 5).2, .complex .f32 (fs 6).1 (fs 6).2, .complex .f32 (fs 7).1 (fs 7).2, .complex .f32 (fs 8).1 (fs 8).2, .complex .f32 (fs 9).1 (fs 9).2, .complex .f32 (fs 10).1 (fs 10).2, .complex .f32 (fs 11).1 (fs 11).2, .complex .f32 (fs 12).1 (fs 12).2]
structure Stn where
  x : Nat
  y : Nat
  fs : Nat → Nat × Nat
def Stn.cells (s : Stn) : Array Value := stn s.x s.y s.fs
theorem stn_at (x y : Nat) (fs : Nat → Nat × Nat) (j : Nat) (hj : j < 13) : (stn x y fs)[1 + j]? = some (.complex .f32 (fs j).1 (fs j).2) := by
  have h : j = 0 ∨ j = 1 ∨ j = 2 ∨ j = 3 ∨ j = 4 ∨ j = 5 ∨ j = 6 ∨ j = 7 ∨ j = 8 ∨ j = 9 ∨ j = 10 ∨ j = 11 ∨ j = 12 := by omega
  rcases h with rfl | rfl | rfl | rfl | rfl | rfl | rfl | rfl | rfl | rfl | rfl | rfl | rfl <;> rfl
def upd (fs : Nat → Nat × Nat) (j a b : Nat) : Nat → Nat × Nat := fun i => if i = j then (a, b) else fs i
theorem stn_set (x y : Nat) (fs : Nat → Nat × Nat) (j a b : Nat) (hj : j < 13) : (stn x y fs).setIfInBounds (1 + j) (.complex .f32 a b) = stn x y (upd fs j a b) := by
  have h : j = 0 ∨ j = 1 ∨ j = 2 ∨ j = 3 ∨ j = 4 ∨ j = 5 ∨ j = 6 ∨ j = 7 ∨ j = 8 ∨ j = 9 ∨ j = 10 ∨ j = 11 ∨ j = 12 := by omega
  rcases h with rfl | rfl | rfl | rfl | rfl | rfl | rfl | rfl | rfl | rfl | rfl | rfl | rfl <;> rfl
theorem stn_len (s : Stn) : s.cells.toList.length = 14 := rfl
theorem stn_one (s : Stn) : ∀ u ∈ s.cells.toList, u.oneCell' = true := by
  intro u hu
  unfold Stn.cells stn at hu
  simp only [List.mem_cons, List.not_mem_nil, or_false] at hu
  rcases hu with rfl | rfl | rfl | rfl | rfl | rfl | rfl | rfl | rfl | rfl | rfl | rfl | rfl | rfl <;> rfl
/-- a kind of so many cells, all known -/
def fixed {α : Type} (sz : Nat) (enc : α → List Value) (h0 : ∀ x, (enc x).length = sz) (h1 : ∀ x, ∀ u ∈ enc x, u.oneCell' = true) : Kd α where
  sz := sz
  E := []
  K := fun _ x cs => cs = enc x
  M := fun _ _ _ x cs => cs = enc x
  K_len := fun h => by rw [h]; exact h0 _
  K_one := fun h u hu => by
    rw [h] at hu
    exact h1 _ u hu
  K_below := fun _ h => h
  K_of_M := fun h => h
  M_mono := fun _ h => h
  M_bound := fun h => h
  M_move := fun _ h => h
  M_lower := fun _ h => h
def stKd : Kd Stn := fixed 14 (fun s => s.cells.toList) stn_len stn_one
theorem build_tide (w : World) : (Instr.build 41 #[]).run Try.prog w = .ok (.agg #[.slice none 0 0, .slice none 0 0]) w := run_build w 41 _ _ (by kernel_rfl)
theorem build_stn (x y : Nat) (w : World) : (Instr.build 32 #[(0, .complex .f64 x y)]).run Try.prog w = .ok (.agg (stn x y (fun _ => (0, 0)))) w := run_build w 32 _ _ (by kernel_rfl)
theorem build_arr (w : World) : (Instr.build 30 #[]).run Try.prog w = .ok (.agg #[.complex .f32 0 0, .complex .f32 0 0, .complex .f32 0 0, .complex .f32 0 0, .complex .f32 0 0, .complex .f32 0 0, .complex .f32 0 0, .complex .f32 0 0, .complex .f32 0 0, .complex .f32 0 0, .complex .f32 0 0, .complex .f32 0 0, .complex .f32 0 0]) w := by kernel_rfl
theorem stE : ∀ q, q ∈ 32 :: stKd.E → q = 32 := by
  intro q hq
  simpa [stKd, fixed] using hq
theorem inE : ∀ q, q ∈ 3 :: (Kd.int .i64).E → q = 3 := by
  intro q hq
  simpa [Kd.int, Kd.scalar] using hq
theorem Cur2.far {w0 ws w : World} {g : Nat} {m : Int} (h : Cur2 w0 ws w g m) {B i : Nat} (u : Value) (hne : g ≠ B) (h1 : ws.heap.size ≤ B) (h2 : w0.heap.size ≤ B) : Cur2 w0 ws (w.setCell ⟨B, i, none⟩ u) g m := by
  obtain ⟨⟨⟨b, i', k, ⟨A0, c0, e1, e2, e3⟩, h3, h4⟩, h5⟩, h6⟩ := h
  refine ⟨⟨⟨b, i', k, ⟨A0, c0, blk_far e1 (p := ⟨B, i, none⟩) hne u, e2, e3⟩, h3, h4⟩, h5.setCell h2 u⟩, ?_⟩
  refine ⟨by simpa using h6.1, fun j hj hjg hr => ?_⟩
  rw [Below.heap_setCell w ⟨B, i, none⟩ u j (by show j ≠ B; omega)]
  exact h6.2 j hj hjg hr
/-- what holds while a tide is drawn: its two rows, in the box T; what lay in ws lies there as it was -/
structure TI (w0 ws w : World) (g T : Nat) (ok : Nat → Prop) (v1 v2 : Value) (sts : List Stn) (hs : List Int) (m : Int) : Prop where
  cur : Cur2 w0 ws w g m
  t : w.heap[T]? = some (.cells #[v1, v2] 41 (0, 0))
  ge : w0.heap.size ≤ ws.heap.size ∧ ws.heap.size ≤ T
  r1 : stKd.R 32 w ws.heap.size ok v1 sts
  r2 : (Kd.int .i64).R 3 w ws.heap.size (fun _ => True) v2 hs
section
variable {w0 ws w w1 : World} {g T : Nat} {ok : Nat → Prop} {v1 v2 : Value} {sts : List Stn} {hs : List Int} {m n : Int}
theorem TI.ne (h : TI w0 ws w g T ok v1 v2 sts hs m) : T ≠ g := by
  obtain ⟨cs, e⟩ := h.cur.blk
  exact blk_ne h.t e (by decide)
theorem TI.move (h : TI w0 ws w g T ok v1 v2 sts hs m) (hk : Cur2 w0 w w1 g n) : TI w0 ws w1 g T ok v1 v2 sts hs n :=
  ⟨h.cur.trans hk, hk.keep.blk h.t h.ne (by simp), h.ge, R_cur h.r1 h.cur (fun q hq => by rw [stE q hq]; decide) hk, R_cur h.r2 h.cur (fun q hq => by rw [inE q hq]; decide) hk⟩
theorem TI.mono (h : TI w0 ws w g T ok v1 v2 sts hs m) (hm : m ≤ n) : TI w0 ws w g T ok v1 v2 sts hs n := ⟨h.cur.mono hm, h.t, h.ge, h.r1, h.r2⟩
theorem TI.alloc (h : TI w0 ws w g T ok v1 v2 sts hs m) (o : Obj) : TI w0 ws (w.alloc o) g T ok v1 v2 sts hs m :=
  ⟨h.cur.alloc o, blk_alloc h.t o, h.ge, Kd.R_below h.r1 ((Below.refl _ _).alloc (Nat.le_refl _) _), Kd.R_below h.r2 ((Below.refl _ _).alloc (Nat.le_refl _) _)⟩
theorem TI.drew (h : TI w0 ws w g T ok v1 v2 sts hs m) : TI w0 ws w.drew g T ok v1 v2 sts hs m :=
  ⟨h.cur.drew, h.t, h.ge, Kd.R_below h.r1 (Below.refl _ _).drew, Kd.R_below h.r2 (Below.refl _ _).drew⟩
/-- the rows' blocks are elder than a block to come -/
theorem TI.bound (h : TI w0 ws w g T (fun _ => True) v1 v2 sts hs m) : TI w0 ws w g T (fun k => k ≠ w.heap.size) v1 v2 sts hs m :=
  ⟨h.cur, h.t, h.ge, Kd.R_mono (Kd.R_bound h.r1) (fun k hk => by have := hk.2.2.1; omega), h.r2⟩
theorem TI.free (h : TI w0 ws w g T ok v1 v2 sts hs m) : TI w0 ws w g T (fun _ => True) v1 v2 sts hs m := ⟨h.cur, h.t, h.ge, Kd.R_mono h.r1 (fun _ _ => trivial), h.r2⟩
/-- a store into a box of a station -/
theorem TI.setB (h : TI w0 ws w g T ok v1 v2 sts hs m) {B i : Nat} {cs : Array Value} (hb : w.heap[B]? = some (.cells cs 32 (0, 0))) (hge : ws.heap.size ≤ B) (hok : ∀ k, ok k → k ≠ B) (u : Value) : TI w0 ws (w.setCell ⟨B, i, none⟩ u) g T ok v1 v2 sts hs m := by
  obtain ⟨cs', e⟩ := h.cur.blk
  refine ⟨Cur2.far h.cur u (blk_ne e hb (by decide)) hge (Nat.le_trans h.ge.1 hge), blk_far h.t (p := ⟨B, i, none⟩) (blk_ne h.t hb (by decide)) u, h.ge, Kd.R_far h.r1 (p := ⟨B, i, none⟩) hok u, Kd.R_set h.r2 hb (fun q hq => by rw [inE q hq]; decide) i u⟩
/-- a new first row -/
theorem TI.put1 (h : TI w0 ws w g T ok v1 v2 sts hs m) {u : Value} {sts' : List Stn} (hr : stKd.R 32 w ws.heap.size ok u sts') : TI w0 ws (w.setCell ⟨T, 0, none⟩ u) g T ok u v2 sts' hs m := by
  obtain ⟨cs', e⟩ := h.cur.blk
  exact ⟨Cur2.far h.cur u h.ne.symm h.ge.2 (Nat.le_trans h.ge.1 h.ge.2), blk_put h.t 0 u rfl, h.ge, Kd.R_set hr h.t (fun q hq => by rw [stE q hq]; decide) 0 u, Kd.R_set h.r2 h.t (fun q hq => by rw [inE q hq]; decide) 0 u⟩
theorem TI.put2 (h : TI w0 ws w g T ok v1 v2 sts hs m) {u : Value} {hs' : List Int} (hr : (Kd.int .i64).R 3 w ws.heap.size (fun _ => True) u hs') : TI w0 ws (w.setCell ⟨T, 1, none⟩ u) g T ok v1 u sts hs' m := by
  obtain ⟨cs', e⟩ := h.cur.blk
  exact ⟨Cur2.far h.cur u h.ne.symm h.ge.2 (Nat.le_trans h.ge.1 h.ge.2), blk_put h.t 1 u rfl, h.ge, Kd.R_set h.r1 h.t (fun q hq => by rw [stE q hq]; decide) 1 u, Kd.R_set hr h.t (fun q hq => by rw [inE q hq]; decide) 1 u⟩
theorem TI.cells (h : TI w0 ws w g T ok v1 v2 sts hs m) : w.cell? ⟨T, 0, none⟩ = some v1 ∧ w.cell? ⟨T, 1, none⟩ = some v2 ∧ w.frozen? ⟨T, 0, none⟩ = false ∧ w.frozen? ⟨T, 1, none⟩ = false :=
  ⟨blk_cell h.t 0, blk_cell h.t 1, blk_frozen h.t 0, blk_frozen h.t 1⟩
/-- a row has grown -/
theorem TI.grown (h : TI w0 ws w g T ok v1 v2 sts hs m) {row : Option Nat} (hg : w.grownBy w1 row) (hr : ∀ k, row = some k → ws.heap.size ≤ k) (h1 : some g ≠ row) (h2 : some T ≠ row) (h3 : ∀ k, ok k → some k ≠ row) (h4 : (Kd.int .i64).R 3 w1 ws.heap.size (fun _ => True) v2 hs) : TI w0 ws w1 g T ok v1 v2 sts hs m :=
  ⟨h.cur.grown hg h1 hr (h.cur.below.grown hg h.cur.below.size (fun k hk => Nat.le_trans h.ge.1 (hr k hk))), blk_grown h.t hg h2, h.ge, Kd.R_grown h.r1 hg h3, h4⟩
end
theorem st_info : (Try.prog.info? 32).map (fun i => (i.zero, i.size, i.bytes)) = some (some (.agg (stn 0 0 (fun _ => (0, 0)))), 14, 120) := by kernel_rfl
theorem int_info : (Try.prog.info? 3).map (fun i => (i.zero, i.size, i.bytes)) = some (some (.int .i64 0), 1, 8) := by kernel_rfl
/-- a row stays as it is while a row of another type grows -/
theorem R_apart {α β : Type} {d : Kd α} {d' : Kd β} {e e' base base' : Nat} {ok ok' : Nat → Prop} {v u : Value} {xs : List α} {ys : List β} {w w1 : World} (h : d.R e w base ok v xs) (ho : d'.R e' w base' ok' u ys) (ht : ∀ q, q ∈ e :: d.E → q ≠ e') (hg : w.grownBy w1 u.ownBlock) : d.R e w1 base ok v xs := by
  cases hu : u.ownBlock with
  | none => exact Kd.R_grown h hg (fun k _ => by rw [hu]; simp)
  | some b =>
    obtain ⟨inner, hown⟩ := Kd.R_own ho
    obtain ⟨cells, hb⟩ := own_typed hown b hu
    exact Kd.R_mono (Kd.R_grown (Kd.R_types h hb ht) hg (fun k hk => by rw [hu]; intro hh; exact hk.2 (Option.some.inj hh))) (fun _ hk => hk.1)
theorem TI.app1 {w0 ws w w1 : World} {g T : Nat} {ok : Nat → Prop} {v1 v2 u : Value} {sts sts' : List Stn} {hs : List Int} {m : Int} (h : TI w0 ws w g T ok v1 v2 sts hs m) (hg : w.grownBy w1 v1.ownBlock) (hR : stKd.R 32 w1 ws.heap.size ok u sts') : TI w0 ws (w1.setCell ⟨T, 0, none⟩ u) g T ok u v2 sts' hs m ∧ w1.heap[T]? = some (.cells #[v1, v2] 41 (0, 0)) := by
  have hr : ∀ k, v1.ownBlock = some k → ws.heap.size ≤ k := fun k hk => own_base (Kd.R_own h.r1).choose_spec k hk
  have hc := h.cur.grown hg (R_cur_ne h.r1 h.cur (by decide)) hr (h.cur.below.grown hg h.cur.below.size (fun k hk => Nat.le_trans h.ge.1 (hr k hk)))
  have ht := blk_grown h.t hg (Kd.R_ne h.r1 h.t (by decide))
  obtain ⟨cs', e⟩ := hc.blk
  refine ⟨⟨Cur2.far hc u (blk_ne ht e (by decide)).symm h.ge.2 (Nat.le_trans h.ge.1 h.ge.2), blk_put ht 0 u rfl, h.ge, Kd.R_set hR ht (fun q hq => by rw [stE q hq]; decide) 0 u, Kd.R_set (R_apart h.r2 h.r1 (fun q hq => by rw [inE q hq]; decide) hg) ht (fun q hq => by rw [inE q hq]; decide) 0 u⟩, ht⟩
theorem TI.app2 {w0 ws w w1 : World} {g T : Nat} {ok : Nat → Prop} {v1 v2 u : Value} {sts : List Stn} {hs hs' : List Int} {m : Int} (h : TI w0 ws w g T ok v1 v2 sts hs m) (hg : w.grownBy w1 v2.ownBlock) (hR : (Kd.int .i64).R 3 w1 ws.heap.size (fun _ => True) u hs') : TI w0 ws (w1.setCell ⟨T, 1, none⟩ u) g T ok v1 u sts hs' m ∧ w1.heap[T]? = some (.cells #[v1, v2] 41 (0, 0)) := by
  have hr : ∀ k, v2.ownBlock = some k → ws.heap.size ≤ k := fun k hk => own_base (Kd.R_own h.r2).choose_spec k hk
  have hc := h.cur.grown hg (R_cur_ne h.r2 h.cur (by decide)) hr (h.cur.below.grown hg h.cur.below.size (fun k hk => Nat.le_trans h.ge.1 (hr k hk)))
  have ht := blk_grown h.t hg (Kd.R_ne h.r2 h.t (by decide))
  obtain ⟨cs', e⟩ := hc.blk
  refine ⟨⟨Cur2.far hc u (blk_ne ht e (by decide)).symm h.ge.2 (Nat.le_trans h.ge.1 h.ge.2), blk_put ht 1 u rfl, h.ge, Kd.R_set (R_apart h.r1 h.r2 (fun q hq => by rw [stE q hq]; decide) hg) ht (fun q hq => by rw [stE q hq]; decide) 1 u, Kd.R_set hR ht (fun q hq => by rw [inE q hq]; decide) 1 u⟩, ht⟩
theorem TI.setRow {w0 ws w : World} {g T : Nat} {ok : Nat → Prop} {v1 v2 : Value} {sts : List Stn} {hs : List Int} {m : Int} (h : TI w0 ws w g T ok v1 v2 sts hs m) {B : Nat} {cs : Array Value} (hb : w.heap[B]? = some (.cells cs 32 (0, 0))) (hge : ws.heap.size ≤ B) (hok : ∀ k, ok k → k ≠ B) (cs' : Array Value) : TI w0 ws (w.setRow B cs') g T ok v1 v2 sts hs m := by
  obtain ⟨c0, e⟩ := h.cur.blk
  have hgB := blk_ne e hb (by decide)
  have hTB := blk_ne h.t hb (by decide)
  have h0 := Nat.le_trans h.ge.1 hge
  refine ⟨?_, (setRow_other w B T cs' hTB).trans h.t, h.ge, Kd.R_step h.r1 (fun k hk _ => setRow_other w B k cs' (hok k hk)), Kd.R_mono (Kd.R_step (Kd.R_types h.r2 hb (fun q hq => by rw [inE q hq]; decide)) (fun k hk _ => setRow_other w B k cs' hk.2)) (fun _ hk => hk.1)⟩
  obtain ⟨⟨⟨b, i', k, ⟨A0, c0, e1, e2, e3⟩, h3, h4⟩, h5⟩, h6⟩ := h.cur
  refine ⟨⟨⟨b, i', k, ⟨A0, c0, (setRow_other w B g cs' hgB).trans e1, e2, e3⟩, h3, h4⟩, ⟨h5.os, h5.tape, h5.output, by simpa using h5.size, fun k hk => (setRow_other w B k cs' (by omega)).trans (h5.block k hk)⟩⟩, by simpa using h6.1, fun j hj hjg hr => ?_⟩
  rw [setRow_other w B j cs' (by omega)]
  exact h6.2 j hj hjg hr
theorem storeCells_shift (B : Nat) : ∀ (vs : List Value) (i : Nat), storeCells ⟨B, 1, none⟩ vs i = storeCells ⟨B, 0, none⟩ vs (i + 1) := by
  intro vs
  induction vs with
  | nil => intro i; rfl
  | cons v r ih =>
    intro i
    have ha : (⟨B, 1, none⟩ : Addr).add i = (⟨B, 0, none⟩ : Addr).add (i + 1) := by
      rw [Addr.add_lit, Addr.add_lit]; congr 1; omega
    simp only [storeCells, ih, ha]
def zeros : Array Value := #[.complex .f32 0 0, .complex .f32 0 0, .complex .f32 0 0, .complex .f32 0 0, .complex .f32 0 0, .complex .f32 0 0, .complex .f32 0 0, .complex .f32 0 0, .complex .f32 0 0, .complex .f32 0 0, .complex .f32 0 0, .complex .f32 0 0, .complex .f32 0 0]
theorem run_store_flow {w : World} {B x y : Nat} {fs : Nat → Nat × Nat} (hg : w.heap[B]? = some (.cells (stn x y fs) 32 (0, 0))) : (storeVar 30 ⟨B, 1, none⟩ (.agg zeros)).run Try.prog w = .ok () (w.setRow B (stn x y (fun _ => (0, 0)))) := by
  have h := run_storeCells_from (P := Try.prog) B 32 zeros.toList 1 (stn x y fs) w hg rfl (by intro v hv; simp [zeros] at hv; rw [hv]; rfl)
  rw [← storeCells_shift] at h
  have hi : (Try.prog.info? 30).map (·.size) = some 13 := by kernel_rfl
  cases hq : Try.prog.info? 30 with
  | none => simp [hq] at hi
  | some i =>
    have hs : i.size = 13 := by simpa [hq] using hi
    have hz : zeros.size = 13 := rfl
    simp only [storeVar, sizeOf, typeInfo, Value.cells, Sem.run_bind, Sem.run_pure, hz]
    exact h
theorem wpList_store_flow {ops : Array Oper} {rest : List Oper} {o : Oper} {a : Act} {w : World} {Q : Exit → Act → World → Prop} (hgd : o.guard = none) (p q : Operand) (ho : o.op = .store 30 p q)
    {B x y : Nat} {fs : Nat → Nat × Nat} (hx : a.eval p = .pointer (some ⟨B, 1, none⟩)) (hy : a.eval q = .agg zeros) (hg : w.heap[B]? = some (.cells (stn x y fs) 32 (0, 0)))
    (h : wpList Try.prog ops Q rest (a.put o.dst undef) (w.setRow B (stn x y (fun _ => (0, 0))))) : wpList Try.prog ops Q (o :: rest) a w :=
  wpList_plain hgd fun _ hK => by
    unfold Oper.wp execOp
    simp only [ho, hx, hy, Instr.storeAt, Instr.sureAddr, Sem.run_bind, Sem.run_pure, Result.andThen_ok, run_store_flow hg]
    exact hK _ _ h
theorem st_size : (Try.prog.info? 32).map (·.size) = some 14 := by kernel_rfl
theorem i64w {n : Int} (h1 : -1000000000 ≤ n) (h2 : n ≤ 1000000000) : wrap64 n = n := by unfold wrap64; omega
/-- a sixteenth, however its number is spelled -/
theorem q16 (k : Int) (k0 : 0 ≤ k) (k1 : k < 33) : (floatBits .quo .f32 (floatOfInt .f32 (k - 16)) 1098907648).isSome = true := quo16 (int_num32 (k - 16) (by omega) (by omega))
def Rel1 (w0 ws : World) (g T : Nat) (k : Value) (wr : World) : Prop := ∃ (j : Nat) (v1 v2 : Value) (sts : List Stn), k = .int .i64 (j : Int) ∧ sts.length + j ≤ 3 ∧ 1 ≤ sts.length + j ∧ TI w0 ws wr g T (fun _ => True) v1 v2 sts [] (10 + 130 * sts.length)
def Rel2 (w0 ws : World) (g T B x y : Nat) (v1 v2 : Value) (sts : List Stn) (k : Value) (wr : World) : Prop := ∃ (j : Nat) (fs : Nat → Nat × Nat), k = .int .i64 (j : Int) ∧ j ≤ 13 ∧ wr.heap[B]? = some (.cells (stn x y fs) 32 (0, 0)) ∧ ws.heap.size ≤ B ∧ TI w0 ws wr g T (fun k => k ≠ B) v1 v2 sts [] (20 + 130 * sts.length + 8 * j)
def Rel3 (w0 ws : World) (g T : Nat) (v1 : Value) (sts : List Stn) (q k : Value) (wr : World) : Prop := ∃ (j : Nat) (t : Int) (v2 : Value) (hs : List Int), k = .int .i64 (j : Int) ∧ q = .int .i64 t ∧ hs.length + j ≤ 5 ∧ 1 ≤ hs.length + j ∧ TI w0 ws wr g T (fun _ => True) v1 v2 sts hs (1000 + 20 * hs.length)
/-- a tide, drawn -/
structure Tide (w0 w : World) (v1 v2 : Value) (sts : List Stn) (hs : List Int) : Prop where
  l1 : 1 ≤ sts.length ∧ sts.length ≤ 3
  l2 : 1 ≤ hs.length ∧ hs.length ≤ 5
  r1 : stKd.R 32 w w0.heap.size (fun _ => True) v1 sts
  r2 : (Kd.int .i64).R 3 w w0.heap.size (fun _ => True) v2 hs
theorem TI.fin {w0 ws w wr : World} {g T : Nat} {v1 v2 : Value} {sts : List Stn} {hs : List Int} {m : Int} (h : TI w0 ws wr g T (fun _ => True) v1 v2 sts hs m) {o : Obj} (hws : ws = w.alloc o) (hw : w0.heap.size ≤ w.heap.size) {cs : Array Value} (hX : wr.heap[w.heap.size]? = some (.cells cs 41 (0, 0))) (l1 : 1 ≤ sts.length ∧ sts.length ≤ 3) (l2 : 1 ≤ hs.length ∧ hs.length ≤ 5) (hg : g ≠ w.heap.size) (u0 u1 : Value) :
    Cur2 w0 w ((wr.setCell ⟨w.heap.size, 0, none⟩ u0).setCell ⟨w.heap.size, 1, none⟩ u1) g m ∧ Tide w0 ((wr.setCell ⟨w.heap.size, 0, none⟩ u0).setCell ⟨w.heap.size, 1, none⟩ u1) v1 v2 sts hs := by
  have k0 : KeepBut w ws g none := by rw [hws]; exact KeepBut.of_below ((Below.refl _ _).alloc (Nat.le_refl _) _) g none
  have c0 : Cur2 w0 w wr g m := ⟨h.cur.cur, k0.trans h.cur.keep (.inl rfl)⟩
  have hX2 := blk_set hX 0 u0
  refine ⟨Cur2.far (Cur2.far c0 u0 hg (Nat.le_refl _) hw) u1 hg (Nat.le_refl _) hw, l1, l2, ?_, ?_⟩
  · exact Kd.R_lower (Kd.R_set (Kd.R_set h.r1 hX (fun q hq => by rw [stE q hq]; decide) 0 u0) hX2 (fun q hq => by rw [stE q hq]; decide) 1 u1) h.ge.1
  · exact Kd.R_lower (Kd.R_set (Kd.R_set h.r2 hX (fun q hq => by rw [inE q hq]; decide) 0 u0) hX2 (fun q hq => by rw [inE q hq]; decide) 1 u1) h.ge.1
set_option maxRecDepth 100000 in
set_option maxHeartbeats 2000000 in
theorem tide_call {w0 w : World} {g : Nat} (hC : Cur2 w0 w0 w g 0) :
    Calls Try.prog 31 #[.pointer (some ⟨g, 0, none⟩)] w fun e w' => ∃ (v1 v2 : Value) (sts : List Stn) (hs : List Int), e = .returned (.agg #[v1, v2]) ∧ Cur2 w0 w w' g 1500 ∧ Tide w0 w' v1 v2 sts hs := by
  have C0 := Lib.hid hC
  clear hC
  have hb1 := build_tide
  have hb3 := build_arr
  go_enter Try.func31, Try.ntmps31
  go_wp2_with fail
  obtain ⟨ws, hws⟩ : ∃ ws : World, ws = w.alloc (.cells #[.slice none 0 0, .slice none 0 0] 41) := ⟨_, rfl⟩
  have hX : ws.heap[w.heap.size]? = some (.cells #[.slice none 0 0, .slice none 0 0] 41 (0, 0)) := by rw [hws]; exact blk_new w _
  have hz : ws.heap.size = w.heap.size + 1 := by rw [hws]; simp
  have T0 : TI w0 ws (ws.alloc (.cells #[.slice none 0 0, .slice none 0 0] 41)) g ws.heap.size (fun _ => True) (.slice none 0 0) (.slice none 0 0) [] [] 0 := by
    refine ⟨?_, blk_new ws _, ⟨by have := C0.out.below.size; omega, Nat.le_refl _⟩, Kd.R_nil _ _ _ _ _, Kd.R_nil _ _ _ _ _⟩
    have c1 := C0.out.alloc (.cells #[.slice none 0 0, .slice none 0 0] 41)
    rw [← hws] at c1
    exact c1.here.alloc _
  rw [hws] at T0
  have HX := Lib.hid hX
  have HZ := Lib.hid hz
  have I0 := Lib.hid T0
  rw [← hws] at I0
  clear T0 hX hz
  have hc := I0.out.cur.here
  rw [hws] at hc
  refine (below_k 3 (by omega) (by omega) hc).mono ?_
  clear hc
  rintro e w1 ⟨n, rfl, n0, n1, hC1⟩
  rw [← hws] at hC1
  have I1 := Lib.hid (I0.out.move hC1)
  clear hC1 I0
  have HS := Lib.hid hws
  clear hws
  obtain ⟨n, rfl⟩ : ∃ k : Nat, n = (k : Int) := ⟨n.toNat, by omega⟩
  have hn : n < 3 := by have := n1 (by omega); omega
  clear n0 n1
  go_wp2_with fail
  rw [← HZ.out]
  generalize hT : ws.heap.size = T at *
  clear hT
  go_loopw [4] (fun k wr => Rel1 w0 ws g T k wr) (fun k _ => (intOf k).toNat)
  case atStart => exact ⟨1 + n, _, _, [], by go_num, by simp; omega, by simp, I1.out.mono (by simp)⟩
  case round =>
    obtain ⟨j, v1, v2, sts, rfl, hj, hj1, hI⟩ := hrel
    have I := Lib.hid hI
    clear hI
    by_cases h0 : 0 < j
    · obtain ⟨j, rfl⟩ : ∃ m, j = m + 1 := ⟨j - 1, by omega⟩
      go_wp2_with fail
      refine (below_k 8001 (by omega) (by omega) I.out.cur.here).mono ?_
      rintro e w2 ⟨a, rfl, a0, a1, hC2⟩
      have I2 := Lib.hid (I.out.move hC2)
      clear hC2 I
      have a1 := a1 (by omega)
      go_wp2_with fail
      refine (below_k 8001 (by omega) (by omega) I2.out.cur.here).mono ?_
      rintro e w3 ⟨b, rfl, b0, b1, hC3⟩
      have I3 := Lib.hid (I2.out.move hC3)
      clear hC3 I2
      have b1 := b1 (by omega)
      have hb2 := build_stn (floatOfInt .f64 (a - 4000)) (floatOfInt .f64 (b - 4000))
      unfold stn at hb2
      go_wp2_with fail
      have hB3 := blk_new w3 (.cells (stn (floatOfInt .f64 (a - 4000)) (floatOfInt .f64 (b - 4000)) (fun _ => (0, 0))) 32)
      have I4 := I3.out.bound.alloc (.cells (stn (floatOfInt .f64 (a - 4000)) (floatOfInt .f64 (b - 4000)) (fun _ => (0, 0))) 32)
      have hge : ws.heap.size ≤ w3.heap.size := I3.out.cur.keep.1
      generalize hx : floatOfInt .f64 (a - 4000) = x at *
      generalize hy : floatOfInt .f64 (b - 4000) = y at *
      have H4 := Lib.hid (show Rel2 w0 ws g T w3.heap.size x y v1 v2 sts (.int .i64 0) (w3.alloc (.cells (stn x y (fun _ => (0, 0))) 32)) from ⟨0, _, rfl, by omega, hB3, hge, I4.mono (by simp; omega)⟩)
      unfold stn at H4
      generalize w3.heap.size = B at *
      clear hB3 I4 I3 hx hy hb2 hge a0 a1 b0 b1
      go_loopw [7] (fun k wr => Rel2 w0 ws g T B x y v1 v2 sts k wr) (fun k _ => 13 - (intOf k).toNat)
      case atStart => exact H4.out
      case round =>
        clear H4
        obtain ⟨i, fs, rfl, hi, hB, hge, hI⟩ := hrel
        have I := Lib.hid hI
        have HB := Lib.hid hB
        clear hI hB
        by_cases hi0 : i < 13
        · go_wp2_with fail
          refine (below_k 33 (by omega) (by omega) I.out.cur.here).mono ?_
          rintro e w5 ⟨p, rfl, p0, p1, hC5⟩
          have I5 := Lib.hid (I.out.move hC5)
          obtain ⟨cs', hg'⟩ := I.out.cur.blk
          have HB5 := Lib.hid (hC5.keep.blk HB.out (blk_ne HB.out hg' (by decide)) (by simp))
          clear hC5 I HB hg'
          have p1 := p1 (by omega)
          have qp := q16 p p0 p1
          have qpa := qp
          have qpb := qp
          rw [← (show wrap64 (p - 16) = p - 16 by unfold wrap64; omega)] at qpa
          rw [← (show IntKind.i64.wrap (p - 16) = p - 16 by rw [IntKind.wrap_i64]; omega)] at qpb
          go_wp2_with fail
          refine (below_k 33 (by omega) (by omega) I5.out.cur.here).mono ?_
          rintro e w6 ⟨q, rfl, q0, q1, hC6⟩
          have I6 := Lib.hid (I5.out.move hC6)
          obtain ⟨cs', hg'⟩ := I5.out.cur.blk
          have HB6 := Lib.hid (hC6.keep.blk HB5.out (blk_ne HB5.out hg' (by decide)) (by simp))
          clear hC6 I5 HB5 hg'
          have q1 := q1 (by omega)
          have qq := q16 q q0 q1
          have qqa := qq
          have qqb := qq
          rw [← (show wrap64 (q - 16) = q - 16 by unfold wrap64; omega)] at qqa
          rw [← (show IntKind.i64.wrap (q - 16) = q - 16 by rw [IntKind.wrap_i64]; omega)] at qqb
          have hc := (blk_cell HB6.out (1 + i)).trans (stn_at x y fs i hi0)
          have hf := blk_frozen HB6.out (1 + i)
          go_wp2_with fail
          go_roundw
          case rel => exact ⟨i + 1, upd fs i _ _, by go_num, by omega, blk_put HB6.out (1 + i) _ (stn_set x y fs i _ _ hi0), hge, (I6.out.setB HB6.out hge (fun k hk => hk) _).mono (by omega)⟩
          case measure => simp [intOf]; omega
        · obtain rfl : i = 13 := by omega
          go_wp2_with fail
          refine (once_k 5 (by omega) (by omega) I.out.cur.here).mono ?_
          rintro e w5 ⟨o, rfl, hC5⟩
          have I5 := Lib.hid (I.out.move hC5)
          obtain ⟨cs', hg'⟩ := I.out.cur.blk
          have HB5 := Lib.hid (hC5.keep.blk HB.out (blk_ne HB.out hg' (by decide)) (by simp))
          clear hC5 I HB hg'
          cases o
          · have I6 := I5
            have HB6 := HB5
            clear I5 HB5
            obtain ⟨t0, t1, tf0, tf1⟩ := I6.out.cells
            go_wp2_with (first | ((with_reducible refine gate_dst (N := 55) rfl ?_); refine wpList_load_row rfl 32 (.tmp 6) rfl B rfl 32 (stn x y fs) (0, 0) _ HB6.out Try.underlying32 rfl st_size ?_; unfold stn) | ((with_reducible refine gate_dst (N := 57) rfl ?_); refine Kd.R_append stKd (w0 := w5) ws.heap.size rfl (.tmp 54) (.tmp 56) 38 32 (.agg (stn 0 0 (fun _ => (0, 0)))) 120 rfl Try.underlying38 st_info rfl (by decide) (by omega) v1 sts ⟨x, y, fs⟩ (stn x y fs).toList (fun k => k ≠ B) (fun _ => False) rfl rfl ?aP (fun _ hk => hk.elim) ?aF ?aO ?aB ?aS ?aL ?_; (case aP => exact rfl); (case aF => exact (fun k hk => by have := blk_lt HB6.out; omega)); (case aO => exact I6.out.r1); (case aB => exact Below.refl _ _); (case aS => exact I6.out.cur.keep.1); (case aL => omega); intro v6 w6 hR hb hg hat; obtain ⟨A6, c6, hv6⟩ := Kd.R_slice hR; rw [List.length_append, List.length_singleton] at hv6; subst hv6; obtain ⟨hI7, hT7⟩ := I6.out.app1 hg hR; have I7 := Lib.hid hI7; have s0 := blk_cell hT7 0; have sf0 := blk_frozen hT7 0; clear hR hb hg hat hI7 hT7 I6 HB6 t0 t1 tf0 tf1))
            go_roundw
            case rel => exact ⟨j, _, v2, sts ++ [⟨x, y, fs⟩], by go_num, by simp; omega, by simp; omega, I7.out.free.mono (by simp; omega)⟩
            case measure => simp [intOf]
          · go_wp2_with (first | (refine wpList_store_flow rfl (.tmp 52) (.tmp 51) rfl (B := B) (x := x) (y := y) (fs := fs) rfl rfl HB5.out ?_; have I6 := Lib.hid (I5.out.setRow HB5.out hge (fun k hk => hk) (stn x y (fun _ => (0, 0)))); have HB6 := Lib.hid (setRow_heap w5 B _ (stn x y (fun _ => (0, 0))) _ _ HB5.out); clear I5 HB5; generalize w5.setRow B (stn x y (fun _ => (0, 0))) = w7 at *; obtain ⟨t0, t1, tf0, tf1⟩ := I6.out.cells) | ((with_reducible refine gate_dst (N := 55) rfl ?_); refine wpList_load_row rfl 32 (.tmp 6) rfl B rfl 32 (stn x y (fun _ => (0, 0))) (0, 0) _ HB6.out Try.underlying32 rfl st_size ?_; unfold stn) | ((with_reducible refine gate_dst (N := 57) rfl ?_); refine Kd.R_append stKd (w0 := w7) ws.heap.size rfl (.tmp 54) (.tmp 56) 38 32 (.agg (stn 0 0 (fun _ => (0, 0)))) 120 rfl Try.underlying38 st_info rfl (by decide) (by omega) v1 sts ⟨x, y, fun _ => (0, 0)⟩ (stn x y (fun _ => (0, 0))).toList (fun k => k ≠ B) (fun _ => False) rfl rfl ?aP (fun _ hk => hk.elim) ?aF ?aO ?aB ?aS ?aL ?_; (case aP => exact rfl); (case aF => exact (fun k hk => by have := blk_lt HB6.out; omega)); (case aO => exact I6.out.r1); (case aB => exact Below.refl _ _); (case aS => exact I6.out.cur.keep.1); (case aL => omega); intro v6 w6 hR hb hg hat; obtain ⟨A6, c6, hv6⟩ := Kd.R_slice hR; rw [List.length_append, List.length_singleton] at hv6; subst hv6; obtain ⟨hI7, hT7⟩ := I6.out.app1 hg hR; have I7 := Lib.hid hI7; have s0 := blk_cell hT7 0; have sf0 := blk_frozen hT7 0; clear hR hb hg hat hI7 hT7 I6 HB6 t0 t1 tf0 tf1))
            go_roundw
            case rel => exact ⟨j, _, v2, sts ++ [⟨x, y, fun _ => (0, 0)⟩], by go_num, by simp; omega, by simp; omega, I7.out.free.mono (by simp; omega)⟩
            case measure => simp [intOf]
    · obtain rfl : j = 0 := by omega
      go_wp2_with fail
      refine (below_k 30000 (by omega) (by omega) I.out.cur.here).mono ?_
      rintro e w2 ⟨t, rfl, t0, t1, hC2⟩
      have I2 := Lib.hid (I.out.move hC2)
      clear hC2 I t0 t1
      go_wp2_with fail
      refine (below_k 5 (by omega) (by omega) I2.out.cur.here).mono ?_
      rintro e w3 ⟨r, rfl, r0, r1, hC3⟩
      have I3 := Lib.hid (I2.out.move hC3)
      clear hC3 I2
      obtain ⟨r, rfl⟩ : ∃ k : Nat, r = (k : Int) := ⟨r.toNat, by omega⟩
      have hr : r < 5 := by have := r1 (by omega); omega
      clear r0 r1
      have H3 := Lib.hid (show Rel3 w0 ws g T v1 sts (.int .i64 t) (.int .i64 ((1 + r : Nat) : Int)) w3 from ⟨1 + r, t, v2, [], rfl, rfl, by simp; omega, by simp, I3.out.mono (by simp; omega)⟩)
      clear I3
      go_wp2_with fail
      go_loopw [9, 10] (fun q k wr => Rel3 w0 ws g T v1 sts q k wr) (fun _ k _ => (intOf k).toNat)
      case atStart => have := H3.out; push_cast at this; exact this
      case round =>
        clear H3
        obtain ⟨i, tm, v2, hs, rfl, rfl, hi, hi1, hI⟩ := hrel
        have I := Lib.hid hI
        clear hI
        by_cases hi0 : 0 < i
        · obtain ⟨i, rfl⟩ : ∃ m, i = m + 1 := ⟨i - 1, by omega⟩
          obtain ⟨t0, t1, tf0, tf1⟩ := I.out.cells
          go_wp2_with ((with_reducible refine gate_dst (N := 72) rfl ?_); refine Kd.R_append (Kd.int .i64) (w0 := wr) ws.heap.size rfl (.tmp 69) (.tmp 71) 39 3 (.int .i64 0) 8 rfl Try.underlying39 int_info rfl (by decide) (by omega) v2 hs tm [.int .i64 tm] (fun _ => True) (fun _ => False) rfl rfl ?aP (fun _ hk => hk.elim) ?aF ?aO ?aB ?aS ?aL ?_; (case aP => exact rfl); (case aF => exact (fun _ _ => trivial)); (case aO => exact I.out.r2); (case aB => exact Below.refl _ _); (case aS => exact I.out.cur.keep.1); (case aL => omega); intro v6 w6 hR hb hg hat; obtain ⟨A6, c6, hv6⟩ := Kd.R_slice hR; rw [List.length_append, List.length_singleton] at hv6; subst hv6; obtain ⟨hI7, hT7⟩ := I.out.app2 hg hR; have I7 := Lib.hid hI7; have s1 := blk_cell hT7 1; have sf1 := blk_frozen hT7 1; clear hR hb hg hat hI7 hT7 I t0 t1 tf0 tf1)
          refine (below_k 3 (by omega) (by omega) I7.out.cur.here).mono ?_
          rintro e w8 ⟨p, rfl, p0, p1, hC8⟩
          have I8 := Lib.hid (I7.out.move hC8)
          clear hC8 I7 s1 sf1
          go_wp2_with fail
          refine (below_k 20000 (by omega) (by omega) I8.out.cur.here).mono ?_
          rintro e w9 ⟨q, rfl, q0, q1, hC9⟩
          have I9 := Lib.hid (I8.out.move hC9)
          clear hC9 I8 p0 p1 q0 q1
          go_wp2_with fail
          go_roundw
          case rel => exact ⟨i, _, _, hs ++ [tm], by go_num, rfl, by simp; omega, by simp; omega, I9.out.mono (by simp; omega)⟩
          case measure => simp [intOf]
        · obtain rfl : i = 0 := by omega
          obtain ⟨t0, t1, tf0, tf1⟩ := I.out.cells
          have hgX : w.heap.size ≠ g := fun e => by have := C0.out.lt; omega
          have hXr := I.out.cur.keep.blk HX.out hgX (by simp)
          have x0 : wr.cell? ⟨w.heap.size, 0, none⟩ = some (.slice none 0 0) := blk_cell hXr 0
          have x1 : wr.cell? ⟨w.heap.size, 1, none⟩ = some (.slice none 0 0) := blk_cell hXr 1
          have xf0 := blk_frozen hXr 0
          have xf1 := blk_frozen hXr 1
          have HXr := Lib.hid hXr
          clear hXr
          obtain ⟨A1, c1, hv1⟩ := Kd.R_slice I.out.r1
          obtain ⟨A2, c2, hv2⟩ := Kd.R_slice I.out.r2
          subst hv1 hv2
          have hl1 : 1 ≤ sts.length ∧ sts.length ≤ 3 := by omega
          have hl2 : 1 ≤ hs.length ∧ hs.length ≤ 5 := by omega
          have F := Lib.hid (I.out.fin HS.out C0.out.below.size HXr.out hl1 hl2 hgX.symm (.slice A1 sts.length c1) (.slice A2 hs.length c2))
          go_wp2_with fail
          exact bodyPost_ret (v := .agg #[.slice A1 sts.length c1, .slice A2 hs.length c2]) (by simp [results, Try.results31, go_sem, x0, x1]) rfl ⟨_, _, sts, hs, rfl, F.out.1.mono (by omega), F.out.2⟩
end Go.Proofs.Ytjohpjmfnghkoaa.Td
