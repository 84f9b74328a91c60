/- Polars as they are drawn: rows that lie apart from all else; what their cells hold is told by kind alone. -/
import Derived.Test.YteaiaedhkhmgdaaGreatDrw
import Derived.Test.YteaiaedhkhmgdaaGreatPolW
import Derived.Laws.Build
import Derived.Deep.CutBlock
import Derived.Deep.DeepCutAuto
namespace Go.Proofs.YteaiaedhkhmgdaaGreat.Dp
open Go.RowKit Kit Fl Bd Dw Pf Pw Fed Go.Proofs.YteaiaedhkhmgdaaGreatW.PrintWords Go.Proofs.YteaiaedhkhmgdaaGreatW.PrintLast Go.Proofs.YteaiaedhkhmgdaaGreatW.PrintMore PFnLayFetched
/-- singles, whichever -/
def anyF : Kd Unit where
  sz := 1
  E := []
  K := fun _ _ cs => ∃ x, cs = [.float .f32 x]
  M := fun _ _ _ _ cs => ∃ x, cs = [.float .f32 x]
  K_len := by rintro w x cs ⟨y, rfl⟩; rfl
  K_one := by
    rintro w x cs ⟨y, rfl⟩ u hu
    rw [List.mem_singleton.1 hu]; rfl
  K_below := fun _ h => h
  K_of_M := fun h => h
  M_mono := fun _ h => h
  M_bound := fun h => h
  M_move := fun _ h => h
  M_lower := fun _ h => h
/-- singles in a block -/
def FB (w : World) (base : Nat) (ok : Nat → Prop) (A : Option Addr) (n : Nat) : Prop := n = 0 ∨ ∃ b o cells, A = some ⟨b, o, none⟩ ∧ base ≤ b ∧ ok b ∧ w.heap[b]? = some (.cells cells 35 (0, 0)) ∧ ∀ j, j < n → ∃ x, cells[o + j]? = some (.float .f32 x)
theorem FB.mono {w : World} {base : Nat} {ok ok' : Nat → Prop} {A : Option Addr} {n : Nat} (hok : ∀ k, ok k → ok' k) (h : FB w base ok A n) : FB w base ok' A n := by
  rcases h with h | ⟨b, o, cells, h1, h2, h3, h4⟩
  · exact .inl h
  · exact .inr ⟨b, o, cells, h1, h2, hok b h3, h4⟩
theorem FB.move {w w1 : World} {base : Nat} {ok : Nat → Prop} {A : Option Addr} {n : Nat} (hm : ∀ k, ok k → w1.heap[k]? = w.heap[k]?) (h : FB w base ok A n) : FB w1 base ok A n := by
  rcases h with h | ⟨b, o, cells, h1, h2, h3, h4, h5⟩
  · exact .inl h
  · exact .inr ⟨b, o, cells, h1, h2, h3, (hm b h3).trans h4, h5⟩
theorem FB.lower {w : World} {base base' : Nat} {ok : Nat → Prop} {A : Option Addr} {n : Nat} (hb : base' ≤ base) (h : FB w base ok A n) : FB w base' ok A n := by
  rcases h with h | ⟨b, o, cells, h1, h2, h3⟩
  · exact .inl h
  · exact .inr ⟨b, o, cells, h1, Nat.le_trans hb h2, h3⟩
theorem FB.bound {w : World} {base : Nat} {ok : Nat → Prop} {A : Option Addr} {n : Nat} (h : FB w base ok A n) : FB w base (fun k => ok k ∧ base ≤ k ∧ k < w.heap.size ∧ ∃ cells, w.heap[k]? = some (.cells cells 35 (0, 0))) A n := by
  rcases h with h | ⟨b, o, cells, h1, h2, h3, h4, h5⟩
  · exact .inl h
  · exact .inr ⟨b, o, cells, h1, h2, ⟨h3, h2, blk_lt h4, cells, h4⟩, h4, h5⟩
/-- a single is put somewhere -/
theorem FB.put {w : World} {base : Nat} {ok : Nat → Prop} {A : Option Addr} {n : Nat} (h : FB w base ok A n) (b i x : Nat) : FB (w.setCell ⟨b, i, none⟩ (.float .f32 x)) base ok A n := by
  rcases h with h | ⟨b', o, cells, h1, h2, h3, h4, h5⟩
  · exact .inl h
  · by_cases e : b' = b
    · subst e
      refine .inr ⟨b', o, _, h1, h2, h3, blk_set h4 i _, fun j hj => ?_⟩
      obtain ⟨y, hy⟩ := h5 j hj
      by_cases ei : i = o + j
      · subst ei
        exact ⟨x, by rw [Array.getElem?_setIfInBounds_self, if_pos (Array.getElem?_eq_some_iff.1 hy).1]⟩
      · exact ⟨y, by rw [Array.getElem?_setIfInBounds_ne ei]; exact hy⟩
    · exact .inr ⟨b', o, cells, h1, h2, h3, blk_far h4 (p := ⟨b, i, none⟩) e _, h5⟩
theorem FB.reads {w : World} {base : Nat} {ok : Nat → Prop} {A : Option Addr} {n : Nat} (h : FB w base ok A n) : n = 0 ∨ ∃ b o, A = some ⟨b, o, none⟩ ∧ ∀ j, j < n → ∃ x, w.cell? ⟨b, o + j, none⟩ = some (.float .f32 x) := by
  rcases h with h | ⟨b, o, cells, h1, h2, h3, h4, h5⟩
  · exact .inl h
  · refine .inr ⟨b, o, h1, fun j hj => ?_⟩
    obtain ⟨x, hx⟩ := h5 j hj
    exact ⟨x, (blk_cell h4 (o + j)).trans hx⟩
/-- rows of singles that may share their blocks -/
def shK : Kd Nat where
  sz := 1
  E := [35]
  K := fun w n cs => ∃ A c, cs = [.slice A n c] ∧ n ≤ c ∧ (n = 0 ∨ ∃ b o, A = some ⟨b, o, none⟩ ∧ ∀ j, j < n → ∃ x, w.cell? ⟨b, o + j, none⟩ = some (.float .f32 x))
  M := fun w base ok n cs => ∃ A c, cs = [.slice A n c] ∧ n ≤ c ∧ FB w base ok A n
  K_len := by rintro w x cs ⟨A, c, rfl, _⟩; rfl
  K_one := by
    rintro w x cs ⟨A, c, rfl, _⟩ u hu
    rw [List.mem_singleton.1 hu]; rfl
  K_below := by
    rintro w w1 x cs hb ⟨A, c, rfl, hc, h⟩
    refine ⟨A, c, rfl, hc, h.imp id ?_⟩
    rintro ⟨b, o, e, h⟩
    refine ⟨b, o, e, fun j hj => ?_⟩
    obtain ⟨y, hy⟩ := h j hj
    exact ⟨y, (hb.cell (World.block_lt_of_cell? w _ hy)).trans hy⟩
  K_of_M := by
    rintro w base ok x cs ⟨A, c, rfl, hc, h⟩
    exact ⟨A, c, rfl, hc, h.reads⟩
  M_mono := by
    rintro w base ok ok' x cs hok ⟨A, c, rfl, hc, h⟩
    exact ⟨A, c, rfl, hc, h.mono hok⟩
  M_bound := by
    rintro w base ok x cs ⟨A, c, rfl, hc, h⟩
    exact ⟨A, c, rfl, hc, h.bound.mono (fun k hk => ⟨hk.1, hk.2.1, hk.2.2.1, _, List.mem_singleton.2 rfl, hk.2.2.2⟩)⟩
  M_move := by
    rintro w w1 base ok x cs hm ⟨A, c, rfl, hc, h⟩
    exact ⟨A, c, rfl, hc, h.move hm⟩
  M_lower := by
    rintro w base base' ok x cs hb ⟨A, c, rfl, hc, h⟩
    exact ⟨A, c, rfl, hc, h.lower hb⟩
theorem fE : ∀ q, q ∈ 35 :: anyF.E → q = 35 := by
  intro q hq
  simpa [anyF] using hq
theorem sE : ∀ q, q ∈ 24 :: shK.E → q = 24 ∨ q = 35 := by
  intro q hq
  simpa [shK] using hq
theorem iE : ∀ q, q ∈ 3 :: (Kd.int .i64).E → q = 3 := by
  intro q hq
  simpa [Kd.int, Kd.scalar] using hq
theorem build_pol (A : Option Addr) (n c : Nat) (w : World) : (Instr.build 28 #[(1, .slice A n c)]).run Tryz.prog w = .ok (.agg #[.slice none 0 0, .slice A n c, .slice none 0 0]) w := run_build w 28 _ _ (by kernel_rfl)
theorem build_none (w : World) : (Instr.build 28 #[]).run Tryz.prog w = .ok (.agg #[.slice none 0 0, .slice none 0 0, .slice none 0 0]) w := run_build w 28 _ _ (by kernel_rfl)
theorem f32_info : (Tryz.prog.info? 35).map (fun i => (i.zero, i.size, i.bytes)) = some (some (.float .f32 0), 1, 4) := by kernel_rfl
theorem int_info : (Tryz.prog.info? 3).map (fun i => (i.zero, i.size, i.bytes)) = some (some (.int .i64 0), 1, 8) := by kernel_rfl
theorem sl_info : (Tryz.prog.info? 24).map (fun i => (i.zero, i.size, i.bytes)) = some (some (.slice none 0 0), 1, 24) := by kernel_rfl
/-- a sum or a quotient of singles, whatever it comes to -/
theorem arith_any (op : BinOp) (ho : op = .add ∨ op = .quo) (t : TypeId) (x y : Nat) (w : World) : ∃ z w', (binOp op t (.float .f32 x) (.float .f32 y)).run Tryz.prog w = .ok (.float .f32 z) w' ∧ (w' = w ∨ w' = w.drew) := by
  have key : ∃ z w', (Op.floatArith op .f32 x y).run Tryz.prog w = .ok (.float .f32 z) w' ∧ (w' = w ∨ w' = w.drew) := by
    unfold Op.floatArith
    rcases ho with rfl | rfl
    all_goals simp only [Sem.run_bind, Sem.run_pure, Result.andThen]
    · cases FloatKind.f32.format.add x y with
      | some r => exact ⟨r, w, rfl, Or.inl rfl⟩
      | none =>
        obtain ⟨n, w', h1, h2⟩ := run_any_choose (P := Tryz.prog) (.nanBits .f32 x y) w
        exact ⟨n, w', by simp only [Sem.run_bind, h1, Result.andThen]; rfl, h2⟩
    · cases FloatKind.f32.format.div x y with
      | some r => exact ⟨r, w, rfl, Or.inl rfl⟩
      | none =>
        obtain ⟨n, w', h1, h2⟩ := run_any_choose (P := Tryz.prog) (.nanBits .f32 x y) w
        exact ⟨n, w', by simp only [Sem.run_bind, h1, Result.andThen]; rfl, h2⟩
  obtain ⟨z, w', h1, h2⟩ := key
  refine ⟨z, w', ?_, h2⟩
  rw [← h1]
  rcases ho with rfl | rfl <;> rfl
theorem quo8 {x : Nat} (hx : Num FloatKind.f32.format x) : (floatBits .quo .f32 x 1090519040).isSome = true := by
  have h : FloatKind.f32.format.read 1090519040 = .number false 8388608 (-20) := by decide +kernel
  exact Sm.isSome_quo hx ⟨_, _, _, h⟩ (Or.inl (by rw [ne_eq, V_zero h]; decide))
/-- beside the cursor a block far away changes -/
theorem Cur2.far {w0 ws w : World} {g : Nat} {m : Int} (h : Cur2 w0 ws w g m) {B i : Nat} (u : Value) (hne : g ≠ B) (h1 : ws.heap.size ≤ B) (h2 : w0.heap.size ≤ B) : Cur2 w0 ws (w.setCell ⟨B, i, none⟩ u) g m := by
  obtain ⟨⟨⟨b, i', k, ⟨A0, c0, e1, e2, e3⟩, h3, h4⟩, h5⟩, h6⟩ := h
  refine ⟨⟨⟨b, i', k, ⟨A0, c0, blk_far e1 (p := ⟨B, i, none⟩) hne u, e2, e3⟩, h3, h4⟩, h5.setCell h2 u⟩, ?_⟩
  refine ⟨by simpa using h6.1, fun j hj hjg hr => ?_⟩
  rw [Below.heap_setCell w ⟨B, i, none⟩ u j (by show j ≠ B; omega)]
  exact h6.2 j hj hjg hr
/-- what holds while a polar is drawn: its three rows, in the box T; what lay in ws lies there as it was -/
structure PI (w0 ws w : World) (g T : Nat) (v0 v1 v2 : Value) (us : List Unit) (ns : List Int) (ls : List Nat) (m : Int) : Prop where
  cur : Cur2 w0 ws w g m
  t : w.heap[T]? = some (.cells #[v0, v1, v2] 28 (0, 0))
  ge : w0.heap.size ≤ ws.heap.size ∧ ws.heap.size ≤ T
  r0 : anyF.R 35 w ws.heap.size (fun _ => True) v0 us
  r1 : (Kd.int .i64).R 3 w ws.heap.size (fun _ => True) v1 ns
  r2 : shK.R 24 w ws.heap.size (fun k => some k ≠ v0.ownBlock) v2 ls
section
variable {w0 ws w w1 : World} {g T : Nat} {v0 v1 v2 : Value} {us : List Unit} {ns : List Int} {ls : List Nat} {m n : Int}
theorem sT {t : Nat} (h1 : t ≠ 24) (h2 : t ≠ 35) : ∀ q, q ∈ 24 :: shK.E → q ≠ t := fun q hq e => by
  rcases sE q hq with h | h
  · exact h1 (e.symm.trans h)
  · exact h2 (e.symm.trans h)
theorem PI.ne (h : PI w0 ws w g T v0 v1 v2 us ns ls m) : T ≠ g := by
  obtain ⟨cs, e⟩ := h.cur.blk
  exact blk_ne h.t e (by decide)
theorem PI.mono (h : PI w0 ws w g T v0 v1 v2 us ns ls m) (hm : m ≤ n) : PI w0 ws w g T v0 v1 v2 us ns ls n := ⟨h.cur.mono hm, h.t, h.ge, h.r0, h.r1, h.r2⟩
theorem PI.move (h : PI w0 ws w g T v0 v1 v2 us ns ls m) (hk : Cur2 w0 w w1 g n) : PI w0 ws w1 g T v0 v1 v2 us ns ls n :=
  ⟨h.cur.trans hk, hk.keep.blk h.t h.ne (by simp), h.ge, R_cur h.r0 h.cur (fun q hq => by rw [fE q hq]; decide) hk, R_cur h.r1 h.cur (fun q hq => by rw [iE q hq]; decide) hk, R_cur h.r2 h.cur (sT (by decide) (by decide)) hk⟩
theorem PI.drew (h : PI w0 ws w g T v0 v1 v2 us ns ls m) : PI w0 ws w.drew g T v0 v1 v2 us ns ls m :=
  ⟨h.cur.drew, h.t, h.ge, Kd.R_below h.r0 (Below.refl _ _).drew, Kd.R_below h.r1 (Below.refl _ _).drew, Kd.R_below h.r2 (Below.refl _ _).drew⟩
theorem PI.or (h : PI w0 ws w g T v0 v1 v2 us ns ls m) (e : w1 = w ∨ w1 = w.drew) : PI w0 ws w1 g T v0 v1 v2 us ns ls m := by
  rcases e with rfl | rfl
  · exact h
  · exact h.drew
theorem PI.alloc (h : PI w0 ws w g T v0 v1 v2 us ns ls m) (o : Obj) : PI w0 ws (w.alloc o) g T v0 v1 v2 us ns ls m :=
  ⟨h.cur.alloc o, blk_alloc h.t o, h.ge, Kd.R_below h.r0 ((Below.refl _ _).alloc (Nat.le_refl _) _), Kd.R_below h.r1 ((Below.refl _ _).alloc (Nat.le_refl _) _), Kd.R_below h.r2 ((Below.refl _ _).alloc (Nat.le_refl _) _)⟩
theorem PI.cells (h : PI w0 ws w g T v0 v1 v2 us ns ls m) : (w.cell? ⟨T, 0, none⟩ = some v0 ∧ w.cell? ⟨T, 1, none⟩ = some v1 ∧ w.cell? ⟨T, 2, none⟩ = some v2) ∧ w.frozen? ⟨T, 0, none⟩ = false ∧ w.frozen? ⟨T, 1, none⟩ = false ∧ w.frozen? ⟨T, 2, none⟩ = false :=
  ⟨⟨blk_cell h.t 0, blk_cell h.t 1, blk_cell h.t 2⟩, blk_frozen h.t 0, blk_frozen h.t 1, blk_frozen h.t 2⟩
theorem PI.slices (h : PI w0 ws w g T v0 v1 v2 us ns ls m) : ∃ A0 c0 A1 c1 A2 c2, v0 = .slice A0 us.length c0 ∧ v1 = .slice A1 ns.length c1 ∧ v2 = .slice A2 ls.length c2 := by
  obtain ⟨A0, c0, e0⟩ := Kd.R_slice h.r0
  obtain ⟨A1, c1, e1⟩ := Kd.R_slice h.r1
  obtain ⟨A2, c2, e2⟩ := Kd.R_slice h.r2
  exact ⟨A0, c0, A1, c1, A2, c2, e0, e1, e2⟩
/-- a row of another type stays as it is while a row grows -/
theorem R_apart {α β : Type} {d : Kd α} {d' : Kd β} {e e' base base' : Nat} {ok ok' : Nat → Prop} {v u : Value} {xs : List α} {ys : List β} {w w1 : World} (h : d.R e w base ok v xs) (ho : d'.R e' w base' ok' u ys) (ht : ∀ q, q ∈ e :: d.E → q ≠ e') (hg : w.grownBy w1 u.ownBlock) : d.R e w1 base ok v xs := by
  cases hu : u.ownBlock with
  | none => exact Kd.R_grown h hg (fun k _ => by rw [hu]; simp)
  | some b =>
    obtain ⟨inner, hown⟩ := Kd.R_own ho
    obtain ⟨cells, hb⟩ := own_typed hown b hu
    exact Kd.R_mono (Kd.R_grown (Kd.R_types h hb ht) hg (fun k hk => by rw [hu]; intro hh; exact hk.2 (Option.some.inj hh))) (fun _ hk => hk.1)
/-- new words in the box -/
theorem PI.put {v0' v1' v2' : Value} (h : PI w0 ws w g T v0 v1 v2 us ns ls m) {i : Nat} {u : Value} (he : (#[v0, v1, v2] : Array Value).setIfInBounds i u = #[v0', v1', v2']) {us' : List Unit} {ns' : List Int} {ls' : List Nat}
    (q0 : anyF.R 35 w ws.heap.size (fun _ => True) v0' us') (q1 : (Kd.int .i64).R 3 w ws.heap.size (fun _ => True) v1' ns') (q2 : shK.R 24 w ws.heap.size (fun k => some k ≠ v0'.ownBlock) v2' ls') :
    PI w0 ws (w.setCell ⟨T, i, none⟩ u) g T v0' v1' v2' us' ns' ls' m :=
  ⟨Cur2.far h.cur u h.ne.symm h.ge.2 (Nat.le_trans h.ge.1 h.ge.2), blk_put h.t i u he, h.ge, Kd.R_set q0 h.t (fun q hq => by rw [fE q hq]; decide) i u, Kd.R_set q1 h.t (fun q hq => by rw [iE q hq]; decide) i u, Kd.R_set q2 h.t (sT (by decide) (by decide)) i u⟩
/-- a row has grown: what is left of the rest -/
theorem PI.grown (h : PI w0 ws w g T v0 v1 v2 us ns ls m) {α : Type} {d : Kd α} {e : Nat} {ok : Nat → Prop} {v : Value} {xs : List α} (hr : d.R e w ws.heap.size ok v xs) (hg : w.grownBy w1 v.ownBlock) (h1 : e ≠ 76) (h2 : e ≠ 28) : Cur2 w0 ws w1 g m ∧ w1.heap[T]? = some (.cells #[v0, v1, v2] 28 (0, 0)) := by
  have hb : ∀ k, v.ownBlock = some k → ws.heap.size ≤ k := fun k hk => own_base (Kd.R_own hr).choose_spec k hk
  exact ⟨h.cur.grown hg (R_cur_ne hr h.cur h1) hb (h.cur.below.grown hg h.cur.below.size (fun k hk => Nat.le_trans h.ge.1 (hb k hk))), blk_grown h.t hg (Kd.R_ne hr h.t h2)⟩
theorem PI.app1 {u : Value} {ns' : List Int} (h : PI w0 ws w g T v0 v1 v2 us ns ls m) (hg : w.grownBy w1 v1.ownBlock) (hR : (Kd.int .i64).R 3 w1 ws.heap.size (fun _ => True) u ns') : PI w0 ws (w1.setCell ⟨T, 1, none⟩ u) g T v0 u v2 us ns' ls m ∧ w1.heap[T]? = some (.cells #[v0, v1, v2] 28 (0, 0)) := by
  obtain ⟨hc, ht⟩ := h.grown h.r1 hg (by decide) (by decide)
  obtain ⟨cs', e⟩ := hc.blk
  have q0 := R_apart h.r0 h.r1 (fun q hq => by rw [fE q hq]; decide) hg
  have q2 := R_apart h.r2 h.r1 (sT (by decide) (by decide)) hg
  exact ⟨⟨Cur2.far hc u (blk_ne ht e (by decide)).symm h.ge.2 (Nat.le_trans h.ge.1 h.ge.2), blk_put ht 1 u rfl, h.ge, Kd.R_set q0 ht (fun q hq => by rw [fE q hq]; decide) 1 u, Kd.R_set hR ht (fun q hq => by rw [iE q hq]; decide) 1 u, Kd.R_set q2 ht (sT (by decide) (by decide)) 1 u⟩, ht⟩
theorem PI.app2 {u : Value} {ls' : List Nat} (h : PI w0 ws w g T v0 v1 v2 us ns ls m) (hg : w.grownBy w1 v2.ownBlock) (hR : shK.R 24 w1 ws.heap.size (fun k => some k ≠ v0.ownBlock) u ls') : PI w0 ws (w1.setCell ⟨T, 2, none⟩ u) g T v0 v1 u us ns ls' m ∧ w1.heap[T]? = some (.cells #[v0, v1, v2] 28 (0, 0)) := by
  obtain ⟨hc, ht⟩ := h.grown h.r2 hg (by decide) (by decide)
  obtain ⟨cs', e⟩ := hc.blk
  have q0 := R_apart h.r0 h.r2 (fun q hq => by rw [fE q hq]; decide) hg
  have q1 := R_apart h.r1 h.r2 (fun q hq => by rw [iE q hq]; decide) hg
  exact ⟨⟨Cur2.far hc u (blk_ne ht e (by decide)).symm h.ge.2 (Nat.le_trans h.ge.1 h.ge.2), blk_put ht 2 u rfl, h.ge, Kd.R_set q0 ht (fun q hq => by rw [fE q hq]; decide) 2 u, Kd.R_set q1 ht (fun q hq => by rw [iE q hq]; decide) 2 u, Kd.R_set hR ht (sT (by decide) (by decide)) 2 u⟩, ht⟩
/-- rows that were not the elder block are not the younger either -/
theorem step_ok {d : Kd Nat} {e base : Nat} {v v' u : Value} {xs : List Nat} {P : Nat → Prop} (h : d.R e w base (fun k => P k ∧ some k ≠ v.ownBlock) u xs) (hg : w.grownBy w1 v.ownBlock) (hat : v'.ownBlock = v.ownBlock ∨ ∃ b, v'.ownBlock = some b ∧ w.heap.size ≤ b) : d.R e w1 base (fun k => P k ∧ some k ≠ v'.ownBlock) u xs :=
  Kd.R_mono (Kd.R_grown (Kd.R_bound h) hg (fun k hk => hk.1.2)) (fun k hk => ⟨hk.1.1, by
    rcases hat with hat | ⟨b, hb, hle⟩
    · rw [hat]; exact hk.1.2
    · rw [hb]
      intro e
      have := Option.some.inj e
      have := hk.2.2.1
      omega⟩)
theorem PI.app0 {u : Value} {us' : List Unit} (h : PI w0 ws w g T v0 v1 v2 us ns ls m) (hg : w.grownBy w1 v0.ownBlock) (hR : anyF.R 35 w1 ws.heap.size (fun _ => True) u us') (hat : u.ownBlock = v0.ownBlock ∨ ∃ b, u.ownBlock = some b ∧ w.heap.size ≤ b) : PI w0 ws (w1.setCell ⟨T, 0, none⟩ u) g T u v1 v2 us' ns ls m ∧ w1.heap[T]? = some (.cells #[v0, v1, v2] 28 (0, 0)) := by
  obtain ⟨hc, ht⟩ := h.grown h.r0 hg (by decide) (by decide)
  obtain ⟨cs', e⟩ := hc.blk
  have q1 := R_apart h.r1 h.r0 (fun q hq => by rw [iE q hq]; decide) hg
  have q2 := Kd.R_mono (step_ok (P := fun _ => True) (Kd.R_mono h.r2 (fun k hk => ⟨trivial, hk⟩)) hg hat) (fun k hk => hk.2)
  exact ⟨⟨Cur2.far hc u (blk_ne ht e (by decide)).symm h.ge.2 (Nat.le_trans h.ge.1 h.ge.2), blk_put ht 0 u rfl, h.ge, Kd.R_set hR ht (fun q hq => by rw [fE q hq]; decide) 0 u, Kd.R_set q1 ht (fun q hq => by rw [iE q hq]; decide) 0 u, Kd.R_set q2 ht (sT (by decide) (by decide)) 0 u⟩, ht⟩
/-- beside the polar a row in the making -/
structure RI (w0 ws w : World) (g T : Nat) (v0 v1 v2 vr : Value) (us : List Unit) (ns : List Int) (ls : List Nat) (xs : List Unit) (m : Int) : Prop where
  p : PI w0 ws w g T v0 v1 v2 us ns ls m
  r : anyF.R 35 w ws.heap.size (fun k => some k ≠ v0.ownBlock) vr xs
  a : shK.R 24 w ws.heap.size (fun k => some k ≠ v0.ownBlock ∧ some k ≠ vr.ownBlock) v2 ls
variable {vr : Value} {xs : List Unit}
theorem RI.mono (h : RI w0 ws w g T v0 v1 v2 vr us ns ls xs m) (hm : m ≤ n) : RI w0 ws w g T v0 v1 v2 vr us ns ls xs n := ⟨h.p.mono hm, h.r, h.a⟩
theorem RI.move (h : RI w0 ws w g T v0 v1 v2 vr us ns ls xs m) (hk : Cur2 w0 w w1 g n) : RI w0 ws w1 g T v0 v1 v2 vr us ns ls xs n :=
  ⟨h.p.move hk, R_cur h.r h.p.cur (fun q hq => by rw [fE q hq]; decide) hk, R_cur h.a h.p.cur (sT (by decide) (by decide)) hk⟩
theorem RI.drew (h : RI w0 ws w g T v0 v1 v2 vr us ns ls xs m) : RI w0 ws w.drew g T v0 v1 v2 vr us ns ls xs m := ⟨h.p.drew, Kd.R_below h.r (Below.refl _ _).drew, Kd.R_below h.a (Below.refl _ _).drew⟩
theorem RI.or (h : RI w0 ws w g T v0 v1 v2 vr us ns ls xs m) (e : w1 = w ∨ w1 = w.drew) : RI w0 ws w1 g T v0 v1 v2 vr us ns ls xs m := by
  rcases e with rfl | rfl
  · exact h
  · exact h.drew
theorem RI.app {u : Value} {xs' : List Unit} (h : RI w0 ws w g T v0 v1 v2 vr us ns ls xs m) (hg : w.grownBy w1 vr.ownBlock) (hR : anyF.R 35 w1 ws.heap.size (fun k => some k ≠ v0.ownBlock) u xs') (hat : u.ownBlock = vr.ownBlock ∨ ∃ b, u.ownBlock = some b ∧ w.heap.size ≤ b) : RI w0 ws w1 g T v0 v1 v2 u us ns ls xs' m := by
  obtain ⟨hc, ht⟩ := h.p.grown h.r hg (by decide) (by decide)
  have hne : ∀ k, v0.ownBlock = some k → some k ≠ vr.ownBlock := fun k hk e => h.r.1 k e.symm hk.symm
  have q0 : anyF.R 35 w ws.heap.size (fun k => v0.ownBlock = some k) v0 us := ⟨fun k hk => hk, h.p.r0.2.imp_ (fun _ _ hp => hp)⟩
  have q0 := Kd.R_mono (Kd.R_grown q0 hg hne) (fun _ _ => trivial)
  have q1 := R_apart h.p.r1 h.r (fun q hq => by rw [iE q hq]; decide) hg
  have q2 := step_ok h.a hg hat
  exact ⟨⟨hc, ht, h.p.ge, q0, q1, Kd.R_mono q2 (fun _ hk => hk.1)⟩, hR, q2⟩
/-- a row is begun -/
theorem PI.row {u : Value} (h : PI w0 ws w g T v0 v1 v2 us ns ls m) (hg : w.grownBy w1 none) (hR : anyF.R 35 w1 ws.heap.size (fun k => some k ≠ v0.ownBlock) u []) (hnew : ∃ b, u.ownBlock = some b ∧ w.heap.size ≤ b) : RI w0 ws w1 g T v0 v1 v2 u us ns ls [] m :=
  ⟨h.move (h.cur.here.grown hg (by simp) (fun b e => by cases e) (h.cur.below.grown hg h.cur.below.size (fun b e => by cases e))), hR, Kd.R_mono (Kd.R_grown (Kd.R_bound h.r2) hg (fun _ _ => by simp)) (fun k hk => ⟨hk.1, fun e => by
    obtain ⟨b, hb, hle⟩ := hnew
    rw [hb] at e
    have := Option.some.inj e
    have := hk.2.2.1
    omega⟩)⟩
theorem RI.okp (h : RI w0 ws w g T v0 v1 v2 vr us ns ls xs m) : ∀ k, vr.ownBlock = some k → some k ≠ v0.ownBlock ∧ some k ≠ v2.ownBlock := fun k hk => ⟨h.r.1 k hk, fun e => (h.a.1 k e.symm).2 hk.symm⟩
theorem PI.fresh (h : PI w0 ws w g T v0 v1 v2 us ns ls m) : ∀ k, w.heap.size ≤ k → some k ≠ v0.ownBlock := fun k hk e => by
  have := own_lt (Kd.R_own h.r0).choose_spec k e.symm
  omega
/-- a row that is done: what it is as a member -/
theorem RI.member (h : RI w0 ws w g T v0 v1 v2 vr us ns ls xs m) : shK.M w ws.heap.size (fun k => vr.ownBlock = some k) xs.length [vr] := by
  obtain ⟨_, inner, ⟨hl, ho⟩, hr⟩ := h.r
  rcases ho with ⟨rfl, h0⟩ | ⟨b, cap, cur, rfl, hb, hh, h1, h2, h3, h4⟩
  · exact ⟨none, 0, by rw [h0], by omega, .inl h0⟩
  · refine ⟨some ⟨b, 0, none⟩, cap, rfl, h1, ?_⟩
    by_cases h0 : xs.length = 0
    · exact .inl h0
    · refine .inr ⟨b, 0, cur, rfl, hb, rfl, hh, fun j hj => ?_⟩
      have hx : xs[j]? = some () := by rw [List.getElem?_eq_getElem hj]
      obtain ⟨x, hx⟩ := hr.2 j () hx
      refine ⟨x, ?_⟩
      have hz : anyF.sz = 1 := rfl
      rw [hz, Nat.mul_one] at hx
      have e : inner[j]? = some (.float .f32 x) := by
        have := congrArg (fun l => l[0]?) hx
        simpa [List.getElem?_take, List.getElem?_drop] using this
      rw [← h4] at e
      rw [hz, Nat.mul_one, List.getElem?_take, if_pos hj] at e
      simpa using e
end
theorem PI_start {w0 w ws : World} {g : Nat} (hC : Cur2 w0 w0 w g 0) {o : Obj} (hws : ws = w.alloc o) : PI w0 ws ((ws.alloc (.cells #[.int .i64 0] 3)).alloc (.cells #[.slice none 0 0, .slice (some ⟨ws.heap.size, 0, none⟩) 1 1, .slice none 0 0] 28)) g (ws.heap.size + 1) (.slice none 0 0) (.slice (some ⟨ws.heap.size, 0, none⟩) 1 1) (.slice none 0 0) [] [0] [] 0 := by
  have c1 : Cur2 w0 ws ws g 0 := by
    have c1 := hC.alloc o
    rw [← hws] at c1
    exact c1.here
  have hz : (ws.alloc (.cells #[.int .i64 0] 3)).heap.size = ws.heap.size + 1 := by simp
  have hr : (Kd.int .i64).R 3 (ws.alloc (.cells #[.int .i64 0] 3)) ws.heap.size (fun _ => True) (.slice (some ⟨ws.heap.size, 0, none⟩) 1 1) [0] := by
    refine Kd.R_of_own ?_ (fun _ _ => trivial)
    have h2 := World.ownsRow_lit (base := ws.heap.size) (e := 3) (size := 1) ws #[.int .i64 0] 1 (Nat.le_refl _) (by unfold maxLen; omega) rfl
    exact h2
  refine ⟨(c1.alloc _).alloc _, ?_, ⟨c1.below.size, by omega⟩, Kd.R_nil _ _ _ _ _, Kd.R_below hr ((Below.refl _ _).alloc (Nat.le_refl _) _), Kd.R_nil _ _ _ _ _⟩
  rw [← hz]
  exact blk_new _ _
def Rel1 (w0 ws : World) (g T : Nat) (k : Value) (wr : World) : Prop := ∃ (a : Int) (v1 : Value) (ns : List Int), k = .int .i64 a ∧ -1000 ≤ a ∧ a ≤ 1000 ∧ 1 ≤ ns.length ∧ ns.length ≤ 20 ∧ PI w0 ws wr g T (.slice none 0 0) v1 (.slice none 0 0) [] ns [] (20 + 10 * ns.length)
def Rel2 (w0 ws : World) (g T : Nat) (q k : Value) (wr : World) : Prop := ∃ (x j : Nat) (v0 v1 v2 : Value) (us : List Unit) (ns : List Int) (ls : List Nat), q = .float .f32 x ∧ k = .int .i64 (j : Int) ∧ 1 ≤ us.length + j ∧ us.length + j ≤ 4 ∧ ls.length = us.length ∧ 2 ≤ ns.length ∧ ns.length ≤ 21 ∧ (∀ r ∈ ls, r = ns.length) ∧ PI w0 ws wr g T v0 v1 v2 us ns ls (240 + 300 * us.length)
def Rel3 (w0 ws : World) (g T : Nat) (v0 v1 v2 : Value) (us : List Unit) (ns : List Int) (ls : List Nat) (q k : Value) (wr : World) : Prop := ∃ (j : Nat) (xs : List Unit), k = .int .i64 (j : Int) ∧ xs.length = j ∧ j ≤ ns.length ∧ RI w0 ws wr g T v0 v1 v2 q us ns ls xs (-50 + 300 * us.length + 12 * j)
/-- a polar, drawn: its rows lie in the world for themselves -/
structure Own (B : Nat) (w : World) (v0 v1 v2 : Value) (us : List Unit) (ns : List Int) (ls : List Nat) : Prop where
  l0 : 1 ≤ us.length ∧ us.length ≤ 4
  l1 : 2 ≤ ns.length ∧ ns.length ≤ 21
  l2 : ls.length = us.length
  l3 : ∀ r ∈ ls, r = ns.length
  r0 : anyF.R 35 w B (fun _ => True) v0 us
  r1 : (Kd.int .i64).R 3 w B (fun _ => True) v1 ns
  r2 : shK.R 24 w B (fun k => some k ≠ v0.ownBlock) v2 ls
theorem PI.fin {w0 ws w wr : World} {g T : Nat} {v0 v1 v2 : Value} {us : List Unit} {ns : List Int} {ls : List Nat} {m : Int} (h : PI w0 ws wr g T v0 v1 v2 us ns ls m) {o : Obj} (hws : ws = w.alloc o) (hw : w0.heap.size ≤ w.heap.size) {cs : Array Value} (hX : wr.heap[w.heap.size]? = some (.cells cs 28 (0, 0))) (l2 : ls.length = us.length) (l0 : 1 ≤ us.length ∧ us.length ≤ 4) (l1 : 2 ≤ ns.length ∧ ns.length ≤ 21) (l3 : ∀ r ∈ ls, r = ns.length) (hg : g ≠ w.heap.size) (u0 u1 u2 : Value) :
    Cur2 w0 w (((wr.setCell ⟨w.heap.size, 0, none⟩ u0).setCell ⟨w.heap.size, 1, none⟩ u1).setCell ⟨w.heap.size, 2, none⟩ u2) g m ∧ Own w.heap.size (((wr.setCell ⟨w.heap.size, 0, none⟩ u0).setCell ⟨w.heap.size, 1, none⟩ u1).setCell ⟨w.heap.size, 2, none⟩ u2) v0 v1 v2 us ns ls := by
  have k0 : KeepBut w ws g none := by rw [hws]; exact KeepBut.of_below ((Below.refl _ _).alloc (Nat.le_refl _) _) g none
  have c0 : Cur2 w0 w wr g m := ⟨h.cur.cur, k0.trans h.cur.keep (.inl rfl)⟩
  have hX2 := blk_set hX 0 u0
  have hX3 := blk_set hX2 1 u1
  have hz : w.heap.size ≤ ws.heap.size := by rw [hws]; simp
  refine ⟨Cur2.far (Cur2.far (Cur2.far c0 u0 hg (Nat.le_refl _) hw) u1 hg (Nat.le_refl _) hw) u2 hg (Nat.le_refl _) hw, l0, l1, l2, l3, ?_, ?_, ?_⟩
  · exact Kd.R_lower (Kd.R_set (Kd.R_set (Kd.R_set h.r0 hX (fun q hq => by rw [fE q hq]; decide) 0 u0) hX2 (fun q hq => by rw [fE q hq]; decide) 1 u1) hX3 (fun q hq => by rw [fE q hq]; decide) 2 u2) hz
  · exact Kd.R_lower (Kd.R_set (Kd.R_set (Kd.R_set h.r1 hX (fun q hq => by rw [iE q hq]; decide) 0 u0) hX2 (fun q hq => by rw [iE q hq]; decide) 1 u1) hX3 (fun q hq => by rw [iE q hq]; decide) 2 u2) hz
  · exact Kd.R_lower (Kd.R_set (Kd.R_set (Kd.R_set h.r2 hX (sT (by decide) (by decide)) 0 u0) hX2 (sT (by decide) (by decide)) 1 u1) hX3 (sT (by decide) (by decide)) 2 u2) hz
set_option maxRecDepth 100000 in
set_option maxHeartbeats 2000000 in
theorem polar_call {w0 w : World} {g : Nat} (hC : Cur2 w0 w0 w g 0) :
    Calls Tryz.prog 73 #[.pointer (some ⟨g, 0, none⟩)] w fun e w' => ∃ (v0 v1 v2 : Value) (us : List Unit) (ns : List Int) (ls : List Nat), e = .returned (.agg #[v0, v1, v2]) ∧ Cur2 w0 w w' g 2000 ∧ Own w.heap.size w' v0 v1 v2 us ns ls := by
  have C0 := Lib.hid hC
  clear hC
  have hb1 := build_pol
  go_enter Tryz.func73, Tryz.ntmps73
  go_wp2_with fail
  obtain ⟨ws, hws⟩ : ∃ ws : World, ws = w.alloc (.cells #[.slice none 0 0, .slice none 0 0, .slice none 0 0] 28) := ⟨_, rfl⟩
  have hX : ws.heap[w.heap.size]? = some (.cells #[.slice none 0 0, .slice none 0 0, .slice none 0 0] 28 (0, 0)) := by rw [hws]; exact blk_new w _
  have hz : ws.heap.size = w.heap.size + 1 := by rw [hws]; simp
  have T0 := PI_start C0.out hws
  rw [← hws, ← hz]
  have HX := Lib.hid hX
  have HZ := Lib.hid hz
  have HS := Lib.hid hws
  have I0 := Lib.hid T0
  clear T0 hX hz hws
  refine (below_k 25 (by omega) (by omega) I0.out.cur.here).mono ?_
  rintro e w1 ⟨n, rfl, n0, n1, hC1⟩
  have I1 := Lib.hid (I0.out.move hC1)
  clear hC1 I0
  have n1 := n1 (by omega)
  generalize ws.heap.size + 1 = T at *
  go_wp2_with fail
  refine (once_k 6 (by omega) (by omega) I1.out.cur.here).mono ?_
  rintro e w2 ⟨r, rfl, hC2⟩
  have I2 := Lib.hid ((I1.out.move hC2).mono (show (0 : Int) + 4 + 4 ≤ 20 by omega))
  generalize (Value.slice (some ⟨ws.heap.size, 0, none⟩) 1 1) = v1 at *
  clear hC2 I1
  go_upto_if 17 with fail
  go_cut [4] (fun s wc => (∃ a : Int, s = .int .i64 a ∧ 0 ≤ a ∧ a ≤ 100) ∧ wc = w2)
  case first =>
    cases r
    · go_wp2_with fail
      go_meet
      case rel => exact ⟨⟨_, rfl, by omega, by omega⟩, rfl⟩
    · go_wp2_with fail
      go_meet
      case rel => exact ⟨⟨_, rfl, by omega, by omega⟩, rfl⟩
  case rest =>
    obtain ⟨⟨a, rfl, a0, a1⟩, rfl⟩ := hcut
    clear n0 n1
    have I3 := Lib.hid (show Rel1 w0 ws g T (.int .i64 a) wc from ⟨a, _, _, rfl, by omega, by omega, by simp, by simp, I2.out.mono (by simp)⟩)
    clear I2 a0 a1
    go_upto_block 0 with fail
    go_cut [5] (fun _ wr => ∃ (v1 : Value) (ns : List Int), 1 ≤ ns.length ∧ ns.length ≤ 20 ∧ PI w0 ws wr g T (.slice none 0 0) v1 (.slice none 0 0) [] ns [] 220)
    case first =>
      go_wp2_with fail
      go_loopw [5] (fun k wr => Rel1 w0 ws g T k wr) (fun k _ => (2000 - intOf k).toNat)
      case atStart => exact I3.out
      case round =>
        clear I3
        obtain ⟨a, v1, ns, rfl, a0, a1, l0, l1, hI⟩ := hrel
        have I := Lib.hid hI
        clear hI
        obtain ⟨A1, c1, hv1⟩ := Kd.R_slice I.out.r1
        subst hv1
        obtain ⟨⟨t0, t1, t2⟩, tf0, tf1, tf2⟩ := I.out.cells
        by_cases h1 : 0 < a ∧ a < 180 ∧ ns.length < 20
        · obtain ⟨h1, h2, h3⟩ := h1
          go_wp2_with ((with_reducible refine gate_dst (N := 40) rfl ?_); refine Kd.R_append (Kd.int .i64) (w0 := wr) ws.heap.size rfl (.tmp 37) (.tmp 39) 25 3 (.int .i64 0) 8 rfl Tryz.underlying25 int_info rfl (by decide) (by omega) _ ns a [.int .i64 a] (fun _ => True) (fun _ => False) rfl rfl ?aP (fun _ hk => hk.elim) ?aF ?aO ?aB ?aS ?aL ?_; (case aP => exact rfl); (case aF => exact (fun _ _ => trivial)); (case aO => exact I.out.r1); (case aB => exact Below.refl _ _); (case aS => exact I.out.cur.keep.1); (case aL => omega); intro v6 w6 hR hb hg hat; obtain ⟨A6, c6, hv6⟩ := Kd.R_slice hR; rw [List.length_append, List.length_singleton] at hv6; subst hv6; obtain ⟨hI7, hT7⟩ := I.out.app1 hg hR; have I7 := Lib.hid hI7; have s1 := blk_cell hT7 1; have sf1 := blk_frozen hT7 1; clear hR hb hg hat hI7 hT7 I t0 t1 t2 tf0 tf1 tf2)
          refine (below_k 50 (by omega) (by omega) I7.out.cur.here).mono ?_
          rintro e w8 ⟨p, rfl, p0, p1, hC8⟩
          have I8 := Lib.hid (I7.out.move hC8)
          have p1 := p1 (by omega)
          clear hC8 I7 s1 sf1
          go_wp2_with fail
          go_roundw
          case rel => exact ⟨a + 5 + p, _, ns ++ [a], by go_num, by omega, by omega, by simp, by simp; omega, I8.out.mono (by simp; omega)⟩
          case measure => simp [intOf]; omega
        · have F := Lib.hid (show ∃ (v1 : Value) (ns : List Int), 1 ≤ ns.length ∧ ns.length ≤ 20 ∧ PI w0 ws wr g T (.slice none 0 0) v1 (.slice none 0 0) [] ns [] 220 from ⟨_, ns, l0, l1, I.out.mono (by omega)⟩)
          clear I
          go_wp2_with fail
          all_goals go_meet
          all_goals exact F.out
    case rest =>
      obtain ⟨v1, ns, l0, l1, hI⟩ := hcut
      have I := Lib.hid hI
      clear hI I3
      obtain ⟨A1, c1, hv1⟩ := Kd.R_slice I.out.r1
      subst hv1
      obtain ⟨⟨t0, t1, t2⟩, tf0, tf1, tf2⟩ := I.out.cells
      go_wp2_with ((with_reducible refine gate_dst (N := 45) rfl ?_); refine Kd.R_append (Kd.int .i64) (w0 := wc) ws.heap.size rfl (.tmp 43) (.tmp 44) 25 3 (.int .i64 0) 8 rfl Tryz.underlying25 int_info rfl (by decide) (by omega) _ ns 180 [.int .i64 180] (fun _ => True) (fun _ => False) rfl rfl ?aP (fun _ hk => hk.elim) ?aF ?aO ?aB ?aS ?aL ?_; (case aP => exact rfl); (case aF => exact (fun _ _ => trivial)); (case aO => exact I.out.r1); (case aB => exact Below.refl _ _); (case aS => exact I.out.cur.keep.1); (case aL => omega); intro v6 w6 hR hb hg hat; obtain ⟨A6, c6, hv6⟩ := Kd.R_slice hR; rw [List.length_append, List.length_singleton] at hv6; subst hv6; obtain ⟨hI7, hT7⟩ := I.out.app1 hg hR; have I7 := Lib.hid hI7; have s1 := blk_cell hT7 1; have sf1 := blk_frozen hT7 1; clear hR hb hg hat hI7 hT7 I t0 t1 t2 tf0 tf1 tf2)
      refine (below_k 4 (by omega) (by omega) I7.out.cur.here).mono ?_
      rintro e w8 ⟨p, rfl, p0, p1, hC8⟩
      have I8 := Lib.hid (I7.out.move hC8)
      have p1 := p1 (by omega)
      clear hC8 I7 s1 sf1
      go_wp2_with fail
      refine (below_k 4 (by omega) (by omega) I8.out.cur.here).mono ?_
      rintro e w9 ⟨q, rfl, q0, q1, hC9⟩
      have I9 := Lib.hid (I8.out.move hC9)
      have q1 := q1 (by omega)
      clear hC9 I8
      obtain ⟨q, rfl⟩ : ∃ k : Nat, q = (k : Int) := ⟨q.toNat, by omega⟩
      have H9 := Lib.hid (show Rel2 w0 ws g T (.float .f32 (floatOfInt .f32 (1 + p))) (.int .i64 (1 + (q : Int))) w9 from ⟨_, 1 + q, _, _, _, _, _, _, rfl, by go_num, by simp, by simp; omega, rfl, by simp; omega, by simp; omega, by simp, I9.out.mono (by simp)⟩)
      clear I9 q0 q1 p0 p1
      go_wp2_with fail
      go_loopw [6, 7] (fun q k wr => Rel2 w0 ws g T q k wr) (fun _ k _ => (intOf k).toNat)
      case atStart => exact H9.out
      case round =>
        clear H9
        obtain ⟨x, j, v0, v1, v2, us, ns, ls, rfl, rfl, j1, j2, h2, n1, n2, h3, hI⟩ := hrel
        have H3 := Lib.hid h3
        have H2 := Lib.hid h2
        have I := Lib.hid hI
        clear h2 h3 hI
        by_cases h0 : 0 < j
        · obtain ⟨j, rfl⟩ : ∃ m, j = m + 1 := ⟨j - 1, by omega⟩
          obtain ⟨A0, c0, A1, c1, A2, c2, rfl, rfl, rfl⟩ := I.out.slices
          obtain ⟨⟨t0, t1, t2⟩, tf0, tf1, tf2⟩ := I.out.cells
          go_upto_region 15 with ((with_reducible refine gate_dst (N := 62) rfl ?_); refine Kd.R_append anyF (w0 := wr) ws.heap.size rfl (.tmp 59) (.tmp 61) 24 35 (.float .f32 0) 4 rfl Tryz.underlying24 f32_info rfl (by decide) (by omega) _ us () [.float .f32 x] (fun _ => True) (fun _ => False) rfl rfl ?aP (fun _ hk => hk.elim) ?aF ?aO ?aB ?aS ?aL ?_; (case aP => exact ⟨x, rfl⟩); (case aF => exact (fun _ _ => trivial)); (case aO => exact I.out.r0); (case aB => exact Below.refl _ _); (case aS => exact I.out.cur.keep.1); (case aL => omega); intro v6 w6 hR hb hg hat; obtain ⟨A6, c6, hv6⟩ := Kd.R_slice hR; rw [List.length_append, List.length_singleton] at hv6; subst hv6; obtain ⟨hI7, hT7⟩ := I.out.app0 hg hR hat; have I7 := Lib.hid hI7; have s1 := blk_cell hT7 0; have sf1 := blk_frozen hT7 0; clear hR hb hg hat hI7 hT7 I t0 t1 t2 tf0 tf1 tf2)
          generalize hwq : w6.setCell ⟨T, 0, none⟩ (.slice A6 (us.length + 1) c6) = wq at *
          clear s1 sf1 hwq
          go_upto_region 16 with ((with_reducible refine gate_dst (N := 64) rfl ?_); refine Kd.R_lit anyF (w0 := wq) ws.heap.size 35 ?hg (N := 64) ?hd (xs := ([] : List Unit)) (inner := []) (ok := fun k => some k ≠ Value.ownBlock (.slice A6 (us.length + 1) c6)) (okp := fun _ => False) ?hr ?hp (fun _ hk => hk.elim) ?hf (Below.refl _ _) I7.out.cur.keep.1 (by simp) ?_; (case hd => rfl); (case hg => rfl); (case hr => first | (go_simp; done) | (go_simp; rfl)); (case hp => exact (Reps.none _ _)); (case hf => exact I7.out.fresh _ (Nat.le_refl _)); intro vr w8 hR hb hg hnew; have R8 := Lib.hid (I7.out.row hg hR hnew); clear hR hb hg hnew I7)
          have R9 := Lib.hid (show Rel3 w0 ws g T (.slice A6 (us.length + 1) c6) (.slice A1 ns.length c1) (.slice A2 ls.length c2) (us ++ [()]) ns ls vr (.int .i64 ((0 : Nat) : Int)) w8 from ⟨0, [], rfl, rfl, by omega, R8.out.mono (by simp; omega)⟩)
          clear R8
          have hu : (us ++ [()]).length ≤ 4 := by simp; omega
          go_wp2_with fail
          go_loopw [8, 9] (fun q k wr => Rel3 w0 ws g T (.slice A6 (us.length + 1) c6) (.slice A1 ns.length c1) (.slice A2 ls.length c2) (us ++ [()]) ns ls q k wr) (fun _ k _ => ns.length - (intOf k).toNat)
          case atStart => exact R9.out
          case round =>
            clear R9
            obtain ⟨k, xs, rfl, rfl, k1, hI⟩ := hrel
            have I := Lib.hid hI
            clear hI
            obtain ⟨⟨t0, t1, t2⟩, tf0, tf1, tf2⟩ := I.out.p.cells
            by_cases hk : xs.length < ns.length
            · go_wp2_with fail
              refine (below_k 57 (by omega) (by omega) I.out.p.cur.here).mono ?_
              rintro e w9 ⟨p, rfl, p0, p1, hC⟩
              have I9 := Lib.hid (I.out.move hC)
              have p1 := p1 (by omega)
              have q := quo16 (int_num32 (8 + p) (by omega) (by omega))
              clear hC I t0 t1 t2 tf0 tf1 tf2
              go_upto_region 20 with fail
              go_cut [9, 83] (fun k s wr => k = .int .i64 (xs.length : Int) ∧ ∃ b, s = .bool b ∧ RI w0 ws wr g T (.slice A6 (us.length + 1) c6) (.slice A1 ns.length c1) (.slice A2 ls.length c2) u8 (us ++ [()]) ns ls xs (-50 + 300 * ((us ++ [()]).length : Nat) + 12 * (xs.length : Nat) + 8))
              case first =>
                by_cases h0 : xs.length = 0
                · go_wp2_with fail
                  refine (once_k 8 (by omega) (by omega) I9.out.p.cur.here).mono ?_
                  rintro e w10 ⟨r, rfl, hC⟩
                  have I10 := Lib.hid ((I9.out.move hC).mono (show _ ≤ (-50 + 300 * ((us ++ [()]).length : Nat) + 12 * (xs.length : Nat) + 8 : Int) by omega))
                  clear hC I9
                  go_wp2_with fail
                  all_goals go_meet
                  all_goals exact ⟨by first | rfl | (rw [h0]; rfl), _, rfl, I10.out⟩
                · have I10 := Lib.hid (I9.out.mono (show _ ≤ (-50 + 300 * ((us ++ [()]).length : Nat) + 12 * (xs.length : Nat) + 8 : Int) by omega))
                  clear I9
                  go_wp2_with fail
                  all_goals go_meet
                  all_goals exact ⟨by first | rfl | (rw [h0]; rfl), _, rfl, I10.out⟩
              case rest =>
                obtain ⟨rfl, b, rfl, hI⟩ := hcut
                have I10 := Lib.hid hI
                clear hI I9
                go_upto_if 83 with fail
                go_cut [10] (fun s wr => ∃ y, s = .float .f32 y ∧ wr = wc)
                case first =>
                  cases b
                  · go_wp2_with fail
                    go_meet
                    case rel => exact ⟨_, rfl, rfl⟩
                  · go_wp2_with fail
                    go_meet
                    case rel => exact ⟨_, rfl, rfl⟩
                case rest =>
                  obtain ⟨y, rfl, rfl⟩ := hcut
                  go_upto_if 85 with fail
                  go_cut [10] (fun s wr => ∃ y, s = .float .f32 y ∧ RI w0 ws wr g T (.slice A6 (us.length + 1) c6) (.slice A1 ns.length c1) (.slice A2 ls.length c2) u8 (us ++ [()]) ns ls xs (-50 + 300 * ((us ++ [()]).length : Nat) + 12 * (xs.length : Nat) + 12))
                  case first =>
                    have I11 := Lib.hid (I10.out.mono (show _ ≤ (-50 + 300 * ((us ++ [()]).length : Nat) + 12 * (xs.length : Nat) + 12 : Int) by omega))
                    go_wp2_with fail
                    · refine (below_k 40 (by omega) (by omega) I10.out.p.cur.here).mono ?_
                      rintro e w11 ⟨z, rfl, z0, z1, hC⟩
                      have z1 := z1 (by omega)
                      have I12 := Lib.hid ((I10.out.move hC).mono (show _ ≤ (-50 + 300 * ((us ++ [()]).length : Nat) + 12 * (xs.length : Nat) + 12 : Int) by omega))
                      have q2 := quo16 (int_num32 z (by omega) (by omega))
                      clear hC I10 I11
                      go_wp2_with fail
                      obtain ⟨t, w12, h1, h2⟩ := arith_any .add (Or.inl rfl) 35 y (fl .quo .f32 (floatOfInt .f32 z) 1098907648) w11
                      rw [h1]
                      dsimp only [Result.andThen]
                      have I13 := Lib.hid (I12.out.or h2)
                      clear h1 h2 I12
                      go_wp2_with fail
                      go_meet
                      case rel => exact ⟨_, rfl, I13.out⟩
                    · go_meet
                      case rel => exact ⟨_, rfl, I11.out⟩
                  case rest =>
                    obtain ⟨y, rfl, hI⟩ := hcut
                    have I11 := Lib.hid hI
                    clear hI I10
                    obtain ⟨Ar, cr, hvr⟩ := Kd.R_slice I11.out.r
                    subst hvr
                    go_wp2_with ((with_reducible refine gate_dst (N := 95) rfl ?_); refine Kd.R_append anyF (w0 := wc) ws.heap.size rfl (.tmp 92) (.tmp 94) 24 35 (.float .f32 0) 4 rfl Tryz.underlying24 f32_info rfl (by decide) (by omega) _ xs () [.float .f32 y] (fun k => some k ≠ Value.ownBlock (.slice A6 (us.length + 1) c6)) (fun _ => False) rfl rfl ?aP (fun _ hk => hk.elim) ?aF ?aO ?aB ?aS ?aL ?_; (case aP => exact ⟨y, rfl⟩); (case aF => exact I11.out.p.fresh); (case aO => exact I11.out.r); (case aB => exact Below.refl _ _); (case aS => exact I11.out.p.cur.keep.1); (case aL => omega); intro v8 w8 hR hb hg hat; obtain ⟨A8, c8, hv8⟩ := Kd.R_slice hR; rw [List.length_append, List.length_singleton] at hv8; subst hv8; have I12 := Lib.hid (I11.out.app hg hR hat); clear hR hb hg hat I11)
                    go_roundw
                    case rel => exact ⟨xs.length + 1, xs ++ [()], by go_num, by simp, by omega, I12.out.mono (by omega)⟩
                    case measure => simp [intOf]; omega
            · have hx : xs.length = ns.length := by omega
              have Hx := Lib.hid hx
              clear hx
              obtain ⟨Ar, cr, hvr⟩ := Kd.R_slice I.out.r
              subst hvr
              go_wp2_with ((with_reducible refine gate_dst (N := 100) rfl ?_); refine Kd.R_append shK (w0 := wr) ws.heap.size rfl (.tmp 97) (.tmp 99) 26 24 (.slice none 0 0) 24 rfl Tryz.underlying26 sl_info rfl (by decide) (by omega) _ ls xs.length [.slice Ar xs.length cr] (fun k => some k ≠ Value.ownBlock (.slice A6 (us.length + 1) c6)) (fun k => Value.ownBlock (.slice Ar xs.length cr) = some k) rfl rfl ?aP ?aK ?aF ?aO ?aB ?aS ?aL ?_; (case aP => exact I.out.member); (case aK => exact I.out.okp); (case aF => exact I.out.p.fresh); (case aO => exact I.out.p.r2); (case aB => exact Below.refl _ _); (case aS => exact I.out.p.cur.keep.1); (case aL => (have := H2.out; omega)); intro v8 w8 hR hb hg hat; obtain ⟨A8, c8, hv8⟩ := Kd.R_slice hR; rw [List.length_append, List.length_singleton] at hv8; subst hv8; obtain ⟨hI7, hT7⟩ := I.out.p.app2 hg hR; have I7 := Lib.hid hI7; have s1 := blk_cell hT7 2; have sf1 := blk_frozen hT7 2; clear hR hb hg hat hI7 hT7 I t0 t1 t2 tf0 tf1 tf2)
              refine (below_k 40 (by omega) (by omega) I7.out.cur.here).mono ?_
              rintro e w9 ⟨p, rfl, p0, p1, hC⟩
              have I9 := Lib.hid (I7.out.move hC)
              have p1 := p1 (by omega)
              have q := quo8 (int_num32 (1 + p) (by omega) (by omega))
              clear hC I7 s1 sf1
              go_wp2_with fail
              obtain ⟨t, w12, h1, h2⟩ := arith_any .add (Or.inl rfl) 35 x (fl .quo .f32 (floatOfInt .f32 (1 + p)) 1090519040) w9
              rw [h1]
              dsimp only [Result.andThen]
              have I13 := Lib.hid (I9.out.or h2)
              clear h1 h2 I9
              go_wp2_with fail
              go_roundw
              case rel => exact ⟨t, j, _, _, _, us ++ [()], ns, ls ++ [xs.length], rfl, by go_num, by simp; omega, by simp; omega, by have := H2.out; simp; omega, n1, n2, by
                            intro r hr
                            rcases List.mem_append.1 hr with h | h
                            · exact H3.out r h
                            · rw [List.mem_singleton.1 h]; exact Hx.out, I13.out.mono (by omega)⟩
              case measure => simp [intOf]
        · obtain rfl : j = 0 := by omega
          obtain ⟨A0, c0, A1, c1, A2, c2, rfl, rfl, rfl⟩ := I.out.slices
          obtain ⟨⟨t0, t1, t2⟩, tf0, tf1, tf2⟩ := I.out.cells
          have hgX : w.heap.size ≠ g := fun e => by have := C0.out.lt; omega
          have hXr := I.out.cur.keep.blk HX.out hgX (by simp)
          have x0 : wr.cell? ⟨w.heap.size, 0, none⟩ = some (.slice none 0 0) := blk_cell hXr 0
          have x1 : wr.cell? ⟨w.heap.size, 1, none⟩ = some (.slice none 0 0) := blk_cell hXr 1
          have x2 : wr.cell? ⟨w.heap.size, 2, none⟩ = some (.slice none 0 0) := blk_cell hXr 2
          have xf0 := blk_frozen hXr 0
          have xf1 := blk_frozen hXr 1
          have xf2 := blk_frozen hXr 2
          have HXr := Lib.hid hXr
          clear hXr
          have F := Lib.hid (I.out.fin HS.out C0.out.below.size HXr.out H2.out (by omega) (by omega) H3.out hgX.symm (.slice A0 us.length c0) (.slice A1 ns.length c1) (.slice A2 ls.length c2))
          go_wp2_with fail
          exact bodyPost_ret (v := .agg #[.slice A0 us.length c0, .slice A1 ns.length c1, .slice A2 ls.length c2]) (by simp [results, Tryz.results73, go_sem, x0, x1, x2]) rfl ⟨_, _, _, us, ns, ls, rfl, F.out.1.mono (by omega), F.out.2⟩
end Go.Proofs.YteaiaedhkhmgdaaGreat.Dp
