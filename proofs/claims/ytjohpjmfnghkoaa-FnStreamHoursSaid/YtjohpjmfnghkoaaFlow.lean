/- A station and a time, drawn. -/
import Derived.Test.YtjohpjmfnghkoaaTide
import Derived.Deep.RegionWith
namespace Go.Proofs.Ytjohpjmfnghkoaa.Fw
open Go.RowKit Kit Fl Bd Dw Td Hnd Go.Proofs.YtjohpjmfnghkoaaW.PrintWords Go.Proofs.YtjohpjmfnghkoaaW.PrintLast Go.Proofs.YtjohpjmfnghkoaaW.PrintMore PFnHighNearest
/-- the cells of a row of stations -/
theorem st_cells {w : World} {e base : Nat} {ok : Nat → Prop} {A : Option Addr} {n c : Nat} {sts : List Stn} (h : stKd.R e w base ok (.slice A n c) sts) (h1 : 1 ≤ sts.length) : ∃ (b : Nat) (s : Stn), A = some ⟨b, 0, none⟩ ∧ ∀ i, i < 14 → w.cell? ⟨b, i, none⟩ = s.cells[i]? := by
  obtain ⟨A', c', e1, hc, hC⟩ := Kd.R_reads h
  injection e1 with e1 e2 e3
  subst e1 e2 e3
  obtain ⟨ad, rfl, hcell⟩ := hC.2.2 (by omega)
  obtain ⟨b, rfl⟩ := Kd.R_head h
  obtain ⟨cs, hl, hK, hu⟩ := hcell 0 _ (List.getElem?_eq_getElem (by omega))
  have hK' : cs = (sts[0]'(by omega)).cells.toList := hK
  rw [hK'] at hu
  refine ⟨b, sts[0]'(by omega), rfl, fun i hi => ?_⟩
  have hs : i < (sts[0]'(by omega)).cells.toList.length := by rw [stn_len]; exact hi
  have := hu i _ (List.getElem?_eq_getElem hs)
  rw [Addr.add_lit] at this
  have e1 : 0 + (0 * stKd.sz + i) = i := by omega
  rw [e1] at this
  rw [this, Array.getElem?_eq_getElem (by simpa using hs)]
  simp
theorem stn_zero (x y : Nat) : (stn 0 0 (fun _ => (0, 0))).setIfInBounds 0 (.complex .f64 x y) = stn x y (fun _ => (0, 0)) := rfl
def pst (fs : Nat → Nat × Nat) (k : Nat) : Nat → Nat × Nat := fun i => if i < k then fs i else (0, 0)
theorem stn_pst0 (x y : Nat) (fs : Nat → Nat × Nat) : stn x y (fun _ => (0, 0)) = stn x y (pst fs 0) := rfl
theorem stn_pst (x y : Nat) (fs : Nat → Nat × Nat) (k : Nat) (hk : k < 13) : (stn x y (pst fs k)).setIfInBounds (k + 1) (.complex .f32 (fs k).1 (fs k).2) = stn x y (pst fs (k + 1)) := by
  rw [Nat.add_comm k 1, stn_set x y (pst fs k) k _ _ hk]
  congr 1
  funext i
  unfold upd pst
  by_cases h : i = k
  · subst h; rw [if_pos rfl, if_pos (by omega)]
  · rw [if_neg h]
    by_cases h2 : i < k
    · rw [if_pos h2, if_pos (by omega)]
    · rw [if_neg h2, if_neg (by omega)]
theorem stn_pst13 (x y : Nat) (fs : Nat → Nat × Nat) : stn x y (pst fs 13) = stn x y fs := rfl
theorem set14 {w w0 : World} {X x y : Nat} {fs : Nat → Nat × Nat} (h : w.heap[X]? = some (.cells (stn 0 0 (fun _ => (0, 0))) 32 (0, 0))) (hb : Below w0.heap.size w0 w) (hge : w0.heap.size ≤ X) :
    ((((((((((((((w.setCell ⟨X, 0, none⟩ (.complex .f64 x y)).setCell ⟨X, 1, none⟩ (.complex .f32 (fs 0).1 (fs 0).2)).setCell ⟨X, 2, none⟩ (.complex .f32 (fs 1).1 (fs 1).2)).setCell ⟨X, 3, none⟩ (.complex .f32 (fs 2).1 (fs 2).2)).setCell ⟨X, 4, none⟩ (.complex .f32 (fs 3).1 (fs 3).2)).setCell ⟨X, 5, none⟩ (.complex .f32 (fs 4).1 (fs 4).2)).setCell ⟨X, 6, none⟩ (.complex .f32 (fs 5).1 (fs 5).2)).setCell ⟨X, 7, none⟩ (.complex .f32 (fs 6).1 (fs 6).2)).setCell ⟨X, 8, none⟩ (.complex .f32 (fs 7).1 (fs 7).2)).setCell ⟨X, 9, none⟩ (.complex .f32 (fs 8).1 (fs 8).2)).setCell ⟨X, 10, none⟩ (.complex .f32 (fs 9).1 (fs 9).2)).setCell ⟨X, 11, none⟩ (.complex .f32 (fs 10).1 (fs 10).2)).setCell ⟨X, 12, none⟩ (.complex .f32 (fs 11).1 (fs 11).2)).setCell ⟨X, 13, none⟩ (.complex .f32 (fs 12).1 (fs 12).2)).heap[X]? = some (.cells (stn x y fs) 32 (0, 0)) ∧ Below w0.heap.size w0 ((((((((((((((w.setCell ⟨X, 0, none⟩ (.complex .f64 x y)).setCell ⟨X, 1, none⟩ (.complex .f32 (fs 0).1 (fs 0).2)).setCell ⟨X, 2, none⟩ (.complex .f32 (fs 1).1 (fs 1).2)).setCell ⟨X, 3, none⟩ (.complex .f32 (fs 2).1 (fs 2).2)).setCell ⟨X, 4, none⟩ (.complex .f32 (fs 3).1 (fs 3).2)).setCell ⟨X, 5, none⟩ (.complex .f32 (fs 4).1 (fs 4).2)).setCell ⟨X, 6, none⟩ (.complex .f32 (fs 5).1 (fs 5).2)).setCell ⟨X, 7, none⟩ (.complex .f32 (fs 6).1 (fs 6).2)).setCell ⟨X, 8, none⟩ (.complex .f32 (fs 7).1 (fs 7).2)).setCell ⟨X, 9, none⟩ (.complex .f32 (fs 8).1 (fs 8).2)).setCell ⟨X, 10, none⟩ (.complex .f32 (fs 9).1 (fs 9).2)).setCell ⟨X, 11, none⟩ (.complex .f32 (fs 10).1 (fs 10).2)).setCell ⟨X, 12, none⟩ (.complex .f32 (fs 11).1 (fs 11).2)).setCell ⟨X, 13, none⟩ (.complex .f32 (fs 12).1 (fs 12).2)) := by
  refine ⟨?_, ?_⟩
  · exact (blk_put (blk_put (blk_put (blk_put (blk_put (blk_put (blk_put (blk_put (blk_put (blk_put (blk_put (blk_put (blk_put (blk_put h 0 (.complex .f64 x y) ((stn_zero x y).trans (stn_pst0 x y fs))) 1 (.complex .f32 (fs 0).1 (fs 0).2) (stn_pst x y fs 0 (by decide))) 2 (.complex .f32 (fs 1).1 (fs 1).2) (stn_pst x y fs 1 (by decide))) 3 (.complex .f32 (fs 2).1 (fs 2).2) (stn_pst x y fs 2 (by decide))) 4 (.complex .f32 (fs 3).1 (fs 3).2) (stn_pst x y fs 3 (by decide))) 5 (.complex .f32 (fs 4).1 (fs 4).2) (stn_pst x y fs 4 (by decide))) 6 (.complex .f32 (fs 5).1 (fs 5).2) (stn_pst x y fs 5 (by decide))) 7 (.complex .f32 (fs 6).1 (fs 6).2) (stn_pst x y fs 6 (by decide))) 8 (.complex .f32 (fs 7).1 (fs 7).2) (stn_pst x y fs 7 (by decide))) 9 (.complex .f32 (fs 8).1 (fs 8).2) (stn_pst x y fs 8 (by decide))) 10 (.complex .f32 (fs 9).1 (fs 9).2) (stn_pst x y fs 9 (by decide))) 11 (.complex .f32 (fs 10).1 (fs 10).2) (stn_pst x y fs 10 (by decide))) 12 (.complex .f32 (fs 11).1 (fs 11).2) (stn_pst x y fs 11 (by decide))) 13 (.complex .f32 (fs 12).1 (fs 12).2) (stn_pst x y fs 12 (by decide))).trans (by rw [stn_pst13])
  · exact (((((((((((((hb.setCell hge _).setCell hge _).setCell hge _).setCell hge _).setCell hge _).setCell hge _).setCell hge _).setCell hge _).setCell hge _).setCell hge _).setCell hge _).setCell hge _).setCell hge _).setCell hge _
/-- what stands at the end: the result's box holds the station, its other slot a number -/
def Fin (w0 : World) (X x y : Nat) (fs : Nat → Nat × Nat) (a : Act) (w : World) : Prop := (∃ n : Int, a.tmps.getD 3 undef = .int .i64 n) ∧ a.tmps.getD 2 undef = .pointer (some ⟨X, 0, none⟩) ∧ a.defers = [] ∧ w.heap[X]? = some (.cells (stn x y fs) 32 (0, 0)) ∧ Below w0.heap.size w0 w
theorem fin_of {w w0 : World} {X x y : Nat} {fs : Nat → Nat × Nat} {a : Act} (h : w.heap[X]? = some (.cells (stn 0 0 (fun _ => (0, 0))) 32 (0, 0))) (hb : Below w0.heap.size w0 w) (hge : w0.heap.size ≤ X)
    {n : Int} (h2 : a.tmps.getD 2 undef = .pointer (some ⟨X, 0, none⟩)) (h3 : a.tmps.getD 3 undef = .int .i64 n) (hd : a.defers = []) : Fin w0 X x y fs a ((((((((((((((w.setCell ⟨X, 0, none⟩ (.complex .f64 x y)).setCell ⟨X, 1, none⟩ (.complex .f32 (fs 0).1 (fs 0).2)).setCell ⟨X, 2, none⟩ (.complex .f32 (fs 1).1 (fs 1).2)).setCell ⟨X, 3, none⟩ (.complex .f32 (fs 2).1 (fs 2).2)).setCell ⟨X, 4, none⟩ (.complex .f32 (fs 3).1 (fs 3).2)).setCell ⟨X, 5, none⟩ (.complex .f32 (fs 4).1 (fs 4).2)).setCell ⟨X, 6, none⟩ (.complex .f32 (fs 5).1 (fs 5).2)).setCell ⟨X, 7, none⟩ (.complex .f32 (fs 6).1 (fs 6).2)).setCell ⟨X, 8, none⟩ (.complex .f32 (fs 7).1 (fs 7).2)).setCell ⟨X, 9, none⟩ (.complex .f32 (fs 8).1 (fs 8).2)).setCell ⟨X, 10, none⟩ (.complex .f32 (fs 9).1 (fs 9).2)).setCell ⟨X, 11, none⟩ (.complex .f32 (fs 10).1 (fs 10).2)).setCell ⟨X, 12, none⟩ (.complex .f32 (fs 11).1 (fs 11).2)).setCell ⟨X, 13, none⟩ (.complex .f32 (fs 12).1 (fs 12).2)) := by
  obtain ⟨h4, h5⟩ := set14 (x := x) (y := y) (fs := fs) h hb hge
  exact ⟨⟨n, h3⟩, h2, hd, h4, h5⟩
theorem fin_ret {w w0 : World} {X x y : Nat} {fs : Nat → Nat × Nat} {a : Act} (h : Fin w0 X x y fs a w) :
    bodyPost Try.prog Try.f12 (fun e w' => ∃ (x y : Nat) (fs : Nat → Nat × Nat) (t : Int), e = .returned (.tuple #[.agg (stn x y fs), .int .i64 t]) ∧ Below w0.heap.size w0 w') Exit.ret a w := by
  obtain ⟨⟨n, h3⟩, h2, hd, h4, h5⟩ := h
  have d0 : w.cell? ⟨X, 0, none⟩ = some (.complex .f64 x y) := (blk_cell h4 0)
  have d1 : w.cell? ⟨X, 1, none⟩ = some (.complex .f32 (fs 0).1 (fs 0).2) := (blk_cell h4 1)
  have d2 : w.cell? ⟨X, 2, none⟩ = some (.complex .f32 (fs 1).1 (fs 1).2) := (blk_cell h4 2)
  have d3 : w.cell? ⟨X, 3, none⟩ = some (.complex .f32 (fs 2).1 (fs 2).2) := (blk_cell h4 3)
  have d4 : w.cell? ⟨X, 4, none⟩ = some (.complex .f32 (fs 3).1 (fs 3).2) := (blk_cell h4 4)
  have d5 : w.cell? ⟨X, 5, none⟩ = some (.complex .f32 (fs 4).1 (fs 4).2) := (blk_cell h4 5)
  have d6 : w.cell? ⟨X, 6, none⟩ = some (.complex .f32 (fs 5).1 (fs 5).2) := (blk_cell h4 6)
  have d7 : w.cell? ⟨X, 7, none⟩ = some (.complex .f32 (fs 6).1 (fs 6).2) := (blk_cell h4 7)
  have d8 : w.cell? ⟨X, 8, none⟩ = some (.complex .f32 (fs 7).1 (fs 7).2) := (blk_cell h4 8)
  have d9 : w.cell? ⟨X, 9, none⟩ = some (.complex .f32 (fs 8).1 (fs 8).2) := (blk_cell h4 9)
  have d10 : w.cell? ⟨X, 10, none⟩ = some (.complex .f32 (fs 9).1 (fs 9).2) := (blk_cell h4 10)
  have d11 : w.cell? ⟨X, 11, none⟩ = some (.complex .f32 (fs 10).1 (fs 10).2) := (blk_cell h4 11)
  have d12 : w.cell? ⟨X, 12, none⟩ = some (.complex .f32 (fs 11).1 (fs 11).2) := (blk_cell h4 12)
  have d13 : w.cell? ⟨X, 13, none⟩ = some (.complex .f32 (fs 12).1 (fs 12).2) := (blk_cell h4 13)
  have h2' : a.tmps[2]?.getD undef = .pointer (some ⟨X, 0, none⟩) := by simpa using h2
  have h3' : a.tmps[3]?.getD undef = .int .i64 n := by simpa using h3
  clear h2 h3 h4
  refine bodyPost_ret (v := .tuple #[.agg (stn x y fs), .int .i64 n]) (by unfold stn; simp [results, Try.results12, go_sem, *]) hd ⟨x, y, fs, n, rfl, h5⟩
def Ends (w0 : World) (X x y : Nat) (fs : Nat → Nat × Nat) : Exit → Act → World → Prop
  | .normal, a, w => Fin w0 X x y fs a w
  | _, _, _ => False
/-- the region with a number, out of a text -/
def findRegion (n : Nat) : Code → Option Code
  | .region k ops b => if k = n then some (.region k ops b) else none
  | .seq a b => (findRegion n a).or (findRegion n b)
  | .loop c => findRegion n c
  | .block _ c => findRegion n c
  | .scope c => findRegion n c
  | .cond _ a b => (findRegion n a).or (findRegion n b)
  | _ => none
noncomputable def reg (n : Nat) : Code := (((Try.f12).body.bind (findRegion n))).getD .skip
set_option maxRecDepth 100000 in
set_option maxHeartbeats 2000000 in
theorem region8 {w0 wa w5 : World} {g B X x y : Nat} {fs : Nat → Nat × Nat} (C : Cur2 w0 wa w5 g 1800) (hB : w5.heap[B]? = some (.cells (stn x y fs) 32 (0, 0))) (hX : wa.heap[X]? = some (.cells (stn 0 0 (fun _ => (0, 0))) 32 (0, 0))) (hXG : X ≠ g) (hge : w0.heap.size ≤ X) (s0 s1 s3 s5 s7 s8 s9 s10 s11 s12 s13 s14 s15 s16 s17 s18 s19 s20 s21 s22 s23 s24 s25 s26 s27 s28 s29 s30 s31 s32 s33 s34 s35 s36 s37 s38 s39 s40 s41 : Value) : Code.wp Try.prog (reg 8) (Ends w0 X x y fs) ⟨#[s0, s1, .pointer (some ⟨X, 0, none⟩), s3, .pointer (some ⟨g, 0, none⟩), s5, .pointer (some ⟨B, 0, none⟩), s7, s8, s9, s10, s11, s12, s13, s14, s15, s16, s17, s18, s19, s20, s21, s22, s23, s24, s25, s26, s27, s28, s29, s30, s31, s32, s33, s34, s35, s36, s37, s38, s39, s40, s41], []⟩ w5 := by
  have HB5 := Lib.hid hB
  have HX := Lib.hid hX
  have HXG := Lib.hid hXG
  have HBG := Lib.hid (show B ≠ g by
    obtain ⟨cs, e⟩ := C.blk
    exact blk_ne hB e (by decide))
  have hX5 := C.keep.blk hX hXG (by simp)
  have b0 : w5.cell? ⟨B, 0, none⟩ = some (.complex .f64 x y) := (blk_cell hB 0)
  have b1 : w5.cell? ⟨B, 1, none⟩ = some (.complex .f32 (fs 0).1 (fs 0).2) := (blk_cell hB 1)
  have b2 : w5.cell? ⟨B, 2, none⟩ = some (.complex .f32 (fs 1).1 (fs 1).2) := (blk_cell hB 2)
  have b3 : w5.cell? ⟨B, 3, none⟩ = some (.complex .f32 (fs 2).1 (fs 2).2) := (blk_cell hB 3)
  have b4 : w5.cell? ⟨B, 4, none⟩ = some (.complex .f32 (fs 3).1 (fs 3).2) := (blk_cell hB 4)
  have b5 : w5.cell? ⟨B, 5, none⟩ = some (.complex .f32 (fs 4).1 (fs 4).2) := (blk_cell hB 5)
  have b6 : w5.cell? ⟨B, 6, none⟩ = some (.complex .f32 (fs 5).1 (fs 5).2) := (blk_cell hB 6)
  have b7 : w5.cell? ⟨B, 7, none⟩ = some (.complex .f32 (fs 6).1 (fs 6).2) := (blk_cell hB 7)
  have b8 : w5.cell? ⟨B, 8, none⟩ = some (.complex .f32 (fs 7).1 (fs 7).2) := (blk_cell hB 8)
  have b9 : w5.cell? ⟨B, 9, none⟩ = some (.complex .f32 (fs 8).1 (fs 8).2) := (blk_cell hB 9)
  have b10 : w5.cell? ⟨B, 10, none⟩ = some (.complex .f32 (fs 9).1 (fs 9).2) := (blk_cell hB 10)
  have b11 : w5.cell? ⟨B, 11, none⟩ = some (.complex .f32 (fs 10).1 (fs 10).2) := (blk_cell hB 11)
  have b12 : w5.cell? ⟨B, 12, none⟩ = some (.complex .f32 (fs 11).1 (fs 11).2) := (blk_cell hB 12)
  have b13 : w5.cell? ⟨B, 13, none⟩ = some (.complex .f32 (fs 12).1 (fs 12).2) := (blk_cell hB 13)
  have x0 : w5.cell? ⟨X, 0, none⟩ = some (.complex .f64 0 0) := (blk_cell hX5 0)
  have xf0 := blk_frozen hX5 0
  have x1 : w5.cell? ⟨X, 1, none⟩ = some (.complex .f32 0 0) := (blk_cell hX5 1)
  have xf1 := blk_frozen hX5 1
  have x2 : w5.cell? ⟨X, 2, none⟩ = some (.complex .f32 0 0) := (blk_cell hX5 2)
  have xf2 := blk_frozen hX5 2
  have x3 : w5.cell? ⟨X, 3, none⟩ = some (.complex .f32 0 0) := (blk_cell hX5 3)
  have xf3 := blk_frozen hX5 3
  have x4 : w5.cell? ⟨X, 4, none⟩ = some (.complex .f32 0 0) := (blk_cell hX5 4)
  have xf4 := blk_frozen hX5 4
  have x5 : w5.cell? ⟨X, 5, none⟩ = some (.complex .f32 0 0) := (blk_cell hX5 5)
  have xf5 := blk_frozen hX5 5
  have x6 : w5.cell? ⟨X, 6, none⟩ = some (.complex .f32 0 0) := (blk_cell hX5 6)
  have xf6 := blk_frozen hX5 6
  have x7 : w5.cell? ⟨X, 7, none⟩ = some (.complex .f32 0 0) := (blk_cell hX5 7)
  have xf7 := blk_frozen hX5 7
  have x8 : w5.cell? ⟨X, 8, none⟩ = some (.complex .f32 0 0) := (blk_cell hX5 8)
  have xf8 := blk_frozen hX5 8
  have x9 : w5.cell? ⟨X, 9, none⟩ = some (.complex .f32 0 0) := (blk_cell hX5 9)
  have xf9 := blk_frozen hX5 9
  have x10 : w5.cell? ⟨X, 10, none⟩ = some (.complex .f32 0 0) := (blk_cell hX5 10)
  have xf10 := blk_frozen hX5 10
  have x11 : w5.cell? ⟨X, 11, none⟩ = some (.complex .f32 0 0) := (blk_cell hX5 11)
  have xf11 := blk_frozen hX5 11
  have x12 : w5.cell? ⟨X, 12, none⟩ = some (.complex .f32 0 0) := (blk_cell hX5 12)
  have xf12 := blk_frozen hX5 12
  have x13 : w5.cell? ⟨X, 13, none⟩ = some (.complex .f32 0 0) := (blk_cell hX5 13)
  have xf13 := blk_frozen hX5 13
  clear hB hX5 hX hXG
  conv => arg 2; whnf
  go_region_with (first | (go_at_call 34; refine (below_k 15 (by omega) (by omega) C.drew.here).mono ?_; rintro e w6 ⟨q, rfl, q0, q1, hC6⟩; have C6 := Lib.hid (C.drew.trans hC6); have hB6 := hC6.keep.blk (show w5.drew.heap[B]? = _ from HB5.out) HBG.out (by simp); have hX6 := C6.out.keep.blk HX.out HXG.out (by simp); have HX6 := Lib.hid hX6; have b0 : w6.cell? ⟨B, 0, none⟩ = some (.complex .f64 x y) := (blk_cell hB6 0); have b1 : w6.cell? ⟨B, 1, none⟩ = some (.complex .f32 (fs 0).1 (fs 0).2) := (blk_cell hB6 1); have b2 : w6.cell? ⟨B, 2, none⟩ = some (.complex .f32 (fs 1).1 (fs 1).2) := (blk_cell hB6 2); have b3 : w6.cell? ⟨B, 3, none⟩ = some (.complex .f32 (fs 2).1 (fs 2).2) := (blk_cell hB6 3); have b4 : w6.cell? ⟨B, 4, none⟩ = some (.complex .f32 (fs 3).1 (fs 3).2) := (blk_cell hB6 4); have b5 : w6.cell? ⟨B, 5, none⟩ = some (.complex .f32 (fs 4).1 (fs 4).2) := (blk_cell hB6 5); have b6 : w6.cell? ⟨B, 6, none⟩ = some (.complex .f32 (fs 5).1 (fs 5).2) := (blk_cell hB6 6); have b7 : w6.cell? ⟨B, 7, none⟩ = some (.complex .f32 (fs 6).1 (fs 6).2) := (blk_cell hB6 7); have b8 : w6.cell? ⟨B, 8, none⟩ = some (.complex .f32 (fs 7).1 (fs 7).2) := (blk_cell hB6 8); have b9 : w6.cell? ⟨B, 9, none⟩ = some (.complex .f32 (fs 8).1 (fs 8).2) := (blk_cell hB6 9); have b10 : w6.cell? ⟨B, 10, none⟩ = some (.complex .f32 (fs 9).1 (fs 9).2) := (blk_cell hB6 10); have b11 : w6.cell? ⟨B, 11, none⟩ = some (.complex .f32 (fs 10).1 (fs 10).2) := (blk_cell hB6 11); have b12 : w6.cell? ⟨B, 12, none⟩ = some (.complex .f32 (fs 11).1 (fs 11).2) := (blk_cell hB6 12); have b13 : w6.cell? ⟨B, 13, none⟩ = some (.complex .f32 (fs 12).1 (fs 12).2) := (blk_cell hB6 13); have x0 : w6.cell? ⟨X, 0, none⟩ = some (.complex .f64 0 0) := (blk_cell hX6 0); have xf0 := blk_frozen hX6 0; have x1 : w6.cell? ⟨X, 1, none⟩ = some (.complex .f32 0 0) := (blk_cell hX6 1); have xf1 := blk_frozen hX6 1; have x2 : w6.cell? ⟨X, 2, none⟩ = some (.complex .f32 0 0) := (blk_cell hX6 2); have xf2 := blk_frozen hX6 2; have x3 : w6.cell? ⟨X, 3, none⟩ = some (.complex .f32 0 0) := (blk_cell hX6 3); have xf3 := blk_frozen hX6 3; have x4 : w6.cell? ⟨X, 4, none⟩ = some (.complex .f32 0 0) := (blk_cell hX6 4); have xf4 := blk_frozen hX6 4; have x5 : w6.cell? ⟨X, 5, none⟩ = some (.complex .f32 0 0) := (blk_cell hX6 5); have xf5 := blk_frozen hX6 5; have x6 : w6.cell? ⟨X, 6, none⟩ = some (.complex .f32 0 0) := (blk_cell hX6 6); have xf6 := blk_frozen hX6 6; have x7 : w6.cell? ⟨X, 7, none⟩ = some (.complex .f32 0 0) := (blk_cell hX6 7); have xf7 := blk_frozen hX6 7; have x8 : w6.cell? ⟨X, 8, none⟩ = some (.complex .f32 0 0) := (blk_cell hX6 8); have xf8 := blk_frozen hX6 8; have x9 : w6.cell? ⟨X, 9, none⟩ = some (.complex .f32 0 0) := (blk_cell hX6 9); have xf9 := blk_frozen hX6 9; have x10 : w6.cell? ⟨X, 10, none⟩ = some (.complex .f32 0 0) := (blk_cell hX6 10); have xf10 := blk_frozen hX6 10; have x11 : w6.cell? ⟨X, 11, none⟩ = some (.complex .f32 0 0) := (blk_cell hX6 11); have xf11 := blk_frozen hX6 11; have x12 : w6.cell? ⟨X, 12, none⟩ = some (.complex .f32 0 0) := (blk_cell hX6 12); have xf12 := blk_frozen hX6 12; have x13 : w6.cell? ⟨X, 13, none⟩ = some (.complex .f32 0 0) := (blk_cell hX6 13); have xf13 := blk_frozen hX6 13; clear hB6 hX6 hC6))
  all_goals exact fin_of HX6.out C6.out.below hge rfl rfl rfl
set_option maxRecDepth 100000 in
set_option maxHeartbeats 2000000 in
theorem region10 {w0 wa w5 : World} {g B X x y : Nat} {fs : Nat → Nat × Nat} (C : Cur2 w0 wa w5 g 1800) (hB : w5.heap[B]? = some (.cells (stn x y fs) 32 (0, 0))) (hX : wa.heap[X]? = some (.cells (stn 0 0 (fun _ => (0, 0))) 32 (0, 0))) (hXG : X ≠ g) (hge : w0.heap.size ≤ X) (s0 s1 s3 s5 s7 s8 s9 s10 s11 s12 s13 s14 s15 s16 s17 s18 s19 s20 s21 s22 s23 s24 s25 s26 s27 s28 s29 s30 s31 s32 s33 s34 s35 s36 s37 s38 s39 s40 s41 : Value) : Code.wp Try.prog (reg 10) (Ends w0 X x y fs) ⟨#[s0, s1, .pointer (some ⟨X, 0, none⟩), s3, .pointer (some ⟨g, 0, none⟩), s5, .pointer (some ⟨B, 0, none⟩), s7, s8, s9, s10, s11, s12, s13, s14, s15, s16, s17, s18, s19, s20, s21, s22, s23, s24, s25, s26, s27, s28, s29, s30, s31, s32, s33, s34, s35, s36, s37, s38, s39, s40, s41], []⟩ w5 := by
  have HB5 := Lib.hid hB
  have HX := Lib.hid hX
  have HXG := Lib.hid hXG
  have HBG := Lib.hid (show B ≠ g by
    obtain ⟨cs, e⟩ := C.blk
    exact blk_ne hB e (by decide))
  have hX5 := C.keep.blk hX hXG (by simp)
  have b0 : w5.cell? ⟨B, 0, none⟩ = some (.complex .f64 x y) := (blk_cell hB 0)
  have b1 : w5.cell? ⟨B, 1, none⟩ = some (.complex .f32 (fs 0).1 (fs 0).2) := (blk_cell hB 1)
  have b2 : w5.cell? ⟨B, 2, none⟩ = some (.complex .f32 (fs 1).1 (fs 1).2) := (blk_cell hB 2)
  have b3 : w5.cell? ⟨B, 3, none⟩ = some (.complex .f32 (fs 2).1 (fs 2).2) := (blk_cell hB 3)
  have b4 : w5.cell? ⟨B, 4, none⟩ = some (.complex .f32 (fs 3).1 (fs 3).2) := (blk_cell hB 4)
  have b5 : w5.cell? ⟨B, 5, none⟩ = some (.complex .f32 (fs 4).1 (fs 4).2) := (blk_cell hB 5)
  have b6 : w5.cell? ⟨B, 6, none⟩ = some (.complex .f32 (fs 5).1 (fs 5).2) := (blk_cell hB 6)
  have b7 : w5.cell? ⟨B, 7, none⟩ = some (.complex .f32 (fs 6).1 (fs 6).2) := (blk_cell hB 7)
  have b8 : w5.cell? ⟨B, 8, none⟩ = some (.complex .f32 (fs 7).1 (fs 7).2) := (blk_cell hB 8)
  have b9 : w5.cell? ⟨B, 9, none⟩ = some (.complex .f32 (fs 8).1 (fs 8).2) := (blk_cell hB 9)
  have b10 : w5.cell? ⟨B, 10, none⟩ = some (.complex .f32 (fs 9).1 (fs 9).2) := (blk_cell hB 10)
  have b11 : w5.cell? ⟨B, 11, none⟩ = some (.complex .f32 (fs 10).1 (fs 10).2) := (blk_cell hB 11)
  have b12 : w5.cell? ⟨B, 12, none⟩ = some (.complex .f32 (fs 11).1 (fs 11).2) := (blk_cell hB 12)
  have b13 : w5.cell? ⟨B, 13, none⟩ = some (.complex .f32 (fs 12).1 (fs 12).2) := (blk_cell hB 13)
  have x0 : w5.cell? ⟨X, 0, none⟩ = some (.complex .f64 0 0) := (blk_cell hX5 0)
  have xf0 := blk_frozen hX5 0
  have x1 : w5.cell? ⟨X, 1, none⟩ = some (.complex .f32 0 0) := (blk_cell hX5 1)
  have xf1 := blk_frozen hX5 1
  have x2 : w5.cell? ⟨X, 2, none⟩ = some (.complex .f32 0 0) := (blk_cell hX5 2)
  have xf2 := blk_frozen hX5 2
  have x3 : w5.cell? ⟨X, 3, none⟩ = some (.complex .f32 0 0) := (blk_cell hX5 3)
  have xf3 := blk_frozen hX5 3
  have x4 : w5.cell? ⟨X, 4, none⟩ = some (.complex .f32 0 0) := (blk_cell hX5 4)
  have xf4 := blk_frozen hX5 4
  have x5 : w5.cell? ⟨X, 5, none⟩ = some (.complex .f32 0 0) := (blk_cell hX5 5)
  have xf5 := blk_frozen hX5 5
  have x6 : w5.cell? ⟨X, 6, none⟩ = some (.complex .f32 0 0) := (blk_cell hX5 6)
  have xf6 := blk_frozen hX5 6
  have x7 : w5.cell? ⟨X, 7, none⟩ = some (.complex .f32 0 0) := (blk_cell hX5 7)
  have xf7 := blk_frozen hX5 7
  have x8 : w5.cell? ⟨X, 8, none⟩ = some (.complex .f32 0 0) := (blk_cell hX5 8)
  have xf8 := blk_frozen hX5 8
  have x9 : w5.cell? ⟨X, 9, none⟩ = some (.complex .f32 0 0) := (blk_cell hX5 9)
  have xf9 := blk_frozen hX5 9
  have x10 : w5.cell? ⟨X, 10, none⟩ = some (.complex .f32 0 0) := (blk_cell hX5 10)
  have xf10 := blk_frozen hX5 10
  have x11 : w5.cell? ⟨X, 11, none⟩ = some (.complex .f32 0 0) := (blk_cell hX5 11)
  have xf11 := blk_frozen hX5 11
  have x12 : w5.cell? ⟨X, 12, none⟩ = some (.complex .f32 0 0) := (blk_cell hX5 12)
  have xf12 := blk_frozen hX5 12
  have x13 : w5.cell? ⟨X, 13, none⟩ = some (.complex .f32 0 0) := (blk_cell hX5 13)
  have xf13 := blk_frozen hX5 13
  clear hB hX5 hX hXG
  conv => arg 2; whnf
  go_region_with (first | (go_at_call 35; refine (number_k (by omega) C.drew.here).mono ?_; rintro e w6 ⟨q, rfl, hC6⟩; have C6 := Lib.hid (C.drew.trans hC6); have hB6 := hC6.keep.blk (show w5.drew.heap[B]? = _ from HB5.out) HBG.out (by simp); have hX6 := C6.out.keep.blk HX.out HXG.out (by simp); have HX6 := Lib.hid hX6; have b0 : w6.cell? ⟨B, 0, none⟩ = some (.complex .f64 x y) := (blk_cell hB6 0); have b1 : w6.cell? ⟨B, 1, none⟩ = some (.complex .f32 (fs 0).1 (fs 0).2) := (blk_cell hB6 1); have b2 : w6.cell? ⟨B, 2, none⟩ = some (.complex .f32 (fs 1).1 (fs 1).2) := (blk_cell hB6 2); have b3 : w6.cell? ⟨B, 3, none⟩ = some (.complex .f32 (fs 2).1 (fs 2).2) := (blk_cell hB6 3); have b4 : w6.cell? ⟨B, 4, none⟩ = some (.complex .f32 (fs 3).1 (fs 3).2) := (blk_cell hB6 4); have b5 : w6.cell? ⟨B, 5, none⟩ = some (.complex .f32 (fs 4).1 (fs 4).2) := (blk_cell hB6 5); have b6 : w6.cell? ⟨B, 6, none⟩ = some (.complex .f32 (fs 5).1 (fs 5).2) := (blk_cell hB6 6); have b7 : w6.cell? ⟨B, 7, none⟩ = some (.complex .f32 (fs 6).1 (fs 6).2) := (blk_cell hB6 7); have b8 : w6.cell? ⟨B, 8, none⟩ = some (.complex .f32 (fs 7).1 (fs 7).2) := (blk_cell hB6 8); have b9 : w6.cell? ⟨B, 9, none⟩ = some (.complex .f32 (fs 8).1 (fs 8).2) := (blk_cell hB6 9); have b10 : w6.cell? ⟨B, 10, none⟩ = some (.complex .f32 (fs 9).1 (fs 9).2) := (blk_cell hB6 10); have b11 : w6.cell? ⟨B, 11, none⟩ = some (.complex .f32 (fs 10).1 (fs 10).2) := (blk_cell hB6 11); have b12 : w6.cell? ⟨B, 12, none⟩ = some (.complex .f32 (fs 11).1 (fs 11).2) := (blk_cell hB6 12); have b13 : w6.cell? ⟨B, 13, none⟩ = some (.complex .f32 (fs 12).1 (fs 12).2) := (blk_cell hB6 13); have x0 : w6.cell? ⟨X, 0, none⟩ = some (.complex .f64 0 0) := (blk_cell hX6 0); have xf0 := blk_frozen hX6 0; have x1 : w6.cell? ⟨X, 1, none⟩ = some (.complex .f32 0 0) := (blk_cell hX6 1); have xf1 := blk_frozen hX6 1; have x2 : w6.cell? ⟨X, 2, none⟩ = some (.complex .f32 0 0) := (blk_cell hX6 2); have xf2 := blk_frozen hX6 2; have x3 : w6.cell? ⟨X, 3, none⟩ = some (.complex .f32 0 0) := (blk_cell hX6 3); have xf3 := blk_frozen hX6 3; have x4 : w6.cell? ⟨X, 4, none⟩ = some (.complex .f32 0 0) := (blk_cell hX6 4); have xf4 := blk_frozen hX6 4; have x5 : w6.cell? ⟨X, 5, none⟩ = some (.complex .f32 0 0) := (blk_cell hX6 5); have xf5 := blk_frozen hX6 5; have x6 : w6.cell? ⟨X, 6, none⟩ = some (.complex .f32 0 0) := (blk_cell hX6 6); have xf6 := blk_frozen hX6 6; have x7 : w6.cell? ⟨X, 7, none⟩ = some (.complex .f32 0 0) := (blk_cell hX6 7); have xf7 := blk_frozen hX6 7; have x8 : w6.cell? ⟨X, 8, none⟩ = some (.complex .f32 0 0) := (blk_cell hX6 8); have xf8 := blk_frozen hX6 8; have x9 : w6.cell? ⟨X, 9, none⟩ = some (.complex .f32 0 0) := (blk_cell hX6 9); have xf9 := blk_frozen hX6 9; have x10 : w6.cell? ⟨X, 10, none⟩ = some (.complex .f32 0 0) := (blk_cell hX6 10); have xf10 := blk_frozen hX6 10; have x11 : w6.cell? ⟨X, 11, none⟩ = some (.complex .f32 0 0) := (blk_cell hX6 11); have xf11 := blk_frozen hX6 11; have x12 : w6.cell? ⟨X, 12, none⟩ = some (.complex .f32 0 0) := (blk_cell hX6 12); have xf12 := blk_frozen hX6 12; have x13 : w6.cell? ⟨X, 13, none⟩ = some (.complex .f32 0 0) := (blk_cell hX6 13); have xf13 := blk_frozen hX6 13; clear hB6 hX6 hC6))
  all_goals exact fin_of HX6.out C6.out.below hge rfl rfl rfl
set_option maxRecDepth 100000 in
set_option maxHeartbeats 2000000 in
theorem region11 {w0 wa w5 : World} {g B X x y : Nat} {fs : Nat → Nat × Nat} (C : Cur2 w0 wa w5 g 1800) (hB : w5.heap[B]? = some (.cells (stn x y fs) 32 (0, 0))) (hX : wa.heap[X]? = some (.cells (stn 0 0 (fun _ => (0, 0))) 32 (0, 0))) (hXG : X ≠ g) (hge : w0.heap.size ≤ X) (s0 s1 s3 s5 s7 s8 s9 s10 s11 s12 s13 s14 s15 s16 s17 s18 s19 s20 s21 s22 s23 s24 s25 s26 s27 s28 s29 s30 s31 s32 s33 s34 s35 s36 s37 s38 s39 s40 s41 : Value) : Code.wp Try.prog (reg 11) (Ends w0 X x y fs) ⟨#[s0, s1, .pointer (some ⟨X, 0, none⟩), s3, .pointer (some ⟨g, 0, none⟩), s5, .pointer (some ⟨B, 0, none⟩), s7, s8, s9, s10, s11, s12, s13, s14, s15, s16, s17, s18, s19, s20, s21, s22, s23, s24, s25, s26, s27, s28, s29, s30, s31, s32, s33, s34, s35, s36, s37, s38, s39, s40, s41], []⟩ w5 := by
  have HB5 := Lib.hid hB
  have HX := Lib.hid hX
  have HXG := Lib.hid hXG
  have HBG := Lib.hid (show B ≠ g by
    obtain ⟨cs, e⟩ := C.blk
    exact blk_ne hB e (by decide))
  have hX5 := C.keep.blk hX hXG (by simp)
  have b0 : w5.cell? ⟨B, 0, none⟩ = some (.complex .f64 x y) := (blk_cell hB 0)
  have b1 : w5.cell? ⟨B, 1, none⟩ = some (.complex .f32 (fs 0).1 (fs 0).2) := (blk_cell hB 1)
  have b2 : w5.cell? ⟨B, 2, none⟩ = some (.complex .f32 (fs 1).1 (fs 1).2) := (blk_cell hB 2)
  have b3 : w5.cell? ⟨B, 3, none⟩ = some (.complex .f32 (fs 2).1 (fs 2).2) := (blk_cell hB 3)
  have b4 : w5.cell? ⟨B, 4, none⟩ = some (.complex .f32 (fs 3).1 (fs 3).2) := (blk_cell hB 4)
  have b5 : w5.cell? ⟨B, 5, none⟩ = some (.complex .f32 (fs 4).1 (fs 4).2) := (blk_cell hB 5)
  have b6 : w5.cell? ⟨B, 6, none⟩ = some (.complex .f32 (fs 5).1 (fs 5).2) := (blk_cell hB 6)
  have b7 : w5.cell? ⟨B, 7, none⟩ = some (.complex .f32 (fs 6).1 (fs 6).2) := (blk_cell hB 7)
  have b8 : w5.cell? ⟨B, 8, none⟩ = some (.complex .f32 (fs 7).1 (fs 7).2) := (blk_cell hB 8)
  have b9 : w5.cell? ⟨B, 9, none⟩ = some (.complex .f32 (fs 8).1 (fs 8).2) := (blk_cell hB 9)
  have b10 : w5.cell? ⟨B, 10, none⟩ = some (.complex .f32 (fs 9).1 (fs 9).2) := (blk_cell hB 10)
  have b11 : w5.cell? ⟨B, 11, none⟩ = some (.complex .f32 (fs 10).1 (fs 10).2) := (blk_cell hB 11)
  have b12 : w5.cell? ⟨B, 12, none⟩ = some (.complex .f32 (fs 11).1 (fs 11).2) := (blk_cell hB 12)
  have b13 : w5.cell? ⟨B, 13, none⟩ = some (.complex .f32 (fs 12).1 (fs 12).2) := (blk_cell hB 13)
  have x0 : w5.cell? ⟨X, 0, none⟩ = some (.complex .f64 0 0) := (blk_cell hX5 0)
  have xf0 := blk_frozen hX5 0
  have x1 : w5.cell? ⟨X, 1, none⟩ = some (.complex .f32 0 0) := (blk_cell hX5 1)
  have xf1 := blk_frozen hX5 1
  have x2 : w5.cell? ⟨X, 2, none⟩ = some (.complex .f32 0 0) := (blk_cell hX5 2)
  have xf2 := blk_frozen hX5 2
  have x3 : w5.cell? ⟨X, 3, none⟩ = some (.complex .f32 0 0) := (blk_cell hX5 3)
  have xf3 := blk_frozen hX5 3
  have x4 : w5.cell? ⟨X, 4, none⟩ = some (.complex .f32 0 0) := (blk_cell hX5 4)
  have xf4 := blk_frozen hX5 4
  have x5 : w5.cell? ⟨X, 5, none⟩ = some (.complex .f32 0 0) := (blk_cell hX5 5)
  have xf5 := blk_frozen hX5 5
  have x6 : w5.cell? ⟨X, 6, none⟩ = some (.complex .f32 0 0) := (blk_cell hX5 6)
  have xf6 := blk_frozen hX5 6
  have x7 : w5.cell? ⟨X, 7, none⟩ = some (.complex .f32 0 0) := (blk_cell hX5 7)
  have xf7 := blk_frozen hX5 7
  have x8 : w5.cell? ⟨X, 8, none⟩ = some (.complex .f32 0 0) := (blk_cell hX5 8)
  have xf8 := blk_frozen hX5 8
  have x9 : w5.cell? ⟨X, 9, none⟩ = some (.complex .f32 0 0) := (blk_cell hX5 9)
  have xf9 := blk_frozen hX5 9
  have x10 : w5.cell? ⟨X, 10, none⟩ = some (.complex .f32 0 0) := (blk_cell hX5 10)
  have xf10 := blk_frozen hX5 10
  have x11 : w5.cell? ⟨X, 11, none⟩ = some (.complex .f32 0 0) := (blk_cell hX5 11)
  have xf11 := blk_frozen hX5 11
  have x12 : w5.cell? ⟨X, 12, none⟩ = some (.complex .f32 0 0) := (blk_cell hX5 12)
  have xf12 := blk_frozen hX5 12
  have x13 : w5.cell? ⟨X, 13, none⟩ = some (.complex .f32 0 0) := (blk_cell hX5 13)
  have xf13 := blk_frozen hX5 13
  clear hB hX5 hX hXG
  conv => arg 2; whnf
  go_region_with (first | (go_at_call 34; refine (below_k 50001 (by omega) (by omega) C.drew.here).mono ?_; rintro e w6 ⟨q, rfl, q0, q1, hC6⟩; have C6 := Lib.hid (C.drew.trans hC6); have hB6 := hC6.keep.blk (show w5.drew.heap[B]? = _ from HB5.out) HBG.out (by simp); have hX6 := C6.out.keep.blk HX.out HXG.out (by simp); have HX6 := Lib.hid hX6; have b0 : w6.cell? ⟨B, 0, none⟩ = some (.complex .f64 x y) := (blk_cell hB6 0); have b1 : w6.cell? ⟨B, 1, none⟩ = some (.complex .f32 (fs 0).1 (fs 0).2) := (blk_cell hB6 1); have b2 : w6.cell? ⟨B, 2, none⟩ = some (.complex .f32 (fs 1).1 (fs 1).2) := (blk_cell hB6 2); have b3 : w6.cell? ⟨B, 3, none⟩ = some (.complex .f32 (fs 2).1 (fs 2).2) := (blk_cell hB6 3); have b4 : w6.cell? ⟨B, 4, none⟩ = some (.complex .f32 (fs 3).1 (fs 3).2) := (blk_cell hB6 4); have b5 : w6.cell? ⟨B, 5, none⟩ = some (.complex .f32 (fs 4).1 (fs 4).2) := (blk_cell hB6 5); have b6 : w6.cell? ⟨B, 6, none⟩ = some (.complex .f32 (fs 5).1 (fs 5).2) := (blk_cell hB6 6); have b7 : w6.cell? ⟨B, 7, none⟩ = some (.complex .f32 (fs 6).1 (fs 6).2) := (blk_cell hB6 7); have b8 : w6.cell? ⟨B, 8, none⟩ = some (.complex .f32 (fs 7).1 (fs 7).2) := (blk_cell hB6 8); have b9 : w6.cell? ⟨B, 9, none⟩ = some (.complex .f32 (fs 8).1 (fs 8).2) := (blk_cell hB6 9); have b10 : w6.cell? ⟨B, 10, none⟩ = some (.complex .f32 (fs 9).1 (fs 9).2) := (blk_cell hB6 10); have b11 : w6.cell? ⟨B, 11, none⟩ = some (.complex .f32 (fs 10).1 (fs 10).2) := (blk_cell hB6 11); have b12 : w6.cell? ⟨B, 12, none⟩ = some (.complex .f32 (fs 11).1 (fs 11).2) := (blk_cell hB6 12); have b13 : w6.cell? ⟨B, 13, none⟩ = some (.complex .f32 (fs 12).1 (fs 12).2) := (blk_cell hB6 13); have x0 : w6.cell? ⟨X, 0, none⟩ = some (.complex .f64 0 0) := (blk_cell hX6 0); have xf0 := blk_frozen hX6 0; have x1 : w6.cell? ⟨X, 1, none⟩ = some (.complex .f32 0 0) := (blk_cell hX6 1); have xf1 := blk_frozen hX6 1; have x2 : w6.cell? ⟨X, 2, none⟩ = some (.complex .f32 0 0) := (blk_cell hX6 2); have xf2 := blk_frozen hX6 2; have x3 : w6.cell? ⟨X, 3, none⟩ = some (.complex .f32 0 0) := (blk_cell hX6 3); have xf3 := blk_frozen hX6 3; have x4 : w6.cell? ⟨X, 4, none⟩ = some (.complex .f32 0 0) := (blk_cell hX6 4); have xf4 := blk_frozen hX6 4; have x5 : w6.cell? ⟨X, 5, none⟩ = some (.complex .f32 0 0) := (blk_cell hX6 5); have xf5 := blk_frozen hX6 5; have x6 : w6.cell? ⟨X, 6, none⟩ = some (.complex .f32 0 0) := (blk_cell hX6 6); have xf6 := blk_frozen hX6 6; have x7 : w6.cell? ⟨X, 7, none⟩ = some (.complex .f32 0 0) := (blk_cell hX6 7); have xf7 := blk_frozen hX6 7; have x8 : w6.cell? ⟨X, 8, none⟩ = some (.complex .f32 0 0) := (blk_cell hX6 8); have xf8 := blk_frozen hX6 8; have x9 : w6.cell? ⟨X, 9, none⟩ = some (.complex .f32 0 0) := (blk_cell hX6 9); have xf9 := blk_frozen hX6 9; have x10 : w6.cell? ⟨X, 10, none⟩ = some (.complex .f32 0 0) := (blk_cell hX6 10); have xf10 := blk_frozen hX6 10; have x11 : w6.cell? ⟨X, 11, none⟩ = some (.complex .f32 0 0) := (blk_cell hX6 11); have xf11 := blk_frozen hX6 11; have x12 : w6.cell? ⟨X, 12, none⟩ = some (.complex .f32 0 0) := (blk_cell hX6 12); have xf12 := blk_frozen hX6 12; have x13 : w6.cell? ⟨X, 13, none⟩ = some (.complex .f32 0 0) := (blk_cell hX6 13); have xf13 := blk_frozen hX6 13; clear hB6 hX6 hC6))
  all_goals exact fin_of HX6.out C6.out.below hge rfl rfl rfl
set_option maxRecDepth 100000 in
set_option maxHeartbeats 2000000 in
theorem draw_flow {w0 w : World} {A0 : Option Addr} {c0 : Nat} {l0 : List Int} (hB : Below w0.heap.size w0 w) (hr0 : Kd.C (Kd.int .u8) w0 A0 l0.length l0) (hc0 : l0.length ≤ c0) (hl : l0.length ≤ 1048576) :
    Calls Try.prog 12 #[.slice A0 l0.length c0] w fun e w' => ∃ (x y : Nat) (fs : Nat → Nat × Nat) (t : Int), e = .returned (.tuple #[.agg (stn x y fs), .int .i64 t]) ∧ Below w0.heap.size w0 w' := by
  have HB := Lib.hid hB
  have HR := Lib.hid hr0
  clear hB hr0
  go_enter Try.func12, Try.ntmps12
  go_wp2_with fail
  have hb := HB.out.alloc HB.out.size (.cells (stn 0 0 (fun _ => (0, 0))) 32)
  have hX := blk_new w (.cells (stn 0 0 (fun _ => (0, 0))) 32)
  have HZ := Lib.hid (show w.heap.size < (w.alloc (.cells (stn 0 0 (fun _ => (0, 0))) 32)).heap.size by simp)
  unfold stn at hb hX HZ
  refine (new_k hb HR.out hc0 hl).mono ?_
  clear hb
  rintro e w1 ⟨g, rfl, hC1, hbw⟩
  have HX := Lib.hid hX
  have HXG := Lib.hid (show w.heap.size ≠ g by
    obtain ⟨cs, e⟩ := hC1.blk
    exact blk_ne (blk_below hX hbw) e (by decide))
  have C1 := Lib.hid hC1
  clear hC1 hX hbw
  go_wp2_with fail
  refine (tide_call C1.out.root).mono ?_
  rintro e w2 ⟨v1, v2, sts, hs, rfl, hC2, hT⟩
  obtain ⟨A1, K1, hv1⟩ := Kd.R_slice hT.r1
  obtain ⟨A2, K2, hv2⟩ := Kd.R_slice hT.r2
  subst hv1 hv2
  obtain ⟨b, s, rfl, hcell⟩ := st_cells hT.r1 hT.l1.1
  have hl0 : 0 < sts.length := by have := hT.l1.1; omega
  have C2 := Lib.hid (C1.out.trans hC2)
  obtain ⟨x, y, fs⟩ := s
  have c0 : w2.cell? ⟨b, 0, none⟩ = some (.complex .f64 x y) := hcell 0 (by omega)
  have c1 : w2.cell? ⟨b, 1, none⟩ = some (.complex .f32 (fs 0).1 (fs 0).2) := hcell 1 (by omega)
  have c2 : w2.cell? ⟨b, 2, none⟩ = some (.complex .f32 (fs 1).1 (fs 1).2) := hcell 2 (by omega)
  have c3 : w2.cell? ⟨b, 3, none⟩ = some (.complex .f32 (fs 2).1 (fs 2).2) := hcell 3 (by omega)
  have c4 : w2.cell? ⟨b, 4, none⟩ = some (.complex .f32 (fs 3).1 (fs 3).2) := hcell 4 (by omega)
  have c5 : w2.cell? ⟨b, 5, none⟩ = some (.complex .f32 (fs 4).1 (fs 4).2) := hcell 5 (by omega)
  have c6 : w2.cell? ⟨b, 6, none⟩ = some (.complex .f32 (fs 5).1 (fs 5).2) := hcell 6 (by omega)
  have c7 : w2.cell? ⟨b, 7, none⟩ = some (.complex .f32 (fs 6).1 (fs 6).2) := hcell 7 (by omega)
  have c8 : w2.cell? ⟨b, 8, none⟩ = some (.complex .f32 (fs 7).1 (fs 7).2) := hcell 8 (by omega)
  have c9 : w2.cell? ⟨b, 9, none⟩ = some (.complex .f32 (fs 8).1 (fs 8).2) := hcell 9 (by omega)
  have c10 : w2.cell? ⟨b, 10, none⟩ = some (.complex .f32 (fs 9).1 (fs 9).2) := hcell 10 (by omega)
  have c11 : w2.cell? ⟨b, 11, none⟩ = some (.complex .f32 (fs 10).1 (fs 10).2) := hcell 11 (by omega)
  have c12 : w2.cell? ⟨b, 12, none⟩ = some (.complex .f32 (fs 11).1 (fs 11).2) := hcell 12 (by omega)
  have c13 : w2.cell? ⟨b, 13, none⟩ = some (.complex .f32 (fs 12).1 (fs 12).2) := hcell 13 (by omega)
  have hbl : b < w2.heap.size := World.block_lt_of_cell? w2 _ c0
  clear hT hC2 hcell
  generalize sts.length = L at *
  generalize hs.length = L2 at *
  go_wp2_with fail
  have hB := blk_new (w2.alloc (.cells #[.slice (some ⟨b, 0, none⟩) L K1, .slice A2 L2 K2] 41)) (.cells (stn x y fs) 32)
  have hBs : (w2.alloc (.cells #[.slice (some ⟨b, 0, none⟩) L K1, .slice A2 L2 K2] 41)).heap.size = w2.heap.size + 1 := by simp
  rw [hBs] at hB
  have C3 := Lib.hid ((C2.out.alloc (.cells #[.slice (some ⟨b, 0, none⟩) L K1, .slice A2 L2 K2] 41)).alloc (.cells (stn x y fs) 32))
  have hge : (w.alloc (.cells (stn 0 0 (fun _ => (0, 0))) 32)).heap.size ≤ w2.heap.size + 1 := Nat.le_trans C2.out.keep.1 (Nat.le_succ _)
  clear hBs hbl c0 c1 c2 c3 c4 c5 c6 c7 c8 c9 c10 c11 c12 c13 hl0 C2
  unfold stn at hB C3 hge
  generalize (w2.alloc (.cells #[.slice (some ⟨b, 0, none⟩) L K1, .slice A2 L2 K2] 41)).alloc (.cells #[.complex .f64 x y, .complex .f32 (fs 0).1 (fs 0).2, .complex .f32 (fs 1).1 (fs 1).2, .complex .f32 (fs 2).1 (fs 2).2, .complex .f32 (fs 3).1 (fs 3).2, .complex .f32 (fs 4).1 (fs 4).2, .complex .f32 (fs 5).1 (fs 5).2, .complex .f32 (fs 6).1 (fs 6).2, .complex .f32 (fs 7).1 (fs 7).2, .complex .f32 (fs 8).1 (fs 8).2, .complex .f32 (fs 9).1 (fs 9).2, .complex .f32 (fs 10).1 (fs 10).2, .complex .f32 (fs 11).1 (fs 11).2, .complex .f32 (fs 12).1 (fs 12).2] 32) = w3 at *
  generalize w2.heap.size + 1 = B at *
  obtain ⟨wa, hwa⟩ : ∃ wa, w.alloc (.cells (stn 0 0 (fun _ => (0, 0))) 32) = wa := ⟨_, rfl⟩
  unfold stn at hwa
  rw [hwa] at C3 hge HX
  have HGE := Lib.hid hge
  have HGW := Lib.hid (show w0.heap.size ≤ wa.heap.size by rw [← hwa]; have := HB.out.size; simp; omega)
  have HB3 := Lib.hid hB
  clear hB hge hwa HZ C1
  refine (once_k 8 (by omega) (by omega) C3.out.here).mono ?_
  rintro e w4 ⟨o, rfl, hC4⟩
  have C4 := Lib.hid (C3.out.trans hC4)
  have HB4 := Lib.hid (hC4.keep.blk HB3.out (by
    obtain ⟨cs, e⟩ := C3.out.blk
    exact blk_ne HB3.out e (by decide)) (by simp))
  clear hC4 C3 HB3
  cases o
  · go_wp2_with fail
    obtain ⟨w8, rfl⟩ : ∃ w8, w8 = w4 := ⟨_, rfl⟩
    obtain ⟨fs8, hfs8⟩ : ∃ fs8, fs = fs8 := ⟨_, rfl⟩
    have HB8 := Lib.hid (show w8.heap[B]? = some (.cells (stn x y fs8) 32 (0, 0)) by rw [← hfs8]; exact HB4.out)
    have C8 := Lib.hid (C4.out.mono (show 1500 + 4 ≤ 1700 by omega))
    clear hfs8 HB4 C4
    refine (below_k 4 (by omega) (by omega) C8.out.here).mono ?_
    rintro e w5 ⟨r, rfl, r0, r1, hC5⟩
    have C5 := Lib.hid (C8.out.trans hC5)
    have HB5 := Lib.hid (hC5.keep.blk HB8.out (by
      obtain ⟨cs, e⟩ := C8.out.blk
      exact blk_ne HB8.out e (by decide)) (by simp))
    have HX5 := Lib.hid (C5.out.keep.blk HX.out HXG.out (by simp))
    clear hC5 C8 HB8
    have HBG := Lib.hid (show B ≠ g by
      obtain ⟨cs, e⟩ := C5.out.blk
      exact blk_ne HB5.out e (by decide))
    have C5' := Lib.hid (C5.out.mono (show (1700 : Int) + 4 ≤ 1800 by omega))
    clear C5
    go_wp2_with fail
    all_goals refine Code.wp_mono (Q := Ends w0 w.heap.size x y fs8) ?_ (by first | exact region8 C5'.out HB5.out HX.out HXG.out HB.out.size _ _ _ _ _ _ _ _ _ _ _ _ _ _ _ _ _ _ _ _ _ _ _ _ _ _ _ _ _ _ _ _ _ _ _ _ _ _ _ | exact region10 C5'.out HB5.out HX.out HXG.out HB.out.size _ _ _ _ _ _ _ _ _ _ _ _ _ _ _ _ _ _ _ _ _ _ _ _ _ _ _ _ _ _ _ _ _ _ _ _ _ _ _ | exact region11 C5'.out HB5.out HX.out HXG.out HB.out.size _ _ _ _ _ _ _ _ _ _ _ _ _ _ _ _ _ _ _ _ _ _ _ _ _ _ _ _ _ _ _ _ _ _ _ _ _ _ _)
    all_goals
      intro e a' w' hfin
      have HF := Lib.hid hfin
      clear hfin
      cases e
      case normal =>
        go_wp2_with fail
        exact fin_ret HF.out
      all_goals exact HF.out.elim
  · go_wp2_with fail
    refine (below_k 13 (by omega) (by omega) C4.out.here).mono ?_
    rintro e w5 ⟨i, rfl, i0, i1, hC5⟩
    have C5 := Lib.hid (C4.out.trans hC5)
    have HB5 := Lib.hid (hC5.keep.blk HB4.out (by
      obtain ⟨cs, e⟩ := C4.out.blk
      exact blk_ne HB4.out e (by decide)) (by simp))
    clear hC5 C4 HB4
    obtain ⟨i, rfl⟩ : ∃ k : Nat, i = (k : Int) := ⟨i.toNat, by omega⟩
    have hi : i < 13 := by have := i1 (by omega); omega
    clear i0 i1
    go_wp2_with fail
    refine (air_k (by omega) C5.out.here).mono ?_
    rintro e w6 ⟨p, q, rfl, hC6⟩
    have C6 := Lib.hid (C5.out.trans hC6)
    have HB6 := Lib.hid (hC6.keep.blk HB5.out (by
      obtain ⟨cs, e⟩ := C5.out.blk
      exact blk_ne HB5.out e (by decide)) (by simp))
    clear hC6 C5 HB5
    have hc := (blk_cell HB6.out (1 + i)).trans (stn_at x y fs i hi)
    have hf := blk_frozen HB6.out (1 + i)
    go_wp2_with fail
    obtain ⟨fs8, hfs8⟩ : ∃ fs8, upd fs i p q = fs8 := ⟨_, rfl⟩
    have HB8 := Lib.hid (show (w6.setCell ⟨B, 1 + i, none⟩ (.complex .f32 p q)).heap[B]? = some (.cells (stn x y fs8) 32 (0, 0)) by rw [← hfs8]; exact blk_put HB6.out (1 + i) _ (stn_set x y fs i p q hi))
    have C8 := Lib.hid ((Cur2.far C6.out (.complex .f32 p q) (B := B) (i := 1 + i) (by
      obtain ⟨cs, e⟩ := C6.out.blk
      exact (blk_ne HB6.out e (by decide)).symm) HGE.out (Nat.le_trans HGW.out HGE.out)).mono (show 1500 + 4 + 4 + 60 ≤ 1700 by omega))
    clear hfs8 HB6 C6 hc hf
    generalize w6.setCell ⟨B, 1 + i, none⟩ (.complex .f32 p q) = w8 at *
    refine (below_k 4 (by omega) (by omega) C8.out.here).mono ?_
    rintro e w5 ⟨r, rfl, r0, r1, hC5⟩
    have C5 := Lib.hid (C8.out.trans hC5)
    have HB5 := Lib.hid (hC5.keep.blk HB8.out (by
      obtain ⟨cs, e⟩ := C8.out.blk
      exact blk_ne HB8.out e (by decide)) (by simp))
    have HX5 := Lib.hid (C5.out.keep.blk HX.out HXG.out (by simp))
    clear hC5 C8 HB8
    have HBG := Lib.hid (show B ≠ g by
      obtain ⟨cs, e⟩ := C5.out.blk
      exact blk_ne HB5.out e (by decide))
    have C5' := Lib.hid (C5.out.mono (show (1700 : Int) + 4 ≤ 1800 by omega))
    clear C5
    go_wp2_with fail
    all_goals refine Code.wp_mono (Q := Ends w0 w.heap.size x y fs8) ?_ (by first | exact region8 C5'.out HB5.out HX.out HXG.out HB.out.size _ _ _ _ _ _ _ _ _ _ _ _ _ _ _ _ _ _ _ _ _ _ _ _ _ _ _ _ _ _ _ _ _ _ _ _ _ _ _ | exact region10 C5'.out HB5.out HX.out HXG.out HB.out.size _ _ _ _ _ _ _ _ _ _ _ _ _ _ _ _ _ _ _ _ _ _ _ _ _ _ _ _ _ _ _ _ _ _ _ _ _ _ _ | exact region11 C5'.out HB5.out HX.out HXG.out HB.out.size _ _ _ _ _ _ _ _ _ _ _ _ _ _ _ _ _ _ _ _ _ _ _ _ _ _ _ _ _ _ _ _ _ _ _ _ _ _ _)
    all_goals
      intro e a' w' hfin
      have HF := Lib.hid hfin
      clear hfin
      cases e
      case normal =>
        go_wp2_with fail
        exact fin_ret HF.out
      all_goals exact HF.out.elim
end Go.Proofs.Ytjohpjmfnghkoaa.Fw
