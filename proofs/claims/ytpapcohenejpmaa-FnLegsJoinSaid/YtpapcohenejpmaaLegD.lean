/- Legs as they are drawn, and lists of them. -/
import Derived.Test.YtpapcohenejpmaaDrw
import Derived.Test.YtpapcohenejpmaaRun
import Derived.Laws.Build
namespace Go.Proofs.Ytpapcohenejpmaa.Ld
open Go.RowKit Kit Fl Bd Dw Lg Ljd Go.Proofs.YtpapcohenejpmaaW.PrintWords Go.Proofs.YtpapcohenejpmaaW.PrintLast Go.Proofs.YtpapcohenejpmaaW.PrintMore PFnLegsJoin
/-- a kind of so many cells, all known -/
def fixed {α : Type} (sz : Nat) (enc : α → List Value) (h0 : ∀ x, (enc x).length = sz) (h1 : ∀ x, ∀ u ∈ enc x, u.oneCell' = true) : Kd α where
  sz := sz
  E := []
  K := fun _ x cs => cs = enc x
  M := fun _ _ _ x cs => cs = enc x
  K_len := fun h => by rw [h]; exact h0 _
  K_one := fun h u hu => by
    rw [h] at hu
    exact h1 _ u hu
  K_below := fun _ h => h
  K_of_M := fun h => h
  M_mono := fun _ h => h
  M_bound := fun h => h
  M_move := fun _ h => h
  M_lower := fun _ h => h
def enc (g : Leg) : List Value := [.int .i64 g.h, .float .f32 g.s, .int .i64 g.n]
theorem enc_one (g : Leg) : ∀ u ∈ enc g, u.oneCell' = true := by
  intro u hu
  unfold enc at hu
  simp only [List.mem_cons, List.not_mem_nil, or_false] at hu
  rcases hu with rfl | rfl | rfl <;> rfl
def legKd : Kd Leg := fixed 3 enc (fun _ => rfl) enc_one
theorem legE : ∀ q, q ∈ 80 :: legKd.E → q ≠ 87 := by
  intro q hq
  have : q = 80 := by simpa [legKd, fixed] using hq
  rw [this]; decide
theorem leg_info : (Try.prog.info? 80).map (fun i => (i.zero, i.size, i.bytes)) = some (some (.agg #[.int .i64 0, .float .f32 0, .int .i64 0]), 3, 24) := by kernel_rfl
theorem Cur2.far {w0 ws w : World} {g : Nat} {m : Int} (h : Cur2 w0 ws w g m) {B i : Nat} (u : Value) (hne : g ≠ B) (h1 : ws.heap.size ≤ B) (h2 : w0.heap.size ≤ B) : Cur2 w0 ws (w.setCell ⟨B, i, none⟩ u) g m := by
  obtain ⟨⟨⟨b, i', k, ⟨A0, c0, e1, e2, e3⟩, h3, h4⟩, h5⟩, h6⟩ := h
  refine ⟨⟨⟨b, i', k, ⟨A0, c0, blk_far e1 (p := ⟨B, i, none⟩) hne u, e2, e3⟩, h3, h4⟩, h5.setCell h2 u⟩, ?_⟩
  refine ⟨by simpa using h6.1, fun j hj hjg hr => ?_⟩
  rw [Below.heap_setCell w ⟨B, i, none⟩ u j (by show j ≠ B; omega)]
  exact h6.2 j hj hjg hr
/-- two boxes of legs and a cursor -/
structure Two (w0 ws w : World) (g X Y : Nat) (x y : Array Value) (m : Int) : Prop where
  cur : Cur2 w0 ws w g m
  x : w.heap[X]? = some (.cells x 80 (0, 0))
  y : w.heap[Y]? = some (.cells y 80 (0, 0))
  ge : ws.heap.size ≤ X ∧ ws.heap.size ≤ Y ∧ X ≠ Y ∧ w0.heap.size ≤ X ∧ w0.heap.size ≤ Y
theorem Two.move {w0 ws w w1 : World} {g X Y : Nat} {x y : Array Value} {m n : Int} (h : Two w0 ws w g X Y x y m) (hk : Cur2 w0 w w1 g n) : Two w0 ws w1 g X Y x y n := by
  obtain ⟨cs, e⟩ := h.cur.blk
  exact ⟨h.cur.trans hk, hk.keep.blk h.x (blk_ne h.x e (by decide)) (by simp), hk.keep.blk h.y (blk_ne h.y e (by decide)) (by simp), h.ge⟩
theorem Two.alloc {w0 ws w : World} {g X Y : Nat} {x y : Array Value} {m : Int} (h : Two w0 ws w g X Y x y m) (o : Obj) : Two w0 ws (w.alloc o) g X Y x y m :=
  ⟨h.cur.alloc o, blk_alloc h.x o, blk_alloc h.y o, h.ge⟩
theorem Two.mono {w0 ws w : World} {g X Y : Nat} {x y : Array Value} {m n : Int} (h : Two w0 ws w g X Y x y m) (hm : m ≤ n) : Two w0 ws w g X Y x y n := ⟨h.cur.mono hm, h.x, h.y, h.ge⟩
theorem Two.setY {w0 ws w : World} {g X Y : Nat} {x y : Array Value} {m : Int} (h : Two w0 ws w g X Y x y m) (i : Nat) (u : Value) (y' : Array Value) (hy : y.setIfInBounds i u = y') : Two w0 ws (w.setCell ⟨Y, i, none⟩ u) g X Y x y' m := by
  obtain ⟨cs, e⟩ := h.cur.blk
  exact ⟨Cur2.far h.cur u (blk_ne e h.y (by decide)) h.ge.2.1 h.ge.2.2.2.2, blk_far h.x (p := ⟨Y, i, none⟩) h.ge.2.2.1 u, blk_put h.y i u hy, h.ge⟩
theorem Two.setX {w0 ws w : World} {g X Y : Nat} {x y : Array Value} {m : Int} (h : Two w0 ws w g X Y x y m) (i : Nat) (u : Value) (x' : Array Value) (hx : x.setIfInBounds i u = x') : Two w0 ws (w.setCell ⟨X, i, none⟩ u) g X Y x' y m := by
  obtain ⟨cs, e⟩ := h.cur.blk
  exact ⟨Cur2.far h.cur u (blk_ne e h.x (by decide)) h.ge.1 h.ge.2.2.2.1, blk_put h.x i u hx, blk_far h.y (p := ⟨X, i, none⟩) (fun e => h.ge.2.2.1 e.symm) u, h.ge⟩
def cs3 (a : Int) (b : Nat) (c : Int) : Array Value := #[.int .i64 a, .float .f32 b, .int .i64 c]
theorem Two.cells {w0 ws w : World} {g X Y : Nat} {m a c a' c' : Int} {b b' : Nat} (h : Two w0 ws w g X Y (cs3 a b c) (cs3 a' b' c') m) :
    w.cell? ⟨X, 0, none⟩ = some (.int .i64 a) ∧ w.cell? ⟨X, 1, none⟩ = some (.float .f32 b) ∧ w.cell? ⟨X, 2, none⟩ = some (.int .i64 c) ∧ w.cell? ⟨Y, 0, none⟩ = some (.int .i64 a') ∧ w.cell? ⟨Y, 1, none⟩ = some (.float .f32 b') ∧ w.cell? ⟨Y, 2, none⟩ = some (.int .i64 c') ∧
    w.frozen? ⟨X, 0, none⟩ = false ∧ w.frozen? ⟨X, 1, none⟩ = false ∧ w.frozen? ⟨X, 2, none⟩ = false ∧ w.frozen? ⟨Y, 2, none⟩ = false :=
  ⟨blk_cell h.x 0, blk_cell h.x 1, blk_cell h.x 2, blk_cell h.y 0, blk_cell h.y 1, blk_cell h.y 2, blk_frozen h.x 0, blk_frozen h.x 1, blk_frozen h.x 2, blk_frozen h.y 2⟩
set_option maxRecDepth 100000 in
set_option maxHeartbeats 1000000 in
theorem leg_k {w0 ws w : World} {g : Nat} {m : Int} (hm : m ≤ 1500000) (hC : Cur2 w0 ws w g m) :
    Calls Try.prog 86 #[.pointer (some ⟨g, 0, none⟩)] w fun e w' => ∃ l : Leg, e = .returned (.agg #[.int .i64 l.h, .float .f32 l.s, .int .i64 l.n]) ∧ Cur2 w0 ws w' g (m + 60) := by
  have C1 := Lib.hid (hC.alloc (.cells #[.int .i64 0, .float .f32 0, .int .i64 0] 80))
  have HX := Lib.hid (blk_new w (.cells (cs3 0 0 0) 80))
  have HG := Lib.hid (show ws.heap.size ≤ w.heap.size ∧ w0.heap.size ≤ w.heap.size ∧ g < w.heap.size from ⟨hC.keep.1, hC.below.size, hC.lt⟩)
  clear hC
  go_enter Try.func86, Try.ntmps86
  go_wp2_with fail
  refine (degrees_k (by omega) C1.out.here).mono ?_
  rintro e w1 ⟨h, rfl, hD⟩
  have D1 := Lib.hid hD
  clear hD
  go_wp2_with fail
  refine (speed_k (by omega) D1.out).mono ?_
  rintro e w2 ⟨s, rfl, hD⟩
  have D2 := Lib.hid hD
  clear hD
  go_wp2_with fail
  refine (below_k 4000 (by omega) (by omega) D2.out).mono ?_
  rintro e w3 ⟨n, rfl, _, _, hD⟩
  have T3 := Lib.hid (show Two w0 ws (w3.alloc (.cells (cs3 h s n) 80)) g w.heap.size w3.heap.size (cs3 0 0 0) (cs3 h s n) (m + 40) from by
    have e := hD.keep.1
    simp at e
    exact ⟨((C1.out.trans hD).alloc _).mono (by omega), blk_alloc (hD.keep.blk HX.out (by have := HG.out.2.2; omega) (by simp)) _, blk_new w3 _, by have := HG.out.1; omega, by have := HG.out.1; omega, by omega, HG.out.2.1, by have := HG.out.2.1; omega⟩)
  clear hD D1 D2 C1 HX
  generalize w.heap.size = X at *
  unfold cs3 at T3
  go_wp2_with fail
  generalize w3.heap.size = Y at *
  refine (below_k 14 (by omega) (by omega) T3.out.cur.here).mono ?_
  rintro e w4 ⟨r, rfl, r0, r1, hD⟩
  have T4 := Lib.hid (T3.out.move hD)
  clear hD T3
  have r1 := r1 (by omega)
  by_cases e0 : r = 0
  · subst e0
    go_wp2_with fail
    obtain ⟨l, hl4, hL⟩ := litN w4 [-1, 0, 600, 100000, 100001] 3 #[.int .i64 (-1), .int .i64 0, .int .i64 600, .int .i64 100000, .int .i64 100001] rfl (by decide) (by decide) (by decide)
    have hgl := T4.out.cur.lt
    have T5 := Lib.hid (T4.out.alloc (.cells #[.int .i64 (-1), .int .i64 0, .int .i64 600, .int .i64 100000, .int .i64 100001] 3))
    have hp := pick_k (by omega) T5.out.cur.here hL (c := 5) (by rw [hl4]; decide) (fun ad e _ => by cases e; exact Nat.ne_of_gt hgl) (by rw [hl4]; decide)
    rw [hl4] at hp
    refine hp.mono ?_
    clear hp hL hgl hl4
    rintro e w6 ⟨n2, rfl, _, hD⟩
    have T6 := Lib.hid (T5.out.move hD)
    clear hD T5 T4
    obtain ⟨x0, x1, x2, y0, y1, y2, f0, f1, f2, f3⟩ := T6.out.cells
    have T7 := Lib.hid ((T6.out.setY 2 (.int .i64 n2) (cs3 h s n2) rfl))
    have T8 := Lib.hid (((T7.out.setX 0 (.int .i64 h) (cs3 h 0 0) rfl).setX 1 (.float .f32 s) (cs3 h s 0) rfl).setX 2 (.int .i64 n2) (cs3 h s n2) rfl)
    have ne := T6.out.ge.2.2.1
    clear T7 T6
    go_wp2_with fail
    obtain ⟨z0, z1, z2, _, _, _, _, _, _, _⟩ := T8.out.cells
    exact bodyPost_ret (v := .agg #[.int .i64 h, .float .f32 s, .int .i64 (n2)]) (by simp [results, Try.results86, go_sem, z0, z1, z2]) rfl ⟨⟨h, s, n2⟩, rfl, T8.out.cur.mono (by omega)⟩
  by_cases e1 : r = 1
  · subst e1
    go_wp2_with fail
    refine (below_k 5 (by omega) (by omega) T4.out.cur.here).mono ?_
    rintro e w6 ⟨q, rfl, q0, q1, hD⟩
    have T6 := Lib.hid (T4.out.move hD)
    clear hD T4
    obtain ⟨x0, x1, x2, y0, y1, y2, f0, f1, f2, f3⟩ := T6.out.cells
    have q1 := q1 (by omega)
    have T7 := Lib.hid ((T6.out.setY 2 (.int .i64 (600 * q)) (cs3 h s (600 * q)) rfl))
    have T8 := Lib.hid (((T7.out.setX 0 (.int .i64 h) (cs3 h 0 0) rfl).setX 1 (.float .f32 s) (cs3 h s 0) rfl).setX 2 (.int .i64 (600 * q)) (cs3 h s (600 * q)) rfl)
    have ne := T6.out.ge.2.2.1
    clear T7 T6
    go_wp2_with fail
    obtain ⟨z0, z1, z2, _, _, _, _, _, _, _⟩ := T8.out.cells
    exact bodyPost_ret (v := .agg #[.int .i64 h, .float .f32 s, .int .i64 (600 * q)]) (by simp [results, Try.results86, go_sem, z0, z1, z2]) rfl ⟨⟨h, s, 600 * q⟩, rfl, T8.out.cur.mono (by omega)⟩
  · have e0b : (r == 0) = false := by simp [e0]
    have e1b : (r == 1) = false := by simp [e1]
    obtain ⟨x0, x1, x2, y0, y1, y2, f0, f1, f2, f3⟩ := T4.out.cells
    have T8 := Lib.hid (((T4.out.setX 0 (.int .i64 h) (cs3 h 0 0) rfl).setX 1 (.float .f32 s) (cs3 h s 0) rfl).setX 2 (.int .i64 n) (cs3 h s n) rfl)
    have ne := T4.out.ge.2.2.1
    clear T4
    go_wp2_with fail
    obtain ⟨z0, z1, z2, _, _, _, _, _, _, _⟩ := T8.out.cells
    exact bodyPost_ret (v := .agg #[.int .i64 h, .float .f32 s, .int .i64 (n)]) (by simp [results, Try.results86, go_sem, z0, z1, z2]) rfl ⟨⟨h, s, n⟩, rfl, T8.out.cur.mono (by omega)⟩
end Go.Proofs.Ytpapcohenejpmaa.Ld
