/- What is drawn for the law of the nearest high water: a tide in memory and a time. -/
import Derived.Test.YtjohpjmfnghkoaaTdb
import Derived.Test.YtjohpjmfnghkoaaTdh
namespace Go.Proofs.Ytjohpjmfnghkoaa.Ty
open Go.RowKit Kit Fl Bd Dw Td Hnd Go.Proofs.YtjohpjmfnghkoaaW.PrintWords Go.Proofs.YtjohpjmfnghkoaaW.PrintLast Go.Proofs.YtjohpjmfnghkoaaW.PrintMore PFnHighNearest
/-- a tide in a box, a cursor beside it -/
structure NT (w0 ws w : World) (g X B : Nat) (A1 : Option Addr) (n1 c1 : Nat) (A2 : Option Addr) (n2 c2 : Nat) (m : Int) : Prop where
  cur : Cur2 w0 ws w g m
  x : w.heap[X]? = some (.cells #[.slice A1 n1 c1, .slice A2 n2 c2] 41 (0, 0))
  s : Shp w B A1 n1 A2 n2
section
variable {w0 ws w w1 : World} {g X B : Nat} {A1 A2 : Option Addr} {n1 c1 n2 c2 : Nat} {m n : Int}
theorem NT.start (hC : Cur2 w0 ws w g m) (hS : Shp w B A1 n1 A2 n2) : NT w0 ws (w.alloc (.cells #[.slice A1 n1 c1, .slice A2 n2 c2] 41)) g w.heap.size B A1 n1 c1 A2 n2 c2 m := ⟨hC.alloc _, blk_new w _, hS.below ((Below.refl _ _).alloc (Nat.le_refl _) _)⟩
theorem NT.move (h : NT w0 ws w g X B A1 n1 c1 A2 n2 c2 m) (hk : Cur2 w0 w w1 g n) : NT w0 ws w1 g X B A1 n1 c1 A2 n2 c2 n := by
  obtain ⟨cs, e⟩ := h.cur.blk
  exact ⟨h.cur.trans hk, hk.keep.blk h.x (blk_ne h.x e (by decide)) (by simp), h.s.cur h.cur hk⟩
theorem NT.drew (h : NT w0 ws w g X B A1 n1 c1 A2 n2 c2 m) : NT w0 ws w.drew g X B A1 n1 c1 A2 n2 c2 m := ⟨h.cur.drew, h.x, h.s.below (Below.refl _ _).drew⟩
theorem NT.mono (h : NT w0 ws w g X B A1 n1 c1 A2 n2 c2 m) (hm : m ≤ n) : NT w0 ws w g X B A1 n1 c1 A2 n2 c2 n := ⟨h.cur.mono hm, h.x, h.s⟩
theorem NT.cells (h : NT w0 ws w g X B A1 n1 c1 A2 n2 c2 m) : w.cell? ⟨X, 0, none⟩ = some (.slice A1 n1 c1) ∧ w.cell? ⟨X, 1, none⟩ = some (.slice A2 n2 c2) := ⟨blk_cell h.x 0, blk_cell h.x 1⟩
theorem NT.high (h : NT w0 ws w g X B A1 n1 c1 A2 n2 c2 m) {i : Nat} (hi : i < n2) : ∃ b o x, A2 = some ⟨b, o, none⟩ ∧ w.cell? ⟨b, o + i, none⟩ = some (.int .i64 x) := by
  obtain ⟨b, o, cells, h1, _, h3, h4⟩ := h.s.h.resolve_left (by omega)
  obtain ⟨x, hx⟩ := h4 i hi
  exact ⟨b, o, x, h1, (blk_cell h3 (o + i)).trans hx⟩
theorem NT.fin {v0 : World} {Y : Nat} (h : NT w0 ws w g Y B A1 n1 c1 A2 n2 c2 m) (hb : Below v0.heap.size v0 w) (hB : v0.heap.size ≤ B) {cs : Array Value} (hX : w.heap[X]? = some (.cells cs 41 (0, 0))) (hw : v0.heap.size ≤ X) (u0 u1 : Value) :
    Below v0.heap.size v0 ((w.setCell ⟨X, 0, none⟩ u0).setCell ⟨X, 1, none⟩ u1) ∧ Shp ((w.setCell ⟨X, 0, none⟩ u0).setCell ⟨X, 1, none⟩ u1) v0.heap.size A1 n1 A2 n2 := by
  have hX2 := blk_set hX 0 u0
  exact ⟨(hb.setCell hw u0).setCell hw u1, ((h.s.set hX notT 0 u0).set hX2 notT 1 u1).lower hB⟩
end
set_option maxRecDepth 100000 in
set_option maxHeartbeats 2000000 in
theorem time_k {w0 ws w : World} {g : Nat} {m : Int} {B : Nat} {A1 A2 : Option Addr} {n1 c1 n2 c2 : Nat} (hm : m ≤ 1700000) (hC : Cur2 w0 ws w g m) (hS : Shp w B A1 n1 A2 n2) (hn : n2 ≤ 60) :
    Calls Try.prog 44 #[.pointer (some ⟨g, 0, none⟩), .agg #[.slice A1 n1 c1, .slice A2 n2 c2]] w fun e w' => ∃ z : Int, e = .returned (.int .i64 z) ∧ Cur2 w0 ws w' g (m + 40) := by
  have I0 := Lib.hid (NT.start (c1 := c1) (c2 := c2) hC hS)
  clear hC hS
  go_enter Try.func44, Try.ntmps44
  go_upto_region 1 with fail
  generalize w.alloc (.cells #[.slice A1 n1 c1, .slice A2 n2 c2] 41) = W at *
  generalize w.heap.size = X at *
  obtain ⟨x0, x1⟩ := I0.out.cells
  go_cut [13] (fun s wr => ∃ b : Bool, s = .bool b ∧ (b = false → 0 < n2) ∧ NT w0 ws wr g X B A1 n1 c1 A2 n2 c2 (m + 4))
  case first =>
    by_cases h0 : 0 < n2
    · have h0' : ((n2 : Int) == 0) = false := by
        rw [beq_eq_false_iff_ne]; omega
      go_wp2_with fail
      refine (once_k 15 (by omega) (by omega) I0.out.cur.here).mono ?_
      rintro e w1 ⟨r, rfl, hC1⟩
      have I1 := Lib.hid (I0.out.move hC1)
      clear hC1
      go_wp2_with fail
      go_meet
      case rel => exact ⟨_, rfl, fun _ => h0, I1.out⟩
    · obtain rfl : n2 = 0 := by omega
      have I1 := Lib.hid (I0.out.mono (show m ≤ m + 4 by omega))
      go_wp2_with fail
      go_meet
      case rel => exact ⟨_, rfl, fun h => by simp at h, I1.out⟩
  case rest =>
    obtain ⟨b, rfl, hb, hI⟩ := hcut
    have I1 := Lib.hid hI
    clear hI I0 x0 x1
    cases b
    · have hn0 := hb rfl
      clear hb
      obtain ⟨x0, x1⟩ := I1.out.cells
      go_upto_region 3 with fail
      go_cut [5] (fun s wr => ∃ z : Int, s = .int .i64 z ∧ NT w0 ws wr g X B A1 n1 c1 A2 n2 c2 (m + 8))
      case first =>
        go_region_with (first | (go_at_call 34; refine (below_k (n2 : Int) (by omega) (by omega) I1.out.drew.cur.here).mono ?_; rintro e w2 ⟨q, rfl, q0, q1, hC2⟩; have I2 := Lib.hid ((I1.out.drew.move hC2).mono (show _ ≤ (m + 8 : Int) by omega)); obtain ⟨x0, x1⟩ := I2.out.cells; have q1 := q1 (by omega); clear hC2; obtain ⟨q, rfl⟩ : ∃ k : Nat, q = (k : Int) := ⟨q.toNat, by omega⟩; obtain ⟨b, o, y, rfl, hy⟩ := I2.out.high (i := q) (by omega)))
        all_goals (go_wp2_with fail)
        all_goals go_meet
        all_goals exact ⟨_, rfl, I2.out⟩
      case rest =>
        obtain ⟨z, rfl, hI⟩ := hcut
        have I2 := Lib.hid hI
        clear hI I1 x0 x1
        go_wp2_with fail
        refine (below_k 4 (by omega) (by omega) I2.out.cur.here).mono ?_
        rintro e w3 ⟨q, rfl, q0, q1, hC3⟩
        have I3 := Lib.hid (I2.out.move hC3)
        clear hC3 I2
        go_wp2_with fail
        all_goals first
          | (go_ret; exact ⟨_, rfl, I3.out.cur.mono (by omega)⟩)
          | (refine (below_k _ (by omega) (by omega) I3.out.cur.here).mono ?_
             rintro e w4 ⟨k, rfl, k0, k1, hC4⟩
             have I4 := Lib.hid (I3.out.move hC4)
             clear hC4
             go_wp2_with fail
             go_ret
             exact ⟨_, rfl, I4.out.cur.mono (by omega)⟩)
    · go_wp2_with fail
      obtain ⟨l, hl5, hL⟩ := litN wc [-1, 0, 10000000, 10000001, 9223372036854775807] 3 #[.int .i64 (-1), .int .i64 0, .int .i64 10000000, .int .i64 10000001, .int .i64 9223372036854775807] rfl (by decide) (by decide) (by decide)
      have hgl := I1.out.cur.lt
      have hp := pick_k (by omega) (I1.out.cur.alloc (.cells #[.int .i64 (-1), .int .i64 0, .int .i64 10000000, .int .i64 10000001, .int .i64 9223372036854775807] 3)) hL (c := 5) (by rw [hl5]; decide) (fun ad e _ => by cases e; exact Nat.ne_of_gt hgl) (by rw [hl5]; decide)
      rw [hl5] at hp
      refine hp.mono ?_
      clear hp hL hgl hl5
      rintro e w3 ⟨x, rfl, _, hC3⟩
      have C3 := Lib.hid hC3
      clear hC3
      go_wp2_with fail
      go_ret
      exact ⟨_, rfl, C3.out.mono (by omega)⟩
set_option maxRecDepth 100000 in
set_option maxHeartbeats 2000000 in
theorem draw_high {w0 w : World} {A : Option Addr} {c : Nat} {l : List Int} (hB : Below w0.heap.size w0 w) (hr0 : Kd.C (Kd.int .u8) w0 A l.length l) (hc0 : l.length ≤ c) (hl : l.length ≤ 1048576) :
    Calls Try.prog 16 #[.slice A l.length c] w fun e w' => ∃ (A1 : Option Addr) (n1 c1 : Nat) (A2 : Option Addr) (n2 c2 : Nat) (z : Int), e = .returned (.tuple #[.agg #[.slice A1 n1 c1, .slice A2 n2 c2], .int .i64 z]) ∧ Below w0.heap.size w0 w' ∧ Shp w' w0.heap.size A1 n1 A2 n2 := by
  have B0 := Lib.hid hB
  have HR := Lib.hid hr0
  clear hB hr0
  go_enter Try.func16, Try.ntmps16
  go_wp2_with fail
  have hX0 := blk_new w (.cells #[.slice none 0 0, .slice none 0 0] 41)
  have hb0 := B0.out.alloc B0.out.size (.cells #[.slice none 0 0, .slice none 0 0] 41)
  have hsz : w0.heap.size ≤ w.heap.size := B0.out.size
  generalize w.alloc (.cells #[.slice none 0 0, .slice none 0 0] 41) = W at *
  generalize w.heap.size = X at *
  have HB := Lib.hid hb0
  have HX := Lib.hid hX0
  refine (new_k (Below.refl W.heap.size W) (Kd.C_below HR.out hb0) hc0 hl).mono ?_
  clear hb0 hX0
  rintro e w1 ⟨g, rfl, hC1, hb1⟩
  have C1 := Lib.hid hC1.root
  clear hb1 hC1
  go_wp2_with fail
  refine (any_tide C1.out).mono ?_
  rintro e w2 ⟨A1, n1, c1, A2, n2, c2, rfl, ⟨hn0, hn1⟩, hC2, hS2⟩
  have I4 := Lib.hid (NT.start (c1 := c1) (c2 := c2) hC2.root hS2)
  clear hC2 hS2
  go_upto_region 3 with fail
  generalize w2.alloc (.cells #[.slice A1 n1 c1, .slice A2 n2 c2] 41) = w4 at *
  generalize w2.heap.size = Y at *
  obtain ⟨y0, y1⟩ := I4.out.cells
  have hX5 := blk_below HX.out I4.out.cur.below
  have x0 : w4.cell? ⟨X, 0, none⟩ = some (.slice none 0 0) := blk_cell hX5 0
  have x1 : w4.cell? ⟨X, 1, none⟩ = some (.slice none 0 0) := blk_cell hX5 1
  have xf0 := blk_frozen hX5 0
  have xf1 := blk_frozen hX5 1
  clear hX5
  go_region_with (first | (go_at_call 44; refine (time_k (by omega) I4.out.drew.cur.here I4.out.drew.s (by omega)).mono ?_; rintro e w5 ⟨z, rfl, hC5⟩; have I5 := Lib.hid (I4.out.drew.move hC5); obtain ⟨y0, y1⟩ := I5.out.cells; have hX5 := blk_below HX.out I5.out.cur.below; have x0 : w5.cell? ⟨X, 0, none⟩ = some (.slice none 0 0) := blk_cell hX5 0; have x1 : w5.cell? ⟨X, 1, none⟩ = some (.slice none 0 0) := blk_cell hX5 1; have xf0 := blk_frozen hX5 0; have xf1 := blk_frozen hX5 1; have P := Lib.hid (I5.out.fin (HB.out.trans (I5.out.cur.below.mono HB.out.size)) HB.out.size hX5 hsz (.slice A1 n1 c1) (.slice A2 n2 c2)); clear hC5 hX5))
  all_goals (go_wp2_with fail)
  all_goals exact bodyPost_ret (v := .tuple #[.agg #[.slice A1 n1 c1, .slice A2 n2 c2], .int .i64 z]) (by simp [results, Try.results16, go_sem, x0, x1]) rfl ⟨A1, n1, c1, A2, n2, c2, z, rfl, P.out⟩
end Go.Proofs.Ytjohpjmfnghkoaa.Ty
