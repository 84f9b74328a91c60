/- Walks of the functions that the law FnCutTrack reaches: each call comes to what the plain function beside it tells. -/
import Derived.Test.YtfllkcmmaibijaaCuW
import Derived.Test.YtfllkcmmaibijaaCu0
import Derived.Test.YtfllkcmmaibijaaCu2
import Derived.Test.YtfllkcmmaibijaaCu5
namespace Go.Proofs.Ytfllkcmmaibijaa.PFnCutTrack
open Go.RowKit Go.Proofs.YtfllkcmmaibijaaW.PrintWords Go.Proofs.YtfllkcmmaibijaaW.PrintLast Go.Proofs.YtfllkcmmaibijaaW.PrintMore
attribute [local go_sem] max2_int min2_int max_two min_two max_three min_three max_four min_four   -- for this text's walks alone
set_option linter.unusedVariables false
set_option linter.unusedSimpArgs false

/-! ### impl_EarlyAt: function 23 -/
mutual
def impl_EarlyAt.j0 : Nat → List (S44) → Int → Bool → Int → Int → Int → Int → Option (Bool)
 | 0, _, _, _, _, _, _, _ => none
 | k + 1, x1, x2, x17, x297000, x297001, x297002, x297003 => if x17 = true then (some false) else (impl_EarlyAt.l0 k x1 x2 0 x297000 x297001 x297002 x297003)
def impl_EarlyAt.l0 : Nat → List (S44) → Int → Int → Int → Int → Int → Int → Option (Bool)
 | 0, _, _, _, _, _, _, _ => none
 | k + 1, x1, x2, x7, x297000, x297001, x297002, x297003 => if (wrap64 (x7 + 1)) < (x1.length : Int) then (if 0 ≤ x7 then (if x7 < (x1.length : Int) then (if 0 ≤ (wrap64 (x7 + 1)) then ((impl_within.f x2 ((rd_T44 x1 x7).f1) ((rd_T44 x1 (wrap64 (x7 + 1))).f1)).bind fun t303 => (if t303 = true then ((impl_height.f x297000 x297001 x297002 x297003 ((rd_T44 x1 x7).f0.f0) ((rd_T44 x1 x7).f0.f1)).bind fun t304 => ((impl_height.f x297000 x297001 x297002 x297003 ((rd_T44 x1 (wrap64 (x7 + 1))).f0.f0) ((rd_T44 x1 (wrap64 (x7 + 1))).f0.f1)).bind fun t305 => (if (wrap64 ((wrap64 (t304 * (wrap64 (((rd_T44 x1 (wrap64 (x7 + 1))).f1) - x2)))) + (wrap64 (t305 * (wrap64 (x2 - ((rd_T44 x1 x7).f1))))))) < 0 then (some true) else (impl_EarlyAt.l0 k x1 x2 (wrap64 (x7 + 1)) x297000 x297001 x297002 x297003)))) else (impl_EarlyAt.l0 k x1 x2 (wrap64 (x7 + 1)) x297000 x297001 x297002 x297003))) else (none)) else (none)) else (none)) else (some false)
end
def impl_EarlyAt.f (k : Nat) (a0_0 : Int) (a0_1 : Int) (a0_2 : Int) (a0_3 : Int) (l1 : List (S44)) (a2 : Int) : Option (Bool) := (impl_LineOk.f a0_0 a0_1 a0_2 a0_3).bind fun t297 => (if t297 = true then ((impl_TrackOk.f k l1).bind fun t298 => (impl_EarlyAt.j0 k l1 a2 (!t298) a0_0 a0_1 a0_2 a0_3)) else (impl_EarlyAt.j0 k l1 a2 true a0_0 a0_1 a0_2 a0_3))
theorem impl_EarlyAt.mono_l : ∀ k, (∀ y0 y1 y2 y3 y4 y5 y6, LeO (impl_EarlyAt.j0 k y0 y1 y2 y3 y4 y5 y6) (impl_EarlyAt.j0 (k + 1) y0 y1 y2 y3 y4 y5 y6)) ∧ (∀ y0 y1 y2 y3 y4 y5 y6, LeO (impl_EarlyAt.l0 k y0 y1 y2 y3 y4 y5 y6) (impl_EarlyAt.l0 (k + 1) y0 y1 y2 y3 y4 y5 y6))
 | 0 => ⟨fun _ _ _ _ _ _ _ r h => by simp [impl_EarlyAt.j0] at h, fun _ _ _ _ _ _ _ r h => by simp [impl_EarlyAt.l0] at h⟩
 | k + 1 => by
  obtain ⟨ih0, ih1⟩ := impl_EarlyAt.mono_l k
  refine ⟨?_, ?_⟩
  ·intro y0 y1 y2 y3 y4 y5 y6
   unfold impl_EarlyAt.j0
   repeat' first
   | (with_reducible exact ih0 _ _ _ _ _ _ _)
   | (with_reducible exact ih1 _ _ _ _ _ _ _)
   | (with_reducible exact impl_TrackOk.mono _ _)
   | (with_reducible exact LeO.refl _)
   | (with_reducible exact LeO.none _)
   | (with_reducible refine LeO.ite ?_ ?_)
   | (with_reducible refine LeO.bind ?_ (fun _ => ?_))
   | exact ih0 _ _ _ _ _ _ _
   | exact ih1 _ _ _ _ _ _ _
   | exact impl_TrackOk.mono _ _
   | exact LeO.none _
   | refine LeO.ite ?_ ?_
   | refine LeO.bind ?_ (fun _ => ?_)
  ·intro y0 y1 y2 y3 y4 y5 y6
   unfold impl_EarlyAt.l0
   repeat' first
   | (with_reducible exact ih0 _ _ _ _ _ _ _)
   | (with_reducible exact ih1 _ _ _ _ _ _ _)
   | (with_reducible exact impl_TrackOk.mono _ _)
   | (with_reducible exact LeO.refl _)
   | (with_reducible exact LeO.none _)
   | (with_reducible refine LeO.ite ?_ ?_)
   | (with_reducible refine LeO.bind ?_ (fun _ => ?_))
   | exact ih0 _ _ _ _ _ _ _
   | exact ih1 _ _ _ _ _ _ _
   | exact impl_TrackOk.mono _ _
   | exact LeO.none _
   | refine LeO.ite ?_ ?_
   | refine LeO.bind ?_ (fun _ => ?_)
theorem impl_EarlyAt.mono : ∀ a0 a1 a2 a3 a4 a5 k, LeO (impl_EarlyAt.f k a0 a1 a2 a3 a4 a5) (impl_EarlyAt.f (k + 1) a0 a1 a2 a3 a4 a5) := by
 intro a0 a1 a2 a3 a4 a5 k
 obtain ⟨ih0, ih1⟩ := impl_EarlyAt.mono_l k
 unfold impl_EarlyAt.f
 repeat' first
   | (with_reducible exact ih0 _ _ _ _ _ _ _)
   | (with_reducible exact ih1 _ _ _ _ _ _ _)
   | (with_reducible exact impl_TrackOk.mono _ _)
   | (with_reducible exact LeO.refl _)
   | (with_reducible exact LeO.none _)
   | (with_reducible refine LeO.ite ?_ ?_)
   | (with_reducible refine LeO.bind ?_ (fun _ => ?_))
   | exact ih0 _ _ _ _ _ _ _
   | exact ih1 _ _ _ _ _ _ _
   | exact impl_TrackOk.mono _ _
   | exact LeO.none _
   | refine LeO.ite ?_ ?_
   | refine LeO.bind ?_ (fun _ => ?_)
def impl_EarlyAt.T6 : Bool × List (List Nat × List Nat) := (true, [([], []), ([], []), ([0, 1], [0, 1]), ([2], [2]), ([], []), ([], []), ([5], [5]), ([4, 6], [4, 6]), ([7], [7]), ([], []), ([], []), ([9, 3, 0, 1, 2, 3, 9, 10], [3, 9]), ([10, 8, 11, 0, 1, 2, 3, 4, 5, 6, 7, 8, 9, 10, 11], [8, 10])])
def impl_EarlyAt.B6 : List Nat := [0, 0, 3, 7, 0, 0, 32, 112, 240, 0, 0, 1551, 4095]
theorem impl_EarlyAt.tab6 : rtab .any (opsOf Try.f23 6) = impl_EarlyAt.T6 := by kernel_rfl
theorem impl_EarlyAt.bits6 : waitsOk impl_EarlyAt.T6.2 impl_EarlyAt.B6 = true := by kernel_rfl
def impl_EarlyAt.T7 : Bool × List (List Nat × List Nat) := (true, [([], []), ([], []), ([1], [1]), ([], []), ([3], [3]), ([0, 2, 4], [0, 2, 4]), ([5, 5], [5]), ([6], [6]), ([6], [6]), ([8, 6], [6, 8]), ([7, 9, 6, 6], [6, 7, 9]), ([6], [6]), ([11, 6], [6, 11]), ([6], [6]), ([12, 13, 6], [6, 12, 13]), ([10, 14, 6], [6, 10, 14]), ([6], [6]), ([6], [6]), ([17, 6], [6, 17]), ([16, 18, 10, 6], [6, 16, 18]), ([6], [6]), ([6], [6]), ([21, 6], [6, 21]), ([20, 22, 6], [6, 20, 22]), ([19, 23, 6], [6, 19, 23]), ([15, 24, 6], [6, 15, 24]), ([25, 6], [6, 25]), ([6, 26], [6, 26])])
def impl_EarlyAt.B7 : List Nat := [0, 0, 2, 0, 8, 31, 63, 127, 127, 383, 1023, 127, 2175, 127, 14463, 32767, 127, 127, 131199, 460799, 127, 127, 2097279, 7340159, 16713727, 33554431, 67108863, 134217727]
theorem impl_EarlyAt.tab7 : rtab .any (opsOf Try.f23 7) = impl_EarlyAt.T7 := by kernel_rfl
theorem impl_EarlyAt.bits7 : waitsOk impl_EarlyAt.T7.2 impl_EarlyAt.B7 = true := by kernel_rfl
set_option maxHeartbeats 8000000 in
set_option maxRecDepth 100000 in
theorem impl_EarlyAt.calls (k : Nat) (a0_0 : Int) (a0_1 : Int) (a0_2 : Int) (a0_3 : Int) (A1 : Option Addr) (c1 : Nat) (l1 : List (S44)) (a2 : Int) (r : Bool) (w : World) (hr1 : Kd.C k44 w A1 l1.length l1) (hc1 : l1.length ≤ c1) (h : impl_EarlyAt.f k a0_0 a0_1 a0_2 a0_3 l1 a2 = some r) :
  Calls Try.prog 23 #[.agg #[.int .i64 a0_0, .int .i64 a0_1, .int .i64 a0_2, .int .i64 a0_3], .slice A1 l1.length c1, .int .i64 a2] w fun e w' => e = .returned (.bool r) ∧ Below w.heap.size w w' := by
 have hu33 := Try.underlying33
 have hu44 := Try.underlying44
 have hu31 := Try.underlying31
 have HR1 := Aside0.mk hr1
 have HC1 := Aside0.mk hc1
 clear hr1 hc1
 have HB := Aside0.mk (Below.refl w.heap.size w)
 have H : ((impl_LineOk.f a0_0 a0_1 a0_2 a0_3).bind fun t297 => (if t297 = true then ((impl_TrackOk.f k l1).bind fun t298 => (impl_EarlyAt.j0 k l1 a2 (!t298) a0_0 a0_1 a0_2 a0_3)) else (impl_EarlyAt.j0 k l1 a2 true a0_0 a0_1 a0_2 a0_3))) = some r := h
 clear h
 have HC4 := Aside0.mk H
 clear H
 go_enter Try.func23, Try.ntmps23
 go_upto_region 1 with (first | ((with_reducible refine gate_dst (N := 3) rfl ?_); refine box_event ?hg (N := 3) ?hd (cs := #[.int .i64 a0_0, .int .i64 a0_1, .int .i64 a0_2, .int .i64 a0_3]) (t := 33) ?hr ?_; (case hd => rfl); (case hg => rfl); (case hr => first | (go_simp; done) | (go_simp; rfl)); intro gb296 hg w5 hbox hb; have n0_ := Aside0.mk (below_step (by repeat (first | (with_reducible first | exact HB.out | apply below_alloc | apply pw_below_drewN | apply below_drew1) | exact HB.out)) hb); have n1_ := Aside0.mk (hbox); have n2_ := Aside0.mk ((by rw [hg]; exact (below_size (by repeat (first | (with_reducible first | exact HB.out | apply below_alloc | apply pw_below_drewN | apply below_drew1) | exact HB.out))) : w.heap.size ≤ gb296)); have n3_ := Aside0.mk ((by rw [hg]; exact (below_size (by repeat (first | (with_reducible first | exact HB.out | apply below_alloc | apply pw_below_drewN | apply below_drew1) | exact HB.out))) : w.heap.size ≤ gb296)); clear HB; have HB := n0_; have BK296 := n1_; have GW296 := n2_; have GE296 := n3_; clear n0_ n1_ n2_ n3_; clear hb hbox hg))
 (try simp only [Act.put, List.setIfInBounds_toArray, List.set_cons_zero, List.set_cons_succ])
 go_cut [17] (fun v17 wc => ∃ (kq : Nat) (x17_3 : Bool), v17 = .bool x17_3 ∧ Aside0 (impl_EarlyAt.j0 kq l1 a2 x17_3 a0_0 a0_1 a0_2 a0_3 = some r) ∧ Aside0 (kq ≤ k) ∧ Aside0 (wc.heap[gb296]? = some (.cells #[.int .i64 a0_0, .int .i64 a0_1, .int .i64 a0_2, .int .i64 a0_3] 33 (0, 0))) ∧ Aside0 (Below w.heap.size w wc))
 case first =>
  have H := HC4.out
  clear HC4
  replace H := Option.bind_eq_some_iff.mp H
  obtain ⟨t297, A60, H⟩ := H
  replace H : (if t297 = true then ((impl_TrackOk.f k l1).bind fun t298 => (impl_EarlyAt.j0 k l1 a2 (!t298) a0_0 a0_1 a0_2 a0_3)) else (impl_EarlyAt.j0 k l1 a2 true a0_0 a0_1 a0_2 a0_3)) = some r := H
  have A6 := Aside0.mk A60
  clear A60
  by_cases c7 : t297 = true
  ·subst c7
   have H1 : ((impl_TrackOk.f k l1).bind fun t298 => (impl_EarlyAt.j0 k l1 a2 (!t298) a0_0 a0_1 a0_2 a0_3)) = some r := by rw [if_pos rfl] at H; exact H
   clear H
   have H := H1
   clear H1
   replace H := Option.bind_eq_some_iff.mp H
   obtain ⟨t298, A80, H⟩ := H
   replace H : (impl_EarlyAt.j0 k l1 a2 (!t298) a0_0 a0_1 a0_2 a0_3) = some r := H
   have A8 := Aside0.mk A80
   clear A80
   have H' := Aside0.mk H
   clear H
   have hcz9_0 : w5.cell? ⟨gb296, 0, none⟩ = some (.int .i64 a0_0) := (blk_cell BK296.out 0).trans rfl
   have hcz9_1 : w5.cell? ⟨gb296, 1, none⟩ = some (.int .i64 a0_1) := (blk_cell BK296.out 1).trans rfl
   have hcz9_2 : w5.cell? ⟨gb296, 2, none⟩ = some (.int .i64 a0_2) := (blk_cell BK296.out 2).trans rfl
   have hcz9_3 : w5.cell? ⟨gb296, 3, none⟩ = some (.int .i64 a0_3) := (blk_cell BK296.out 3).trans rfl
   have hfz9_0 := blk_frozen BK296.out 0
   have hfz9_1 := blk_frozen BK296.out 1
   have hfz9_2 := blk_frozen BK296.out 2
   have hfz9_3 := blk_frozen BK296.out 3
   go_wp2_with (first | ((with_reducible refine gate_callee (f := 42) rfl ?_); refine goesL_ (some 11) rfl rfl Try.func42 (by kernel_rfl) rfl #[.agg #[.int .i64 a0_0, .int .i64 a0_1, .int .i64 a0_2, .int .i64 a0_3]] rfl (by (try simp only [List.map_toArray, List.map_cons, List.map_nil]); first | done | rfl | (simp only [List.length_drop, List.length_take]; rfl)) ?_; (with_reducible refine (impl_LineOk.calls a0_0 a0_1 a0_2 a0_3 true _ A6.out).mono ?_); rintro e w10 ⟨rfl, hb⟩; refine ⟨_, rfl, ?_⟩; have n0_ := Aside0.mk (blk_below (g := gb296) (o := .cells #[.int .i64 a0_0, .int .i64 a0_1, .int .i64 a0_2, .int .i64 a0_3] 33 (0, 0)) (by (with_reducible repeat (first | refine blk_drewN ?_ _ | refine blk_drew ?_ | refine blk_alloc ?_ _)); exact BK296.out) hb); have n1_ := Aside0.mk (below_step (by repeat (first | (with_reducible first | exact HB.out | apply below_alloc | apply pw_below_drewN | apply below_drew1 | refine below_set ?_ GE296.out) | exact HB.out)) hb); clear BK296; clear HB; have BK296 := n0_; have HB := n1_; clear n0_ n1_; (try clear hb); (try clear hb2); (try clear hk); (try clear hi)) | (go_at_call 48; (with_reducible refine (impl_TrackOk.calls k _ _ l1 t298 _ ?side1 ?side2 A8.out).mono ?_); (case side1 => repeat (first | exact (Kd.C_below HR1.out HB.out) | (with_reducible refine Kd.C_alloc ?_ _) | (with_reducible refine Kd.C_drewN ?_ _) | (with_reducible refine Kd.C_drew ?_))); (case side2 => exact HC1.out); rintro e w11 ⟨rfl, hb⟩; have n0_ := Aside0.mk (blk_below (g := gb296) (o := .cells #[.int .i64 a0_0, .int .i64 a0_1, .int .i64 a0_2, .int .i64 a0_3] 33 (0, 0)) (by (with_reducible repeat (first | refine blk_drewN ?_ _ | refine blk_drew ?_ | refine blk_alloc ?_ _)); exact BK296.out) hb); have n1_ := Aside0.mk (below_step (by repeat (first | (with_reducible first | exact HB.out | apply below_alloc | apply pw_below_drewN | apply below_drew1 | refine below_set ?_ GE296.out) | exact HB.out)) hb); clear BK296; clear HB; have BK296 := n0_; have HB := n1_; clear n0_ n1_; (try clear hb); (try clear hb2); (try clear hk); (try clear hi)))
   go_meet
   case rel => exact ⟨_, (!t298), (by first | rfl | (simp; done) | (simp [*]; done)), H', ⟨by first | omega | exact Nat.le_refl _⟩, ⟨by (with_reducible repeat (first | refine blk_drewN ?_ _ | refine blk_drew ?_ | refine blk_alloc ?_ _)); exact BK296.out⟩, ⟨by repeat (first | (with_reducible first | exact HB.out | apply below_alloc | apply pw_below_drewN | apply below_drew1 | refine below_set ?_ GE296.out) | exact HB.out)⟩⟩
  ·replace c7 := Bool.eq_false_iff.mpr c7
   subst c7
   have H1 : (impl_EarlyAt.j0 k l1 a2 true a0_0 a0_1 a0_2 a0_3) = some r := by rw [if_neg (show ¬ (false = true) by decide)] at H; exact H
   clear H
   have H := H1
   clear H1
   have H' := Aside0.mk H
   clear H
   have hcz12_0 : w5.cell? ⟨gb296, 0, none⟩ = some (.int .i64 a0_0) := (blk_cell BK296.out 0).trans rfl
   have hcz12_1 : w5.cell? ⟨gb296, 1, none⟩ = some (.int .i64 a0_1) := (blk_cell BK296.out 1).trans rfl
   have hcz12_2 : w5.cell? ⟨gb296, 2, none⟩ = some (.int .i64 a0_2) := (blk_cell BK296.out 2).trans rfl
   have hcz12_3 : w5.cell? ⟨gb296, 3, none⟩ = some (.int .i64 a0_3) := (blk_cell BK296.out 3).trans rfl
   have hfz12_0 := blk_frozen BK296.out 0
   have hfz12_1 := blk_frozen BK296.out 1
   have hfz12_2 := blk_frozen BK296.out 2
   have hfz12_3 := blk_frozen BK296.out 3
   go_wp2_with (first | ((with_reducible refine gate_callee (f := 42) rfl ?_); refine goesL_ (some 11) rfl rfl Try.func42 (by kernel_rfl) rfl #[.agg #[.int .i64 a0_0, .int .i64 a0_1, .int .i64 a0_2, .int .i64 a0_3]] rfl (by (try simp only [List.map_toArray, List.map_cons, List.map_nil]); first | done | rfl | (simp only [List.length_drop, List.length_take]; rfl)) ?_; (with_reducible refine (impl_LineOk.calls a0_0 a0_1 a0_2 a0_3 false _ A6.out).mono ?_); rintro e w13 ⟨rfl, hb⟩; refine ⟨_, rfl, ?_⟩; have n0_ := Aside0.mk (blk_below (g := gb296) (o := .cells #[.int .i64 a0_0, .int .i64 a0_1, .int .i64 a0_2, .int .i64 a0_3] 33 (0, 0)) (by (with_reducible repeat (first | refine blk_drewN ?_ _ | refine blk_drew ?_ | refine blk_alloc ?_ _)); exact BK296.out) hb); have n1_ := Aside0.mk (below_step (by repeat (first | (with_reducible first | exact HB.out | apply below_alloc | apply pw_below_drewN | apply below_drew1 | refine below_set ?_ GE296.out) | exact HB.out)) hb); clear BK296; clear HB; have BK296 := n0_; have HB := n1_; clear n0_ n1_; (try clear hb); (try clear hb2); (try clear hk); (try clear hi)))
   go_meet
   case rel => exact ⟨_, (true), (by first | rfl | (simp; done) | (simp [*]; done)), H', ⟨by first | omega | exact Nat.le_refl _⟩, ⟨by (with_reducible repeat (first | refine blk_drewN ?_ _ | refine blk_drew ?_ | refine blk_alloc ?_ _)); exact BK296.out⟩, ⟨by repeat (first | (with_reducible first | exact HB.out | apply below_alloc | apply pw_below_drewN | apply below_drew1 | refine below_set ?_ GE296.out) | exact HB.out)⟩⟩
 case rest =>
  clear HC4
  try clear c1
  try clear c2
  try clear p2
  try clear c4
  try clear c7
  try clear hcz12_0
  try clear hcz12_1
  try clear hcz12_2
  try clear hcz12_3
  try clear hcz9_0
  try clear hcz9_1
  try clear hcz9_2
  try clear hcz9_3
  try clear hfz12_0
  try clear hfz12_1
  try clear hfz12_2
  try clear hfz12_3
  try clear hfz9_0
  try clear hfz9_1
  try clear hfz9_2
  try clear hfz9_3
  obtain ⟨kq, x17_3, rfl, HA, HJ3, BK296, HB⟩ := hcut
  cases kq with
  | zero => exact absurd HA.out (by simp [impl_EarlyAt.j0])
  | succ kj3 =>
   have H := HA.out
   clear HA
   simp only [impl_EarlyAt.j0] at H
   by_cases c14 : x17_3 = true
   ·subst c14
    have H1 : (some false) = some r := by rw [if_pos rfl] at H; exact H
    clear H
    have H := H1
    clear H1
    obtain rfl := Option.some.inj H
    go_wp2
    go_ret
    exact ⟨by first | rfl | (simp [errW_none, errW_some] <;> rfl) | (simp [*, errW_none, errW_some] <;> rfl), by repeat (first | (with_reducible first | exact HB.out | apply below_alloc | apply pw_below_drewN | apply below_drew1 | refine below_set ?_ GE296.out) | exact HB.out)⟩
   ·replace c14 := Bool.eq_false_iff.mpr c14
    subst c14
    have H1 : (impl_EarlyAt.l0 kj3 l1 a2 0 a0_0 a0_1 a0_2 a0_3) = some r := by rw [if_neg (show ¬ (false = true) by decide)] at H; exact H
    clear H
    have H := H1
    clear H1
    have H' := Aside0.mk H
    clear H
    go_wp2
    go_loopg [7] kj3 (fun kq v7 w' => ∃ (x7_2 : Int), v7 = .int .i64 x7_2 ∧ Aside0 (impl_EarlyAt.l0 kq l1 a2 x7_2 a0_0 a0_1 a0_2 a0_3 = some r) ∧ Aside0 (kq ≤ kj3) ∧ Aside0 (w'.heap[gb296]? = some (.cells #[.int .i64 a0_0, .int .i64 a0_1, .int .i64 a0_2, .int .i64 a0_3] 33 (0, 0))) ∧ Aside0 (Below w.heap.size w w'))
    case atStart => exact ⟨(0), (by first | rfl | (simp; done) | (simp [*]; done)), H', ⟨Nat.le_refl _⟩, ⟨by (with_reducible repeat (first | refine blk_drewN ?_ _ | refine blk_drew ?_ | refine blk_alloc ?_ _)); exact BK296.out⟩, ⟨by repeat (first | (with_reducible first | exact HB.out | apply below_alloc | apply pw_below_drewN | apply below_drew1 | refine below_set ?_ GE296.out) | exact HB.out)⟩⟩
    case round =>
     clear H'
     try clear c1
     try clear c2
     try clear p2
     try clear c4
     try clear c7
     try clear c14
     try clear hcz12_0
     try clear hcz12_1
     try clear hcz12_2
     try clear hcz12_3
     try clear hcz9_0
     try clear hcz9_1
     try clear hcz9_2
     try clear hcz9_3
     try clear hfz12_0
     try clear hfz12_1
     try clear hfz12_2
     try clear hfz12_3
     try clear hfz9_0
     try clear hfz9_1
     try clear hfz9_2
     try clear hfz9_3
     try clear p2
     obtain ⟨x7_2, rfl, HA, HK2, BK296, HB⟩ := hrel
     cases gk with
     | zero => exact absurd HA.out (by simp [impl_EarlyAt.l0])
     | succ k2 =>
      have H := HA.out
      clear HA
      simp only [impl_EarlyAt.l0] at H
      by_cases c15 : (wrap64 (x7_2 + 1)) < (l1.length : Int)
      ·rw [if_pos c15] at H
       have c15b0 : decide ((wrap64 (x7_2 + 1)) < (l1.length : Int)) = true := decide_eq_true c15
       clear c15
       by_cases c16 : 0 ≤ x7_2
       ·rw [if_pos c16] at H
        have c16b0 : decide (0 ≤ x7_2) = true := decide_eq_true c16
        clear c16
        by_cases c17 : x7_2 < (l1.length : Int)
        ·rw [if_pos c17] at H
         have c17b0 : decide (x7_2 < (l1.length : Int)) = true := decide_eq_true c17
         clear c17
         obtain ⟨ji18, hji18⟩ : ∃ j_ : Int, (wrap64 (x7_2 + 1)) = j_ := ⟨_, rfl⟩
         replace H : (if 0 ≤ (ji18) then ((impl_within.f a2 ((rd_T44 l1 x7_2).f1) ((rd_T44 l1 (ji18)).f1)).bind fun t303 => (if t303 = true then ((impl_height.f a0_0 a0_1 a0_2 a0_3 ((rd_T44 l1 x7_2).f0.f0) ((rd_T44 l1 x7_2).f0.f1)).bind fun t304 => ((impl_height.f a0_0 a0_1 a0_2 a0_3 ((rd_T44 l1 (ji18)).f0.f0) ((rd_T44 l1 (ji18)).f0.f1)).bind fun t305 => (if (wrap64 ((wrap64 (t304 * (wrap64 (((rd_T44 l1 (ji18)).f1) - a2)))) + (wrap64 (t305 * (wrap64 (a2 - ((rd_T44 l1 x7_2).f1))))))) < 0 then (some true) else (impl_EarlyAt.l0 k2 l1 a2 ji18 a0_0 a0_1 a0_2 a0_3)))) else (impl_EarlyAt.l0 k2 l1 a2 ji18 a0_0 a0_1 a0_2 a0_3))) else (none)) = some r := by first | (rw [hji18] at H; exact H) | (simp only [hji18] at H ⊢; exact H)
         (try rw [hji18] at c15b0)
         have hji18w : (IntKind.i64.wrap (x7_2 + 1)) = ji18 := (i64_w _).trans hji18
         by_cases c19 : 0 ≤ (ji18)
         ·rw [if_pos c19] at H
          have c19b0 : decide (0 ≤ (ji18)) = true := decide_eq_true c19
          clear c19
          replace H := Option.bind_eq_some_iff.mp H
          obtain ⟨t303, A200, H⟩ := H
          replace H : (if t303 = true then ((impl_height.f a0_0 a0_1 a0_2 a0_3 ((rd_T44 l1 x7_2).f0.f0) ((rd_T44 l1 x7_2).f0.f1)).bind fun t304 => ((impl_height.f a0_0 a0_1 a0_2 a0_3 ((rd_T44 l1 (ji18)).f0.f0) ((rd_T44 l1 (ji18)).f0.f1)).bind fun t305 => (if (wrap64 ((wrap64 (t304 * (wrap64 (((rd_T44 l1 (ji18)).f1) - a2)))) + (wrap64 (t305 * (wrap64 (a2 - ((rd_T44 l1 x7_2).f1))))))) < 0 then (some true) else (impl_EarlyAt.l0 k2 l1 a2 ji18 a0_0 a0_1 a0_2 a0_3)))) else (impl_EarlyAt.l0 k2 l1 a2 ji18 a0_0 a0_1 a0_2 a0_3)) = some r := H
          have A20 := Aside0.mk A200
          clear A200
          by_cases c21 : t303 = true
          ·subst c21
           have H1 : ((impl_height.f a0_0 a0_1 a0_2 a0_3 ((rd_T44 l1 x7_2).f0.f0) ((rd_T44 l1 x7_2).f0.f1)).bind fun t304 => ((impl_height.f a0_0 a0_1 a0_2 a0_3 ((rd_T44 l1 (ji18)).f0.f0) ((rd_T44 l1 (ji18)).f0.f1)).bind fun t305 => (if (wrap64 ((wrap64 (t304 * (wrap64 (((rd_T44 l1 (ji18)).f1) - a2)))) + (wrap64 (t305 * (wrap64 (a2 - ((rd_T44 l1 x7_2).f1))))))) < 0 then (some true) else (impl_EarlyAt.l0 k2 l1 a2 ji18 a0_0 a0_1 a0_2 a0_3)))) = some r := by rw [if_pos rfl] at H; exact H
           clear H
           have H := H1
           clear H1
           replace H := Option.bind_eq_some_iff.mp H
           obtain ⟨t304, A220, H⟩ := H
           replace H : ((impl_height.f a0_0 a0_1 a0_2 a0_3 ((rd_T44 l1 (ji18)).f0.f0) ((rd_T44 l1 (ji18)).f0.f1)).bind fun t305 => (if (wrap64 ((wrap64 (t304 * (wrap64 (((rd_T44 l1 (ji18)).f1) - a2)))) + (wrap64 (t305 * (wrap64 (a2 - ((rd_T44 l1 x7_2).f1))))))) < 0 then (some true) else (impl_EarlyAt.l0 k2 l1 a2 ji18 a0_0 a0_1 a0_2 a0_3))) = some r := H
           have A22 := Aside0.mk A220
           clear A220
           replace H := Option.bind_eq_some_iff.mp H
           obtain ⟨t305, A230, H⟩ := H
           replace H : (if (wrap64 ((wrap64 (t304 * (wrap64 (((rd_T44 l1 (ji18)).f1) - a2)))) + (wrap64 (t305 * (wrap64 (a2 - ((rd_T44 l1 x7_2).f1))))))) < 0 then (some true) else (impl_EarlyAt.l0 k2 l1 a2 ji18 a0_0 a0_1 a0_2 a0_3)) = some r := H
           have A23 := Aside0.mk A230
           clear A230
           by_cases c24 : (wrap64 ((wrap64 (t304 * (wrap64 (((rd_T44 l1 (ji18)).f1) - a2)))) + (wrap64 (t305 * (wrap64 (a2 - ((rd_T44 l1 x7_2).f1))))))) < 0
           ·rw [if_pos c24] at H
            have c24b0 : decide ((wrap64 ((wrap64 (t304 * (wrap64 (((rd_T44 l1 (ji18)).f1) - a2)))) + (wrap64 (t305 * (wrap64 (a2 - ((rd_T44 l1 x7_2).f1))))))) < 0) = true := decide_eq_true c24
            clear c24
            obtain rfl := Option.some.inj H
            try go_wp2
            have n0_ := Aside0.mk (blk_drew BK296.out)
            have n1_ := Aside0.mk (below_drew1 HB.out)
            clear BK296
            clear HB
            have BK296 := n0_
            have HB := n1_
            clear n0_ n1_
            have p299 : 0 ≤ (x7_2 : Int) := of_decide_eq_true (by first | (with_reducible assumption) | assumption)
            have q299 : x7_2 < (l1.length : Int) := of_decide_eq_true (by first | (with_reducible assumption) | assumption)
            obtain ⟨ad299, e299, hx299_0, hx299_1, hx299_2⟩ := at_T44 HR1.out x7_2 p299 q299
            have hw299_2 := hx299_2
            have hw299_1 := hx299_1
            have hw299_0 := hx299_0
            cases e299
            replace hx299_0 := (HB.out.cell (bl_ w _ hx299_0)).trans hx299_0
            replace hx299_1 := (HB.out.cell (bl_ w _ hx299_1)).trans hx299_1
            replace hx299_2 := (HB.out.cell (bl_ w _ hx299_2)).trans hx299_2
            replace p299 := eq_true p299
            replace q299 := eq_true q299
            have p300 : 0 ≤ ((ji18) : Int) := of_decide_eq_true (by first | (with_reducible assumption) | assumption)
            have q300 : (ji18) < (l1.length : Int) := of_decide_eq_true (by first | (with_reducible assumption) | assumption)
            obtain ⟨ad300, e300, hx300_0, hx300_1, hx300_2⟩ := at_T44 HR1.out (ji18) p300 q300
            have hw300_2 := hx300_2
            have hw300_1 := hx300_1
            have hw300_0 := hx300_0
            obtain rfl : ad299 = ad300 := (by injection e300)
            replace hx300_0 := (HB.out.cell (bl_ w _ hx300_0)).trans hx300_0
            replace hx300_1 := (HB.out.cell (bl_ w _ hx300_1)).trans hx300_1
            replace hx300_2 := (HB.out.cell (bl_ w _ hx300_2)).trans hx300_2
            replace p300 := eq_true p300
            replace q300 := eq_true q300
            refine start_ (n := 13) (S := fun w' => w'.cell? (ad299.add ((x7_2).toNat * 3)) = some (.int .i64 ((rd_T44 l1 x7_2).f0.f0)) ∧ w'.cell? ⟨(ad299.add ((x7_2).toNat * 3)).block, (ad299.add ((x7_2).toNat * 3)).off + 1, none⟩ = some (.int .i64 ((rd_T44 l1 x7_2).f0.f1)) ∧ w'.cell? ⟨(ad299.add ((x7_2).toNat * 3)).block, (ad299.add ((x7_2).toNat * 3)).off + 2, none⟩ = some (.int .i64 ((rd_T44 l1 x7_2).f1)) ∧ w'.cell? (ad299.add (((ji18)).toNat * 3)) = some (.int .i64 ((rd_T44 l1 (ji18)).f0.f0)) ∧ w'.cell? ⟨(ad299.add (((ji18)).toNat * 3)).block, (ad299.add (((ji18)).toNat * 3)).off + 1, none⟩ = some (.int .i64 ((rd_T44 l1 (ji18)).f0.f1)) ∧ w'.cell? ⟨(ad299.add (((ji18)).toNat * 3)).block, (ad299.add (((ji18)).toNat * 3)).off + 2, none⟩ = some (.int .i64 ((rd_T44 l1 (ji18)).f1))) (ds := []) #[false, false, false, false, false, false, false, false, false, false, false, false, false] (by kernel_rfl) rfl rfl ⟨((HB.out.cell (bl_ w _ hw299_0)).trans hw299_0), ((HB.out.cell (bl_ w _ hw299_1)).trans hw299_1), ((HB.out.cell (bl_ w _ hw299_2)).trans hw299_2), ((HB.out.cell (bl_ w _ hw300_0)).trans hw300_0), ((HB.out.cell (bl_ w _ hw300_1)).trans hw300_1), ((HB.out.cell (bl_ w _ hw300_2)).trans hw300_2)⟩ (fun hHeld => ?_); refine with_tabW impl_EarlyAt.tab6 impl_EarlyAt.bits6 (fun HT_ HW_ => ?_)
            generalize wr.drew = w25 at BK296 HB hx299_0 hx299_1 hx299_2 hx300_0 hx300_1 hx300_2 hHeld ⊢
            refine pure_ (i := 0) (N := some 25) (v := ?_) (a' := ?_) #[true, false, false, false, false, false, false, false, false, false, false, false, false] rfl rfl (any_of HT_.out (by kernel_rfl)) (fun _ _ _ h => h) (Or.inl ⟨by rfl, ?_⟩) ?_ ?_
            rotate_left
            ·intro w'
             go_simp
             with_reducible rfl
            rotate_left
            ·simp only [Act.put, List.setIfInBounds_toArray, List.set_cons_zero, List.set_cons_succ, i64_w, i32_w]
             rfl
            refine pure_ (i := 1) (N := some 26) (v := ?_) (a' := ?_) #[true, true, false, false, false, false, false, false, false, false, false, false, false] rfl rfl (any_of HT_.out (by kernel_rfl)) (fun _ _ _ h => h) (Or.inl ⟨by rfl, ?_⟩) ?_ ?_
            rotate_left
            ·intro w'
             go_simp
             with_reducible rfl
            rotate_left
            ·simp only [Act.put, List.setIfInBounds_toArray, List.set_cons_zero, List.set_cons_succ, i64_w, i32_w]
             rfl
            refine pure_ (i := 2) (N := some 27) (v := ?_) (a' := ?_) #[true, true, true, false, false, false, false, false, false, false, false, false, false] rfl rfl (any_of HT_.out (by kernel_rfl)) (fun _ _ _ h => h) (Or.inl ⟨by rfl, ?_⟩) ?_ ?_
            rotate_left
            ·intro w'
             go_simp
             with_reducible rfl
            rotate_left
            ·simp only [Act.put, List.setIfInBounds_toArray, List.set_cons_zero, List.set_cons_succ, i64_w, i32_w]
             rfl
            refine pure_ (i := 4) (N := some 29) (v := ?_) (a' := ?_) #[true, true, true, false, true, false, false, false, false, false, false, false, false] rfl rfl (any_of HT_.out (by kernel_rfl)) (fun _ _ _ h => h) (Or.inl ⟨by rfl, ?_⟩) ?_ ?_
            rotate_left
            ·intro w'
             go_simp
             with_reducible rfl
            rotate_left
            ·simp only [Act.put, List.setIfInBounds_toArray, List.set_cons_zero, List.set_cons_succ, i64_w, i32_w]
             rfl
            refine pure_ (i := 5) (N := some 30) (v := ?_) (a' := ?_) #[true, true, true, false, true, true, false, false, false, false, false, false, false] rfl rfl (any_of HT_.out (by kernel_rfl)) (fun _ _ _ h => h) (Or.inl ⟨by rfl, ?_⟩) ?_ ?_
            rotate_left
            ·intro w'
             go_simp
             with_reducible rfl
            rotate_left
            ·simp only [Act.put, List.setIfInBounds_toArray, List.set_cons_zero, List.set_cons_succ, i64_w, i32_w]
             rfl
            refine pure_ (i := 6) (N := some 31) (v := ?_) (a' := ?_) #[true, true, true, false, true, true, true, false, false, false, false, false, false] rfl rfl (any_of HT_.out (by kernel_rfl)) (fun _ _ _ h => h) (Or.inl ⟨by rfl, ?_⟩) ?_ ?_
            rotate_left
            ·intro w'
             go_simp
             with_reducible rfl
            rotate_left
            ·simp only [Act.put, List.setIfInBounds_toArray, List.set_cons_zero, List.set_cons_succ, i64_w, i32_w]
             rfl
            refine pure_ (i := 7) (N := some 32) (v := ?_) (a' := ?_) #[true, true, true, false, true, true, true, true, false, false, false, false, false] rfl rfl (any_of HT_.out (by kernel_rfl)) (fun _ _ _ h => h) (Or.inl ⟨by rfl, ?_⟩) ?_ ?_
            rotate_left
            ·intro w'
             go_simp
             with_reducible rfl
            rotate_left
            ·simp only [Act.put, List.setIfInBounds_toArray, List.set_cons_zero, List.set_cons_succ, i64_w, i32_w]
             rfl
            refine take_ (i := 3) (N := some 28) (v := ?_) (a' := ?_) #[true, true, true, true, true, true, true, true, false, false, false, false, false] rfl rfl (take_ofW HT_.out HW_.out (by kernel_rfl)) (fun _ _ _ h => h) (Or.inl ⟨by rfl, ?_⟩) hHeld ?_ ?_
            rotate_left
            ·rintro w' ⟨s0, s1, s2, s3, s4, s5⟩
             go_simp
             with_reducible rfl
            rotate_left
            ·simp only [Act.put, List.setIfInBounds_toArray, List.set_cons_zero, List.set_cons_succ, i64_w, i32_w]
             rfl
            refine take_ (i := 8) (N := some 33) (v := ?_) (a' := ?_) #[true, true, true, true, true, true, true, true, true, false, false, false, false] rfl rfl (take_ofW HT_.out HW_.out (by kernel_rfl)) (fun _ _ _ h => h) (Or.inl ⟨by rfl, ?_⟩) hHeld ?_ ?_
            rotate_left
            ·rintro w' ⟨s0, s1, s2, s3, s4, s5⟩
             go_simp
             with_reducible rfl
            rotate_left
            ·simp only [Act.put, List.setIfInBounds_toArray, List.set_cons_zero, List.set_cons_succ, i64_w, i32_w]
             rfl
            refine join_ (σ := Nat × Nat) 2 #[true, true, true, true, true, true, true, true, true, true, true, false, false] (fun s_ => [(8, .pointer (some ⟨s_.1, 0, none⟩)), (9, .pointer (some ⟨s_.2, 0, none⟩))]) (fun s_ w' => (w'.cell? (ad299.add ((x7_2).toNat * 3)) = some (.int .i64 ((rd_T44 l1 x7_2).f0.f0)) ∧ w'.cell? ⟨(ad299.add ((x7_2).toNat * 3)).block, (ad299.add ((x7_2).toNat * 3)).off + 1, none⟩ = some (.int .i64 ((rd_T44 l1 x7_2).f0.f1)) ∧ w'.cell? ⟨(ad299.add ((x7_2).toNat * 3)).block, (ad299.add ((x7_2).toNat * 3)).off + 2, none⟩ = some (.int .i64 ((rd_T44 l1 x7_2).f1)) ∧ w'.cell? (ad299.add (((ji18)).toNat * 3)) = some (.int .i64 ((rd_T44 l1 (ji18)).f0.f0)) ∧ w'.cell? ⟨(ad299.add (((ji18)).toNat * 3)).block, (ad299.add (((ji18)).toNat * 3)).off + 1, none⟩ = some (.int .i64 ((rd_T44 l1 (ji18)).f0.f1)) ∧ w'.cell? ⟨(ad299.add (((ji18)).toNat * 3)).block, (ad299.add (((ji18)).toNat * 3)).off + 2, none⟩ = some (.int .i64 ((rd_T44 l1 (ji18)).f1))) ∧ (w'.heap[gb296]? = some (.cells #[.int .i64 a0_0, .int .i64 a0_1, .int .i64 a0_2, .int .i64 a0_3] 33 (0, 0))) ∧ (w'.heap[s_.1]? = some (.cells #[.int .i64 0, .int .i64 0, .int .i64 0] 44 (0, 0))) ∧ (w'.heap[s_.2]? = some (.cells #[.int .i64 0, .int .i64 0, .int .i64 0] 44 (0, 0))) ∧ (w.heap.size ≤ s_.1) ∧ (w.heap.size ≤ s_.1) ∧ (gb296 ≠ s_.1) ∧ (s_.1 ≠ gb296) ∧ (s_.2 ≠ s_.1) ∧ (s_.1 ≠ s_.2) ∧ (w.heap.size ≤ s_.2) ∧ (w.heap.size ≤ s_.2) ∧ (gb296 ≠ s_.2) ∧ (s_.2 ≠ gb296) ∧ (Below w.heap.size w w')) ?_ ?_
            rotate_left
            ·intro hCont
             refine two_ (i := 9) (j := 10) (Ni := some 8) (Nj := some 9) #[true, true, true, true, true, true, true, true, true, true, false, false, false] #[true, true, true, true, true, true, true, true, true, false, true, false, false] rfl rfl rfl rfl (two_of HT_.out (by kernel_rfl)) (by decide) (by decide) (fun K hK => ?_) (fun K hK => ?_)
             ·skip
              refine box_step ?hg (N := 8) ?hd (cs := #[.int .i64 0, .int .i64 0, .int .i64 0]) (t := 44) ?hr ?_; (case hd => rfl); (case hg => rfl); (case hr => first | (go_simp; done) | (go_simp; rfl))
              intro gb301 hg w26 hbox hb
              have n0_ := Aside0.mk (blk_below (g := gb296) (o := .cells #[.int .i64 a0_0, .int .i64 a0_1, .int .i64 a0_2, .int .i64 a0_3] 33 (0, 0)) (by (with_reducible repeat (first | refine blk_drewN ?_ _ | refine blk_drew ?_ | refine blk_alloc ?_ _)); exact BK296.out) hb)
              have n1_ := Aside0.mk (below_step (by repeat (first | (with_reducible first | exact HB.out | apply below_alloc | apply pw_below_drewN | apply below_drew1 | refine below_set ?_ GE296.out) | exact HB.out)) hb)
              have n2_ := Aside0.mk (hbox)
              have n3_ := Aside0.mk ((by rw [hg]; exact (below_size (by repeat (first | (with_reducible first | exact HB.out | apply below_alloc | apply pw_below_drewN | apply below_drew1 | refine below_set ?_ GE296.out) | exact HB.out))) : w.heap.size ≤ gb301))
              have n4_ := Aside0.mk ((by rw [hg]; exact (below_size (by repeat (first | (with_reducible first | exact HB.out | apply below_alloc | apply pw_below_drewN | apply below_drew1 | refine below_set ?_ GE296.out) | exact HB.out))) : w.heap.size ≤ gb301))
              have n5_ := Aside0.mk ((by rw [hg]; exact nn_ (blk_lt (g := gb296) (o := .cells #[.int .i64 a0_0, .int .i64 a0_1, .int .i64 a0_2, .int .i64 a0_3] 33 (0, 0)) (by (with_reducible repeat (first | refine blk_drewN ?_ _ | refine blk_drew ?_ | refine blk_alloc ?_ _)); exact BK296.out)) : gb296 ≠ gb301))
              have n6_ := Aside0.mk ((by rw [hg]; exact Nat.ne_of_gt (blk_lt (g := gb296) (o := .cells #[.int .i64 a0_0, .int .i64 a0_1, .int .i64 a0_2, .int .i64 a0_3] 33 (0, 0)) (by (with_reducible repeat (first | refine blk_drewN ?_ _ | refine blk_drew ?_ | refine blk_alloc ?_ _)); exact BK296.out)) : gb301 ≠ gb296))
              clear BK296
              clear HB
              have BK296 := n0_
              have HB := n1_
              have BK301 := n2_
              have GW301 := n3_
              have GE301 := n4_
              have NB296_301 := n5_
              have NB301_296 := n6_
              clear n0_ n1_ n2_ n3_ n4_ n5_ n6_
              clear hb hbox hg
              refine hK.out _ _ ⟨((HB.out.cell (bl_ w _ hw299_0)).trans hw299_0), ((HB.out.cell (bl_ w _ hw299_1)).trans hw299_1), ((HB.out.cell (bl_ w _ hw299_2)).trans hw299_2), ((HB.out.cell (bl_ w _ hw300_0)).trans hw300_0), ((HB.out.cell (bl_ w _ hw300_1)).trans hw300_1), ((HB.out.cell (bl_ w _ hw300_2)).trans hw300_2)⟩ (fun hHeld => ?_)
              clear hK K
              refine norm_ (a' := ?_) ?_ ?_
              rotate_left
              ·show Act.put _ (some 8) _ = _
               simp only [Act.put, List.setIfInBounds_toArray, List.set_cons_zero, List.set_cons_succ, i64_w, i32_w]
               rfl
              refine one_ (i := 10) (N := some 9) #[true, true, true, true, true, true, true, true, true, true, true, false, false] rfl rfl (one_of HT_.out (by kernel_rfl)) (by decide) (fun K hK => ?_)
              refine box_step ?hg (N := 9) ?hd (cs := #[.int .i64 0, .int .i64 0, .int .i64 0]) (t := 44) ?hr ?_; (case hd => rfl); (case hg => rfl); (case hr => first | (go_simp; done) | (go_simp; rfl))
              intro gb302 hg w27 hbox hb
              have n0_ := Aside0.mk (blk_below (g := gb296) (o := .cells #[.int .i64 a0_0, .int .i64 a0_1, .int .i64 a0_2, .int .i64 a0_3] 33 (0, 0)) (by (with_reducible repeat (first | refine blk_drewN ?_ _ | refine blk_drew ?_ | refine blk_alloc ?_ _)); exact BK296.out) hb)
              have n1_ := Aside0.mk (blk_below (g := gb301) (o := .cells #[.int .i64 0, .int .i64 0, .int .i64 0] 44 (0, 0)) (by (with_reducible repeat (first | refine blk_drewN ?_ _ | refine blk_drew ?_ | refine blk_alloc ?_ _)); exact BK301.out) hb)
              have n2_ := Aside0.mk (below_step (by repeat (first | (with_reducible first | exact HB.out | apply below_alloc | apply pw_below_drewN | apply below_drew1 | refine below_set ?_ GE296.out | refine below_set ?_ GE301.out) | exact HB.out)) hb)
              have n3_ := Aside0.mk (hbox)
              have n4_ := Aside0.mk ((by rw [hg]; exact (below_size (by repeat (first | (with_reducible first | exact HB.out | apply below_alloc | apply pw_below_drewN | apply below_drew1 | refine below_set ?_ GE296.out | refine below_set ?_ GE301.out) | exact HB.out))) : w.heap.size ≤ gb302))
              have n5_ := Aside0.mk ((by rw [hg]; exact (below_size (by repeat (first | (with_reducible first | exact HB.out | apply below_alloc | apply pw_below_drewN | apply below_drew1 | refine below_set ?_ GE296.out | refine below_set ?_ GE301.out) | exact HB.out))) : w.heap.size ≤ gb302))
              have n6_ := Aside0.mk ((by rw [hg]; exact nn_ (blk_lt (g := gb296) (o := .cells #[.int .i64 a0_0, .int .i64 a0_1, .int .i64 a0_2, .int .i64 a0_3] 33 (0, 0)) (by (with_reducible repeat (first | refine blk_drewN ?_ _ | refine blk_drew ?_ | refine blk_alloc ?_ _)); exact BK296.out)) : gb296 ≠ gb302))
              have n7_ := Aside0.mk ((by rw [hg]; exact Nat.ne_of_gt (blk_lt (g := gb296) (o := .cells #[.int .i64 a0_0, .int .i64 a0_1, .int .i64 a0_2, .int .i64 a0_3] 33 (0, 0)) (by (with_reducible repeat (first | refine blk_drewN ?_ _ | refine blk_drew ?_ | refine blk_alloc ?_ _)); exact BK296.out)) : gb302 ≠ gb296))
              have n8_ := Aside0.mk ((by rw [hg]; exact nn_ (blk_lt (g := gb301) (o := .cells #[.int .i64 0, .int .i64 0, .int .i64 0] 44 (0, 0)) (by (with_reducible repeat (first | refine blk_drewN ?_ _ | refine blk_drew ?_ | refine blk_alloc ?_ _)); exact BK301.out)) : gb301 ≠ gb302))
              have n9_ := Aside0.mk ((by rw [hg]; exact Nat.ne_of_gt (blk_lt (g := gb301) (o := .cells #[.int .i64 0, .int .i64 0, .int .i64 0] 44 (0, 0)) (by (with_reducible repeat (first | refine blk_drewN ?_ _ | refine blk_drew ?_ | refine blk_alloc ?_ _)); exact BK301.out)) : gb302 ≠ gb301))
              clear BK296
              clear BK301
              clear HB
              have BK296 := n0_
              have BK301 := n1_
              have HB := n2_
              have BK302 := n3_
              have GW302 := n4_
              have GE302 := n5_
              have NB296_302 := n6_
              have NB302_296 := n7_
              have NB301_302 := n8_
              have NB302_301 := n9_
              clear n0_ n1_ n2_ n3_ n4_ n5_ n6_ n7_ n8_ n9_
              clear hb hbox hg
              refine hK.out _ _ ⟨((HB.out.cell (bl_ w _ hw299_0)).trans hw299_0), ((HB.out.cell (bl_ w _ hw299_1)).trans hw299_1), ((HB.out.cell (bl_ w _ hw299_2)).trans hw299_2), ((HB.out.cell (bl_ w _ hw300_0)).trans hw300_0), ((HB.out.cell (bl_ w _ hw300_1)).trans hw300_1), ((HB.out.cell (bl_ w _ hw300_2)).trans hw300_2)⟩ (fun hHeld => ?_)
              clear hK K
              refine norm_ (a' := ?_) ?_ ?_
              rotate_left
              ·show Act.put _ (some 9) _ = _
               simp only [Act.put, List.setIfInBounds_toArray, List.set_cons_zero, List.set_cons_succ, i64_w, i32_w]
               rfl
              exact norm_ (by simp only [putAll, Act.put, List.setIfInBounds_toArray, List.set_cons_zero, List.set_cons_succ]) (hCont (gb301, gb302) _ ⟨hHeld, (by (with_reducible repeat (first | refine blk_drewN ?_ _ | refine blk_drew ?_ | refine blk_alloc ?_ _)); exact BK296.out), (by (with_reducible repeat (first | refine blk_drewN ?_ _ | refine blk_drew ?_ | refine blk_alloc ?_ _)); exact BK301.out), (by (with_reducible repeat (first | refine blk_drewN ?_ _ | refine blk_drew ?_ | refine blk_alloc ?_ _)); exact BK302.out), GW301.out, GE301.out, NB296_301.out, NB301_296.out, NB302_301.out, NB301_302.out, GW302.out, GE302.out, NB296_302.out, NB302_296.out, (by repeat (first | (with_reducible first | exact HB.out | apply below_alloc | apply pw_below_drewN | apply below_drew1 | refine below_set ?_ GE296.out | refine below_set ?_ GE301.out | refine below_set ?_ GE302.out) | exact HB.out))⟩)
             ·skip
              refine box_step ?hg (N := 9) ?hd (cs := #[.int .i64 0, .int .i64 0, .int .i64 0]) (t := 44) ?hr ?_; (case hd => rfl); (case hg => rfl); (case hr => first | (go_simp; done) | (go_simp; rfl))
              intro gb302 hg w26 hbox hb
              have n0_ := Aside0.mk (blk_below (g := gb296) (o := .cells #[.int .i64 a0_0, .int .i64 a0_1, .int .i64 a0_2, .int .i64 a0_3] 33 (0, 0)) (by (with_reducible repeat (first | refine blk_drewN ?_ _ | refine blk_drew ?_ | refine blk_alloc ?_ _)); exact BK296.out) hb)
              have n1_ := Aside0.mk (below_step (by repeat (first | (with_reducible first | exact HB.out | apply below_alloc | apply pw_below_drewN | apply below_drew1 | refine below_set ?_ GE296.out) | exact HB.out)) hb)
              have n2_ := Aside0.mk (hbox)
              have n3_ := Aside0.mk ((by rw [hg]; exact (below_size (by repeat (first | (with_reducible first | exact HB.out | apply below_alloc | apply pw_below_drewN | apply below_drew1 | refine below_set ?_ GE296.out) | exact HB.out))) : w.heap.size ≤ gb302))
              have n4_ := Aside0.mk ((by rw [hg]; exact (below_size (by repeat (first | (with_reducible first | exact HB.out | apply below_alloc | apply pw_below_drewN | apply below_drew1 | refine below_set ?_ GE296.out) | exact HB.out))) : w.heap.size ≤ gb302))
              have n5_ := Aside0.mk ((by rw [hg]; exact nn_ (blk_lt (g := gb296) (o := .cells #[.int .i64 a0_0, .int .i64 a0_1, .int .i64 a0_2, .int .i64 a0_3] 33 (0, 0)) (by (with_reducible repeat (first | refine blk_drewN ?_ _ | refine blk_drew ?_ | refine blk_alloc ?_ _)); exact BK296.out)) : gb296 ≠ gb302))
              have n6_ := Aside0.mk ((by rw [hg]; exact Nat.ne_of_gt (blk_lt (g := gb296) (o := .cells #[.int .i64 a0_0, .int .i64 a0_1, .int .i64 a0_2, .int .i64 a0_3] 33 (0, 0)) (by (with_reducible repeat (first | refine blk_drewN ?_ _ | refine blk_drew ?_ | refine blk_alloc ?_ _)); exact BK296.out)) : gb302 ≠ gb296))
              clear BK296
              clear HB
              have BK296 := n0_
              have HB := n1_
              have BK302 := n2_
              have GW302 := n3_
              have GE302 := n4_
              have NB296_302 := n5_
              have NB302_296 := n6_
              clear n0_ n1_ n2_ n3_ n4_ n5_ n6_
              clear hb hbox hg
              refine hK.out _ _ ⟨((HB.out.cell (bl_ w _ hw299_0)).trans hw299_0), ((HB.out.cell (bl_ w _ hw299_1)).trans hw299_1), ((HB.out.cell (bl_ w _ hw299_2)).trans hw299_2), ((HB.out.cell (bl_ w _ hw300_0)).trans hw300_0), ((HB.out.cell (bl_ w _ hw300_1)).trans hw300_1), ((HB.out.cell (bl_ w _ hw300_2)).trans hw300_2)⟩ (fun hHeld => ?_)
              clear hK K
              refine norm_ (a' := ?_) ?_ ?_
              rotate_left
              ·show Act.put _ (some 9) _ = _
               simp only [Act.put, List.setIfInBounds_toArray, List.set_cons_zero, List.set_cons_succ, i64_w, i32_w]
               rfl
              refine one_ (i := 9) (N := some 8) #[true, true, true, true, true, true, true, true, true, true, true, false, false] rfl rfl (one_of HT_.out (by kernel_rfl)) (by decide) (fun K hK => ?_)
              refine box_step ?hg (N := 8) ?hd (cs := #[.int .i64 0, .int .i64 0, .int .i64 0]) (t := 44) ?hr ?_; (case hd => rfl); (case hg => rfl); (case hr => first | (go_simp; done) | (go_simp; rfl))
              intro gb301 hg w27 hbox hb
              have n0_ := Aside0.mk (blk_below (g := gb296) (o := .cells #[.int .i64 a0_0, .int .i64 a0_1, .int .i64 a0_2, .int .i64 a0_3] 33 (0, 0)) (by (with_reducible repeat (first | refine blk_drewN ?_ _ | refine blk_drew ?_ | refine blk_alloc ?_ _)); exact BK296.out) hb)
              have n1_ := Aside0.mk (blk_below (g := gb302) (o := .cells #[.int .i64 0, .int .i64 0, .int .i64 0] 44 (0, 0)) (by (with_reducible repeat (first | refine blk_drewN ?_ _ | refine blk_drew ?_ | refine blk_alloc ?_ _)); exact BK302.out) hb)
              have n2_ := Aside0.mk (below_step (by repeat (first | (with_reducible first | exact HB.out | apply below_alloc | apply pw_below_drewN | apply below_drew1 | refine below_set ?_ GE296.out | refine below_set ?_ GE302.out) | exact HB.out)) hb)
              have n3_ := Aside0.mk (hbox)
              have n4_ := Aside0.mk ((by rw [hg]; exact (below_size (by repeat (first | (with_reducible first | exact HB.out | apply below_alloc | apply pw_below_drewN | apply below_drew1 | refine below_set ?_ GE296.out | refine below_set ?_ GE302.out) | exact HB.out))) : w.heap.size ≤ gb301))
              have n5_ := Aside0.mk ((by rw [hg]; exact (below_size (by repeat (first | (with_reducible first | exact HB.out | apply below_alloc | apply pw_below_drewN | apply below_drew1 | refine below_set ?_ GE296.out | refine below_set ?_ GE302.out) | exact HB.out))) : w.heap.size ≤ gb301))
              have n6_ := Aside0.mk ((by rw [hg]; exact nn_ (blk_lt (g := gb296) (o := .cells #[.int .i64 a0_0, .int .i64 a0_1, .int .i64 a0_2, .int .i64 a0_3] 33 (0, 0)) (by (with_reducible repeat (first | refine blk_drewN ?_ _ | refine blk_drew ?_ | refine blk_alloc ?_ _)); exact BK296.out)) : gb296 ≠ gb301))
              have n7_ := Aside0.mk ((by rw [hg]; exact Nat.ne_of_gt (blk_lt (g := gb296) (o := .cells #[.int .i64 a0_0, .int .i64 a0_1, .int .i64 a0_2, .int .i64 a0_3] 33 (0, 0)) (by (with_reducible repeat (first | refine blk_drewN ?_ _ | refine blk_drew ?_ | refine blk_alloc ?_ _)); exact BK296.out)) : gb301 ≠ gb296))
              have n8_ := Aside0.mk ((by rw [hg]; exact nn_ (blk_lt (g := gb302) (o := .cells #[.int .i64 0, .int .i64 0, .int .i64 0] 44 (0, 0)) (by (with_reducible repeat (first | refine blk_drewN ?_ _ | refine blk_drew ?_ | refine blk_alloc ?_ _)); exact BK302.out)) : gb302 ≠ gb301))
              have n9_ := Aside0.mk ((by rw [hg]; exact Nat.ne_of_gt (blk_lt (g := gb302) (o := .cells #[.int .i64 0, .int .i64 0, .int .i64 0] 44 (0, 0)) (by (with_reducible repeat (first | refine blk_drewN ?_ _ | refine blk_drew ?_ | refine blk_alloc ?_ _)); exact BK302.out)) : gb301 ≠ gb302))
              clear BK296
              clear BK302
              clear HB
              have BK296 := n0_
              have BK302 := n1_
              have HB := n2_
              have BK301 := n3_
              have GW301 := n4_
              have GE301 := n5_
              have NB296_301 := n6_
              have NB301_296 := n7_
              have NB302_301 := n8_
              have NB301_302 := n9_
              clear n0_ n1_ n2_ n3_ n4_ n5_ n6_ n7_ n8_ n9_
              clear hb hbox hg
              refine hK.out _ _ ⟨((HB.out.cell (bl_ w _ hw299_0)).trans hw299_0), ((HB.out.cell (bl_ w _ hw299_1)).trans hw299_1), ((HB.out.cell (bl_ w _ hw299_2)).trans hw299_2), ((HB.out.cell (bl_ w _ hw300_0)).trans hw300_0), ((HB.out.cell (bl_ w _ hw300_1)).trans hw300_1), ((HB.out.cell (bl_ w _ hw300_2)).trans hw300_2)⟩ (fun hHeld => ?_)
              clear hK K
              refine norm_ (a' := ?_) ?_ ?_
              rotate_left
              ·show Act.put _ (some 8) _ = _
               simp only [Act.put, List.setIfInBounds_toArray, List.set_cons_zero, List.set_cons_succ, i64_w, i32_w]
               rfl
              exact norm_ (by simp only [putAll, Act.put, List.setIfInBounds_toArray, List.set_cons_zero, List.set_cons_succ]) (hCont (gb301, gb302) _ ⟨hHeld, (by (with_reducible repeat (first | refine blk_drewN ?_ _ | refine blk_drew ?_ | refine blk_alloc ?_ _)); exact BK296.out), (by (with_reducible repeat (first | refine blk_drewN ?_ _ | refine blk_drew ?_ | refine blk_alloc ?_ _)); exact BK301.out), (by (with_reducible repeat (first | refine blk_drewN ?_ _ | refine blk_drew ?_ | refine blk_alloc ?_ _)); exact BK302.out), GW301.out, GE301.out, NB296_301.out, NB301_296.out, NB302_301.out, NB301_302.out, GW302.out, GE302.out, NB296_302.out, NB302_296.out, (by repeat (first | (with_reducible first | exact HB.out | apply below_alloc | apply pw_below_drewN | apply below_drew1 | refine below_set ?_ GE296.out | refine below_set ?_ GE302.out | refine below_set ?_ GE301.out) | exact HB.out))⟩)
            rintro ⟨gb301, gb302⟩ w28 ⟨hS_, h0_, h1_, h2_, h3_, h4_, h5_, h6_, h7_, h8_, h9_, h10_, h11_, h12_, h13_⟩
            have n0_ : Aside0 (w28.heap[gb296]? = some (.cells #[.int .i64 a0_0, .int .i64 a0_1, .int .i64 a0_2, .int .i64 a0_3] 33 (0, 0))) := ⟨h0_⟩
            have n1_ : Aside0 (w28.heap[gb301]? = some (.cells #[.int .i64 0, .int .i64 0, .int .i64 0] 44 (0, 0))) := ⟨h1_⟩
            have n2_ : Aside0 (w28.heap[gb302]? = some (.cells #[.int .i64 0, .int .i64 0, .int .i64 0] 44 (0, 0))) := ⟨h2_⟩
            have n3_ : Aside0 (w.heap.size ≤ gb301) := ⟨h3_⟩
            have n4_ : Aside0 (w.heap.size ≤ gb301) := ⟨h4_⟩
            have n5_ : Aside0 (gb296 ≠ gb301) := ⟨h5_⟩
            have n6_ : Aside0 (gb301 ≠ gb296) := ⟨h6_⟩
            have n7_ : Aside0 (gb302 ≠ gb301) := ⟨h7_⟩
            have n8_ : Aside0 (gb301 ≠ gb302) := ⟨h8_⟩
            have n9_ : Aside0 (w.heap.size ≤ gb302) := ⟨h9_⟩
            have n10_ : Aside0 (w.heap.size ≤ gb302) := ⟨h10_⟩
            have n11_ : Aside0 (gb296 ≠ gb302) := ⟨h11_⟩
            have n12_ : Aside0 (gb302 ≠ gb296) := ⟨h12_⟩
            have n13_ : Aside0 (Below w.heap.size w w28) := ⟨h13_⟩
            clear BK296
            clear HB
            clear h0_ h1_ h2_ h3_ h4_ h5_ h6_ h7_ h8_ h9_ h10_ h11_ h12_ h13_
            have BK296 := n0_
            have BK301 := n1_
            have BK302 := n2_
            have GW301 := n3_
            have GE301 := n4_
            have NB296_301 := n5_
            have NB301_296 := n6_
            have NB302_301 := n7_
            have NB301_302 := n8_
            have GW302 := n9_
            have GE302 := n10_
            have NB296_302 := n11_
            have NB302_296 := n12_
            have HB := n13_
            clear n0_ n1_ n2_ n3_ n4_ n5_ n6_ n7_ n8_ n9_ n10_ n11_ n12_ n13_
            have hHeld : w28.cell? (ad299.add ((x7_2).toNat * 3)) = some (.int .i64 ((rd_T44 l1 x7_2).f0.f0)) ∧ w28.cell? ⟨(ad299.add ((x7_2).toNat * 3)).block, (ad299.add ((x7_2).toNat * 3)).off + 1, none⟩ = some (.int .i64 ((rd_T44 l1 x7_2).f0.f1)) ∧ w28.cell? ⟨(ad299.add ((x7_2).toNat * 3)).block, (ad299.add ((x7_2).toNat * 3)).off + 2, none⟩ = some (.int .i64 ((rd_T44 l1 x7_2).f1)) ∧ w28.cell? (ad299.add (((ji18)).toNat * 3)) = some (.int .i64 ((rd_T44 l1 (ji18)).f0.f0)) ∧ w28.cell? ⟨(ad299.add (((ji18)).toNat * 3)).block, (ad299.add (((ji18)).toNat * 3)).off + 1, none⟩ = some (.int .i64 ((rd_T44 l1 (ji18)).f0.f1)) ∧ w28.cell? ⟨(ad299.add (((ji18)).toNat * 3)).block, (ad299.add (((ji18)).toNat * 3)).off + 2, none⟩ = some (.int .i64 ((rd_T44 l1 (ji18)).f1)) := hS_
            refine norm_ (a' := ?_) ?_ ?_
            rotate_left
            ·simp only [putAll, Act.put, List.setIfInBounds_toArray, List.set_cons_zero, List.set_cons_succ]
             rfl
            refine one_ (i := 11) (N := none) #[true, true, true, true, true, true, true, true, true, true, true, true, false] rfl rfl (one_of HT_.out (by kernel_rfl)) (by decide) (fun K hK => ?_)
            have hs29 : w28.cell? ⟨gb301, 0, none⟩ = some (.int .i64 0) := (blk_cell BK301.out 0).trans rfl
            have hfs29 := blk_frozen BK301.out 0
            have hns29_0 := NB296_301.out
            have hns29_2 := NB302_301.out
            have hms29_0 := NB301_296.out
            have hms29_2 := NB301_302.out
            have hs30 : w28.cell? ⟨gb301, 1, none⟩ = some (.int .i64 0) := (blk_cell BK301.out 1).trans rfl
            have hfs30 := blk_frozen BK301.out 1
            have hns30_0 := NB296_301.out
            have hns30_2 := NB302_301.out
            have hms30_0 := NB301_296.out
            have hms30_2 := NB301_302.out
            have hs31 : w28.cell? ⟨gb301, 2, none⟩ = some (.int .i64 0) := (blk_cell BK301.out 2).trans rfl
            have hfs31 := blk_frozen BK301.out 2
            have hns31_0 := NB296_301.out
            have hns31_2 := NB302_301.out
            have hms31_0 := NB301_296.out
            have hms31_2 := NB301_302.out
            refine skip_ (w1 := ?_) (by rfl) rfl ?_ ?_
            rotate_left
            ·go_simp
             rfl
            refine hK.out _ _ ⟨((cell_far (p := ⟨gb301, _, none⟩) (by first | exact nn_ (ll_ (by have := bl_ _ _ hw299_0; first | rwa [add_block] at this | exact this) GW301.out) | (rw [add_block]; exact nn_ (ll_ (by have := bl_ _ _ hw299_0; first | rwa [add_block] at this | exact this) GW301.out)) | (show (Addr.add _ _).block ≠ _; rw [add_block]; exact nn_ (ll_ (by have := bl_ _ _ hw299_0; first | rwa [add_block] at this | exact this) GW301.out)) | (dsimp only; exact nn_ (ll_ (by have := bl_ _ _ hw299_0; first | rwa [add_block] at this | exact this) GW301.out))) _).trans (((cell_far (p := ⟨gb301, _, none⟩) (by first | exact nn_ (ll_ (by have := bl_ _ _ hw299_0; first | rwa [add_block] at this | exact this) GW301.out) | (rw [add_block]; exact nn_ (ll_ (by have := bl_ _ _ hw299_0; first | rwa [add_block] at this | exact this) GW301.out)) | (show (Addr.add _ _).block ≠ _; rw [add_block]; exact nn_ (ll_ (by have := bl_ _ _ hw299_0; first | rwa [add_block] at this | exact this) GW301.out)) | (dsimp only; exact nn_ (ll_ (by have := bl_ _ _ hw299_0; first | rwa [add_block] at this | exact this) GW301.out))) _).trans (((cell_far (p := ⟨gb301, _, none⟩) (by first | exact nn_ (ll_ (by have := bl_ _ _ hw299_0; first | rwa [add_block] at this | exact this) GW301.out) | (rw [add_block]; exact nn_ (ll_ (by have := bl_ _ _ hw299_0; first | rwa [add_block] at this | exact this) GW301.out)) | (show (Addr.add _ _).block ≠ _; rw [add_block]; exact nn_ (ll_ (by have := bl_ _ _ hw299_0; first | rwa [add_block] at this | exact this) GW301.out)) | (dsimp only; exact nn_ (ll_ (by have := bl_ _ _ hw299_0; first | rwa [add_block] at this | exact this) GW301.out))) _).trans (hHeld.1)))))), ((cell_far (p := ⟨gb301, _, none⟩) (by first | exact nn_ (ll_ (by have := bl_ _ _ hw299_1; first | rwa [add_block] at this | exact this) GW301.out) | (rw [add_block]; exact nn_ (ll_ (by have := bl_ _ _ hw299_1; first | rwa [add_block] at this | exact this) GW301.out)) | (show (Addr.add _ _).block ≠ _; rw [add_block]; exact nn_ (ll_ (by have := bl_ _ _ hw299_1; first | rwa [add_block] at this | exact this) GW301.out)) | (dsimp only; exact nn_ (ll_ (by have := bl_ _ _ hw299_1; first | rwa [add_block] at this | exact this) GW301.out))) _).trans (((cell_far (p := ⟨gb301, _, none⟩) (by first | exact nn_ (ll_ (by have := bl_ _ _ hw299_1; first | rwa [add_block] at this | exact this) GW301.out) | (rw [add_block]; exact nn_ (ll_ (by have := bl_ _ _ hw299_1; first | rwa [add_block] at this | exact this) GW301.out)) | (show (Addr.add _ _).block ≠ _; rw [add_block]; exact nn_ (ll_ (by have := bl_ _ _ hw299_1; first | rwa [add_block] at this | exact this) GW301.out)) | (dsimp only; exact nn_ (ll_ (by have := bl_ _ _ hw299_1; first | rwa [add_block] at this | exact this) GW301.out))) _).trans (((cell_far (p := ⟨gb301, _, none⟩) (by first | exact nn_ (ll_ (by have := bl_ _ _ hw299_1; first | rwa [add_block] at this | exact this) GW301.out) | (rw [add_block]; exact nn_ (ll_ (by have := bl_ _ _ hw299_1; first | rwa [add_block] at this | exact this) GW301.out)) | (show (Addr.add _ _).block ≠ _; rw [add_block]; exact nn_ (ll_ (by have := bl_ _ _ hw299_1; first | rwa [add_block] at this | exact this) GW301.out)) | (dsimp only; exact nn_ (ll_ (by have := bl_ _ _ hw299_1; first | rwa [add_block] at this | exact this) GW301.out))) _).trans (hHeld.2.1)))))), ((cell_far (p := ⟨gb301, _, none⟩) (by first | exact nn_ (ll_ (by have := bl_ _ _ hw299_2; first | rwa [add_block] at this | exact this) GW301.out) | (rw [add_block]; exact nn_ (ll_ (by have := bl_ _ _ hw299_2; first | rwa [add_block] at this | exact this) GW301.out)) | (show (Addr.add _ _).block ≠ _; rw [add_block]; exact nn_ (ll_ (by have := bl_ _ _ hw299_2; first | rwa [add_block] at this | exact this) GW301.out)) | (dsimp only; exact nn_ (ll_ (by have := bl_ _ _ hw299_2; first | rwa [add_block] at this | exact this) GW301.out))) _).trans (((cell_far (p := ⟨gb301, _, none⟩) (by first | exact nn_ (ll_ (by have := bl_ _ _ hw299_2; first | rwa [add_block] at this | exact this) GW301.out) | (rw [add_block]; exact nn_ (ll_ (by have := bl_ _ _ hw299_2; first | rwa [add_block] at this | exact this) GW301.out)) | (show (Addr.add _ _).block ≠ _; rw [add_block]; exact nn_ (ll_ (by have := bl_ _ _ hw299_2; first | rwa [add_block] at this | exact this) GW301.out)) | (dsimp only; exact nn_ (ll_ (by have := bl_ _ _ hw299_2; first | rwa [add_block] at this | exact this) GW301.out))) _).trans (((cell_far (p := ⟨gb301, _, none⟩) (by first | exact nn_ (ll_ (by have := bl_ _ _ hw299_2; first | rwa [add_block] at this | exact this) GW301.out) | (rw [add_block]; exact nn_ (ll_ (by have := bl_ _ _ hw299_2; first | rwa [add_block] at this | exact this) GW301.out)) | (show (Addr.add _ _).block ≠ _; rw [add_block]; exact nn_ (ll_ (by have := bl_ _ _ hw299_2; first | rwa [add_block] at this | exact this) GW301.out)) | (dsimp only; exact nn_ (ll_ (by have := bl_ _ _ hw299_2; first | rwa [add_block] at this | exact this) GW301.out))) _).trans (hHeld.2.2.1)))))), ((cell_far (p := ⟨gb301, _, none⟩) (by first | exact nn_ (ll_ (by have := bl_ _ _ hw300_0; first | rwa [add_block] at this | exact this) GW301.out) | (rw [add_block]; exact nn_ (ll_ (by have := bl_ _ _ hw300_0; first | rwa [add_block] at this | exact this) GW301.out)) | (show (Addr.add _ _).block ≠ _; rw [add_block]; exact nn_ (ll_ (by have := bl_ _ _ hw300_0; first | rwa [add_block] at this | exact this) GW301.out)) | (dsimp only; exact nn_ (ll_ (by have := bl_ _ _ hw300_0; first | rwa [add_block] at this | exact this) GW301.out))) _).trans (((cell_far (p := ⟨gb301, _, none⟩) (by first | exact nn_ (ll_ (by have := bl_ _ _ hw300_0; first | rwa [add_block] at this | exact this) GW301.out) | (rw [add_block]; exact nn_ (ll_ (by have := bl_ _ _ hw300_0; first | rwa [add_block] at this | exact this) GW301.out)) | (show (Addr.add _ _).block ≠ _; rw [add_block]; exact nn_ (ll_ (by have := bl_ _ _ hw300_0; first | rwa [add_block] at this | exact this) GW301.out)) | (dsimp only; exact nn_ (ll_ (by have := bl_ _ _ hw300_0; first | rwa [add_block] at this | exact this) GW301.out))) _).trans (((cell_far (p := ⟨gb301, _, none⟩) (by first | exact nn_ (ll_ (by have := bl_ _ _ hw300_0; first | rwa [add_block] at this | exact this) GW301.out) | (rw [add_block]; exact nn_ (ll_ (by have := bl_ _ _ hw300_0; first | rwa [add_block] at this | exact this) GW301.out)) | (show (Addr.add _ _).block ≠ _; rw [add_block]; exact nn_ (ll_ (by have := bl_ _ _ hw300_0; first | rwa [add_block] at this | exact this) GW301.out)) | (dsimp only; exact nn_ (ll_ (by have := bl_ _ _ hw300_0; first | rwa [add_block] at this | exact this) GW301.out))) _).trans (hHeld.2.2.2.1)))))), ((cell_far (p := ⟨gb301, _, none⟩) (by first | exact nn_ (ll_ (by have := bl_ _ _ hw300_1; first | rwa [add_block] at this | exact this) GW301.out) | (rw [add_block]; exact nn_ (ll_ (by have := bl_ _ _ hw300_1; first | rwa [add_block] at this | exact this) GW301.out)) | (show (Addr.add _ _).block ≠ _; rw [add_block]; exact nn_ (ll_ (by have := bl_ _ _ hw300_1; first | rwa [add_block] at this | exact this) GW301.out)) | (dsimp only; exact nn_ (ll_ (by have := bl_ _ _ hw300_1; first | rwa [add_block] at this | exact this) GW301.out))) _).trans (((cell_far (p := ⟨gb301, _, none⟩) (by first | exact nn_ (ll_ (by have := bl_ _ _ hw300_1; first | rwa [add_block] at this | exact this) GW301.out) | (rw [add_block]; exact nn_ (ll_ (by have := bl_ _ _ hw300_1; first | rwa [add_block] at this | exact this) GW301.out)) | (show (Addr.add _ _).block ≠ _; rw [add_block]; exact nn_ (ll_ (by have := bl_ _ _ hw300_1; first | rwa [add_block] at this | exact this) GW301.out)) | (dsimp only; exact nn_ (ll_ (by have := bl_ _ _ hw300_1; first | rwa [add_block] at this | exact this) GW301.out))) _).trans (((cell_far (p := ⟨gb301, _, none⟩) (by first | exact nn_ (ll_ (by have := bl_ _ _ hw300_1; first | rwa [add_block] at this | exact this) GW301.out) | (rw [add_block]; exact nn_ (ll_ (by have := bl_ _ _ hw300_1; first | rwa [add_block] at this | exact this) GW301.out)) | (show (Addr.add _ _).block ≠ _; rw [add_block]; exact nn_ (ll_ (by have := bl_ _ _ hw300_1; first | rwa [add_block] at this | exact this) GW301.out)) | (dsimp only; exact nn_ (ll_ (by have := bl_ _ _ hw300_1; first | rwa [add_block] at this | exact this) GW301.out))) _).trans (hHeld.2.2.2.2.1)))))), ((cell_far (p := ⟨gb301, _, none⟩) (by first | exact nn_ (ll_ (by have := bl_ _ _ hw300_2; first | rwa [add_block] at this | exact this) GW301.out) | (rw [add_block]; exact nn_ (ll_ (by have := bl_ _ _ hw300_2; first | rwa [add_block] at this | exact this) GW301.out)) | (show (Addr.add _ _).block ≠ _; rw [add_block]; exact nn_ (ll_ (by have := bl_ _ _ hw300_2; first | rwa [add_block] at this | exact this) GW301.out)) | (dsimp only; exact nn_ (ll_ (by have := bl_ _ _ hw300_2; first | rwa [add_block] at this | exact this) GW301.out))) _).trans (((cell_far (p := ⟨gb301, _, none⟩) (by first | exact nn_ (ll_ (by have := bl_ _ _ hw300_2; first | rwa [add_block] at this | exact this) GW301.out) | (rw [add_block]; exact nn_ (ll_ (by have := bl_ _ _ hw300_2; first | rwa [add_block] at this | exact this) GW301.out)) | (show (Addr.add _ _).block ≠ _; rw [add_block]; exact nn_ (ll_ (by have := bl_ _ _ hw300_2; first | rwa [add_block] at this | exact this) GW301.out)) | (dsimp only; exact nn_ (ll_ (by have := bl_ _ _ hw300_2; first | rwa [add_block] at this | exact this) GW301.out))) _).trans (((cell_far (p := ⟨gb301, _, none⟩) (by first | exact nn_ (ll_ (by have := bl_ _ _ hw300_2; first | rwa [add_block] at this | exact this) GW301.out) | (rw [add_block]; exact nn_ (ll_ (by have := bl_ _ _ hw300_2; first | rwa [add_block] at this | exact this) GW301.out)) | (show (Addr.add _ _).block ≠ _; rw [add_block]; exact nn_ (ll_ (by have := bl_ _ _ hw300_2; first | rwa [add_block] at this | exact this) GW301.out)) | (dsimp only; exact nn_ (ll_ (by have := bl_ _ _ hw300_2; first | rwa [add_block] at this | exact this) GW301.out))) _).trans (hHeld.2.2.2.2.2))))))⟩ (fun hHeld => ?_)
            clear hK K
            refine one_ (i := 12) (N := none) #[true, true, true, true, true, true, true, true, true, true, true, true, true] rfl rfl (one_of HT_.out (by kernel_rfl)) (by decide) (fun K hK => ?_)
            have hs32 : w28.cell? ⟨gb302, 0, none⟩ = some (.int .i64 0) := (blk_cell BK302.out 0).trans rfl
            have hfs32 := blk_frozen BK302.out 0
            have hns32_0 := NB296_302.out
            have hns32_1 := NB301_302.out
            have hms32_0 := NB302_296.out
            have hms32_1 := NB302_301.out
            have hs33 : w28.cell? ⟨gb302, 1, none⟩ = some (.int .i64 0) := (blk_cell BK302.out 1).trans rfl
            have hfs33 := blk_frozen BK302.out 1
            have hns33_0 := NB296_302.out
            have hns33_1 := NB301_302.out
            have hms33_0 := NB302_296.out
            have hms33_1 := NB302_301.out
            have hs34 : w28.cell? ⟨gb302, 2, none⟩ = some (.int .i64 0) := (blk_cell BK302.out 2).trans rfl
            have hfs34 := blk_frozen BK302.out 2
            have hns34_0 := NB296_302.out
            have hns34_1 := NB301_302.out
            have hms34_0 := NB302_296.out
            have hms34_1 := NB302_301.out
            refine skip_ (w1 := ?_) (by rfl) rfl ?_ ?_
            rotate_left
            ·go_simp
             rfl
            refine hK.out _ _ ⟨((cell_far (p := ⟨gb302, _, none⟩) (by first | exact nn_ (ll_ (by have := bl_ _ _ hw299_0; first | rwa [add_block] at this | exact this) GW302.out) | (rw [add_block]; exact nn_ (ll_ (by have := bl_ _ _ hw299_0; first | rwa [add_block] at this | exact this) GW302.out)) | (show (Addr.add _ _).block ≠ _; rw [add_block]; exact nn_ (ll_ (by have := bl_ _ _ hw299_0; first | rwa [add_block] at this | exact this) GW302.out)) | (dsimp only; exact nn_ (ll_ (by have := bl_ _ _ hw299_0; first | rwa [add_block] at this | exact this) GW302.out))) _).trans (((cell_far (p := ⟨gb302, _, none⟩) (by first | exact nn_ (ll_ (by have := bl_ _ _ hw299_0; first | rwa [add_block] at this | exact this) GW302.out) | (rw [add_block]; exact nn_ (ll_ (by have := bl_ _ _ hw299_0; first | rwa [add_block] at this | exact this) GW302.out)) | (show (Addr.add _ _).block ≠ _; rw [add_block]; exact nn_ (ll_ (by have := bl_ _ _ hw299_0; first | rwa [add_block] at this | exact this) GW302.out)) | (dsimp only; exact nn_ (ll_ (by have := bl_ _ _ hw299_0; first | rwa [add_block] at this | exact this) GW302.out))) _).trans (((cell_far (p := ⟨gb302, _, none⟩) (by first | exact nn_ (ll_ (by have := bl_ _ _ hw299_0; first | rwa [add_block] at this | exact this) GW302.out) | (rw [add_block]; exact nn_ (ll_ (by have := bl_ _ _ hw299_0; first | rwa [add_block] at this | exact this) GW302.out)) | (show (Addr.add _ _).block ≠ _; rw [add_block]; exact nn_ (ll_ (by have := bl_ _ _ hw299_0; first | rwa [add_block] at this | exact this) GW302.out)) | (dsimp only; exact nn_ (ll_ (by have := bl_ _ _ hw299_0; first | rwa [add_block] at this | exact this) GW302.out))) _).trans (hHeld.1)))))), ((cell_far (p := ⟨gb302, _, none⟩) (by first | exact nn_ (ll_ (by have := bl_ _ _ hw299_1; first | rwa [add_block] at this | exact this) GW302.out) | (rw [add_block]; exact nn_ (ll_ (by have := bl_ _ _ hw299_1; first | rwa [add_block] at this | exact this) GW302.out)) | (show (Addr.add _ _).block ≠ _; rw [add_block]; exact nn_ (ll_ (by have := bl_ _ _ hw299_1; first | rwa [add_block] at this | exact this) GW302.out)) | (dsimp only; exact nn_ (ll_ (by have := bl_ _ _ hw299_1; first | rwa [add_block] at this | exact this) GW302.out))) _).trans (((cell_far (p := ⟨gb302, _, none⟩) (by first | exact nn_ (ll_ (by have := bl_ _ _ hw299_1; first | rwa [add_block] at this | exact this) GW302.out) | (rw [add_block]; exact nn_ (ll_ (by have := bl_ _ _ hw299_1; first | rwa [add_block] at this | exact this) GW302.out)) | (show (Addr.add _ _).block ≠ _; rw [add_block]; exact nn_ (ll_ (by have := bl_ _ _ hw299_1; first | rwa [add_block] at this | exact this) GW302.out)) | (dsimp only; exact nn_ (ll_ (by have := bl_ _ _ hw299_1; first | rwa [add_block] at this | exact this) GW302.out))) _).trans (((cell_far (p := ⟨gb302, _, none⟩) (by first | exact nn_ (ll_ (by have := bl_ _ _ hw299_1; first | rwa [add_block] at this | exact this) GW302.out) | (rw [add_block]; exact nn_ (ll_ (by have := bl_ _ _ hw299_1; first | rwa [add_block] at this | exact this) GW302.out)) | (show (Addr.add _ _).block ≠ _; rw [add_block]; exact nn_ (ll_ (by have := bl_ _ _ hw299_1; first | rwa [add_block] at this | exact this) GW302.out)) | (dsimp only; exact nn_ (ll_ (by have := bl_ _ _ hw299_1; first | rwa [add_block] at this | exact this) GW302.out))) _).trans (hHeld.2.1)))))), ((cell_far (p := ⟨gb302, _, none⟩) (by first | exact nn_ (ll_ (by have := bl_ _ _ hw299_2; first | rwa [add_block] at this | exact this) GW302.out) | (rw [add_block]; exact nn_ (ll_ (by have := bl_ _ _ hw299_2; first | rwa [add_block] at this | exact this) GW302.out)) | (show (Addr.add _ _).block ≠ _; rw [add_block]; exact nn_ (ll_ (by have := bl_ _ _ hw299_2; first | rwa [add_block] at this | exact this) GW302.out)) | (dsimp only; exact nn_ (ll_ (by have := bl_ _ _ hw299_2; first | rwa [add_block] at this | exact this) GW302.out))) _).trans (((cell_far (p := ⟨gb302, _, none⟩) (by first | exact nn_ (ll_ (by have := bl_ _ _ hw299_2; first | rwa [add_block] at this | exact this) GW302.out) | (rw [add_block]; exact nn_ (ll_ (by have := bl_ _ _ hw299_2; first | rwa [add_block] at this | exact this) GW302.out)) | (show (Addr.add _ _).block ≠ _; rw [add_block]; exact nn_ (ll_ (by have := bl_ _ _ hw299_2; first | rwa [add_block] at this | exact this) GW302.out)) | (dsimp only; exact nn_ (ll_ (by have := bl_ _ _ hw299_2; first | rwa [add_block] at this | exact this) GW302.out))) _).trans (((cell_far (p := ⟨gb302, _, none⟩) (by first | exact nn_ (ll_ (by have := bl_ _ _ hw299_2; first | rwa [add_block] at this | exact this) GW302.out) | (rw [add_block]; exact nn_ (ll_ (by have := bl_ _ _ hw299_2; first | rwa [add_block] at this | exact this) GW302.out)) | (show (Addr.add _ _).block ≠ _; rw [add_block]; exact nn_ (ll_ (by have := bl_ _ _ hw299_2; first | rwa [add_block] at this | exact this) GW302.out)) | (dsimp only; exact nn_ (ll_ (by have := bl_ _ _ hw299_2; first | rwa [add_block] at this | exact this) GW302.out))) _).trans (hHeld.2.2.1)))))), ((cell_far (p := ⟨gb302, _, none⟩) (by first | exact nn_ (ll_ (by have := bl_ _ _ hw300_0; first | rwa [add_block] at this | exact this) GW302.out) | (rw [add_block]; exact nn_ (ll_ (by have := bl_ _ _ hw300_0; first | rwa [add_block] at this | exact this) GW302.out)) | (show (Addr.add _ _).block ≠ _; rw [add_block]; exact nn_ (ll_ (by have := bl_ _ _ hw300_0; first | rwa [add_block] at this | exact this) GW302.out)) | (dsimp only; exact nn_ (ll_ (by have := bl_ _ _ hw300_0; first | rwa [add_block] at this | exact this) GW302.out))) _).trans (((cell_far (p := ⟨gb302, _, none⟩) (by first | exact nn_ (ll_ (by have := bl_ _ _ hw300_0; first | rwa [add_block] at this | exact this) GW302.out) | (rw [add_block]; exact nn_ (ll_ (by have := bl_ _ _ hw300_0; first | rwa [add_block] at this | exact this) GW302.out)) | (show (Addr.add _ _).block ≠ _; rw [add_block]; exact nn_ (ll_ (by have := bl_ _ _ hw300_0; first | rwa [add_block] at this | exact this) GW302.out)) | (dsimp only; exact nn_ (ll_ (by have := bl_ _ _ hw300_0; first | rwa [add_block] at this | exact this) GW302.out))) _).trans (((cell_far (p := ⟨gb302, _, none⟩) (by first | exact nn_ (ll_ (by have := bl_ _ _ hw300_0; first | rwa [add_block] at this | exact this) GW302.out) | (rw [add_block]; exact nn_ (ll_ (by have := bl_ _ _ hw300_0; first | rwa [add_block] at this | exact this) GW302.out)) | (show (Addr.add _ _).block ≠ _; rw [add_block]; exact nn_ (ll_ (by have := bl_ _ _ hw300_0; first | rwa [add_block] at this | exact this) GW302.out)) | (dsimp only; exact nn_ (ll_ (by have := bl_ _ _ hw300_0; first | rwa [add_block] at this | exact this) GW302.out))) _).trans (hHeld.2.2.2.1)))))), ((cell_far (p := ⟨gb302, _, none⟩) (by first | exact nn_ (ll_ (by have := bl_ _ _ hw300_1; first | rwa [add_block] at this | exact this) GW302.out) | (rw [add_block]; exact nn_ (ll_ (by have := bl_ _ _ hw300_1; first | rwa [add_block] at this | exact this) GW302.out)) | (show (Addr.add _ _).block ≠ _; rw [add_block]; exact nn_ (ll_ (by have := bl_ _ _ hw300_1; first | rwa [add_block] at this | exact this) GW302.out)) | (dsimp only; exact nn_ (ll_ (by have := bl_ _ _ hw300_1; first | rwa [add_block] at this | exact this) GW302.out))) _).trans (((cell_far (p := ⟨gb302, _, none⟩) (by first | exact nn_ (ll_ (by have := bl_ _ _ hw300_1; first | rwa [add_block] at this | exact this) GW302.out) | (rw [add_block]; exact nn_ (ll_ (by have := bl_ _ _ hw300_1; first | rwa [add_block] at this | exact this) GW302.out)) | (show (Addr.add _ _).block ≠ _; rw [add_block]; exact nn_ (ll_ (by have := bl_ _ _ hw300_1; first | rwa [add_block] at this | exact this) GW302.out)) | (dsimp only; exact nn_ (ll_ (by have := bl_ _ _ hw300_1; first | rwa [add_block] at this | exact this) GW302.out))) _).trans (((cell_far (p := ⟨gb302, _, none⟩) (by first | exact nn_ (ll_ (by have := bl_ _ _ hw300_1; first | rwa [add_block] at this | exact this) GW302.out) | (rw [add_block]; exact nn_ (ll_ (by have := bl_ _ _ hw300_1; first | rwa [add_block] at this | exact this) GW302.out)) | (show (Addr.add _ _).block ≠ _; rw [add_block]; exact nn_ (ll_ (by have := bl_ _ _ hw300_1; first | rwa [add_block] at this | exact this) GW302.out)) | (dsimp only; exact nn_ (ll_ (by have := bl_ _ _ hw300_1; first | rwa [add_block] at this | exact this) GW302.out))) _).trans (hHeld.2.2.2.2.1)))))), ((cell_far (p := ⟨gb302, _, none⟩) (by first | exact nn_ (ll_ (by have := bl_ _ _ hw300_2; first | rwa [add_block] at this | exact this) GW302.out) | (rw [add_block]; exact nn_ (ll_ (by have := bl_ _ _ hw300_2; first | rwa [add_block] at this | exact this) GW302.out)) | (show (Addr.add _ _).block ≠ _; rw [add_block]; exact nn_ (ll_ (by have := bl_ _ _ hw300_2; first | rwa [add_block] at this | exact this) GW302.out)) | (dsimp only; exact nn_ (ll_ (by have := bl_ _ _ hw300_2; first | rwa [add_block] at this | exact this) GW302.out))) _).trans (((cell_far (p := ⟨gb302, _, none⟩) (by first | exact nn_ (ll_ (by have := bl_ _ _ hw300_2; first | rwa [add_block] at this | exact this) GW302.out) | (rw [add_block]; exact nn_ (ll_ (by have := bl_ _ _ hw300_2; first | rwa [add_block] at this | exact this) GW302.out)) | (show (Addr.add _ _).block ≠ _; rw [add_block]; exact nn_ (ll_ (by have := bl_ _ _ hw300_2; first | rwa [add_block] at this | exact this) GW302.out)) | (dsimp only; exact nn_ (ll_ (by have := bl_ _ _ hw300_2; first | rwa [add_block] at this | exact this) GW302.out))) _).trans (((cell_far (p := ⟨gb302, _, none⟩) (by first | exact nn_ (ll_ (by have := bl_ _ _ hw300_2; first | rwa [add_block] at this | exact this) GW302.out) | (rw [add_block]; exact nn_ (ll_ (by have := bl_ _ _ hw300_2; first | rwa [add_block] at this | exact this) GW302.out)) | (show (Addr.add _ _).block ≠ _; rw [add_block]; exact nn_ (ll_ (by have := bl_ _ _ hw300_2; first | rwa [add_block] at this | exact this) GW302.out)) | (dsimp only; exact nn_ (ll_ (by have := bl_ _ _ hw300_2; first | rwa [add_block] at this | exact this) GW302.out))) _).trans (hHeld.2.2.2.2.2))))))⟩ (fun hHeld => ?_)
            clear hK K
            refine done_ (done_of HT_.out (by kernel_rfl)) ?_
            try go_wp2
            have n0_ : Aside0 (((((((w28.setCell ⟨gb301, 0, none⟩ (.int .i64 ((rd_T44 l1 x7_2).f0.f0))).setCell ⟨gb301, 1, none⟩ (.int .i64 ((rd_T44 l1 x7_2).f0.f1))).setCell ⟨gb301, 2, none⟩ (.int .i64 ((rd_T44 l1 x7_2).f1))).setCell ⟨gb302, 0, none⟩ (.int .i64 ((rd_T44 l1 (ji18)).f0.f0))).setCell ⟨gb302, 1, none⟩ (.int .i64 ((rd_T44 l1 (ji18)).f0.f1))).setCell ⟨gb302, 2, none⟩ (.int .i64 ((rd_T44 l1 (ji18)).f1))).heap[gb296]? = some (.cells #[.int .i64 a0_0, .int .i64 a0_1, .int .i64 a0_2, .int .i64 a0_3] 33 (0, 0))) := ⟨by (with_reducible repeat (first | refine blk_drewN ?_ _ | refine blk_drew ?_ | refine blk_alloc ?_ _)); refine blk_far ?_ NB296_302.out _; (with_reducible repeat (first | refine blk_drewN ?_ _ | refine blk_drew ?_ | refine blk_alloc ?_ _)); refine blk_far ?_ NB296_302.out _; (with_reducible repeat (first | refine blk_drewN ?_ _ | refine blk_drew ?_ | refine blk_alloc ?_ _)); refine blk_far ?_ NB296_302.out _; (with_reducible repeat (first | refine blk_drewN ?_ _ | refine blk_drew ?_ | refine blk_alloc ?_ _)); refine blk_far ?_ NB296_301.out _; (with_reducible repeat (first | refine blk_drewN ?_ _ | refine blk_drew ?_ | refine blk_alloc ?_ _)); refine blk_far ?_ NB296_301.out _; (with_reducible repeat (first | refine blk_drewN ?_ _ | refine blk_drew ?_ | refine blk_alloc ?_ _)); refine blk_far ?_ NB296_301.out _; (with_reducible repeat (first | refine blk_drewN ?_ _ | refine blk_drew ?_ | refine blk_alloc ?_ _)); exact BK296.out⟩
            have n1_ : Aside0 (((((((w28.setCell ⟨gb301, 0, none⟩ (.int .i64 ((rd_T44 l1 x7_2).f0.f0))).setCell ⟨gb301, 1, none⟩ (.int .i64 ((rd_T44 l1 x7_2).f0.f1))).setCell ⟨gb301, 2, none⟩ (.int .i64 ((rd_T44 l1 x7_2).f1))).setCell ⟨gb302, 0, none⟩ (.int .i64 ((rd_T44 l1 (ji18)).f0.f0))).setCell ⟨gb302, 1, none⟩ (.int .i64 ((rd_T44 l1 (ji18)).f0.f1))).setCell ⟨gb302, 2, none⟩ (.int .i64 ((rd_T44 l1 (ji18)).f1))).heap[gb301]? = some (.cells #[.int .i64 ((rd_T44 l1 x7_2).f0.f0), .int .i64 ((rd_T44 l1 x7_2).f0.f1), .int .i64 ((rd_T44 l1 x7_2).f1)] 44 (0, 0))) := ⟨by (with_reducible repeat (first | refine blk_drewN ?_ _ | refine blk_drew ?_ | refine blk_alloc ?_ _)); refine blk_far ?_ NB301_302.out _; (with_reducible repeat (first | refine blk_drewN ?_ _ | refine blk_drew ?_ | refine blk_alloc ?_ _)); refine blk_far ?_ NB301_302.out _; (with_reducible repeat (first | refine blk_drewN ?_ _ | refine blk_drew ?_ | refine blk_alloc ?_ _)); refine blk_far ?_ NB301_302.out _; (with_reducible repeat (first | refine blk_drewN ?_ _ | refine blk_drew ?_ | refine blk_alloc ?_ _)); refine blk_put (cs := #[.int .i64 ((rd_T44 l1 x7_2).f0.f0), .int .i64 ((rd_T44 l1 x7_2).f0.f1), .int .i64 0]) ?_ 2 _ rfl; (with_reducible repeat (first | refine blk_drewN ?_ _ | refine blk_drew ?_ | refine blk_alloc ?_ _)); refine blk_put (cs := #[.int .i64 ((rd_T44 l1 x7_2).f0.f0), .int .i64 0, .int .i64 0]) ?_ 1 _ rfl; (with_reducible repeat (first | refine blk_drewN ?_ _ | refine blk_drew ?_ | refine blk_alloc ?_ _)); refine blk_put (cs := #[.int .i64 0, .int .i64 0, .int .i64 0]) ?_ 0 _ rfl; (with_reducible repeat (first | refine blk_drewN ?_ _ | refine blk_drew ?_ | refine blk_alloc ?_ _)); exact BK301.out⟩
            have n2_ : Aside0 (((((((w28.setCell ⟨gb301, 0, none⟩ (.int .i64 ((rd_T44 l1 x7_2).f0.f0))).setCell ⟨gb301, 1, none⟩ (.int .i64 ((rd_T44 l1 x7_2).f0.f1))).setCell ⟨gb301, 2, none⟩ (.int .i64 ((rd_T44 l1 x7_2).f1))).setCell ⟨gb302, 0, none⟩ (.int .i64 ((rd_T44 l1 (ji18)).f0.f0))).setCell ⟨gb302, 1, none⟩ (.int .i64 ((rd_T44 l1 (ji18)).f0.f1))).setCell ⟨gb302, 2, none⟩ (.int .i64 ((rd_T44 l1 (ji18)).f1))).heap[gb302]? = some (.cells #[.int .i64 ((rd_T44 l1 (ji18)).f0.f0), .int .i64 ((rd_T44 l1 (ji18)).f0.f1), .int .i64 ((rd_T44 l1 (ji18)).f1)] 44 (0, 0))) := ⟨by (with_reducible repeat (first | refine blk_drewN ?_ _ | refine blk_drew ?_ | refine blk_alloc ?_ _)); refine blk_put (cs := #[.int .i64 ((rd_T44 l1 (ji18)).f0.f0), .int .i64 ((rd_T44 l1 (ji18)).f0.f1), .int .i64 0]) ?_ 2 _ rfl; (with_reducible repeat (first | refine blk_drewN ?_ _ | refine blk_drew ?_ | refine blk_alloc ?_ _)); refine blk_put (cs := #[.int .i64 ((rd_T44 l1 (ji18)).f0.f0), .int .i64 0, .int .i64 0]) ?_ 1 _ rfl; (with_reducible repeat (first | refine blk_drewN ?_ _ | refine blk_drew ?_ | refine blk_alloc ?_ _)); refine blk_put (cs := #[.int .i64 0, .int .i64 0, .int .i64 0]) ?_ 0 _ rfl; (with_reducible repeat (first | refine blk_drewN ?_ _ | refine blk_drew ?_ | refine blk_alloc ?_ _)); refine blk_far ?_ NB302_301.out _; (with_reducible repeat (first | refine blk_drewN ?_ _ | refine blk_drew ?_ | refine blk_alloc ?_ _)); refine blk_far ?_ NB302_301.out _; (with_reducible repeat (first | refine blk_drewN ?_ _ | refine blk_drew ?_ | refine blk_alloc ?_ _)); refine blk_far ?_ NB302_301.out _; (with_reducible repeat (first | refine blk_drewN ?_ _ | refine blk_drew ?_ | refine blk_alloc ?_ _)); exact BK302.out⟩
            have n3_ : Aside0 (Below w.heap.size w ((((((w28.setCell ⟨gb301, 0, none⟩ (.int .i64 ((rd_T44 l1 x7_2).f0.f0))).setCell ⟨gb301, 1, none⟩ (.int .i64 ((rd_T44 l1 x7_2).f0.f1))).setCell ⟨gb301, 2, none⟩ (.int .i64 ((rd_T44 l1 x7_2).f1))).setCell ⟨gb302, 0, none⟩ (.int .i64 ((rd_T44 l1 (ji18)).f0.f0))).setCell ⟨gb302, 1, none⟩ (.int .i64 ((rd_T44 l1 (ji18)).f0.f1))).setCell ⟨gb302, 2, none⟩ (.int .i64 ((rd_T44 l1 (ji18)).f1)))) := ⟨by repeat (first | (with_reducible first | exact HB.out | apply below_alloc | apply pw_below_drewN | apply below_drew1 | refine below_set ?_ GE296.out | refine below_set ?_ GE301.out | refine below_set ?_ GE302.out) | exact HB.out)⟩
            (try clear BK296)
            (try clear BK301)
            (try clear BK302)
            (try clear HB)
            generalize ((((((w28.setCell ⟨gb301, 0, none⟩ (.int .i64 ((rd_T44 l1 x7_2).f0.f0))).setCell ⟨gb301, 1, none⟩ (.int .i64 ((rd_T44 l1 x7_2).f0.f1))).setCell ⟨gb301, 2, none⟩ (.int .i64 ((rd_T44 l1 x7_2).f1))).setCell ⟨gb302, 0, none⟩ (.int .i64 ((rd_T44 l1 (ji18)).f0.f0))).setCell ⟨gb302, 1, none⟩ (.int .i64 ((rd_T44 l1 (ji18)).f0.f1))).setCell ⟨gb302, 2, none⟩ (.int .i64 ((rd_T44 l1 (ji18)).f1))) = w35 at n0_ n1_ n2_ n3_ ⊢
            have BK296 := n0_
            have BK301 := n1_
            have BK302 := n2_
            have HB := n3_
            clear n0_ n1_ n2_ n3_
            have n0_ := Aside0.mk (blk_drew BK296.out)
            have n1_ := Aside0.mk (blk_drew BK301.out)
            have n2_ := Aside0.mk (blk_drew BK302.out)
            have n3_ := Aside0.mk (below_drew1 HB.out)
            clear BK296
            clear BK301
            clear BK302
            clear HB
            have BK296 := n0_
            have BK301 := n1_
            have BK302 := n2_
            have HB := n3_
            clear n0_ n1_ n2_ n3_
            refine start_ (n := 28) (S := fun w' => w'.cell? ⟨gb301, 0, none⟩ = some (.int .i64 ((rd_T44 l1 x7_2).f0.f0)) ∧ w'.cell? ⟨gb301, 1, none⟩ = some (.int .i64 ((rd_T44 l1 x7_2).f0.f1)) ∧ w'.cell? ⟨gb301, 2, none⟩ = some (.int .i64 ((rd_T44 l1 x7_2).f1)) ∧ w'.cell? ⟨gb302, 0, none⟩ = some (.int .i64 ((rd_T44 l1 (ji18)).f0.f0)) ∧ w'.cell? ⟨gb302, 1, none⟩ = some (.int .i64 ((rd_T44 l1 (ji18)).f0.f1)) ∧ w'.cell? ⟨gb302, 2, none⟩ = some (.int .i64 ((rd_T44 l1 (ji18)).f1)) ∧ w'.cell? ⟨gb296, 0, none⟩ = some (.int .i64 a0_0) ∧ w'.cell? ⟨gb296, 1, none⟩ = some (.int .i64 a0_1) ∧ w'.cell? ⟨gb296, 2, none⟩ = some (.int .i64 a0_2) ∧ w'.cell? ⟨gb296, 3, none⟩ = some (.int .i64 a0_3)) (ds := []) #[false, false, false, false, false, false, false, false, false, false, false, false, false, false, false, false, false, false, false, false, false, false, false, false, false, false, false, false] (by kernel_rfl) rfl rfl ⟨(blk_cell BK301.out 0).trans rfl, (blk_cell BK301.out 1).trans rfl, (blk_cell BK301.out 2).trans rfl, (blk_cell BK302.out 0).trans rfl, (blk_cell BK302.out 1).trans rfl, (blk_cell BK302.out 2).trans rfl, (blk_cell BK296.out 0).trans rfl, (blk_cell BK296.out 1).trans rfl, (blk_cell BK296.out 2).trans rfl, (blk_cell BK296.out 3).trans rfl⟩ (fun hHeld => ?_); refine with_tabW impl_EarlyAt.tab7 impl_EarlyAt.bits7 (fun HT_ HW_ => ?_)
            generalize w35.drew = w36 at BK296 BK301 BK302 HB hHeld ⊢
            refine pure_ (i := 0) (N := some 34) (v := ?_) (a' := ?_) #[true, false, false, false, false, false, false, false, false, false, false, false, false, false, false, false, false, false, false, false, false, false, false, false, false, false, false, false] rfl rfl (any_of HT_.out (by kernel_rfl)) (fun _ _ _ h => h) (Or.inl ⟨by rfl, ?_⟩) ?_ ?_
            rotate_left
            ·intro w'
             go_simp
             with_reducible rfl
            rotate_left
            ·simp only [Act.put, List.setIfInBounds_toArray, List.set_cons_zero, List.set_cons_succ, i64_w, i32_w]
             rfl
            refine pure_ (i := 1) (N := some 35) (v := ?_) (a' := ?_) #[true, true, false, false, false, false, false, false, false, false, false, false, false, false, false, false, false, false, false, false, false, false, false, false, false, false, false, false] rfl rfl (any_of HT_.out (by kernel_rfl)) (fun _ _ _ h => h) (Or.inl ⟨by rfl, ?_⟩) ?_ ?_
            rotate_left
            ·intro w'
             go_simp
             with_reducible rfl
            rotate_left
            ·simp only [Act.put, List.setIfInBounds_toArray, List.set_cons_zero, List.set_cons_succ, i64_w, i32_w]
             rfl
            refine pure_ (i := 3) (N := some 37) (v := ?_) (a' := ?_) #[true, true, false, true, false, false, false, false, false, false, false, false, false, false, false, false, false, false, false, false, false, false, false, false, false, false, false, false] rfl rfl (any_of HT_.out (by kernel_rfl)) (fun _ _ _ h => h) (Or.inl ⟨by rfl, ?_⟩) ?_ ?_
            rotate_left
            ·intro w'
             go_simp
             with_reducible rfl
            rotate_left
            ·simp only [Act.put, List.setIfInBounds_toArray, List.set_cons_zero, List.set_cons_succ, i64_w, i32_w]
             rfl
            refine take_ (i := 2) (N := some 36) (v := ?_) (a' := ?_) #[true, true, true, true, false, false, false, false, false, false, false, false, false, false, false, false, false, false, false, false, false, false, false, false, false, false, false, false] rfl rfl (take_ofW HT_.out HW_.out (by kernel_rfl)) (fun _ _ _ h => h) (Or.inl ⟨by rfl, ?_⟩) hHeld ?_ ?_
            rotate_left
            ·rintro w' ⟨s0, s1, s2, s3, s4, s5, s6, s7, s8, s9⟩
             go_simp
             with_reducible rfl
            rotate_left
            ·simp only [Act.put, List.setIfInBounds_toArray, List.set_cons_zero, List.set_cons_succ, i64_w, i32_w]
             rfl
            refine take_ (i := 4) (N := some 38) (v := ?_) (a' := ?_) #[true, true, true, true, true, false, false, false, false, false, false, false, false, false, false, false, false, false, false, false, false, false, false, false, false, false, false, false] rfl rfl (take_ofW HT_.out HW_.out (by kernel_rfl)) (fun _ _ _ h => h) (Or.inl ⟨by rfl, ?_⟩) hHeld ?_ ?_
            rotate_left
            ·rintro w' ⟨s0, s1, s2, s3, s4, s5, s6, s7, s8, s9⟩
             go_simp
             with_reducible rfl
            rotate_left
            ·simp only [Act.put, List.setIfInBounds_toArray, List.set_cons_zero, List.set_cons_succ, i64_w, i32_w]
             rfl
            refine one_ (i := 5) (N := some 39) #[true, true, true, true, true, true, false, false, false, false, false, false, false, false, false, false, false, false, false, false, false, false, false, false, false, false, false, false] rfl rfl (one_of HT_.out (by kernel_rfl)) (by decide) (fun K hK => ?_)
            refine goes_ Try.func34 (by kernel_rfl) rfl #[.int .i64 a2, .int .i64 ((rd_T44 l1 x7_2).f1), .int .i64 ((rd_T44 l1 (ji18)).f1)] (by rfl) rfl rfl (by (try simp only [List.map_toArray, List.map_cons, List.map_nil]); first | done | (simp only [hji18]; rfl) | rfl | (simp only [List.length_drop, List.length_take]; rfl)) ?_
            with_reducible refine (impl_within.calls a2 ((rd_T44 l1 x7_2).f1) ((rd_T44 l1 (ji18)).f1) true _ A20.out).mono ?_
            rintro e w' ⟨rfl, ⟨nd, rfl⟩⟩
            refine ⟨_, rfl, ?_⟩
            refine hK.out _ _ ⟨(blk_cell BK301.out 0).trans rfl, (blk_cell BK301.out 1).trans rfl, (blk_cell BK301.out 2).trans rfl, (blk_cell BK302.out 0).trans rfl, (blk_cell BK302.out 1).trans rfl, (blk_cell BK302.out 2).trans rfl, (blk_cell BK296.out 0).trans rfl, (blk_cell BK296.out 1).trans rfl, (blk_cell BK296.out 2).trans rfl, (blk_cell BK296.out 3).trans rfl⟩ (fun hHeld => ?_)
            clear hK K
            refine norm_ (a' := ?_) ?_ ?_
            rotate_left
            ·show Act.put _ (some 39) _ = _
             simp only [Act.put, List.setIfInBounds_toArray, List.set_cons_zero, List.set_cons_succ, i64_w, i32_w]
             rfl
            refine pure_ (i := 6) (N := some 40) (v := ?_) (a' := ?_) #[true, true, true, true, true, true, true, false, false, false, false, false, false, false, false, false, false, false, false, false, false, false, false, false, false, false, false, false] rfl rfl (any_of HT_.out (by kernel_rfl)) (fun _ _ _ h => h) (Or.inl ⟨by rfl, ?_⟩) ?_ ?_
            rotate_left
            ·intro w'
             go_simp
             with_reducible rfl
            rotate_left
            ·simp only [Act.put, List.setIfInBounds_toArray, List.set_cons_zero, List.set_cons_succ, i64_w, i32_w]
             rfl
            refine pure_ (i := 8) (N := some 42) (v := ?_) (a' := ?_) #[true, true, true, true, true, true, true, false, true, false, false, false, false, false, false, false, false, false, false, false, false, false, false, false, false, false, false, false] rfl rfl (any_of HT_.out (by kernel_rfl)) (fun _ _ _ h => h) (Or.inl ⟨by rfl, ?_⟩) ?_ ?_
            rotate_left
            ·intro w'
             go_simp
             with_reducible rfl
            rotate_left
            ·simp only [Act.put, List.setIfInBounds_toArray, List.set_cons_zero, List.set_cons_succ, i64_w, i32_w]
             rfl
            refine pure_ (i := 11) (N := some 45) (v := ?_) (a' := ?_) #[true, true, true, true, true, true, true, false, true, false, false, true, false, false, false, false, false, false, false, false, false, false, false, false, false, false, false, false] rfl rfl (any_of HT_.out (by kernel_rfl)) (fun _ _ _ h => h) (Or.inl ⟨by rfl, ?_⟩) ?_ ?_
            rotate_left
            ·intro w'
             go_simp
             with_reducible rfl
            rotate_left
            ·simp only [Act.put, List.setIfInBounds_toArray, List.set_cons_zero, List.set_cons_succ, i64_w, i32_w]
             rfl
            refine pure_ (i := 13) (N := some 47) (v := ?_) (a' := ?_) #[true, true, true, true, true, true, true, false, true, false, false, true, false, true, false, false, false, false, false, false, false, false, false, false, false, false, false, false] rfl rfl (any_of HT_.out (by kernel_rfl)) (fun _ _ _ h => h) (Or.inl ⟨by rfl, ?_⟩) ?_ ?_
            rotate_left
            ·intro w'
             go_simp
             with_reducible rfl
            rotate_left
            ·simp only [Act.put, List.setIfInBounds_toArray, List.set_cons_zero, List.set_cons_succ, i64_w, i32_w]
             rfl
            refine pure_ (i := 17) (N := some 51) (v := ?_) (a' := ?_) #[true, true, true, true, true, true, true, false, true, false, false, true, false, true, false, false, false, true, false, false, false, false, false, false, false, false, false, false] rfl rfl (any_of HT_.out (by kernel_rfl)) (fun _ _ _ h => h) (Or.inl ⟨by rfl, ?_⟩) ?_ ?_
            rotate_left
            ·intro w'
             go_simp
             with_reducible rfl
            rotate_left
            ·simp only [Act.put, List.setIfInBounds_toArray, List.set_cons_zero, List.set_cons_succ, i64_w, i32_w]
             rfl
            refine pure_ (i := 20) (N := some 54) (v := ?_) (a' := ?_) #[true, true, true, true, true, true, true, false, true, false, false, true, false, true, false, false, false, true, false, false, true, false, false, false, false, false, false, false] rfl rfl (any_of HT_.out (by kernel_rfl)) (fun _ _ _ h => h) (Or.inl ⟨by rfl, ?_⟩) ?_ ?_
            rotate_left
            ·intro w'
             go_simp
             with_reducible rfl
            rotate_left
            ·simp only [Act.put, List.setIfInBounds_toArray, List.set_cons_zero, List.set_cons_succ, i64_w, i32_w]
             rfl
            refine pure_ (i := 21) (N := some 55) (v := ?_) (a' := ?_) #[true, true, true, true, true, true, true, false, true, false, false, true, false, true, false, false, false, true, false, false, true, true, false, false, false, false, false, false] rfl rfl (any_of HT_.out (by kernel_rfl)) (fun _ _ _ h => h) (Or.inl ⟨by rfl, ?_⟩) ?_ ?_
            rotate_left
            ·intro w'
             go_simp
             with_reducible rfl
            rotate_left
            ·simp only [Act.put, List.setIfInBounds_toArray, List.set_cons_zero, List.set_cons_succ, i64_w, i32_w]
             rfl
            refine take_ (i := 7) (N := some 41) (v := ?_) (a' := ?_) #[true, true, true, true, true, true, true, true, true, false, false, true, false, true, false, false, false, true, false, false, true, true, false, false, false, false, false, false] rfl rfl (take_ofW HT_.out HW_.out (by kernel_rfl)) (fun _ _ _ h => h) (Or.inl ⟨by rfl, ?_⟩) hHeld ?_ ?_
            rotate_left
            ·rintro w' ⟨s0, s1, s2, s3, s4, s5, s6, s7, s8, s9⟩
             go_simp
             with_reducible rfl
            rotate_left
            ·simp only [Act.put, List.setIfInBounds_toArray, List.set_cons_zero, List.set_cons_succ, i64_w, i32_w]
             rfl
            refine take_ (i := 9) (N := some 43) (v := ?_) (a' := ?_) #[true, true, true, true, true, true, true, true, true, true, false, true, false, true, false, false, false, true, false, false, true, true, false, false, false, false, false, false] rfl rfl (take_ofW HT_.out HW_.out (by kernel_rfl)) (fun _ _ _ h => h) (Or.inl ⟨by rfl, ?_⟩) hHeld ?_ ?_
            rotate_left
            ·rintro w' ⟨s0, s1, s2, s3, s4, s5, s6, s7, s8, s9⟩
             go_simp
             with_reducible rfl
            rotate_left
            ·simp only [Act.put, List.setIfInBounds_toArray, List.set_cons_zero, List.set_cons_succ, i64_w, i32_w]
             rfl
            refine take_ (i := 12) (N := some 46) (v := ?_) (a' := ?_) #[true, true, true, true, true, true, true, true, true, true, false, true, true, true, false, false, false, true, false, false, true, true, false, false, false, false, false, false] rfl rfl (take_ofW HT_.out HW_.out (by kernel_rfl)) (fun _ _ _ h => h) (Or.inl ⟨by rfl, ?_⟩) hHeld ?_ ?_
            rotate_left
            ·rintro w' ⟨s0, s1, s2, s3, s4, s5, s6, s7, s8, s9⟩
             go_simp
             with_reducible rfl
            rotate_left
            ·simp only [Act.put, List.setIfInBounds_toArray, List.set_cons_zero, List.set_cons_succ, i64_w, i32_w]
             rfl
            refine pure_ (i := 14) (N := some 48) (v := ?_) (a' := ?_) #[true, true, true, true, true, true, true, true, true, true, false, true, true, true, true, false, false, true, false, false, true, true, false, false, false, false, false, false] rfl rfl (any_of HT_.out (by kernel_rfl)) (fun _ _ _ h => h) (Or.inl ⟨by rfl, ?_⟩) ?_ ?_
            rotate_left
            ·intro w'
             go_simp
             with_reducible rfl
            rotate_left
            ·simp only [Act.put, List.setIfInBounds_toArray, List.set_cons_zero, List.set_cons_succ, i64_w, i32_w]
             rfl
            refine take_ (i := 16) (N := some 50) (v := ?_) (a' := ?_) #[true, true, true, true, true, true, true, true, true, true, false, true, true, true, true, false, true, true, false, false, true, true, false, false, false, false, false, false] rfl rfl (take_ofW HT_.out HW_.out (by kernel_rfl)) (fun _ _ _ h => h) (Or.inl ⟨by rfl, ?_⟩) hHeld ?_ ?_
            rotate_left
            ·rintro w' ⟨s0, s1, s2, s3, s4, s5, s6, s7, s8, s9⟩
             go_simp
             with_reducible rfl
            rotate_left
            ·simp only [Act.put, List.setIfInBounds_toArray, List.set_cons_zero, List.set_cons_succ, i64_w, i32_w]
             rfl
            refine take_ (i := 18) (N := some 52) (v := ?_) (a' := ?_) #[true, true, true, true, true, true, true, true, true, true, false, true, true, true, true, false, true, true, true, false, true, true, false, false, false, false, false, false] rfl rfl (take_ofW HT_.out HW_.out (by kernel_rfl)) (fun _ _ _ h => h) (Or.inl ⟨by rfl, ?_⟩) hHeld ?_ ?_
            rotate_left
            ·rintro w' ⟨s0, s1, s2, s3, s4, s5, s6, s7, s8, s9⟩
             go_simp
             with_reducible rfl
            rotate_left
            ·simp only [Act.put, List.setIfInBounds_toArray, List.set_cons_zero, List.set_cons_succ, i64_w, i32_w]
             rfl
            refine take_ (i := 22) (N := some 56) (v := ?_) (a' := ?_) #[true, true, true, true, true, true, true, true, true, true, false, true, true, true, true, false, true, true, true, false, true, true, true, false, false, false, false, false] rfl rfl (take_ofW HT_.out HW_.out (by kernel_rfl)) (fun _ _ _ h => h) (Or.inl ⟨by rfl, ?_⟩) hHeld ?_ ?_
            rotate_left
            ·rintro w' ⟨s0, s1, s2, s3, s4, s5, s6, s7, s8, s9⟩
             go_simp
             with_reducible rfl
            rotate_left
            ·simp only [Act.put, List.setIfInBounds_toArray, List.set_cons_zero, List.set_cons_succ, i64_w, i32_w]
             rfl
            refine pure_ (i := 23) (N := some 57) (v := ?_) (a' := ?_) #[true, true, true, true, true, true, true, true, true, true, false, true, true, true, true, false, true, true, true, false, true, true, true, true, false, false, false, false] rfl rfl (any_of HT_.out (by kernel_rfl)) (fun _ _ _ h => h) (Or.inl ⟨by rfl, ?_⟩) ?_ ?_
            rotate_left
            ·intro w'
             go_simp
             with_reducible rfl
            rotate_left
            ·simp only [Act.put, List.setIfInBounds_toArray, List.set_cons_zero, List.set_cons_succ, i64_w, i32_w]
             rfl
            refine one_ (i := 10) (N := some 44) #[true, true, true, true, true, true, true, true, true, true, true, true, true, true, true, false, true, true, true, false, true, true, true, true, false, false, false, false] rfl rfl (one_of HT_.out (by kernel_rfl)) (by decide) (fun K hK => ?_)
            refine goes_ Try.func44 (by kernel_rfl) rfl #[.agg #[.int .i64 a0_0, .int .i64 a0_1, .int .i64 a0_2, .int .i64 a0_3], .agg #[.int .i64 ((rd_T44 l1 x7_2).f0.f0), .int .i64 ((rd_T44 l1 x7_2).f0.f1)]] (by rfl) rfl rfl (by (try simp only [List.map_toArray, List.map_cons, List.map_nil]); first | done | rfl | (simp only [List.length_drop, List.length_take]; rfl)) ?_
            with_reducible refine (impl_height.calls a0_0 a0_1 a0_2 a0_3 ((rd_T44 l1 x7_2).f0.f0) ((rd_T44 l1 x7_2).f0.f1) t304 _ A22.out).mono ?_
            rintro e w37 ⟨rfl, hb⟩
            refine ⟨_, rfl, ?_⟩
            have n0_ := Aside0.mk (blk_below (g := gb296) (o := .cells #[.int .i64 a0_0, .int .i64 a0_1, .int .i64 a0_2, .int .i64 a0_3] 33 (0, 0)) (by (with_reducible repeat (first | refine blk_drewN ?_ _ | refine blk_drew ?_ | refine blk_alloc ?_ _)); exact BK296.out) hb)
            have n1_ := Aside0.mk (blk_below (g := gb301) (o := .cells #[.int .i64 ((rd_T44 l1 x7_2).f0.f0), .int .i64 ((rd_T44 l1 x7_2).f0.f1), .int .i64 ((rd_T44 l1 x7_2).f1)] 44 (0, 0)) (by (with_reducible repeat (first | refine blk_drewN ?_ _ | refine blk_drew ?_ | refine blk_alloc ?_ _)); exact BK301.out) hb)
            have n2_ := Aside0.mk (blk_below (g := gb302) (o := .cells #[.int .i64 ((rd_T44 l1 (ji18)).f0.f0), .int .i64 ((rd_T44 l1 (ji18)).f0.f1), .int .i64 ((rd_T44 l1 (ji18)).f1)] 44 (0, 0)) (by (with_reducible repeat (first | refine blk_drewN ?_ _ | refine blk_drew ?_ | refine blk_alloc ?_ _)); exact BK302.out) hb)
            have n3_ := Aside0.mk (below_step (by repeat (first | (with_reducible first | exact HB.out | apply below_alloc | apply pw_below_drewN | apply below_drew1 | refine below_set ?_ GE296.out | refine below_set ?_ GE301.out | refine below_set ?_ GE302.out) | exact HB.out)) hb)
            clear BK296
            clear BK301
            clear BK302
            clear HB
            have BK296 := n0_
            have BK301 := n1_
            have BK302 := n2_
            have HB := n3_
            clear n0_ n1_ n2_ n3_
            (try clear hb)
            (try clear hb2)
            (try clear hk)
            (try clear hi)
            refine hK.out _ _ ⟨(blk_cell BK301.out 0).trans rfl, (blk_cell BK301.out 1).trans rfl, (blk_cell BK301.out 2).trans rfl, (blk_cell BK302.out 0).trans rfl, (blk_cell BK302.out 1).trans rfl, (blk_cell BK302.out 2).trans rfl, (blk_cell BK296.out 0).trans rfl, (blk_cell BK296.out 1).trans rfl, (blk_cell BK296.out 2).trans rfl, (blk_cell BK296.out 3).trans rfl⟩ (fun hHeld => ?_)
            clear hK K
            refine norm_ (a' := ?_) ?_ ?_
            rotate_left
            ·show Act.put _ (some 44) _ = _
             simp only [Act.put, List.setIfInBounds_toArray, List.set_cons_zero, List.set_cons_succ, i64_w, i32_w]
             rfl
            refine pure_ (i := 15) (N := some 49) (v := ?_) (a' := ?_) #[true, true, true, true, true, true, true, true, true, true, true, true, true, true, true, true, true, true, true, false, true, true, true, true, false, false, false, false] rfl rfl (any_of HT_.out (by kernel_rfl)) (fun _ _ _ h => h) (Or.inl ⟨by rfl, ?_⟩) ?_ ?_
            rotate_left
            ·intro w'
             go_simp
             with_reducible rfl
            rotate_left
            ·simp only [Act.put, List.setIfInBounds_toArray, List.set_cons_zero, List.set_cons_succ, i64_w, i32_w]
             rfl
            refine one_ (i := 19) (N := some 53) #[true, true, true, true, true, true, true, true, true, true, true, true, true, true, true, true, true, true, true, true, true, true, true, true, false, false, false, false] rfl rfl (one_of HT_.out (by kernel_rfl)) (by decide) (fun K hK => ?_)
            refine goes_ Try.func44 (by kernel_rfl) rfl #[.agg #[.int .i64 a0_0, .int .i64 a0_1, .int .i64 a0_2, .int .i64 a0_3], .agg #[.int .i64 ((rd_T44 l1 (ji18)).f0.f0), .int .i64 ((rd_T44 l1 (ji18)).f0.f1)]] (by rfl) rfl rfl (by (try simp only [List.map_toArray, List.map_cons, List.map_nil]); first | done | (simp only [hji18]; rfl) | rfl | (simp only [List.length_drop, List.length_take]; rfl)) ?_
            with_reducible refine (impl_height.calls a0_0 a0_1 a0_2 a0_3 ((rd_T44 l1 (ji18)).f0.f0) ((rd_T44 l1 (ji18)).f0.f1) t305 _ A23.out).mono ?_
            rintro e w38 ⟨rfl, hb⟩
            refine ⟨_, rfl, ?_⟩
            have n0_ := Aside0.mk (blk_below (g := gb296) (o := .cells #[.int .i64 a0_0, .int .i64 a0_1, .int .i64 a0_2, .int .i64 a0_3] 33 (0, 0)) (by (with_reducible repeat (first | refine blk_drewN ?_ _ | refine blk_drew ?_ | refine blk_alloc ?_ _)); exact BK296.out) hb)
            have n1_ := Aside0.mk (blk_below (g := gb301) (o := .cells #[.int .i64 ((rd_T44 l1 x7_2).f0.f0), .int .i64 ((rd_T44 l1 x7_2).f0.f1), .int .i64 ((rd_T44 l1 x7_2).f1)] 44 (0, 0)) (by (with_reducible repeat (first | refine blk_drewN ?_ _ | refine blk_drew ?_ | refine blk_alloc ?_ _)); exact BK301.out) hb)
            have n2_ := Aside0.mk (blk_below (g := gb302) (o := .cells #[.int .i64 ((rd_T44 l1 (ji18)).f0.f0), .int .i64 ((rd_T44 l1 (ji18)).f0.f1), .int .i64 ((rd_T44 l1 (ji18)).f1)] 44 (0, 0)) (by (with_reducible repeat (first | refine blk_drewN ?_ _ | refine blk_drew ?_ | refine blk_alloc ?_ _)); exact BK302.out) hb)
            have n3_ := Aside0.mk (below_step (by repeat (first | (with_reducible first | exact HB.out | apply below_alloc | apply pw_below_drewN | apply below_drew1 | refine below_set ?_ GE296.out | refine below_set ?_ GE301.out | refine below_set ?_ GE302.out) | exact HB.out)) hb)
            clear BK296
            clear BK301
            clear BK302
            clear HB
            have BK296 := n0_
            have BK301 := n1_
            have BK302 := n2_
            have HB := n3_
            clear n0_ n1_ n2_ n3_
            (try clear hb)
            (try clear hb2)
            (try clear hk)
            (try clear hi)
            refine hK.out _ _ ⟨(blk_cell BK301.out 0).trans rfl, (blk_cell BK301.out 1).trans rfl, (blk_cell BK301.out 2).trans rfl, (blk_cell BK302.out 0).trans rfl, (blk_cell BK302.out 1).trans rfl, (blk_cell BK302.out 2).trans rfl, (blk_cell BK296.out 0).trans rfl, (blk_cell BK296.out 1).trans rfl, (blk_cell BK296.out 2).trans rfl, (blk_cell BK296.out 3).trans rfl⟩ (fun hHeld => ?_)
            clear hK K
            refine norm_ (a' := ?_) ?_ ?_
            rotate_left
            ·show Act.put _ (some 53) _ = _
             simp only [Act.put, List.setIfInBounds_toArray, List.set_cons_zero, List.set_cons_succ, i64_w, i32_w]
             rfl
            refine pure_ (i := 24) (N := some 58) (v := ?_) (a' := ?_) #[true, true, true, true, true, true, true, true, true, true, true, true, true, true, true, true, true, true, true, true, true, true, true, true, true, false, false, false] rfl rfl (any_of HT_.out (by kernel_rfl)) (fun _ _ _ h => h) (Or.inl ⟨by rfl, ?_⟩) ?_ ?_
            rotate_left
            ·intro w'
             go_simp
             with_reducible rfl
            rotate_left
            ·simp only [Act.put, List.setIfInBounds_toArray, List.set_cons_zero, List.set_cons_succ, i64_w, i32_w]
             rfl
            refine pure_ (i := 25) (N := some 59) (v := ?_) (a' := ?_) #[true, true, true, true, true, true, true, true, true, true, true, true, true, true, true, true, true, true, true, true, true, true, true, true, true, true, false, false] rfl rfl (any_of HT_.out (by kernel_rfl)) (fun _ _ _ h => h) (Or.inl ⟨by rfl, ?_⟩) ?_ ?_
            rotate_left
            ·intro w'
             go_simp
             with_reducible rfl
            rotate_left
            ·simp only [Act.put, List.setIfInBounds_toArray, List.set_cons_zero, List.set_cons_succ, i64_w, i32_w]
             rfl
            refine pure_ (i := 26) (N := some 60) (v := ?_) (a' := ?_) #[true, true, true, true, true, true, true, true, true, true, true, true, true, true, true, true, true, true, true, true, true, true, true, true, true, true, true, false] rfl rfl (any_of HT_.out (by kernel_rfl)) (fun _ _ _ h => h) (Or.inl ⟨by rfl, ?_⟩) ?_ ?_
            rotate_left
            ·intro w'
             go_simp
             with_reducible rfl
            rotate_left
            ·simp only [Act.put, List.setIfInBounds_toArray, List.set_cons_zero, List.set_cons_succ, i64_w, i32_w]
             rfl
            refine pure_ (i := 27) (N := some 61) (v := ?_) (a' := ?_) #[true, true, true, true, true, true, true, true, true, true, true, true, true, true, true, true, true, true, true, true, true, true, true, true, true, true, true, true] rfl rfl (any_of HT_.out (by kernel_rfl)) (fun _ _ _ h => h) (Or.inl ⟨by rfl, ?_⟩) ?_ ?_
            rotate_left
            ·intro w'
             go_simp
             with_reducible rfl
            rotate_left
            ·simp only [Act.put, List.setIfInBounds_toArray, List.set_cons_zero, List.set_cons_succ, i64_w, i32_w]
             rfl
            refine done_ (done_of HT_.out (by kernel_rfl)) ?_
            try go_wp2
            go_ret
            exact ⟨by first | rfl | (simp [errW_none, errW_some] <;> rfl) | (simp only [← hji18]; first | rfl | (simp [errW_none, errW_some] <;> rfl)) | (simp [*, errW_none, errW_some] <;> rfl), by repeat (first | (with_reducible first | exact HB.out | apply below_alloc | apply pw_below_drewN | apply below_drew1 | refine below_set ?_ GE296.out | refine below_set ?_ GE301.out | refine below_set ?_ GE302.out) | exact HB.out)⟩
           ·rw [if_neg c24] at H
            have c24b0 : decide ((wrap64 ((wrap64 (t304 * (wrap64 (((rd_T44 l1 (ji18)).f1) - a2)))) + (wrap64 (t305 * (wrap64 (a2 - ((rd_T44 l1 x7_2).f1))))))) < 0) = false := decide_eq_false c24
            clear c24
            have H' := Aside0.mk H
            clear H
            try go_wp2
            have n0_ := Aside0.mk (blk_drew BK296.out)
            have n1_ := Aside0.mk (below_drew1 HB.out)
            clear BK296
            clear HB
            have BK296 := n0_
            have HB := n1_
            clear n0_ n1_
            have p299 : 0 ≤ (x7_2 : Int) := of_decide_eq_true (by first | (with_reducible assumption) | assumption)
            have q299 : x7_2 < (l1.length : Int) := of_decide_eq_true (by first | (with_reducible assumption) | assumption)
            obtain ⟨ad299, e299, hx299_0, hx299_1, hx299_2⟩ := at_T44 HR1.out x7_2 p299 q299
            have hw299_2 := hx299_2
            have hw299_1 := hx299_1
            have hw299_0 := hx299_0
            cases e299
            replace hx299_0 := (HB.out.cell (bl_ w _ hx299_0)).trans hx299_0
            replace hx299_1 := (HB.out.cell (bl_ w _ hx299_1)).trans hx299_1
            replace hx299_2 := (HB.out.cell (bl_ w _ hx299_2)).trans hx299_2
            replace p299 := eq_true p299
            replace q299 := eq_true q299
            have p300 : 0 ≤ ((ji18) : Int) := of_decide_eq_true (by first | (with_reducible assumption) | assumption)
            have q300 : (ji18) < (l1.length : Int) := of_decide_eq_true (by first | (with_reducible assumption) | assumption)
            obtain ⟨ad300, e300, hx300_0, hx300_1, hx300_2⟩ := at_T44 HR1.out (ji18) p300 q300
            have hw300_2 := hx300_2
            have hw300_1 := hx300_1
            have hw300_0 := hx300_0
            obtain rfl : ad299 = ad300 := (by injection e300)
            replace hx300_0 := (HB.out.cell (bl_ w _ hx300_0)).trans hx300_0
            replace hx300_1 := (HB.out.cell (bl_ w _ hx300_1)).trans hx300_1
            replace hx300_2 := (HB.out.cell (bl_ w _ hx300_2)).trans hx300_2
            replace p300 := eq_true p300
            replace q300 := eq_true q300
            refine start_ (n := 13) (S := fun w' => w'.cell? (ad299.add ((x7_2).toNat * 3)) = some (.int .i64 ((rd_T44 l1 x7_2).f0.f0)) ∧ w'.cell? ⟨(ad299.add ((x7_2).toNat * 3)).block, (ad299.add ((x7_2).toNat * 3)).off + 1, none⟩ = some (.int .i64 ((rd_T44 l1 x7_2).f0.f1)) ∧ w'.cell? ⟨(ad299.add ((x7_2).toNat * 3)).block, (ad299.add ((x7_2).toNat * 3)).off + 2, none⟩ = some (.int .i64 ((rd_T44 l1 x7_2).f1)) ∧ w'.cell? (ad299.add (((ji18)).toNat * 3)) = some (.int .i64 ((rd_T44 l1 (ji18)).f0.f0)) ∧ w'.cell? ⟨(ad299.add (((ji18)).toNat * 3)).block, (ad299.add (((ji18)).toNat * 3)).off + 1, none⟩ = some (.int .i64 ((rd_T44 l1 (ji18)).f0.f1)) ∧ w'.cell? ⟨(ad299.add (((ji18)).toNat * 3)).block, (ad299.add (((ji18)).toNat * 3)).off + 2, none⟩ = some (.int .i64 ((rd_T44 l1 (ji18)).f1))) (ds := []) #[false, false, false, false, false, false, false, false, false, false, false, false, false] (by kernel_rfl) rfl rfl ⟨((HB.out.cell (bl_ w _ hw299_0)).trans hw299_0), ((HB.out.cell (bl_ w _ hw299_1)).trans hw299_1), ((HB.out.cell (bl_ w _ hw299_2)).trans hw299_2), ((HB.out.cell (bl_ w _ hw300_0)).trans hw300_0), ((HB.out.cell (bl_ w _ hw300_1)).trans hw300_1), ((HB.out.cell (bl_ w _ hw300_2)).trans hw300_2)⟩ (fun hHeld => ?_); refine with_tabW impl_EarlyAt.tab6 impl_EarlyAt.bits6 (fun HT_ HW_ => ?_)
            generalize wr.drew = w39 at BK296 HB hx299_0 hx299_1 hx299_2 hx300_0 hx300_1 hx300_2 hHeld ⊢
            refine pure_ (i := 0) (N := some 25) (v := ?_) (a' := ?_) #[true, false, false, false, false, false, false, false, false, false, false, false, false] rfl rfl (any_of HT_.out (by kernel_rfl)) (fun _ _ _ h => h) (Or.inl ⟨by rfl, ?_⟩) ?_ ?_
            rotate_left
            ·intro w'
             go_simp
             with_reducible rfl
            rotate_left
            ·simp only [Act.put, List.setIfInBounds_toArray, List.set_cons_zero, List.set_cons_succ, i64_w, i32_w]
             rfl
            refine pure_ (i := 1) (N := some 26) (v := ?_) (a' := ?_) #[true, true, false, false, false, false, false, false, false, false, false, false, false] rfl rfl (any_of HT_.out (by kernel_rfl)) (fun _ _ _ h => h) (Or.inl ⟨by rfl, ?_⟩) ?_ ?_
            rotate_left
            ·intro w'
             go_simp
             with_reducible rfl
            rotate_left
            ·simp only [Act.put, List.setIfInBounds_toArray, List.set_cons_zero, List.set_cons_succ, i64_w, i32_w]
             rfl
            refine pure_ (i := 2) (N := some 27) (v := ?_) (a' := ?_) #[true, true, true, false, false, false, false, false, false, false, false, false, false] rfl rfl (any_of HT_.out (by kernel_rfl)) (fun _ _ _ h => h) (Or.inl ⟨by rfl, ?_⟩) ?_ ?_
            rotate_left
            ·intro w'
             go_simp
             with_reducible rfl
            rotate_left
            ·simp only [Act.put, List.setIfInBounds_toArray, List.set_cons_zero, List.set_cons_succ, i64_w, i32_w]
             rfl
            refine pure_ (i := 4) (N := some 29) (v := ?_) (a' := ?_) #[true, true, true, false, true, false, false, false, false, false, false, false, false] rfl rfl (any_of HT_.out (by kernel_rfl)) (fun _ _ _ h => h) (Or.inl ⟨by rfl, ?_⟩) ?_ ?_
            rotate_left
            ·intro w'
             go_simp
             with_reducible rfl
            rotate_left
            ·simp only [Act.put, List.setIfInBounds_toArray, List.set_cons_zero, List.set_cons_succ, i64_w, i32_w]
             rfl
            refine pure_ (i := 5) (N := some 30) (v := ?_) (a' := ?_) #[true, true, true, false, true, true, false, false, false, false, false, false, false] rfl rfl (any_of HT_.out (by kernel_rfl)) (fun _ _ _ h => h) (Or.inl ⟨by rfl, ?_⟩) ?_ ?_
            rotate_left
            ·intro w'
             go_simp
             with_reducible rfl
            rotate_left
            ·simp only [Act.put, List.setIfInBounds_toArray, List.set_cons_zero, List.set_cons_succ, i64_w, i32_w]
             rfl
            refine pure_ (i := 6) (N := some 31) (v := ?_) (a' := ?_) #[true, true, true, false, true, true, true, false, false, false, false, false, false] rfl rfl (any_of HT_.out (by kernel_rfl)) (fun _ _ _ h => h) (Or.inl ⟨by rfl, ?_⟩) ?_ ?_
            rotate_left
            ·intro w'
             go_simp
             with_reducible rfl
            rotate_left
            ·simp only [Act.put, List.setIfInBounds_toArray, List.set_cons_zero, List.set_cons_succ, i64_w, i32_w]
             rfl
            refine pure_ (i := 7) (N := some 32) (v := ?_) (a' := ?_) #[true, true, true, false, true, true, true, true, false, false, false, false, false] rfl rfl (any_of HT_.out (by kernel_rfl)) (fun _ _ _ h => h) (Or.inl ⟨by rfl, ?_⟩) ?_ ?_
            rotate_left
            ·intro w'
             go_simp
             with_reducible rfl
            rotate_left
            ·simp only [Act.put, List.setIfInBounds_toArray, List.set_cons_zero, List.set_cons_succ, i64_w, i32_w]
             rfl
            refine take_ (i := 3) (N := some 28) (v := ?_) (a' := ?_) #[true, true, true, true, true, true, true, true, false, false, false, false, false] rfl rfl (take_ofW HT_.out HW_.out (by kernel_rfl)) (fun _ _ _ h => h) (Or.inl ⟨by rfl, ?_⟩) hHeld ?_ ?_
            rotate_left
            ·rintro w' ⟨s0, s1, s2, s3, s4, s5⟩
             go_simp
             with_reducible rfl
            rotate_left
            ·simp only [Act.put, List.setIfInBounds_toArray, List.set_cons_zero, List.set_cons_succ, i64_w, i32_w]
             rfl
            refine take_ (i := 8) (N := some 33) (v := ?_) (a' := ?_) #[true, true, true, true, true, true, true, true, true, false, false, false, false] rfl rfl (take_ofW HT_.out HW_.out (by kernel_rfl)) (fun _ _ _ h => h) (Or.inl ⟨by rfl, ?_⟩) hHeld ?_ ?_
            rotate_left
            ·rintro w' ⟨s0, s1, s2, s3, s4, s5⟩
             go_simp
             with_reducible rfl
            rotate_left
            ·simp only [Act.put, List.setIfInBounds_toArray, List.set_cons_zero, List.set_cons_succ, i64_w, i32_w]
             rfl
            refine join_ (σ := Nat × Nat) 2 #[true, true, true, true, true, true, true, true, true, true, true, false, false] (fun s_ => [(8, .pointer (some ⟨s_.1, 0, none⟩)), (9, .pointer (some ⟨s_.2, 0, none⟩))]) (fun s_ w' => (w'.cell? (ad299.add ((x7_2).toNat * 3)) = some (.int .i64 ((rd_T44 l1 x7_2).f0.f0)) ∧ w'.cell? ⟨(ad299.add ((x7_2).toNat * 3)).block, (ad299.add ((x7_2).toNat * 3)).off + 1, none⟩ = some (.int .i64 ((rd_T44 l1 x7_2).f0.f1)) ∧ w'.cell? ⟨(ad299.add ((x7_2).toNat * 3)).block, (ad299.add ((x7_2).toNat * 3)).off + 2, none⟩ = some (.int .i64 ((rd_T44 l1 x7_2).f1)) ∧ w'.cell? (ad299.add (((ji18)).toNat * 3)) = some (.int .i64 ((rd_T44 l1 (ji18)).f0.f0)) ∧ w'.cell? ⟨(ad299.add (((ji18)).toNat * 3)).block, (ad299.add (((ji18)).toNat * 3)).off + 1, none⟩ = some (.int .i64 ((rd_T44 l1 (ji18)).f0.f1)) ∧ w'.cell? ⟨(ad299.add (((ji18)).toNat * 3)).block, (ad299.add (((ji18)).toNat * 3)).off + 2, none⟩ = some (.int .i64 ((rd_T44 l1 (ji18)).f1))) ∧ (w'.heap[gb296]? = some (.cells #[.int .i64 a0_0, .int .i64 a0_1, .int .i64 a0_2, .int .i64 a0_3] 33 (0, 0))) ∧ (w'.heap[s_.1]? = some (.cells #[.int .i64 0, .int .i64 0, .int .i64 0] 44 (0, 0))) ∧ (w'.heap[s_.2]? = some (.cells #[.int .i64 0, .int .i64 0, .int .i64 0] 44 (0, 0))) ∧ (w.heap.size ≤ s_.1) ∧ (w.heap.size ≤ s_.1) ∧ (gb296 ≠ s_.1) ∧ (s_.1 ≠ gb296) ∧ (s_.2 ≠ s_.1) ∧ (s_.1 ≠ s_.2) ∧ (w.heap.size ≤ s_.2) ∧ (w.heap.size ≤ s_.2) ∧ (gb296 ≠ s_.2) ∧ (s_.2 ≠ gb296) ∧ (Below w.heap.size w w')) ?_ ?_
            rotate_left
            ·intro hCont
             refine two_ (i := 9) (j := 10) (Ni := some 8) (Nj := some 9) #[true, true, true, true, true, true, true, true, true, true, false, false, false] #[true, true, true, true, true, true, true, true, true, false, true, false, false] rfl rfl rfl rfl (two_of HT_.out (by kernel_rfl)) (by decide) (by decide) (fun K hK => ?_) (fun K hK => ?_)
             ·skip
              refine box_step ?hg (N := 8) ?hd (cs := #[.int .i64 0, .int .i64 0, .int .i64 0]) (t := 44) ?hr ?_; (case hd => rfl); (case hg => rfl); (case hr => first | (go_simp; done) | (go_simp; rfl))
              intro gb301 hg w40 hbox hb
              have n0_ := Aside0.mk (blk_below (g := gb296) (o := .cells #[.int .i64 a0_0, .int .i64 a0_1, .int .i64 a0_2, .int .i64 a0_3] 33 (0, 0)) (by (with_reducible repeat (first | refine blk_drewN ?_ _ | refine blk_drew ?_ | refine blk_alloc ?_ _)); exact BK296.out) hb)
              have n1_ := Aside0.mk (below_step (by repeat (first | (with_reducible first | exact HB.out | apply below_alloc | apply pw_below_drewN | apply below_drew1 | refine below_set ?_ GE296.out) | exact HB.out)) hb)
              have n2_ := Aside0.mk (hbox)
              have n3_ := Aside0.mk ((by rw [hg]; exact (below_size (by repeat (first | (with_reducible first | exact HB.out | apply below_alloc | apply pw_below_drewN | apply below_drew1 | refine below_set ?_ GE296.out) | exact HB.out))) : w.heap.size ≤ gb301))
              have n4_ := Aside0.mk ((by rw [hg]; exact (below_size (by repeat (first | (with_reducible first | exact HB.out | apply below_alloc | apply pw_below_drewN | apply below_drew1 | refine below_set ?_ GE296.out) | exact HB.out))) : w.heap.size ≤ gb301))
              have n5_ := Aside0.mk ((by rw [hg]; exact nn_ (blk_lt (g := gb296) (o := .cells #[.int .i64 a0_0, .int .i64 a0_1, .int .i64 a0_2, .int .i64 a0_3] 33 (0, 0)) (by (with_reducible repeat (first | refine blk_drewN ?_ _ | refine blk_drew ?_ | refine blk_alloc ?_ _)); exact BK296.out)) : gb296 ≠ gb301))
              have n6_ := Aside0.mk ((by rw [hg]; exact Nat.ne_of_gt (blk_lt (g := gb296) (o := .cells #[.int .i64 a0_0, .int .i64 a0_1, .int .i64 a0_2, .int .i64 a0_3] 33 (0, 0)) (by (with_reducible repeat (first | refine blk_drewN ?_ _ | refine blk_drew ?_ | refine blk_alloc ?_ _)); exact BK296.out)) : gb301 ≠ gb296))
              clear BK296
              clear HB
              have BK296 := n0_
              have HB := n1_
              have BK301 := n2_
              have GW301 := n3_
              have GE301 := n4_
              have NB296_301 := n5_
              have NB301_296 := n6_
              clear n0_ n1_ n2_ n3_ n4_ n5_ n6_
              clear hb hbox hg
              refine hK.out _ _ ⟨((HB.out.cell (bl_ w _ hw299_0)).trans hw299_0), ((HB.out.cell (bl_ w _ hw299_1)).trans hw299_1), ((HB.out.cell (bl_ w _ hw299_2)).trans hw299_2), ((HB.out.cell (bl_ w _ hw300_0)).trans hw300_0), ((HB.out.cell (bl_ w _ hw300_1)).trans hw300_1), ((HB.out.cell (bl_ w _ hw300_2)).trans hw300_2)⟩ (fun hHeld => ?_)
              clear hK K
              refine norm_ (a' := ?_) ?_ ?_
              rotate_left
              ·show Act.put _ (some 8) _ = _
               simp only [Act.put, List.setIfInBounds_toArray, List.set_cons_zero, List.set_cons_succ, i64_w, i32_w]
               rfl
              refine one_ (i := 10) (N := some 9) #[true, true, true, true, true, true, true, true, true, true, true, false, false] rfl rfl (one_of HT_.out (by kernel_rfl)) (by decide) (fun K hK => ?_)
              refine box_step ?hg (N := 9) ?hd (cs := #[.int .i64 0, .int .i64 0, .int .i64 0]) (t := 44) ?hr ?_; (case hd => rfl); (case hg => rfl); (case hr => first | (go_simp; done) | (go_simp; rfl))
              intro gb302 hg w41 hbox hb
              have n0_ := Aside0.mk (blk_below (g := gb296) (o := .cells #[.int .i64 a0_0, .int .i64 a0_1, .int .i64 a0_2, .int .i64 a0_3] 33 (0, 0)) (by (with_reducible repeat (first | refine blk_drewN ?_ _ | refine blk_drew ?_ | refine blk_alloc ?_ _)); exact BK296.out) hb)
              have n1_ := Aside0.mk (blk_below (g := gb301) (o := .cells #[.int .i64 0, .int .i64 0, .int .i64 0] 44 (0, 0)) (by (with_reducible repeat (first | refine blk_drewN ?_ _ | refine blk_drew ?_ | refine blk_alloc ?_ _)); exact BK301.out) hb)
              have n2_ := Aside0.mk (below_step (by repeat (first | (with_reducible first | exact HB.out | apply below_alloc | apply pw_below_drewN | apply below_drew1 | refine below_set ?_ GE296.out | refine below_set ?_ GE301.out) | exact HB.out)) hb)
              have n3_ := Aside0.mk (hbox)
              have n4_ := Aside0.mk ((by rw [hg]; exact (below_size (by repeat (first | (with_reducible first | exact HB.out | apply below_alloc | apply pw_below_drewN | apply below_drew1 | refine below_set ?_ GE296.out | refine below_set ?_ GE301.out) | exact HB.out))) : w.heap.size ≤ gb302))
              have n5_ := Aside0.mk ((by rw [hg]; exact (below_size (by repeat (first | (with_reducible first | exact HB.out | apply below_alloc | apply pw_below_drewN | apply below_drew1 | refine below_set ?_ GE296.out | refine below_set ?_ GE301.out) | exact HB.out))) : w.heap.size ≤ gb302))
              have n6_ := Aside0.mk ((by rw [hg]; exact nn_ (blk_lt (g := gb296) (o := .cells #[.int .i64 a0_0, .int .i64 a0_1, .int .i64 a0_2, .int .i64 a0_3] 33 (0, 0)) (by (with_reducible repeat (first | refine blk_drewN ?_ _ | refine blk_drew ?_ | refine blk_alloc ?_ _)); exact BK296.out)) : gb296 ≠ gb302))
              have n7_ := Aside0.mk ((by rw [hg]; exact Nat.ne_of_gt (blk_lt (g := gb296) (o := .cells #[.int .i64 a0_0, .int .i64 a0_1, .int .i64 a0_2, .int .i64 a0_3] 33 (0, 0)) (by (with_reducible repeat (first | refine blk_drewN ?_ _ | refine blk_drew ?_ | refine blk_alloc ?_ _)); exact BK296.out)) : gb302 ≠ gb296))
              have n8_ := Aside0.mk ((by rw [hg]; exact nn_ (blk_lt (g := gb301) (o := .cells #[.int .i64 0, .int .i64 0, .int .i64 0] 44 (0, 0)) (by (with_reducible repeat (first | refine blk_drewN ?_ _ | refine blk_drew ?_ | refine blk_alloc ?_ _)); exact BK301.out)) : gb301 ≠ gb302))
              have n9_ := Aside0.mk ((by rw [hg]; exact Nat.ne_of_gt (blk_lt (g := gb301) (o := .cells #[.int .i64 0, .int .i64 0, .int .i64 0] 44 (0, 0)) (by (with_reducible repeat (first | refine blk_drewN ?_ _ | refine blk_drew ?_ | refine blk_alloc ?_ _)); exact BK301.out)) : gb302 ≠ gb301))
              clear BK296
              clear BK301
              clear HB
              have BK296 := n0_
              have BK301 := n1_
              have HB := n2_
              have BK302 := n3_
              have GW302 := n4_
              have GE302 := n5_
              have NB296_302 := n6_
              have NB302_296 := n7_
              have NB301_302 := n8_
              have NB302_301 := n9_
              clear n0_ n1_ n2_ n3_ n4_ n5_ n6_ n7_ n8_ n9_
              clear hb hbox hg
              refine hK.out _ _ ⟨((HB.out.cell (bl_ w _ hw299_0)).trans hw299_0), ((HB.out.cell (bl_ w _ hw299_1)).trans hw299_1), ((HB.out.cell (bl_ w _ hw299_2)).trans hw299_2), ((HB.out.cell (bl_ w _ hw300_0)).trans hw300_0), ((HB.out.cell (bl_ w _ hw300_1)).trans hw300_1), ((HB.out.cell (bl_ w _ hw300_2)).trans hw300_2)⟩ (fun hHeld => ?_)
              clear hK K
              refine norm_ (a' := ?_) ?_ ?_
              rotate_left
              ·show Act.put _ (some 9) _ = _
               simp only [Act.put, List.setIfInBounds_toArray, List.set_cons_zero, List.set_cons_succ, i64_w, i32_w]
               rfl
              exact norm_ (by simp only [putAll, Act.put, List.setIfInBounds_toArray, List.set_cons_zero, List.set_cons_succ]) (hCont (gb301, gb302) _ ⟨hHeld, (by (with_reducible repeat (first | refine blk_drewN ?_ _ | refine blk_drew ?_ | refine blk_alloc ?_ _)); exact BK296.out), (by (with_reducible repeat (first | refine blk_drewN ?_ _ | refine blk_drew ?_ | refine blk_alloc ?_ _)); exact BK301.out), (by (with_reducible repeat (first | refine blk_drewN ?_ _ | refine blk_drew ?_ | refine blk_alloc ?_ _)); exact BK302.out), GW301.out, GE301.out, NB296_301.out, NB301_296.out, NB302_301.out, NB301_302.out, GW302.out, GE302.out, NB296_302.out, NB302_296.out, (by repeat (first | (with_reducible first | exact HB.out | apply below_alloc | apply pw_below_drewN | apply below_drew1 | refine below_set ?_ GE296.out | refine below_set ?_ GE301.out | refine below_set ?_ GE302.out) | exact HB.out))⟩)
             ·skip
              refine box_step ?hg (N := 9) ?hd (cs := #[.int .i64 0, .int .i64 0, .int .i64 0]) (t := 44) ?hr ?_; (case hd => rfl); (case hg => rfl); (case hr => first | (go_simp; done) | (go_simp; rfl))
              intro gb302 hg w40 hbox hb
              have n0_ := Aside0.mk (blk_below (g := gb296) (o := .cells #[.int .i64 a0_0, .int .i64 a0_1, .int .i64 a0_2, .int .i64 a0_3] 33 (0, 0)) (by (with_reducible repeat (first | refine blk_drewN ?_ _ | refine blk_drew ?_ | refine blk_alloc ?_ _)); exact BK296.out) hb)
              have n1_ := Aside0.mk (below_step (by repeat (first | (with_reducible first | exact HB.out | apply below_alloc | apply pw_below_drewN | apply below_drew1 | refine below_set ?_ GE296.out) | exact HB.out)) hb)
              have n2_ := Aside0.mk (hbox)
              have n3_ := Aside0.mk ((by rw [hg]; exact (below_size (by repeat (first | (with_reducible first | exact HB.out | apply below_alloc | apply pw_below_drewN | apply below_drew1 | refine below_set ?_ GE296.out) | exact HB.out))) : w.heap.size ≤ gb302))
              have n4_ := Aside0.mk ((by rw [hg]; exact (below_size (by repeat (first | (with_reducible first | exact HB.out | apply below_alloc | apply pw_below_drewN | apply below_drew1 | refine below_set ?_ GE296.out) | exact HB.out))) : w.heap.size ≤ gb302))
              have n5_ := Aside0.mk ((by rw [hg]; exact nn_ (blk_lt (g := gb296) (o := .cells #[.int .i64 a0_0, .int .i64 a0_1, .int .i64 a0_2, .int .i64 a0_3] 33 (0, 0)) (by (with_reducible repeat (first | refine blk_drewN ?_ _ | refine blk_drew ?_ | refine blk_alloc ?_ _)); exact BK296.out)) : gb296 ≠ gb302))
              have n6_ := Aside0.mk ((by rw [hg]; exact Nat.ne_of_gt (blk_lt (g := gb296) (o := .cells #[.int .i64 a0_0, .int .i64 a0_1, .int .i64 a0_2, .int .i64 a0_3] 33 (0, 0)) (by (with_reducible repeat (first | refine blk_drewN ?_ _ | refine blk_drew ?_ | refine blk_alloc ?_ _)); exact BK296.out)) : gb302 ≠ gb296))
              clear BK296
              clear HB
              have BK296 := n0_
              have HB := n1_
              have BK302 := n2_
              have GW302 := n3_
              have GE302 := n4_
              have NB296_302 := n5_
              have NB302_296 := n6_
              clear n0_ n1_ n2_ n3_ n4_ n5_ n6_
              clear hb hbox hg
              refine hK.out _ _ ⟨((HB.out.cell (bl_ w _ hw299_0)).trans hw299_0), ((HB.out.cell (bl_ w _ hw299_1)).trans hw299_1), ((HB.out.cell (bl_ w _ hw299_2)).trans hw299_2), ((HB.out.cell (bl_ w _ hw300_0)).trans hw300_0), ((HB.out.cell (bl_ w _ hw300_1)).trans hw300_1), ((HB.out.cell (bl_ w _ hw300_2)).trans hw300_2)⟩ (fun hHeld => ?_)
              clear hK K
              refine norm_ (a' := ?_) ?_ ?_
              rotate_left
              ·show Act.put _ (some 9) _ = _
               simp only [Act.put, List.setIfInBounds_toArray, List.set_cons_zero, List.set_cons_succ, i64_w, i32_w]
               rfl
              refine one_ (i := 9) (N := some 8) #[true, true, true, true, true, true, true, true, true, true, true, false, false] rfl rfl (one_of HT_.out (by kernel_rfl)) (by decide) (fun K hK => ?_)
              refine box_step ?hg (N := 8) ?hd (cs := #[.int .i64 0, .int .i64 0, .int .i64 0]) (t := 44) ?hr ?_; (case hd => rfl); (case hg => rfl); (case hr => first | (go_simp; done) | (go_simp; rfl))
              intro gb301 hg w41 hbox hb
              have n0_ := Aside0.mk (blk_below (g := gb296) (o := .cells #[.int .i64 a0_0, .int .i64 a0_1, .int .i64 a0_2, .int .i64 a0_3] 33 (0, 0)) (by (with_reducible repeat (first | refine blk_drewN ?_ _ | refine blk_drew ?_ | refine blk_alloc ?_ _)); exact BK296.out) hb)
              have n1_ := Aside0.mk (blk_below (g := gb302) (o := .cells #[.int .i64 0, .int .i64 0, .int .i64 0] 44 (0, 0)) (by (with_reducible repeat (first | refine blk_drewN ?_ _ | refine blk_drew ?_ | refine blk_alloc ?_ _)); exact BK302.out) hb)
              have n2_ := Aside0.mk (below_step (by repeat (first | (with_reducible first | exact HB.out | apply below_alloc | apply pw_below_drewN | apply below_drew1 | refine below_set ?_ GE296.out | refine below_set ?_ GE302.out) | exact HB.out)) hb)
              have n3_ := Aside0.mk (hbox)
              have n4_ := Aside0.mk ((by rw [hg]; exact (below_size (by repeat (first | (with_reducible first | exact HB.out | apply below_alloc | apply pw_below_drewN | apply below_drew1 | refine below_set ?_ GE296.out | refine below_set ?_ GE302.out) | exact HB.out))) : w.heap.size ≤ gb301))
              have n5_ := Aside0.mk ((by rw [hg]; exact (below_size (by repeat (first | (with_reducible first | exact HB.out | apply below_alloc | apply pw_below_drewN | apply below_drew1 | refine below_set ?_ GE296.out | refine below_set ?_ GE302.out) | exact HB.out))) : w.heap.size ≤ gb301))
              have n6_ := Aside0.mk ((by rw [hg]; exact nn_ (blk_lt (g := gb296) (o := .cells #[.int .i64 a0_0, .int .i64 a0_1, .int .i64 a0_2, .int .i64 a0_3] 33 (0, 0)) (by (with_reducible repeat (first | refine blk_drewN ?_ _ | refine blk_drew ?_ | refine blk_alloc ?_ _)); exact BK296.out)) : gb296 ≠ gb301))
              have n7_ := Aside0.mk ((by rw [hg]; exact Nat.ne_of_gt (blk_lt (g := gb296) (o := .cells #[.int .i64 a0_0, .int .i64 a0_1, .int .i64 a0_2, .int .i64 a0_3] 33 (0, 0)) (by (with_reducible repeat (first | refine blk_drewN ?_ _ | refine blk_drew ?_ | refine blk_alloc ?_ _)); exact BK296.out)) : gb301 ≠ gb296))
              have n8_ := Aside0.mk ((by rw [hg]; exact nn_ (blk_lt (g := gb302) (o := .cells #[.int .i64 0, .int .i64 0, .int .i64 0] 44 (0, 0)) (by (with_reducible repeat (first | refine blk_drewN ?_ _ | refine blk_drew ?_ | refine blk_alloc ?_ _)); exact BK302.out)) : gb302 ≠ gb301))
              have n9_ := Aside0.mk ((by rw [hg]; exact Nat.ne_of_gt (blk_lt (g := gb302) (o := .cells #[.int .i64 0, .int .i64 0, .int .i64 0] 44 (0, 0)) (by (with_reducible repeat (first | refine blk_drewN ?_ _ | refine blk_drew ?_ | refine blk_alloc ?_ _)); exact BK302.out)) : gb301 ≠ gb302))
              clear BK296
              clear BK302
              clear HB
              have BK296 := n0_
              have BK302 := n1_
              have HB := n2_
              have BK301 := n3_
              have GW301 := n4_
              have GE301 := n5_
              have NB296_301 := n6_
              have NB301_296 := n7_
              have NB302_301 := n8_
              have NB301_302 := n9_
              clear n0_ n1_ n2_ n3_ n4_ n5_ n6_ n7_ n8_ n9_
              clear hb hbox hg
              refine hK.out _ _ ⟨((HB.out.cell (bl_ w _ hw299_0)).trans hw299_0), ((HB.out.cell (bl_ w _ hw299_1)).trans hw299_1), ((HB.out.cell (bl_ w _ hw299_2)).trans hw299_2), ((HB.out.cell (bl_ w _ hw300_0)).trans hw300_0), ((HB.out.cell (bl_ w _ hw300_1)).trans hw300_1), ((HB.out.cell (bl_ w _ hw300_2)).trans hw300_2)⟩ (fun hHeld => ?_)
              clear hK K
              refine norm_ (a' := ?_) ?_ ?_
              rotate_left
              ·show Act.put _ (some 8) _ = _
               simp only [Act.put, List.setIfInBounds_toArray, List.set_cons_zero, List.set_cons_succ, i64_w, i32_w]
               rfl
              exact norm_ (by simp only [putAll, Act.put, List.setIfInBounds_toArray, List.set_cons_zero, List.set_cons_succ]) (hCont (gb301, gb302) _ ⟨hHeld, (by (with_reducible repeat (first | refine blk_drewN ?_ _ | refine blk_drew ?_ | refine blk_alloc ?_ _)); exact BK296.out), (by (with_reducible repeat (first | refine blk_drewN ?_ _ | refine blk_drew ?_ | refine blk_alloc ?_ _)); exact BK301.out), (by (with_reducible repeat (first | refine blk_drewN ?_ _ | refine blk_drew ?_ | refine blk_alloc ?_ _)); exact BK302.out), GW301.out, GE301.out, NB296_301.out, NB301_296.out, NB302_301.out, NB301_302.out, GW302.out, GE302.out, NB296_302.out, NB302_296.out, (by repeat (first | (with_reducible first | exact HB.out | apply below_alloc | apply pw_below_drewN | apply below_drew1 | refine below_set ?_ GE296.out | refine below_set ?_ GE302.out | refine below_set ?_ GE301.out) | exact HB.out))⟩)
            rintro ⟨gb301, gb302⟩ w42 ⟨hS_, h0_, h1_, h2_, h3_, h4_, h5_, h6_, h7_, h8_, h9_, h10_, h11_, h12_, h13_⟩
            have n0_ : Aside0 (w42.heap[gb296]? = some (.cells #[.int .i64 a0_0, .int .i64 a0_1, .int .i64 a0_2, .int .i64 a0_3] 33 (0, 0))) := ⟨h0_⟩
            have n1_ : Aside0 (w42.heap[gb301]? = some (.cells #[.int .i64 0, .int .i64 0, .int .i64 0] 44 (0, 0))) := ⟨h1_⟩
            have n2_ : Aside0 (w42.heap[gb302]? = some (.cells #[.int .i64 0, .int .i64 0, .int .i64 0] 44 (0, 0))) := ⟨h2_⟩
            have n3_ : Aside0 (w.heap.size ≤ gb301) := ⟨h3_⟩
            have n4_ : Aside0 (w.heap.size ≤ gb301) := ⟨h4_⟩
            have n5_ : Aside0 (gb296 ≠ gb301) := ⟨h5_⟩
            have n6_ : Aside0 (gb301 ≠ gb296) := ⟨h6_⟩
            have n7_ : Aside0 (gb302 ≠ gb301) := ⟨h7_⟩
            have n8_ : Aside0 (gb301 ≠ gb302) := ⟨h8_⟩
            have n9_ : Aside0 (w.heap.size ≤ gb302) := ⟨h9_⟩
            have n10_ : Aside0 (w.heap.size ≤ gb302) := ⟨h10_⟩
            have n11_ : Aside0 (gb296 ≠ gb302) := ⟨h11_⟩
            have n12_ : Aside0 (gb302 ≠ gb296) := ⟨h12_⟩
            have n13_ : Aside0 (Below w.heap.size w w42) := ⟨h13_⟩
            clear BK296
            clear HB
            clear h0_ h1_ h2_ h3_ h4_ h5_ h6_ h7_ h8_ h9_ h10_ h11_ h12_ h13_
            have BK296 := n0_
            have BK301 := n1_
            have BK302 := n2_
            have GW301 := n3_
            have GE301 := n4_
            have NB296_301 := n5_
            have NB301_296 := n6_
            have NB302_301 := n7_
            have NB301_302 := n8_
            have GW302 := n9_
            have GE302 := n10_
            have NB296_302 := n11_
            have NB302_296 := n12_
            have HB := n13_
            clear n0_ n1_ n2_ n3_ n4_ n5_ n6_ n7_ n8_ n9_ n10_ n11_ n12_ n13_
            have hHeld : w42.cell? (ad299.add ((x7_2).toNat * 3)) = some (.int .i64 ((rd_T44 l1 x7_2).f0.f0)) ∧ w42.cell? ⟨(ad299.add ((x7_2).toNat * 3)).block, (ad299.add ((x7_2).toNat * 3)).off + 1, none⟩ = some (.int .i64 ((rd_T44 l1 x7_2).f0.f1)) ∧ w42.cell? ⟨(ad299.add ((x7_2).toNat * 3)).block, (ad299.add ((x7_2).toNat * 3)).off + 2, none⟩ = some (.int .i64 ((rd_T44 l1 x7_2).f1)) ∧ w42.cell? (ad299.add (((ji18)).toNat * 3)) = some (.int .i64 ((rd_T44 l1 (ji18)).f0.f0)) ∧ w42.cell? ⟨(ad299.add (((ji18)).toNat * 3)).block, (ad299.add (((ji18)).toNat * 3)).off + 1, none⟩ = some (.int .i64 ((rd_T44 l1 (ji18)).f0.f1)) ∧ w42.cell? ⟨(ad299.add (((ji18)).toNat * 3)).block, (ad299.add (((ji18)).toNat * 3)).off + 2, none⟩ = some (.int .i64 ((rd_T44 l1 (ji18)).f1)) := hS_
            refine norm_ (a' := ?_) ?_ ?_
            rotate_left
            ·simp only [putAll, Act.put, List.setIfInBounds_toArray, List.set_cons_zero, List.set_cons_succ]
             rfl
            refine one_ (i := 11) (N := none) #[true, true, true, true, true, true, true, true, true, true, true, true, false] rfl rfl (one_of HT_.out (by kernel_rfl)) (by decide) (fun K hK => ?_)
            have hs43 : w42.cell? ⟨gb301, 0, none⟩ = some (.int .i64 0) := (blk_cell BK301.out 0).trans rfl
            have hfs43 := blk_frozen BK301.out 0
            have hns43_0 := NB296_301.out
            have hns43_2 := NB302_301.out
            have hms43_0 := NB301_296.out
            have hms43_2 := NB301_302.out
            have hs44 : w42.cell? ⟨gb301, 1, none⟩ = some (.int .i64 0) := (blk_cell BK301.out 1).trans rfl
            have hfs44 := blk_frozen BK301.out 1
            have hns44_0 := NB296_301.out
            have hns44_2 := NB302_301.out
            have hms44_0 := NB301_296.out
            have hms44_2 := NB301_302.out
            have hs45 : w42.cell? ⟨gb301, 2, none⟩ = some (.int .i64 0) := (blk_cell BK301.out 2).trans rfl
            have hfs45 := blk_frozen BK301.out 2
            have hns45_0 := NB296_301.out
            have hns45_2 := NB302_301.out
            have hms45_0 := NB301_296.out
            have hms45_2 := NB301_302.out
            refine skip_ (w1 := ?_) (by rfl) rfl ?_ ?_
            rotate_left
            ·go_simp
             rfl
            refine hK.out _ _ ⟨((cell_far (p := ⟨gb301, _, none⟩) (by first | exact nn_ (ll_ (by have := bl_ _ _ hw299_0; first | rwa [add_block] at this | exact this) GW301.out) | (rw [add_block]; exact nn_ (ll_ (by have := bl_ _ _ hw299_0; first | rwa [add_block] at this | exact this) GW301.out)) | (show (Addr.add _ _).block ≠ _; rw [add_block]; exact nn_ (ll_ (by have := bl_ _ _ hw299_0; first | rwa [add_block] at this | exact this) GW301.out)) | (dsimp only; exact nn_ (ll_ (by have := bl_ _ _ hw299_0; first | rwa [add_block] at this | exact this) GW301.out))) _).trans (((cell_far (p := ⟨gb301, _, none⟩) (by first | exact nn_ (ll_ (by have := bl_ _ _ hw299_0; first | rwa [add_block] at this | exact this) GW301.out) | (rw [add_block]; exact nn_ (ll_ (by have := bl_ _ _ hw299_0; first | rwa [add_block] at this | exact this) GW301.out)) | (show (Addr.add _ _).block ≠ _; rw [add_block]; exact nn_ (ll_ (by have := bl_ _ _ hw299_0; first | rwa [add_block] at this | exact this) GW301.out)) | (dsimp only; exact nn_ (ll_ (by have := bl_ _ _ hw299_0; first | rwa [add_block] at this | exact this) GW301.out))) _).trans (((cell_far (p := ⟨gb301, _, none⟩) (by first | exact nn_ (ll_ (by have := bl_ _ _ hw299_0; first | rwa [add_block] at this | exact this) GW301.out) | (rw [add_block]; exact nn_ (ll_ (by have := bl_ _ _ hw299_0; first | rwa [add_block] at this | exact this) GW301.out)) | (show (Addr.add _ _).block ≠ _; rw [add_block]; exact nn_ (ll_ (by have := bl_ _ _ hw299_0; first | rwa [add_block] at this | exact this) GW301.out)) | (dsimp only; exact nn_ (ll_ (by have := bl_ _ _ hw299_0; first | rwa [add_block] at this | exact this) GW301.out))) _).trans (hHeld.1)))))), ((cell_far (p := ⟨gb301, _, none⟩) (by first | exact nn_ (ll_ (by have := bl_ _ _ hw299_1; first | rwa [add_block] at this | exact this) GW301.out) | (rw [add_block]; exact nn_ (ll_ (by have := bl_ _ _ hw299_1; first | rwa [add_block] at this | exact this) GW301.out)) | (show (Addr.add _ _).block ≠ _; rw [add_block]; exact nn_ (ll_ (by have := bl_ _ _ hw299_1; first | rwa [add_block] at this | exact this) GW301.out)) | (dsimp only; exact nn_ (ll_ (by have := bl_ _ _ hw299_1; first | rwa [add_block] at this | exact this) GW301.out))) _).trans (((cell_far (p := ⟨gb301, _, none⟩) (by first | exact nn_ (ll_ (by have := bl_ _ _ hw299_1; first | rwa [add_block] at this | exact this) GW301.out) | (rw [add_block]; exact nn_ (ll_ (by have := bl_ _ _ hw299_1; first | rwa [add_block] at this | exact this) GW301.out)) | (show (Addr.add _ _).block ≠ _; rw [add_block]; exact nn_ (ll_ (by have := bl_ _ _ hw299_1; first | rwa [add_block] at this | exact this) GW301.out)) | (dsimp only; exact nn_ (ll_ (by have := bl_ _ _ hw299_1; first | rwa [add_block] at this | exact this) GW301.out))) _).trans (((cell_far (p := ⟨gb301, _, none⟩) (by first | exact nn_ (ll_ (by have := bl_ _ _ hw299_1; first | rwa [add_block] at this | exact this) GW301.out) | (rw [add_block]; exact nn_ (ll_ (by have := bl_ _ _ hw299_1; first | rwa [add_block] at this | exact this) GW301.out)) | (show (Addr.add _ _).block ≠ _; rw [add_block]; exact nn_ (ll_ (by have := bl_ _ _ hw299_1; first | rwa [add_block] at this | exact this) GW301.out)) | (dsimp only; exact nn_ (ll_ (by have := bl_ _ _ hw299_1; first | rwa [add_block] at this | exact this) GW301.out))) _).trans (hHeld.2.1)))))), ((cell_far (p := ⟨gb301, _, none⟩) (by first | exact nn_ (ll_ (by have := bl_ _ _ hw299_2; first | rwa [add_block] at this | exact this) GW301.out) | (rw [add_block]; exact nn_ (ll_ (by have := bl_ _ _ hw299_2; first | rwa [add_block] at this | exact this) GW301.out)) | (show (Addr.add _ _).block ≠ _; rw [add_block]; exact nn_ (ll_ (by have := bl_ _ _ hw299_2; first | rwa [add_block] at this | exact this) GW301.out)) | (dsimp only; exact nn_ (ll_ (by have := bl_ _ _ hw299_2; first | rwa [add_block] at this | exact this) GW301.out))) _).trans (((cell_far (p := ⟨gb301, _, none⟩) (by first | exact nn_ (ll_ (by have := bl_ _ _ hw299_2; first | rwa [add_block] at this | exact this) GW301.out) | (rw [add_block]; exact nn_ (ll_ (by have := bl_ _ _ hw299_2; first | rwa [add_block] at this | exact this) GW301.out)) | (show (Addr.add _ _).block ≠ _; rw [add_block]; exact nn_ (ll_ (by have := bl_ _ _ hw299_2; first | rwa [add_block] at this | exact this) GW301.out)) | (dsimp only; exact nn_ (ll_ (by have := bl_ _ _ hw299_2; first | rwa [add_block] at this | exact this) GW301.out))) _).trans (((cell_far (p := ⟨gb301, _, none⟩) (by first | exact nn_ (ll_ (by have := bl_ _ _ hw299_2; first | rwa [add_block] at this | exact this) GW301.out) | (rw [add_block]; exact nn_ (ll_ (by have := bl_ _ _ hw299_2; first | rwa [add_block] at this | exact this) GW301.out)) | (show (Addr.add _ _).block ≠ _; rw [add_block]; exact nn_ (ll_ (by have := bl_ _ _ hw299_2; first | rwa [add_block] at this | exact this) GW301.out)) | (dsimp only; exact nn_ (ll_ (by have := bl_ _ _ hw299_2; first | rwa [add_block] at this | exact this) GW301.out))) _).trans (hHeld.2.2.1)))))), ((cell_far (p := ⟨gb301, _, none⟩) (by first | exact nn_ (ll_ (by have := bl_ _ _ hw300_0; first | rwa [add_block] at this | exact this) GW301.out) | (rw [add_block]; exact nn_ (ll_ (by have := bl_ _ _ hw300_0; first | rwa [add_block] at this | exact this) GW301.out)) | (show (Addr.add _ _).block ≠ _; rw [add_block]; exact nn_ (ll_ (by have := bl_ _ _ hw300_0; first | rwa [add_block] at this | exact this) GW301.out)) | (dsimp only; exact nn_ (ll_ (by have := bl_ _ _ hw300_0; first | rwa [add_block] at this | exact this) GW301.out))) _).trans (((cell_far (p := ⟨gb301, _, none⟩) (by first | exact nn_ (ll_ (by have := bl_ _ _ hw300_0; first | rwa [add_block] at this | exact this) GW301.out) | (rw [add_block]; exact nn_ (ll_ (by have := bl_ _ _ hw300_0; first | rwa [add_block] at this | exact this) GW301.out)) | (show (Addr.add _ _).block ≠ _; rw [add_block]; exact nn_ (ll_ (by have := bl_ _ _ hw300_0; first | rwa [add_block] at this | exact this) GW301.out)) | (dsimp only; exact nn_ (ll_ (by have := bl_ _ _ hw300_0; first | rwa [add_block] at this | exact this) GW301.out))) _).trans (((cell_far (p := ⟨gb301, _, none⟩) (by first | exact nn_ (ll_ (by have := bl_ _ _ hw300_0; first | rwa [add_block] at this | exact this) GW301.out) | (rw [add_block]; exact nn_ (ll_ (by have := bl_ _ _ hw300_0; first | rwa [add_block] at this | exact this) GW301.out)) | (show (Addr.add _ _).block ≠ _; rw [add_block]; exact nn_ (ll_ (by have := bl_ _ _ hw300_0; first | rwa [add_block] at this | exact this) GW301.out)) | (dsimp only; exact nn_ (ll_ (by have := bl_ _ _ hw300_0; first | rwa [add_block] at this | exact this) GW301.out))) _).trans (hHeld.2.2.2.1)))))), ((cell_far (p := ⟨gb301, _, none⟩) (by first | exact nn_ (ll_ (by have := bl_ _ _ hw300_1; first | rwa [add_block] at this | exact this) GW301.out) | (rw [add_block]; exact nn_ (ll_ (by have := bl_ _ _ hw300_1; first | rwa [add_block] at this | exact this) GW301.out)) | (show (Addr.add _ _).block ≠ _; rw [add_block]; exact nn_ (ll_ (by have := bl_ _ _ hw300_1; first | rwa [add_block] at this | exact this) GW301.out)) | (dsimp only; exact nn_ (ll_ (by have := bl_ _ _ hw300_1; first | rwa [add_block] at this | exact this) GW301.out))) _).trans (((cell_far (p := ⟨gb301, _, none⟩) (by first | exact nn_ (ll_ (by have := bl_ _ _ hw300_1; first | rwa [add_block] at this | exact this) GW301.out) | (rw [add_block]; exact nn_ (ll_ (by have := bl_ _ _ hw300_1; first | rwa [add_block] at this | exact this) GW301.out)) | (show (Addr.add _ _).block ≠ _; rw [add_block]; exact nn_ (ll_ (by have := bl_ _ _ hw300_1; first | rwa [add_block] at this | exact this) GW301.out)) | (dsimp only; exact nn_ (ll_ (by have := bl_ _ _ hw300_1; first | rwa [add_block] at this | exact this) GW301.out))) _).trans (((cell_far (p := ⟨gb301, _, none⟩) (by first | exact nn_ (ll_ (by have := bl_ _ _ hw300_1; first | rwa [add_block] at this | exact this) GW301.out) | (rw [add_block]; exact nn_ (ll_ (by have := bl_ _ _ hw300_1; first | rwa [add_block] at this | exact this) GW301.out)) | (show (Addr.add _ _).block ≠ _; rw [add_block]; exact nn_ (ll_ (by have := bl_ _ _ hw300_1; first | rwa [add_block] at this | exact this) GW301.out)) | (dsimp only; exact nn_ (ll_ (by have := bl_ _ _ hw300_1; first | rwa [add_block] at this | exact this) GW301.out))) _).trans (hHeld.2.2.2.2.1)))))), ((cell_far (p := ⟨gb301, _, none⟩) (by first | exact nn_ (ll_ (by have := bl_ _ _ hw300_2; first | rwa [add_block] at this | exact this) GW301.out) | (rw [add_block]; exact nn_ (ll_ (by have := bl_ _ _ hw300_2; first | rwa [add_block] at this | exact this) GW301.out)) | (show (Addr.add _ _).block ≠ _; rw [add_block]; exact nn_ (ll_ (by have := bl_ _ _ hw300_2; first | rwa [add_block] at this | exact this) GW301.out)) | (dsimp only; exact nn_ (ll_ (by have := bl_ _ _ hw300_2; first | rwa [add_block] at this | exact this) GW301.out))) _).trans (((cell_far (p := ⟨gb301, _, none⟩) (by first | exact nn_ (ll_ (by have := bl_ _ _ hw300_2; first | rwa [add_block] at this | exact this) GW301.out) | (rw [add_block]; exact nn_ (ll_ (by have := bl_ _ _ hw300_2; first | rwa [add_block] at this | exact this) GW301.out)) | (show (Addr.add _ _).block ≠ _; rw [add_block]; exact nn_ (ll_ (by have := bl_ _ _ hw300_2; first | rwa [add_block] at this | exact this) GW301.out)) | (dsimp only; exact nn_ (ll_ (by have := bl_ _ _ hw300_2; first | rwa [add_block] at this | exact this) GW301.out))) _).trans (((cell_far (p := ⟨gb301, _, none⟩) (by first | exact nn_ (ll_ (by have := bl_ _ _ hw300_2; first | rwa [add_block] at this | exact this) GW301.out) | (rw [add_block]; exact nn_ (ll_ (by have := bl_ _ _ hw300_2; first | rwa [add_block] at this | exact this) GW301.out)) | (show (Addr.add _ _).block ≠ _; rw [add_block]; exact nn_ (ll_ (by have := bl_ _ _ hw300_2; first | rwa [add_block] at this | exact this) GW301.out)) | (dsimp only; exact nn_ (ll_ (by have := bl_ _ _ hw300_2; first | rwa [add_block] at this | exact this) GW301.out))) _).trans (hHeld.2.2.2.2.2))))))⟩ (fun hHeld => ?_)
            clear hK K
            refine one_ (i := 12) (N := none) #[true, true, true, true, true, true, true, true, true, true, true, true, true] rfl rfl (one_of HT_.out (by kernel_rfl)) (by decide) (fun K hK => ?_)
            have hs46 : w42.cell? ⟨gb302, 0, none⟩ = some (.int .i64 0) := (blk_cell BK302.out 0).trans rfl
            have hfs46 := blk_frozen BK302.out 0
            have hns46_0 := NB296_302.out
            have hns46_1 := NB301_302.out
            have hms46_0 := NB302_296.out
            have hms46_1 := NB302_301.out
            have hs47 : w42.cell? ⟨gb302, 1, none⟩ = some (.int .i64 0) := (blk_cell BK302.out 1).trans rfl
            have hfs47 := blk_frozen BK302.out 1
            have hns47_0 := NB296_302.out
            have hns47_1 := NB301_302.out
            have hms47_0 := NB302_296.out
            have hms47_1 := NB302_301.out
            have hs48 : w42.cell? ⟨gb302, 2, none⟩ = some (.int .i64 0) := (blk_cell BK302.out 2).trans rfl
            have hfs48 := blk_frozen BK302.out 2
            have hns48_0 := NB296_302.out
            have hns48_1 := NB301_302.out
            have hms48_0 := NB302_296.out
            have hms48_1 := NB302_301.out
            refine skip_ (w1 := ?_) (by rfl) rfl ?_ ?_
            rotate_left
            ·go_simp
             rfl
            refine hK.out _ _ ⟨((cell_far (p := ⟨gb302, _, none⟩) (by first | exact nn_ (ll_ (by have := bl_ _ _ hw299_0; first | rwa [add_block] at this | exact this) GW302.out) | (rw [add_block]; exact nn_ (ll_ (by have := bl_ _ _ hw299_0; first | rwa [add_block] at this | exact this) GW302.out)) | (show (Addr.add _ _).block ≠ _; rw [add_block]; exact nn_ (ll_ (by have := bl_ _ _ hw299_0; first | rwa [add_block] at this | exact this) GW302.out)) | (dsimp only; exact nn_ (ll_ (by have := bl_ _ _ hw299_0; first | rwa [add_block] at this | exact this) GW302.out))) _).trans (((cell_far (p := ⟨gb302, _, none⟩) (by first | exact nn_ (ll_ (by have := bl_ _ _ hw299_0; first | rwa [add_block] at this | exact this) GW302.out) | (rw [add_block]; exact nn_ (ll_ (by have := bl_ _ _ hw299_0; first | rwa [add_block] at this | exact this) GW302.out)) | (show (Addr.add _ _).block ≠ _; rw [add_block]; exact nn_ (ll_ (by have := bl_ _ _ hw299_0; first | rwa [add_block] at this | exact this) GW302.out)) | (dsimp only; exact nn_ (ll_ (by have := bl_ _ _ hw299_0; first | rwa [add_block] at this | exact this) GW302.out))) _).trans (((cell_far (p := ⟨gb302, _, none⟩) (by first | exact nn_ (ll_ (by have := bl_ _ _ hw299_0; first | rwa [add_block] at this | exact this) GW302.out) | (rw [add_block]; exact nn_ (ll_ (by have := bl_ _ _ hw299_0; first | rwa [add_block] at this | exact this) GW302.out)) | (show (Addr.add _ _).block ≠ _; rw [add_block]; exact nn_ (ll_ (by have := bl_ _ _ hw299_0; first | rwa [add_block] at this | exact this) GW302.out)) | (dsimp only; exact nn_ (ll_ (by have := bl_ _ _ hw299_0; first | rwa [add_block] at this | exact this) GW302.out))) _).trans (hHeld.1)))))), ((cell_far (p := ⟨gb302, _, none⟩) (by first | exact nn_ (ll_ (by have := bl_ _ _ hw299_1; first | rwa [add_block] at this | exact this) GW302.out) | (rw [add_block]; exact nn_ (ll_ (by have := bl_ _ _ hw299_1; first | rwa [add_block] at this | exact this) GW302.out)) | (show (Addr.add _ _).block ≠ _; rw [add_block]; exact nn_ (ll_ (by have := bl_ _ _ hw299_1; first | rwa [add_block] at this | exact this) GW302.out)) | (dsimp only; exact nn_ (ll_ (by have := bl_ _ _ hw299_1; first | rwa [add_block] at this | exact this) GW302.out))) _).trans (((cell_far (p := ⟨gb302, _, none⟩) (by first | exact nn_ (ll_ (by have := bl_ _ _ hw299_1; first | rwa [add_block] at this | exact this) GW302.out) | (rw [add_block]; exact nn_ (ll_ (by have := bl_ _ _ hw299_1; first | rwa [add_block] at this | exact this) GW302.out)) | (show (Addr.add _ _).block ≠ _; rw [add_block]; exact nn_ (ll_ (by have := bl_ _ _ hw299_1; first | rwa [add_block] at this | exact this) GW302.out)) | (dsimp only; exact nn_ (ll_ (by have := bl_ _ _ hw299_1; first | rwa [add_block] at this | exact this) GW302.out))) _).trans (((cell_far (p := ⟨gb302, _, none⟩) (by first | exact nn_ (ll_ (by have := bl_ _ _ hw299_1; first | rwa [add_block] at this | exact this) GW302.out) | (rw [add_block]; exact nn_ (ll_ (by have := bl_ _ _ hw299_1; first | rwa [add_block] at this | exact this) GW302.out)) | (show (Addr.add _ _).block ≠ _; rw [add_block]; exact nn_ (ll_ (by have := bl_ _ _ hw299_1; first | rwa [add_block] at this | exact this) GW302.out)) | (dsimp only; exact nn_ (ll_ (by have := bl_ _ _ hw299_1; first | rwa [add_block] at this | exact this) GW302.out))) _).trans (hHeld.2.1)))))), ((cell_far (p := ⟨gb302, _, none⟩) (by first | exact nn_ (ll_ (by have := bl_ _ _ hw299_2; first | rwa [add_block] at this | exact this) GW302.out) | (rw [add_block]; exact nn_ (ll_ (by have := bl_ _ _ hw299_2; first | rwa [add_block] at this | exact this) GW302.out)) | (show (Addr.add _ _).block ≠ _; rw [add_block]; exact nn_ (ll_ (by have := bl_ _ _ hw299_2; first | rwa [add_block] at this | exact this) GW302.out)) | (dsimp only; exact nn_ (ll_ (by have := bl_ _ _ hw299_2; first | rwa [add_block] at this | exact this) GW302.out))) _).trans (((cell_far (p := ⟨gb302, _, none⟩) (by first | exact nn_ (ll_ (by have := bl_ _ _ hw299_2; first | rwa [add_block] at this | exact this) GW302.out) | (rw [add_block]; exact nn_ (ll_ (by have := bl_ _ _ hw299_2; first | rwa [add_block] at this | exact this) GW302.out)) | (show (Addr.add _ _).block ≠ _; rw [add_block]; exact nn_ (ll_ (by have := bl_ _ _ hw299_2; first | rwa [add_block] at this | exact this) GW302.out)) | (dsimp only; exact nn_ (ll_ (by have := bl_ _ _ hw299_2; first | rwa [add_block] at this | exact this) GW302.out))) _).trans (((cell_far (p := ⟨gb302, _, none⟩) (by first | exact nn_ (ll_ (by have := bl_ _ _ hw299_2; first | rwa [add_block] at this | exact this) GW302.out) | (rw [add_block]; exact nn_ (ll_ (by have := bl_ _ _ hw299_2; first | rwa [add_block] at this | exact this) GW302.out)) | (show (Addr.add _ _).block ≠ _; rw [add_block]; exact nn_ (ll_ (by have := bl_ _ _ hw299_2; first | rwa [add_block] at this | exact this) GW302.out)) | (dsimp only; exact nn_ (ll_ (by have := bl_ _ _ hw299_2; first | rwa [add_block] at this | exact this) GW302.out))) _).trans (hHeld.2.2.1)))))), ((cell_far (p := ⟨gb302, _, none⟩) (by first | exact nn_ (ll_ (by have := bl_ _ _ hw300_0; first | rwa [add_block] at this | exact this) GW302.out) | (rw [add_block]; exact nn_ (ll_ (by have := bl_ _ _ hw300_0; first | rwa [add_block] at this | exact this) GW302.out)) | (show (Addr.add _ _).block ≠ _; rw [add_block]; exact nn_ (ll_ (by have := bl_ _ _ hw300_0; first | rwa [add_block] at this | exact this) GW302.out)) | (dsimp only; exact nn_ (ll_ (by have := bl_ _ _ hw300_0; first | rwa [add_block] at this | exact this) GW302.out))) _).trans (((cell_far (p := ⟨gb302, _, none⟩) (by first | exact nn_ (ll_ (by have := bl_ _ _ hw300_0; first | rwa [add_block] at this | exact this) GW302.out) | (rw [add_block]; exact nn_ (ll_ (by have := bl_ _ _ hw300_0; first | rwa [add_block] at this | exact this) GW302.out)) | (show (Addr.add _ _).block ≠ _; rw [add_block]; exact nn_ (ll_ (by have := bl_ _ _ hw300_0; first | rwa [add_block] at this | exact this) GW302.out)) | (dsimp only; exact nn_ (ll_ (by have := bl_ _ _ hw300_0; first | rwa [add_block] at this | exact this) GW302.out))) _).trans (((cell_far (p := ⟨gb302, _, none⟩) (by first | exact nn_ (ll_ (by have := bl_ _ _ hw300_0; first | rwa [add_block] at this | exact this) GW302.out) | (rw [add_block]; exact nn_ (ll_ (by have := bl_ _ _ hw300_0; first | rwa [add_block] at this | exact this) GW302.out)) | (show (Addr.add _ _).block ≠ _; rw [add_block]; exact nn_ (ll_ (by have := bl_ _ _ hw300_0; first | rwa [add_block] at this | exact this) GW302.out)) | (dsimp only; exact nn_ (ll_ (by have := bl_ _ _ hw300_0; first | rwa [add_block] at this | exact this) GW302.out))) _).trans (hHeld.2.2.2.1)))))), ((cell_far (p := ⟨gb302, _, none⟩) (by first | exact nn_ (ll_ (by have := bl_ _ _ hw300_1; first | rwa [add_block] at this | exact this) GW302.out) | (rw [add_block]; exact nn_ (ll_ (by have := bl_ _ _ hw300_1; first | rwa [add_block] at this | exact this) GW302.out)) | (show (Addr.add _ _).block ≠ _; rw [add_block]; exact nn_ (ll_ (by have := bl_ _ _ hw300_1; first | rwa [add_block] at this | exact this) GW302.out)) | (dsimp only; exact nn_ (ll_ (by have := bl_ _ _ hw300_1; first | rwa [add_block] at this | exact this) GW302.out))) _).trans (((cell_far (p := ⟨gb302, _, none⟩) (by first | exact nn_ (ll_ (by have := bl_ _ _ hw300_1; first | rwa [add_block] at this | exact this) GW302.out) | (rw [add_block]; exact nn_ (ll_ (by have := bl_ _ _ hw300_1; first | rwa [add_block] at this | exact this) GW302.out)) | (show (Addr.add _ _).block ≠ _; rw [add_block]; exact nn_ (ll_ (by have := bl_ _ _ hw300_1; first | rwa [add_block] at this | exact this) GW302.out)) | (dsimp only; exact nn_ (ll_ (by have := bl_ _ _ hw300_1; first | rwa [add_block] at this | exact this) GW302.out))) _).trans (((cell_far (p := ⟨gb302, _, none⟩) (by first | exact nn_ (ll_ (by have := bl_ _ _ hw300_1; first | rwa [add_block] at this | exact this) GW302.out) | (rw [add_block]; exact nn_ (ll_ (by have := bl_ _ _ hw300_1; first | rwa [add_block] at this | exact this) GW302.out)) | (show (Addr.add _ _).block ≠ _; rw [add_block]; exact nn_ (ll_ (by have := bl_ _ _ hw300_1; first | rwa [add_block] at this | exact this) GW302.out)) | (dsimp only; exact nn_ (ll_ (by have := bl_ _ _ hw300_1; first | rwa [add_block] at this | exact this) GW302.out))) _).trans (hHeld.2.2.2.2.1)))))), ((cell_far (p := ⟨gb302, _, none⟩) (by first | exact nn_ (ll_ (by have := bl_ _ _ hw300_2; first | rwa [add_block] at this | exact this) GW302.out) | (rw [add_block]; exact nn_ (ll_ (by have := bl_ _ _ hw300_2; first | rwa [add_block] at this | exact this) GW302.out)) | (show (Addr.add _ _).block ≠ _; rw [add_block]; exact nn_ (ll_ (by have := bl_ _ _ hw300_2; first | rwa [add_block] at this | exact this) GW302.out)) | (dsimp only; exact nn_ (ll_ (by have := bl_ _ _ hw300_2; first | rwa [add_block] at this | exact this) GW302.out))) _).trans (((cell_far (p := ⟨gb302, _, none⟩) (by first | exact nn_ (ll_ (by have := bl_ _ _ hw300_2; first | rwa [add_block] at this | exact this) GW302.out) | (rw [add_block]; exact nn_ (ll_ (by have := bl_ _ _ hw300_2; first | rwa [add_block] at this | exact this) GW302.out)) | (show (Addr.add _ _).block ≠ _; rw [add_block]; exact nn_ (ll_ (by have := bl_ _ _ hw300_2; first | rwa [add_block] at this | exact this) GW302.out)) | (dsimp only; exact nn_ (ll_ (by have := bl_ _ _ hw300_2; first | rwa [add_block] at this | exact this) GW302.out))) _).trans (((cell_far (p := ⟨gb302, _, none⟩) (by first | exact nn_ (ll_ (by have := bl_ _ _ hw300_2; first | rwa [add_block] at this | exact this) GW302.out) | (rw [add_block]; exact nn_ (ll_ (by have := bl_ _ _ hw300_2; first | rwa [add_block] at this | exact this) GW302.out)) | (show (Addr.add _ _).block ≠ _; rw [add_block]; exact nn_ (ll_ (by have := bl_ _ _ hw300_2; first | rwa [add_block] at this | exact this) GW302.out)) | (dsimp only; exact nn_ (ll_ (by have := bl_ _ _ hw300_2; first | rwa [add_block] at this | exact this) GW302.out))) _).trans (hHeld.2.2.2.2.2))))))⟩ (fun hHeld => ?_)
            clear hK K
            refine done_ (done_of HT_.out (by kernel_rfl)) ?_
            try go_wp2
            have n0_ : Aside0 (((((((w42.setCell ⟨gb301, 0, none⟩ (.int .i64 ((rd_T44 l1 x7_2).f0.f0))).setCell ⟨gb301, 1, none⟩ (.int .i64 ((rd_T44 l1 x7_2).f0.f1))).setCell ⟨gb301, 2, none⟩ (.int .i64 ((rd_T44 l1 x7_2).f1))).setCell ⟨gb302, 0, none⟩ (.int .i64 ((rd_T44 l1 (ji18)).f0.f0))).setCell ⟨gb302, 1, none⟩ (.int .i64 ((rd_T44 l1 (ji18)).f0.f1))).setCell ⟨gb302, 2, none⟩ (.int .i64 ((rd_T44 l1 (ji18)).f1))).heap[gb296]? = some (.cells #[.int .i64 a0_0, .int .i64 a0_1, .int .i64 a0_2, .int .i64 a0_3] 33 (0, 0))) := ⟨by (with_reducible repeat (first | refine blk_drewN ?_ _ | refine blk_drew ?_ | refine blk_alloc ?_ _)); refine blk_far ?_ NB296_302.out _; (with_reducible repeat (first | refine blk_drewN ?_ _ | refine blk_drew ?_ | refine blk_alloc ?_ _)); refine blk_far ?_ NB296_302.out _; (with_reducible repeat (first | refine blk_drewN ?_ _ | refine blk_drew ?_ | refine blk_alloc ?_ _)); refine blk_far ?_ NB296_302.out _; (with_reducible repeat (first | refine blk_drewN ?_ _ | refine blk_drew ?_ | refine blk_alloc ?_ _)); refine blk_far ?_ NB296_301.out _; (with_reducible repeat (first | refine blk_drewN ?_ _ | refine blk_drew ?_ | refine blk_alloc ?_ _)); refine blk_far ?_ NB296_301.out _; (with_reducible repeat (first | refine blk_drewN ?_ _ | refine blk_drew ?_ | refine blk_alloc ?_ _)); refine blk_far ?_ NB296_301.out _; (with_reducible repeat (first | refine blk_drewN ?_ _ | refine blk_drew ?_ | refine blk_alloc ?_ _)); exact BK296.out⟩
            have n1_ : Aside0 (((((((w42.setCell ⟨gb301, 0, none⟩ (.int .i64 ((rd_T44 l1 x7_2).f0.f0))).setCell ⟨gb301, 1, none⟩ (.int .i64 ((rd_T44 l1 x7_2).f0.f1))).setCell ⟨gb301, 2, none⟩ (.int .i64 ((rd_T44 l1 x7_2).f1))).setCell ⟨gb302, 0, none⟩ (.int .i64 ((rd_T44 l1 (ji18)).f0.f0))).setCell ⟨gb302, 1, none⟩ (.int .i64 ((rd_T44 l1 (ji18)).f0.f1))).setCell ⟨gb302, 2, none⟩ (.int .i64 ((rd_T44 l1 (ji18)).f1))).heap[gb301]? = some (.cells #[.int .i64 ((rd_T44 l1 x7_2).f0.f0), .int .i64 ((rd_T44 l1 x7_2).f0.f1), .int .i64 ((rd_T44 l1 x7_2).f1)] 44 (0, 0))) := ⟨by (with_reducible repeat (first | refine blk_drewN ?_ _ | refine blk_drew ?_ | refine blk_alloc ?_ _)); refine blk_far ?_ NB301_302.out _; (with_reducible repeat (first | refine blk_drewN ?_ _ | refine blk_drew ?_ | refine blk_alloc ?_ _)); refine blk_far ?_ NB301_302.out _; (with_reducible repeat (first | refine blk_drewN ?_ _ | refine blk_drew ?_ | refine blk_alloc ?_ _)); refine blk_far ?_ NB301_302.out _; (with_reducible repeat (first | refine blk_drewN ?_ _ | refine blk_drew ?_ | refine blk_alloc ?_ _)); refine blk_put (cs := #[.int .i64 ((rd_T44 l1 x7_2).f0.f0), .int .i64 ((rd_T44 l1 x7_2).f0.f1), .int .i64 0]) ?_ 2 _ rfl; (with_reducible repeat (first | refine blk_drewN ?_ _ | refine blk_drew ?_ | refine blk_alloc ?_ _)); refine blk_put (cs := #[.int .i64 ((rd_T44 l1 x7_2).f0.f0), .int .i64 0, .int .i64 0]) ?_ 1 _ rfl; (with_reducible repeat (first | refine blk_drewN ?_ _ | refine blk_drew ?_ | refine blk_alloc ?_ _)); refine blk_put (cs := #[.int .i64 0, .int .i64 0, .int .i64 0]) ?_ 0 _ rfl; (with_reducible repeat (first | refine blk_drewN ?_ _ | refine blk_drew ?_ | refine blk_alloc ?_ _)); exact BK301.out⟩
            have n2_ : Aside0 (((((((w42.setCell ⟨gb301, 0, none⟩ (.int .i64 ((rd_T44 l1 x7_2).f0.f0))).setCell ⟨gb301, 1, none⟩ (.int .i64 ((rd_T44 l1 x7_2).f0.f1))).setCell ⟨gb301, 2, none⟩ (.int .i64 ((rd_T44 l1 x7_2).f1))).setCell ⟨gb302, 0, none⟩ (.int .i64 ((rd_T44 l1 (ji18)).f0.f0))).setCell ⟨gb302, 1, none⟩ (.int .i64 ((rd_T44 l1 (ji18)).f0.f1))).setCell ⟨gb302, 2, none⟩ (.int .i64 ((rd_T44 l1 (ji18)).f1))).heap[gb302]? = some (.cells #[.int .i64 ((rd_T44 l1 (ji18)).f0.f0), .int .i64 ((rd_T44 l1 (ji18)).f0.f1), .int .i64 ((rd_T44 l1 (ji18)).f1)] 44 (0, 0))) := ⟨by (with_reducible repeat (first | refine blk_drewN ?_ _ | refine blk_drew ?_ | refine blk_alloc ?_ _)); refine blk_put (cs := #[.int .i64 ((rd_T44 l1 (ji18)).f0.f0), .int .i64 ((rd_T44 l1 (ji18)).f0.f1), .int .i64 0]) ?_ 2 _ rfl; (with_reducible repeat (first | refine blk_drewN ?_ _ | refine blk_drew ?_ | refine blk_alloc ?_ _)); refine blk_put (cs := #[.int .i64 ((rd_T44 l1 (ji18)).f0.f0), .int .i64 0, .int .i64 0]) ?_ 1 _ rfl; (with_reducible repeat (first | refine blk_drewN ?_ _ | refine blk_drew ?_ | refine blk_alloc ?_ _)); refine blk_put (cs := #[.int .i64 0, .int .i64 0, .int .i64 0]) ?_ 0 _ rfl; (with_reducible repeat (first | refine blk_drewN ?_ _ | refine blk_drew ?_ | refine blk_alloc ?_ _)); refine blk_far ?_ NB302_301.out _; (with_reducible repeat (first | refine blk_drewN ?_ _ | refine blk_drew ?_ | refine blk_alloc ?_ _)); refine blk_far ?_ NB302_301.out _; (with_reducible repeat (first | refine blk_drewN ?_ _ | refine blk_drew ?_ | refine blk_alloc ?_ _)); refine blk_far ?_ NB302_301.out _; (with_reducible repeat (first | refine blk_drewN ?_ _ | refine blk_drew ?_ | refine blk_alloc ?_ _)); exact BK302.out⟩
            have n3_ : Aside0 (Below w.heap.size w ((((((w42.setCell ⟨gb301, 0, none⟩ (.int .i64 ((rd_T44 l1 x7_2).f0.f0))).setCell ⟨gb301, 1, none⟩ (.int .i64 ((rd_T44 l1 x7_2).f0.f1))).setCell ⟨gb301, 2, none⟩ (.int .i64 ((rd_T44 l1 x7_2).f1))).setCell ⟨gb302, 0, none⟩ (.int .i64 ((rd_T44 l1 (ji18)).f0.f0))).setCell ⟨gb302, 1, none⟩ (.int .i64 ((rd_T44 l1 (ji18)).f0.f1))).setCell ⟨gb302, 2, none⟩ (.int .i64 ((rd_T44 l1 (ji18)).f1)))) := ⟨by repeat (first | (with_reducible first | exact HB.out | apply below_alloc | apply pw_below_drewN | apply below_drew1 | refine below_set ?_ GE296.out | refine below_set ?_ GE301.out | refine below_set ?_ GE302.out) | exact HB.out)⟩
            (try clear BK296)
            (try clear BK301)
            (try clear BK302)
            (try clear HB)
            generalize ((((((w42.setCell ⟨gb301, 0, none⟩ (.int .i64 ((rd_T44 l1 x7_2).f0.f0))).setCell ⟨gb301, 1, none⟩ (.int .i64 ((rd_T44 l1 x7_2).f0.f1))).setCell ⟨gb301, 2, none⟩ (.int .i64 ((rd_T44 l1 x7_2).f1))).setCell ⟨gb302, 0, none⟩ (.int .i64 ((rd_T44 l1 (ji18)).f0.f0))).setCell ⟨gb302, 1, none⟩ (.int .i64 ((rd_T44 l1 (ji18)).f0.f1))).setCell ⟨gb302, 2, none⟩ (.int .i64 ((rd_T44 l1 (ji18)).f1))) = w49 at n0_ n1_ n2_ n3_ ⊢
            have BK296 := n0_
            have BK301 := n1_
            have BK302 := n2_
            have HB := n3_
            clear n0_ n1_ n2_ n3_
            have n0_ := Aside0.mk (blk_drew BK296.out)
            have n1_ := Aside0.mk (blk_drew BK301.out)
            have n2_ := Aside0.mk (blk_drew BK302.out)
            have n3_ := Aside0.mk (below_drew1 HB.out)
            clear BK296
            clear BK301
            clear BK302
            clear HB
            have BK296 := n0_
            have BK301 := n1_
            have BK302 := n2_
            have HB := n3_
            clear n0_ n1_ n2_ n3_
            refine start_ (n := 28) (S := fun w' => w'.cell? ⟨gb301, 0, none⟩ = some (.int .i64 ((rd_T44 l1 x7_2).f0.f0)) ∧ w'.cell? ⟨gb301, 1, none⟩ = some (.int .i64 ((rd_T44 l1 x7_2).f0.f1)) ∧ w'.cell? ⟨gb301, 2, none⟩ = some (.int .i64 ((rd_T44 l1 x7_2).f1)) ∧ w'.cell? ⟨gb302, 0, none⟩ = some (.int .i64 ((rd_T44 l1 (ji18)).f0.f0)) ∧ w'.cell? ⟨gb302, 1, none⟩ = some (.int .i64 ((rd_T44 l1 (ji18)).f0.f1)) ∧ w'.cell? ⟨gb302, 2, none⟩ = some (.int .i64 ((rd_T44 l1 (ji18)).f1)) ∧ w'.cell? ⟨gb296, 0, none⟩ = some (.int .i64 a0_0) ∧ w'.cell? ⟨gb296, 1, none⟩ = some (.int .i64 a0_1) ∧ w'.cell? ⟨gb296, 2, none⟩ = some (.int .i64 a0_2) ∧ w'.cell? ⟨gb296, 3, none⟩ = some (.int .i64 a0_3)) (ds := []) #[false, false, false, false, false, false, false, false, false, false, false, false, false, false, false, false, false, false, false, false, false, false, false, false, false, false, false, false] (by kernel_rfl) rfl rfl ⟨(blk_cell BK301.out 0).trans rfl, (blk_cell BK301.out 1).trans rfl, (blk_cell BK301.out 2).trans rfl, (blk_cell BK302.out 0).trans rfl, (blk_cell BK302.out 1).trans rfl, (blk_cell BK302.out 2).trans rfl, (blk_cell BK296.out 0).trans rfl, (blk_cell BK296.out 1).trans rfl, (blk_cell BK296.out 2).trans rfl, (blk_cell BK296.out 3).trans rfl⟩ (fun hHeld => ?_); refine with_tabW impl_EarlyAt.tab7 impl_EarlyAt.bits7 (fun HT_ HW_ => ?_)
            generalize w49.drew = w50 at BK296 BK301 BK302 HB hHeld ⊢
            refine pure_ (i := 0) (N := some 34) (v := ?_) (a' := ?_) #[true, false, false, false, false, false, false, false, false, false, false, false, false, false, false, false, false, false, false, false, false, false, false, false, false, false, false, false] rfl rfl (any_of HT_.out (by kernel_rfl)) (fun _ _ _ h => h) (Or.inl ⟨by rfl, ?_⟩) ?_ ?_
            rotate_left
            ·intro w'
             go_simp
             with_reducible rfl
            rotate_left
            ·simp only [Act.put, List.setIfInBounds_toArray, List.set_cons_zero, List.set_cons_succ, i64_w, i32_w]
             rfl
            refine pure_ (i := 1) (N := some 35) (v := ?_) (a' := ?_) #[true, true, false, false, false, false, false, false, false, false, false, false, false, false, false, false, false, false, false, false, false, false, false, false, false, false, false, false] rfl rfl (any_of HT_.out (by kernel_rfl)) (fun _ _ _ h => h) (Or.inl ⟨by rfl, ?_⟩) ?_ ?_
            rotate_left
            ·intro w'
             go_simp
             with_reducible rfl
            rotate_left
            ·simp only [Act.put, List.setIfInBounds_toArray, List.set_cons_zero, List.set_cons_succ, i64_w, i32_w]
             rfl
            refine pure_ (i := 3) (N := some 37) (v := ?_) (a' := ?_) #[true, true, false, true, false, false, false, false, false, false, false, false, false, false, false, false, false, false, false, false, false, false, false, false, false, false, false, false] rfl rfl (any_of HT_.out (by kernel_rfl)) (fun _ _ _ h => h) (Or.inl ⟨by rfl, ?_⟩) ?_ ?_
            rotate_left
            ·intro w'
             go_simp
             with_reducible rfl
            rotate_left
            ·simp only [Act.put, List.setIfInBounds_toArray, List.set_cons_zero, List.set_cons_succ, i64_w, i32_w]
             rfl
            refine take_ (i := 2) (N := some 36) (v := ?_) (a' := ?_) #[true, true, true, true, false, false, false, false, false, false, false, false, false, false, false, false, false, false, false, false, false, false, false, false, false, false, false, false] rfl rfl (take_ofW HT_.out HW_.out (by kernel_rfl)) (fun _ _ _ h => h) (Or.inl ⟨by rfl, ?_⟩) hHeld ?_ ?_
            rotate_left
            ·rintro w' ⟨s0, s1, s2, s3, s4, s5, s6, s7, s8, s9⟩
             go_simp
             with_reducible rfl
            rotate_left
            ·simp only [Act.put, List.setIfInBounds_toArray, List.set_cons_zero, List.set_cons_succ, i64_w, i32_w]
             rfl
            refine take_ (i := 4) (N := some 38) (v := ?_) (a' := ?_) #[true, true, true, true, true, false, false, false, false, false, false, false, false, false, false, false, false, false, false, false, false, false, false, false, false, false, false, false] rfl rfl (take_ofW HT_.out HW_.out (by kernel_rfl)) (fun _ _ _ h => h) (Or.inl ⟨by rfl, ?_⟩) hHeld ?_ ?_
            rotate_left
            ·rintro w' ⟨s0, s1, s2, s3, s4, s5, s6, s7, s8, s9⟩
             go_simp
             with_reducible rfl
            rotate_left
            ·simp only [Act.put, List.setIfInBounds_toArray, List.set_cons_zero, List.set_cons_succ, i64_w, i32_w]
             rfl
            refine one_ (i := 5) (N := some 39) #[true, true, true, true, true, true, false, false, false, false, false, false, false, false, false, false, false, false, false, false, false, false, false, false, false, false, false, false] rfl rfl (one_of HT_.out (by kernel_rfl)) (by decide) (fun K hK => ?_)
            refine goes_ Try.func34 (by kernel_rfl) rfl #[.int .i64 a2, .int .i64 ((rd_T44 l1 x7_2).f1), .int .i64 ((rd_T44 l1 (ji18)).f1)] (by rfl) rfl rfl (by (try simp only [List.map_toArray, List.map_cons, List.map_nil]); first | done | (simp only [hji18]; rfl) | rfl | (simp only [List.length_drop, List.length_take]; rfl)) ?_
            with_reducible refine (impl_within.calls a2 ((rd_T44 l1 x7_2).f1) ((rd_T44 l1 (ji18)).f1) true _ A20.out).mono ?_
            rintro e w' ⟨rfl, ⟨nd, rfl⟩⟩
            refine ⟨_, rfl, ?_⟩
            refine hK.out _ _ ⟨(blk_cell BK301.out 0).trans rfl, (blk_cell BK301.out 1).trans rfl, (blk_cell BK301.out 2).trans rfl, (blk_cell BK302.out 0).trans rfl, (blk_cell BK302.out 1).trans rfl, (blk_cell BK302.out 2).trans rfl, (blk_cell BK296.out 0).trans rfl, (blk_cell BK296.out 1).trans rfl, (blk_cell BK296.out 2).trans rfl, (blk_cell BK296.out 3).trans rfl⟩ (fun hHeld => ?_)
            clear hK K
            refine norm_ (a' := ?_) ?_ ?_
            rotate_left
            ·show Act.put _ (some 39) _ = _
             simp only [Act.put, List.setIfInBounds_toArray, List.set_cons_zero, List.set_cons_succ, i64_w, i32_w]
             rfl
            refine pure_ (i := 6) (N := some 40) (v := ?_) (a' := ?_) #[true, true, true, true, true, true, true, false, false, false, false, false, false, false, false, false, false, false, false, false, false, false, false, false, false, false, false, false] rfl rfl (any_of HT_.out (by kernel_rfl)) (fun _ _ _ h => h) (Or.inl ⟨by rfl, ?_⟩) ?_ ?_
            rotate_left
            ·intro w'
             go_simp
             with_reducible rfl
            rotate_left
            ·simp only [Act.put, List.setIfInBounds_toArray, List.set_cons_zero, List.set_cons_succ, i64_w, i32_w]
             rfl
            refine pure_ (i := 8) (N := some 42) (v := ?_) (a' := ?_) #[true, true, true, true, true, true, true, false, true, false, false, false, false, false, false, false, false, false, false, false, false, false, false, false, false, false, false, false] rfl rfl (any_of HT_.out (by kernel_rfl)) (fun _ _ _ h => h) (Or.inl ⟨by rfl, ?_⟩) ?_ ?_
            rotate_left
            ·intro w'
             go_simp
             with_reducible rfl
            rotate_left
            ·simp only [Act.put, List.setIfInBounds_toArray, List.set_cons_zero, List.set_cons_succ, i64_w, i32_w]
             rfl
            refine pure_ (i := 11) (N := some 45) (v := ?_) (a' := ?_) #[true, true, true, true, true, true, true, false, true, false, false, true, false, false, false, false, false, false, false, false, false, false, false, false, false, false, false, false] rfl rfl (any_of HT_.out (by kernel_rfl)) (fun _ _ _ h => h) (Or.inl ⟨by rfl, ?_⟩) ?_ ?_
            rotate_left
            ·intro w'
             go_simp
             with_reducible rfl
            rotate_left
            ·simp only [Act.put, List.setIfInBounds_toArray, List.set_cons_zero, List.set_cons_succ, i64_w, i32_w]
             rfl
            refine pure_ (i := 13) (N := some 47) (v := ?_) (a' := ?_) #[true, true, true, true, true, true, true, false, true, false, false, true, false, true, false, false, false, false, false, false, false, false, false, false, false, false, false, false] rfl rfl (any_of HT_.out (by kernel_rfl)) (fun _ _ _ h => h) (Or.inl ⟨by rfl, ?_⟩) ?_ ?_
            rotate_left
            ·intro w'
             go_simp
             with_reducible rfl
            rotate_left
            ·simp only [Act.put, List.setIfInBounds_toArray, List.set_cons_zero, List.set_cons_succ, i64_w, i32_w]
             rfl
            refine pure_ (i := 17) (N := some 51) (v := ?_) (a' := ?_) #[true, true, true, true, true, true, true, false, true, false, false, true, false, true, false, false, false, true, false, false, false, false, false, false, false, false, false, false] rfl rfl (any_of HT_.out (by kernel_rfl)) (fun _ _ _ h => h) (Or.inl ⟨by rfl, ?_⟩) ?_ ?_
            rotate_left
            ·intro w'
             go_simp
             with_reducible rfl
            rotate_left
            ·simp only [Act.put, List.setIfInBounds_toArray, List.set_cons_zero, List.set_cons_succ, i64_w, i32_w]
             rfl
            refine pure_ (i := 20) (N := some 54) (v := ?_) (a' := ?_) #[true, true, true, true, true, true, true, false, true, false, false, true, false, true, false, false, false, true, false, false, true, false, false, false, false, false, false, false] rfl rfl (any_of HT_.out (by kernel_rfl)) (fun _ _ _ h => h) (Or.inl ⟨by rfl, ?_⟩) ?_ ?_
            rotate_left
            ·intro w'
             go_simp
             with_reducible rfl
            rotate_left
            ·simp only [Act.put, List.setIfInBounds_toArray, List.set_cons_zero, List.set_cons_succ, i64_w, i32_w]
             rfl
            refine pure_ (i := 21) (N := some 55) (v := ?_) (a' := ?_) #[true, true, true, true, true, true, true, false, true, false, false, true, false, true, false, false, false, true, false, false, true, true, false, false, false, false, false, false] rfl rfl (any_of HT_.out (by kernel_rfl)) (fun _ _ _ h => h) (Or.inl ⟨by rfl, ?_⟩) ?_ ?_
            rotate_left
            ·intro w'
             go_simp
             with_reducible rfl
            rotate_left
            ·simp only [Act.put, List.setIfInBounds_toArray, List.set_cons_zero, List.set_cons_succ, i64_w, i32_w]
             rfl
            refine take_ (i := 7) (N := some 41) (v := ?_) (a' := ?_) #[true, true, true, true, true, true, true, true, true, false, false, true, false, true, false, false, false, true, false, false, true, true, false, false, false, false, false, false] rfl rfl (take_ofW HT_.out HW_.out (by kernel_rfl)) (fun _ _ _ h => h) (Or.inl ⟨by rfl, ?_⟩) hHeld ?_ ?_
            rotate_left
            ·rintro w' ⟨s0, s1, s2, s3, s4, s5, s6, s7, s8, s9⟩
             go_simp
             with_reducible rfl
            rotate_left
            ·simp only [Act.put, List.setIfInBounds_toArray, List.set_cons_zero, List.set_cons_succ, i64_w, i32_w]
             rfl
            refine take_ (i := 9) (N := some 43) (v := ?_) (a' := ?_) #[true, true, true, true, true, true, true, true, true, true, false, true, false, true, false, false, false, true, false, false, true, true, false, false, false, false, false, false] rfl rfl (take_ofW HT_.out HW_.out (by kernel_rfl)) (fun _ _ _ h => h) (Or.inl ⟨by rfl, ?_⟩) hHeld ?_ ?_
            rotate_left
            ·rintro w' ⟨s0, s1, s2, s3, s4, s5, s6, s7, s8, s9⟩
             go_simp
             with_reducible rfl
            rotate_left
            ·simp only [Act.put, List.setIfInBounds_toArray, List.set_cons_zero, List.set_cons_succ, i64_w, i32_w]
             rfl
            refine take_ (i := 12) (N := some 46) (v := ?_) (a' := ?_) #[true, true, true, true, true, true, true, true, true, true, false, true, true, true, false, false, false, true, false, false, true, true, false, false, false, false, false, false] rfl rfl (take_ofW HT_.out HW_.out (by kernel_rfl)) (fun _ _ _ h => h) (Or.inl ⟨by rfl, ?_⟩) hHeld ?_ ?_
            rotate_left
            ·rintro w' ⟨s0, s1, s2, s3, s4, s5, s6, s7, s8, s9⟩
             go_simp
             with_reducible rfl
            rotate_left
            ·simp only [Act.put, List.setIfInBounds_toArray, List.set_cons_zero, List.set_cons_succ, i64_w, i32_w]
             rfl
            refine pure_ (i := 14) (N := some 48) (v := ?_) (a' := ?_) #[true, true, true, true, true, true, true, true, true, true, false, true, true, true, true, false, false, true, false, false, true, true, false, false, false, false, false, false] rfl rfl (any_of HT_.out (by kernel_rfl)) (fun _ _ _ h => h) (Or.inl ⟨by rfl, ?_⟩) ?_ ?_
            rotate_left
            ·intro w'
             go_simp
             with_reducible rfl
            rotate_left
            ·simp only [Act.put, List.setIfInBounds_toArray, List.set_cons_zero, List.set_cons_succ, i64_w, i32_w]
             rfl
            refine take_ (i := 16) (N := some 50) (v := ?_) (a' := ?_) #[true, true, true, true, true, true, true, true, true, true, false, true, true, true, true, false, true, true, false, false, true, true, false, false, false, false, false, false] rfl rfl (take_ofW HT_.out HW_.out (by kernel_rfl)) (fun _ _ _ h => h) (Or.inl ⟨by rfl, ?_⟩) hHeld ?_ ?_
            rotate_left
            ·rintro w' ⟨s0, s1, s2, s3, s4, s5, s6, s7, s8, s9⟩
             go_simp
             with_reducible rfl
            rotate_left
            ·simp only [Act.put, List.setIfInBounds_toArray, List.set_cons_zero, List.set_cons_succ, i64_w, i32_w]
             rfl
            refine take_ (i := 18) (N := some 52) (v := ?_) (a' := ?_) #[true, true, true, true, true, true, true, true, true, true, false, true, true, true, true, false, true, true, true, false, true, true, false, false, false, false, false, false] rfl rfl (take_ofW HT_.out HW_.out (by kernel_rfl)) (fun _ _ _ h => h) (Or.inl ⟨by rfl, ?_⟩) hHeld ?_ ?_
            rotate_left
            ·rintro w' ⟨s0, s1, s2, s3, s4, s5, s6, s7, s8, s9⟩
             go_simp
             with_reducible rfl
            rotate_left
            ·simp only [Act.put, List.setIfInBounds_toArray, List.set_cons_zero, List.set_cons_succ, i64_w, i32_w]
             rfl
            refine take_ (i := 22) (N := some 56) (v := ?_) (a' := ?_) #[true, true, true, true, true, true, true, true, true, true, false, true, true, true, true, false, true, true, true, false, true, true, true, false, false, false, false, false] rfl rfl (take_ofW HT_.out HW_.out (by kernel_rfl)) (fun _ _ _ h => h) (Or.inl ⟨by rfl, ?_⟩) hHeld ?_ ?_
            rotate_left
            ·rintro w' ⟨s0, s1, s2, s3, s4, s5, s6, s7, s8, s9⟩
             go_simp
             with_reducible rfl
            rotate_left
            ·simp only [Act.put, List.setIfInBounds_toArray, List.set_cons_zero, List.set_cons_succ, i64_w, i32_w]
             rfl
            refine pure_ (i := 23) (N := some 57) (v := ?_) (a' := ?_) #[true, true, true, true, true, true, true, true, true, true, false, true, true, true, true, false, true, true, true, false, true, true, true, true, false, false, false, false] rfl rfl (any_of HT_.out (by kernel_rfl)) (fun _ _ _ h => h) (Or.inl ⟨by rfl, ?_⟩) ?_ ?_
            rotate_left
            ·intro w'
             go_simp
             with_reducible rfl
            rotate_left
            ·simp only [Act.put, List.setIfInBounds_toArray, List.set_cons_zero, List.set_cons_succ, i64_w, i32_w]
             rfl
            refine one_ (i := 10) (N := some 44) #[true, true, true, true, true, true, true, true, true, true, true, true, true, true, true, false, true, true, true, false, true, true, true, true, false, false, false, false] rfl rfl (one_of HT_.out (by kernel_rfl)) (by decide) (fun K hK => ?_)
            refine goes_ Try.func44 (by kernel_rfl) rfl #[.agg #[.int .i64 a0_0, .int .i64 a0_1, .int .i64 a0_2, .int .i64 a0_3], .agg #[.int .i64 ((rd_T44 l1 x7_2).f0.f0), .int .i64 ((rd_T44 l1 x7_2).f0.f1)]] (by rfl) rfl rfl (by (try simp only [List.map_toArray, List.map_cons, List.map_nil]); first | done | rfl | (simp only [List.length_drop, List.length_take]; rfl)) ?_
            with_reducible refine (impl_height.calls a0_0 a0_1 a0_2 a0_3 ((rd_T44 l1 x7_2).f0.f0) ((rd_T44 l1 x7_2).f0.f1) t304 _ A22.out).mono ?_
            rintro e w51 ⟨rfl, hb⟩
            refine ⟨_, rfl, ?_⟩
            have n0_ := Aside0.mk (blk_below (g := gb296) (o := .cells #[.int .i64 a0_0, .int .i64 a0_1, .int .i64 a0_2, .int .i64 a0_3] 33 (0, 0)) (by (with_reducible repeat (first | refine blk_drewN ?_ _ | refine blk_drew ?_ | refine blk_alloc ?_ _)); exact BK296.out) hb)
            have n1_ := Aside0.mk (blk_below (g := gb301) (o := .cells #[.int .i64 ((rd_T44 l1 x7_2).f0.f0), .int .i64 ((rd_T44 l1 x7_2).f0.f1), .int .i64 ((rd_T44 l1 x7_2).f1)] 44 (0, 0)) (by (with_reducible repeat (first | refine blk_drewN ?_ _ | refine blk_drew ?_ | refine blk_alloc ?_ _)); exact BK301.out) hb)
            have n2_ := Aside0.mk (blk_below (g := gb302) (o := .cells #[.int .i64 ((rd_T44 l1 (ji18)).f0.f0), .int .i64 ((rd_T44 l1 (ji18)).f0.f1), .int .i64 ((rd_T44 l1 (ji18)).f1)] 44 (0, 0)) (by (with_reducible repeat (first | refine blk_drewN ?_ _ | refine blk_drew ?_ | refine blk_alloc ?_ _)); exact BK302.out) hb)
            have n3_ := Aside0.mk (below_step (by repeat (first | (with_reducible first | exact HB.out | apply below_alloc | apply pw_below_drewN | apply below_drew1 | refine below_set ?_ GE296.out | refine below_set ?_ GE301.out | refine below_set ?_ GE302.out) | exact HB.out)) hb)
            clear BK296
            clear BK301
            clear BK302
            clear HB
            have BK296 := n0_
            have BK301 := n1_
            have BK302 := n2_
            have HB := n3_
            clear n0_ n1_ n2_ n3_
            (try clear hb)
            (try clear hb2)
            (try clear hk)
            (try clear hi)
            refine hK.out _ _ ⟨(blk_cell BK301.out 0).trans rfl, (blk_cell BK301.out 1).trans rfl, (blk_cell BK301.out 2).trans rfl, (blk_cell BK302.out 0).trans rfl, (blk_cell BK302.out 1).trans rfl, (blk_cell BK302.out 2).trans rfl, (blk_cell BK296.out 0).trans rfl, (blk_cell BK296.out 1).trans rfl, (blk_cell BK296.out 2).trans rfl, (blk_cell BK296.out 3).trans rfl⟩ (fun hHeld => ?_)
            clear hK K
            refine norm_ (a' := ?_) ?_ ?_
            rotate_left
            ·show Act.put _ (some 44) _ = _
             simp only [Act.put, List.setIfInBounds_toArray, List.set_cons_zero, List.set_cons_succ, i64_w, i32_w]
             rfl
            refine pure_ (i := 15) (N := some 49) (v := ?_) (a' := ?_) #[true, true, true, true, true, true, true, true, true, true, true, true, true, true, true, true, true, true, true, false, true, true, true, true, false, false, false, false] rfl rfl (any_of HT_.out (by kernel_rfl)) (fun _ _ _ h => h) (Or.inl ⟨by rfl, ?_⟩) ?_ ?_
            rotate_left
            ·intro w'
             go_simp
             with_reducible rfl
            rotate_left
            ·simp only [Act.put, List.setIfInBounds_toArray, List.set_cons_zero, List.set_cons_succ, i64_w, i32_w]
             rfl
            refine one_ (i := 19) (N := some 53) #[true, true, true, true, true, true, true, true, true, true, true, true, true, true, true, true, true, true, true, true, true, true, true, true, false, false, false, false] rfl rfl (one_of HT_.out (by kernel_rfl)) (by decide) (fun K hK => ?_)
            refine goes_ Try.func44 (by kernel_rfl) rfl #[.agg #[.int .i64 a0_0, .int .i64 a0_1, .int .i64 a0_2, .int .i64 a0_3], .agg #[.int .i64 ((rd_T44 l1 (ji18)).f0.f0), .int .i64 ((rd_T44 l1 (ji18)).f0.f1)]] (by rfl) rfl rfl (by (try simp only [List.map_toArray, List.map_cons, List.map_nil]); first | done | (simp only [hji18]; rfl) | rfl | (simp only [List.length_drop, List.length_take]; rfl)) ?_
            with_reducible refine (impl_height.calls a0_0 a0_1 a0_2 a0_3 ((rd_T44 l1 (ji18)).f0.f0) ((rd_T44 l1 (ji18)).f0.f1) t305 _ A23.out).mono ?_
            rintro e w52 ⟨rfl, hb⟩
            refine ⟨_, rfl, ?_⟩
            have n0_ := Aside0.mk (blk_below (g := gb296) (o := .cells #[.int .i64 a0_0, .int .i64 a0_1, .int .i64 a0_2, .int .i64 a0_3] 33 (0, 0)) (by (with_reducible repeat (first | refine blk_drewN ?_ _ | refine blk_drew ?_ | refine blk_alloc ?_ _)); exact BK296.out) hb)
            have n1_ := Aside0.mk (blk_below (g := gb301) (o := .cells #[.int .i64 ((rd_T44 l1 x7_2).f0.f0), .int .i64 ((rd_T44 l1 x7_2).f0.f1), .int .i64 ((rd_T44 l1 x7_2).f1)] 44 (0, 0)) (by (with_reducible repeat (first | refine blk_drewN ?_ _ | refine blk_drew ?_ | refine blk_alloc ?_ _)); exact BK301.out) hb)
            have n2_ := Aside0.mk (blk_below (g := gb302) (o := .cells #[.int .i64 ((rd_T44 l1 (ji18)).f0.f0), .int .i64 ((rd_T44 l1 (ji18)).f0.f1), .int .i64 ((rd_T44 l1 (ji18)).f1)] 44 (0, 0)) (by (with_reducible repeat (first | refine blk_drewN ?_ _ | refine blk_drew ?_ | refine blk_alloc ?_ _)); exact BK302.out) hb)
            have n3_ := Aside0.mk (below_step (by repeat (first | (with_reducible first | exact HB.out | apply below_alloc | apply pw_below_drewN | apply below_drew1 | refine below_set ?_ GE296.out | refine below_set ?_ GE301.out | refine below_set ?_ GE302.out) | exact HB.out)) hb)
            clear BK296
            clear BK301
            clear BK302
            clear HB
            have BK296 := n0_
            have BK301 := n1_
            have BK302 := n2_
            have HB := n3_
            clear n0_ n1_ n2_ n3_
            (try clear hb)
            (try clear hb2)
            (try clear hk)
            (try clear hi)
            refine hK.out _ _ ⟨(blk_cell BK301.out 0).trans rfl, (blk_cell BK301.out 1).trans rfl, (blk_cell BK301.out 2).trans rfl, (blk_cell BK302.out 0).trans rfl, (blk_cell BK302.out 1).trans rfl, (blk_cell BK302.out 2).trans rfl, (blk_cell BK296.out 0).trans rfl, (blk_cell BK296.out 1).trans rfl, (blk_cell BK296.out 2).trans rfl, (blk_cell BK296.out 3).trans rfl⟩ (fun hHeld => ?_)
            clear hK K
            refine norm_ (a' := ?_) ?_ ?_
            rotate_left
            ·show Act.put _ (some 53) _ = _
             simp only [Act.put, List.setIfInBounds_toArray, List.set_cons_zero, List.set_cons_succ, i64_w, i32_w]
             rfl
            refine pure_ (i := 24) (N := some 58) (v := ?_) (a' := ?_) #[true, true, true, true, true, true, true, true, true, true, true, true, true, true, true, true, true, true, true, true, true, true, true, true, true, false, false, false] rfl rfl (any_of HT_.out (by kernel_rfl)) (fun _ _ _ h => h) (Or.inl ⟨by rfl, ?_⟩) ?_ ?_
            rotate_left
            ·intro w'
             go_simp
             with_reducible rfl
            rotate_left
            ·simp only [Act.put, List.setIfInBounds_toArray, List.set_cons_zero, List.set_cons_succ, i64_w, i32_w]
             rfl
            refine pure_ (i := 25) (N := some 59) (v := ?_) (a' := ?_) #[true, true, true, true, true, true, true, true, true, true, true, true, true, true, true, true, true, true, true, true, true, true, true, true, true, true, false, false] rfl rfl (any_of HT_.out (by kernel_rfl)) (fun _ _ _ h => h) (Or.inl ⟨by rfl, ?_⟩) ?_ ?_
            rotate_left
            ·intro w'
             go_simp
             with_reducible rfl
            rotate_left
            ·simp only [Act.put, List.setIfInBounds_toArray, List.set_cons_zero, List.set_cons_succ, i64_w, i32_w]
             rfl
            refine pure_ (i := 26) (N := some 60) (v := ?_) (a' := ?_) #[true, true, true, true, true, true, true, true, true, true, true, true, true, true, true, true, true, true, true, true, true, true, true, true, true, true, true, false] rfl rfl (any_of HT_.out (by kernel_rfl)) (fun _ _ _ h => h) (Or.inl ⟨by rfl, ?_⟩) ?_ ?_
            rotate_left
            ·intro w'
             go_simp
             with_reducible rfl
            rotate_left
            ·simp only [Act.put, List.setIfInBounds_toArray, List.set_cons_zero, List.set_cons_succ, i64_w, i32_w]
             rfl
            refine pure_ (i := 27) (N := some 61) (v := ?_) (a' := ?_) #[true, true, true, true, true, true, true, true, true, true, true, true, true, true, true, true, true, true, true, true, true, true, true, true, true, true, true, true] rfl rfl (any_of HT_.out (by kernel_rfl)) (fun _ _ _ h => h) (Or.inl ⟨by rfl, ?_⟩) ?_ ?_
            rotate_left
            ·intro w'
             go_simp
             with_reducible rfl
            rotate_left
            ·simp only [Act.put, List.setIfInBounds_toArray, List.set_cons_zero, List.set_cons_succ, i64_w, i32_w]
             rfl
            refine done_ (done_of HT_.out (by kernel_rfl)) ?_
            try go_wp2
            go_roundg k2
            case measure => have := HJ3.out; have := HK2.out; omega
            case rel => exact ⟨(ji18), (by first | rfl | (simp; done) | (simp only [← hji18] <;> (first | rfl | simp)) | (simp [*]; done)), H', ⟨by have := HJ3.out; have := HK2.out; omega⟩, ⟨by (with_reducible repeat (first | refine blk_drewN ?_ _ | refine blk_drew ?_ | refine blk_alloc ?_ _)); exact BK296.out⟩, ⟨by repeat (first | (with_reducible first | exact HB.out | apply below_alloc | apply pw_below_drewN | apply below_drew1 | refine below_set ?_ GE296.out | refine below_set ?_ GE301.out | refine below_set ?_ GE302.out) | exact HB.out)⟩⟩
          ·replace c21 := Bool.eq_false_iff.mpr c21
           subst c21
           have H1 : (impl_EarlyAt.l0 k2 l1 a2 ji18 a0_0 a0_1 a0_2 a0_3) = some r := by rw [if_neg (show ¬ (false = true) by decide)] at H; exact H
           clear H
           have H := H1
           clear H1
           have H' := Aside0.mk H
           clear H
           try go_wp2
           have n0_ := Aside0.mk (blk_drew BK296.out)
           have n1_ := Aside0.mk (below_drew1 HB.out)
           clear BK296
           clear HB
           have BK296 := n0_
           have HB := n1_
           clear n0_ n1_
           have p299 : 0 ≤ (x7_2 : Int) := of_decide_eq_true (by first | (with_reducible assumption) | assumption)
           have q299 : x7_2 < (l1.length : Int) := of_decide_eq_true (by first | (with_reducible assumption) | assumption)
           obtain ⟨ad299, e299, hx299_0, hx299_1, hx299_2⟩ := at_T44 HR1.out x7_2 p299 q299
           have hw299_2 := hx299_2
           have hw299_1 := hx299_1
           have hw299_0 := hx299_0
           cases e299
           replace hx299_0 := (HB.out.cell (bl_ w _ hx299_0)).trans hx299_0
           replace hx299_1 := (HB.out.cell (bl_ w _ hx299_1)).trans hx299_1
           replace hx299_2 := (HB.out.cell (bl_ w _ hx299_2)).trans hx299_2
           replace p299 := eq_true p299
           replace q299 := eq_true q299
           have p300 : 0 ≤ ((ji18) : Int) := of_decide_eq_true (by first | (with_reducible assumption) | assumption)
           have q300 : (ji18) < (l1.length : Int) := of_decide_eq_true (by first | (with_reducible assumption) | assumption)
           obtain ⟨ad300, e300, hx300_0, hx300_1, hx300_2⟩ := at_T44 HR1.out (ji18) p300 q300
           have hw300_2 := hx300_2
           have hw300_1 := hx300_1
           have hw300_0 := hx300_0
           obtain rfl : ad299 = ad300 := (by injection e300)
           replace hx300_0 := (HB.out.cell (bl_ w _ hx300_0)).trans hx300_0
           replace hx300_1 := (HB.out.cell (bl_ w _ hx300_1)).trans hx300_1
           replace hx300_2 := (HB.out.cell (bl_ w _ hx300_2)).trans hx300_2
           replace p300 := eq_true p300
           replace q300 := eq_true q300
           refine start_ (n := 13) (S := fun w' => w'.cell? (ad299.add ((x7_2).toNat * 3)) = some (.int .i64 ((rd_T44 l1 x7_2).f0.f0)) ∧ w'.cell? ⟨(ad299.add ((x7_2).toNat * 3)).block, (ad299.add ((x7_2).toNat * 3)).off + 1, none⟩ = some (.int .i64 ((rd_T44 l1 x7_2).f0.f1)) ∧ w'.cell? ⟨(ad299.add ((x7_2).toNat * 3)).block, (ad299.add ((x7_2).toNat * 3)).off + 2, none⟩ = some (.int .i64 ((rd_T44 l1 x7_2).f1)) ∧ w'.cell? (ad299.add (((ji18)).toNat * 3)) = some (.int .i64 ((rd_T44 l1 (ji18)).f0.f0)) ∧ w'.cell? ⟨(ad299.add (((ji18)).toNat * 3)).block, (ad299.add (((ji18)).toNat * 3)).off + 1, none⟩ = some (.int .i64 ((rd_T44 l1 (ji18)).f0.f1)) ∧ w'.cell? ⟨(ad299.add (((ji18)).toNat * 3)).block, (ad299.add (((ji18)).toNat * 3)).off + 2, none⟩ = some (.int .i64 ((rd_T44 l1 (ji18)).f1))) (ds := []) #[false, false, false, false, false, false, false, false, false, false, false, false, false] (by kernel_rfl) rfl rfl ⟨((HB.out.cell (bl_ w _ hw299_0)).trans hw299_0), ((HB.out.cell (bl_ w _ hw299_1)).trans hw299_1), ((HB.out.cell (bl_ w _ hw299_2)).trans hw299_2), ((HB.out.cell (bl_ w _ hw300_0)).trans hw300_0), ((HB.out.cell (bl_ w _ hw300_1)).trans hw300_1), ((HB.out.cell (bl_ w _ hw300_2)).trans hw300_2)⟩ (fun hHeld => ?_); refine with_tabW impl_EarlyAt.tab6 impl_EarlyAt.bits6 (fun HT_ HW_ => ?_)
           generalize wr.drew = w53 at BK296 HB hx299_0 hx299_1 hx299_2 hx300_0 hx300_1 hx300_2 hHeld ⊢
           refine pure_ (i := 0) (N := some 25) (v := ?_) (a' := ?_) #[true, false, false, false, false, false, false, false, false, false, false, false, false] rfl rfl (any_of HT_.out (by kernel_rfl)) (fun _ _ _ h => h) (Or.inl ⟨by rfl, ?_⟩) ?_ ?_
           rotate_left
           ·intro w'
            go_simp
            with_reducible rfl
           rotate_left
           ·simp only [Act.put, List.setIfInBounds_toArray, List.set_cons_zero, List.set_cons_succ, i64_w, i32_w]
            rfl
           refine pure_ (i := 1) (N := some 26) (v := ?_) (a' := ?_) #[true, true, false, false, false, false, false, false, false, false, false, false, false] rfl rfl (any_of HT_.out (by kernel_rfl)) (fun _ _ _ h => h) (Or.inl ⟨by rfl, ?_⟩) ?_ ?_
           rotate_left
           ·intro w'
            go_simp
            with_reducible rfl
           rotate_left
           ·simp only [Act.put, List.setIfInBounds_toArray, List.set_cons_zero, List.set_cons_succ, i64_w, i32_w]
            rfl
           refine pure_ (i := 2) (N := some 27) (v := ?_) (a' := ?_) #[true, true, true, false, false, false, false, false, false, false, false, false, false] rfl rfl (any_of HT_.out (by kernel_rfl)) (fun _ _ _ h => h) (Or.inl ⟨by rfl, ?_⟩) ?_ ?_
           rotate_left
           ·intro w'
            go_simp
            with_reducible rfl
           rotate_left
           ·simp only [Act.put, List.setIfInBounds_toArray, List.set_cons_zero, List.set_cons_succ, i64_w, i32_w]
            rfl
           refine pure_ (i := 4) (N := some 29) (v := ?_) (a' := ?_) #[true, true, true, false, true, false, false, false, false, false, false, false, false] rfl rfl (any_of HT_.out (by kernel_rfl)) (fun _ _ _ h => h) (Or.inl ⟨by rfl, ?_⟩) ?_ ?_
           rotate_left
           ·intro w'
            go_simp
            with_reducible rfl
           rotate_left
           ·simp only [Act.put, List.setIfInBounds_toArray, List.set_cons_zero, List.set_cons_succ, i64_w, i32_w]
            rfl
           refine pure_ (i := 5) (N := some 30) (v := ?_) (a' := ?_) #[true, true, true, false, true, true, false, false, false, false, false, false, false] rfl rfl (any_of HT_.out (by kernel_rfl)) (fun _ _ _ h => h) (Or.inl ⟨by rfl, ?_⟩) ?_ ?_
           rotate_left
           ·intro w'
            go_simp
            with_reducible rfl
           rotate_left
           ·simp only [Act.put, List.setIfInBounds_toArray, List.set_cons_zero, List.set_cons_succ, i64_w, i32_w]
            rfl
           refine pure_ (i := 6) (N := some 31) (v := ?_) (a' := ?_) #[true, true, true, false, true, true, true, false, false, false, false, false, false] rfl rfl (any_of HT_.out (by kernel_rfl)) (fun _ _ _ h => h) (Or.inl ⟨by rfl, ?_⟩) ?_ ?_
           rotate_left
           ·intro w'
            go_simp
            with_reducible rfl
           rotate_left
           ·simp only [Act.put, List.setIfInBounds_toArray, List.set_cons_zero, List.set_cons_succ, i64_w, i32_w]
            rfl
           refine pure_ (i := 7) (N := some 32) (v := ?_) (a' := ?_) #[true, true, true, false, true, true, true, true, false, false, false, false, false] rfl rfl (any_of HT_.out (by kernel_rfl)) (fun _ _ _ h => h) (Or.inl ⟨by rfl, ?_⟩) ?_ ?_
           rotate_left
           ·intro w'
            go_simp
            with_reducible rfl
           rotate_left
           ·simp only [Act.put, List.setIfInBounds_toArray, List.set_cons_zero, List.set_cons_succ, i64_w, i32_w]
            rfl
           refine take_ (i := 3) (N := some 28) (v := ?_) (a' := ?_) #[true, true, true, true, true, true, true, true, false, false, false, false, false] rfl rfl (take_ofW HT_.out HW_.out (by kernel_rfl)) (fun _ _ _ h => h) (Or.inl ⟨by rfl, ?_⟩) hHeld ?_ ?_
           rotate_left
           ·rintro w' ⟨s0, s1, s2, s3, s4, s5⟩
            go_simp
            with_reducible rfl
           rotate_left
           ·simp only [Act.put, List.setIfInBounds_toArray, List.set_cons_zero, List.set_cons_succ, i64_w, i32_w]
            rfl
           refine take_ (i := 8) (N := some 33) (v := ?_) (a' := ?_) #[true, true, true, true, true, true, true, true, true, false, false, false, false] rfl rfl (take_ofW HT_.out HW_.out (by kernel_rfl)) (fun _ _ _ h => h) (Or.inl ⟨by rfl, ?_⟩) hHeld ?_ ?_
           rotate_left
           ·rintro w' ⟨s0, s1, s2, s3, s4, s5⟩
            go_simp
            with_reducible rfl
           rotate_left
           ·simp only [Act.put, List.setIfInBounds_toArray, List.set_cons_zero, List.set_cons_succ, i64_w, i32_w]
            rfl
           refine join_ (σ := Nat × Nat) 2 #[true, true, true, true, true, true, true, true, true, true, true, false, false] (fun s_ => [(8, .pointer (some ⟨s_.1, 0, none⟩)), (9, .pointer (some ⟨s_.2, 0, none⟩))]) (fun s_ w' => (w'.cell? (ad299.add ((x7_2).toNat * 3)) = some (.int .i64 ((rd_T44 l1 x7_2).f0.f0)) ∧ w'.cell? ⟨(ad299.add ((x7_2).toNat * 3)).block, (ad299.add ((x7_2).toNat * 3)).off + 1, none⟩ = some (.int .i64 ((rd_T44 l1 x7_2).f0.f1)) ∧ w'.cell? ⟨(ad299.add ((x7_2).toNat * 3)).block, (ad299.add ((x7_2).toNat * 3)).off + 2, none⟩ = some (.int .i64 ((rd_T44 l1 x7_2).f1)) ∧ w'.cell? (ad299.add (((ji18)).toNat * 3)) = some (.int .i64 ((rd_T44 l1 (ji18)).f0.f0)) ∧ w'.cell? ⟨(ad299.add (((ji18)).toNat * 3)).block, (ad299.add (((ji18)).toNat * 3)).off + 1, none⟩ = some (.int .i64 ((rd_T44 l1 (ji18)).f0.f1)) ∧ w'.cell? ⟨(ad299.add (((ji18)).toNat * 3)).block, (ad299.add (((ji18)).toNat * 3)).off + 2, none⟩ = some (.int .i64 ((rd_T44 l1 (ji18)).f1))) ∧ (w'.heap[gb296]? = some (.cells #[.int .i64 a0_0, .int .i64 a0_1, .int .i64 a0_2, .int .i64 a0_3] 33 (0, 0))) ∧ (w'.heap[s_.1]? = some (.cells #[.int .i64 0, .int .i64 0, .int .i64 0] 44 (0, 0))) ∧ (w'.heap[s_.2]? = some (.cells #[.int .i64 0, .int .i64 0, .int .i64 0] 44 (0, 0))) ∧ (w.heap.size ≤ s_.1) ∧ (w.heap.size ≤ s_.1) ∧ (gb296 ≠ s_.1) ∧ (s_.1 ≠ gb296) ∧ (s_.2 ≠ s_.1) ∧ (s_.1 ≠ s_.2) ∧ (w.heap.size ≤ s_.2) ∧ (w.heap.size ≤ s_.2) ∧ (gb296 ≠ s_.2) ∧ (s_.2 ≠ gb296) ∧ (Below w.heap.size w w')) ?_ ?_
           rotate_left
           ·intro hCont
            refine two_ (i := 9) (j := 10) (Ni := some 8) (Nj := some 9) #[true, true, true, true, true, true, true, true, true, true, false, false, false] #[true, true, true, true, true, true, true, true, true, false, true, false, false] rfl rfl rfl rfl (two_of HT_.out (by kernel_rfl)) (by decide) (by decide) (fun K hK => ?_) (fun K hK => ?_)
            ·skip
             refine box_step ?hg (N := 8) ?hd (cs := #[.int .i64 0, .int .i64 0, .int .i64 0]) (t := 44) ?hr ?_; (case hd => rfl); (case hg => rfl); (case hr => first | (go_simp; done) | (go_simp; rfl))
             intro gb301 hg w54 hbox hb
             have n0_ := Aside0.mk (blk_below (g := gb296) (o := .cells #[.int .i64 a0_0, .int .i64 a0_1, .int .i64 a0_2, .int .i64 a0_3] 33 (0, 0)) (by (with_reducible repeat (first | refine blk_drewN ?_ _ | refine blk_drew ?_ | refine blk_alloc ?_ _)); exact BK296.out) hb)
             have n1_ := Aside0.mk (below_step (by repeat (first | (with_reducible first | exact HB.out | apply below_alloc | apply pw_below_drewN | apply below_drew1 | refine below_set ?_ GE296.out) | exact HB.out)) hb)
             have n2_ := Aside0.mk (hbox)
             have n3_ := Aside0.mk ((by rw [hg]; exact (below_size (by repeat (first | (with_reducible first | exact HB.out | apply below_alloc | apply pw_below_drewN | apply below_drew1 | refine below_set ?_ GE296.out) | exact HB.out))) : w.heap.size ≤ gb301))
             have n4_ := Aside0.mk ((by rw [hg]; exact (below_size (by repeat (first | (with_reducible first | exact HB.out | apply below_alloc | apply pw_below_drewN | apply below_drew1 | refine below_set ?_ GE296.out) | exact HB.out))) : w.heap.size ≤ gb301))
             have n5_ := Aside0.mk ((by rw [hg]; exact nn_ (blk_lt (g := gb296) (o := .cells #[.int .i64 a0_0, .int .i64 a0_1, .int .i64 a0_2, .int .i64 a0_3] 33 (0, 0)) (by (with_reducible repeat (first | refine blk_drewN ?_ _ | refine blk_drew ?_ | refine blk_alloc ?_ _)); exact BK296.out)) : gb296 ≠ gb301))
             have n6_ := Aside0.mk ((by rw [hg]; exact Nat.ne_of_gt (blk_lt (g := gb296) (o := .cells #[.int .i64 a0_0, .int .i64 a0_1, .int .i64 a0_2, .int .i64 a0_3] 33 (0, 0)) (by (with_reducible repeat (first | refine blk_drewN ?_ _ | refine blk_drew ?_ | refine blk_alloc ?_ _)); exact BK296.out)) : gb301 ≠ gb296))
             clear BK296
             clear HB
             have BK296 := n0_
             have HB := n1_
             have BK301 := n2_
             have GW301 := n3_
             have GE301 := n4_
             have NB296_301 := n5_
             have NB301_296 := n6_
             clear n0_ n1_ n2_ n3_ n4_ n5_ n6_
             clear hb hbox hg
             refine hK.out _ _ ⟨((HB.out.cell (bl_ w _ hw299_0)).trans hw299_0), ((HB.out.cell (bl_ w _ hw299_1)).trans hw299_1), ((HB.out.cell (bl_ w _ hw299_2)).trans hw299_2), ((HB.out.cell (bl_ w _ hw300_0)).trans hw300_0), ((HB.out.cell (bl_ w _ hw300_1)).trans hw300_1), ((HB.out.cell (bl_ w _ hw300_2)).trans hw300_2)⟩ (fun hHeld => ?_)
             clear hK K
             refine norm_ (a' := ?_) ?_ ?_
             rotate_left
             ·show Act.put _ (some 8) _ = _
              simp only [Act.put, List.setIfInBounds_toArray, List.set_cons_zero, List.set_cons_succ, i64_w, i32_w]
              rfl
             refine one_ (i := 10) (N := some 9) #[true, true, true, true, true, true, true, true, true, true, true, false, false] rfl rfl (one_of HT_.out (by kernel_rfl)) (by decide) (fun K hK => ?_)
             refine box_step ?hg (N := 9) ?hd (cs := #[.int .i64 0, .int .i64 0, .int .i64 0]) (t := 44) ?hr ?_; (case hd => rfl); (case hg => rfl); (case hr => first | (go_simp; done) | (go_simp; rfl))
             intro gb302 hg w55 hbox hb
             have n0_ := Aside0.mk (blk_below (g := gb296) (o := .cells #[.int .i64 a0_0, .int .i64 a0_1, .int .i64 a0_2, .int .i64 a0_3] 33 (0, 0)) (by (with_reducible repeat (first | refine blk_drewN ?_ _ | refine blk_drew ?_ | refine blk_alloc ?_ _)); exact BK296.out) hb)
             have n1_ := Aside0.mk (blk_below (g := gb301) (o := .cells #[.int .i64 0, .int .i64 0, .int .i64 0] 44 (0, 0)) (by (with_reducible repeat (first | refine blk_drewN ?_ _ | refine blk_drew ?_ | refine blk_alloc ?_ _)); exact BK301.out) hb)
             have n2_ := Aside0.mk (below_step (by repeat (first | (with_reducible first | exact HB.out | apply below_alloc | apply pw_below_drewN | apply below_drew1 | refine below_set ?_ GE296.out | refine below_set ?_ GE301.out) | exact HB.out)) hb)
             have n3_ := Aside0.mk (hbox)
             have n4_ := Aside0.mk ((by rw [hg]; exact (below_size (by repeat (first | (with_reducible first | exact HB.out | apply below_alloc | apply pw_below_drewN | apply below_drew1 | refine below_set ?_ GE296.out | refine below_set ?_ GE301.out) | exact HB.out))) : w.heap.size ≤ gb302))
             have n5_ := Aside0.mk ((by rw [hg]; exact (below_size (by repeat (first | (with_reducible first | exact HB.out | apply below_alloc | apply pw_below_drewN | apply below_drew1 | refine below_set ?_ GE296.out | refine below_set ?_ GE301.out) | exact HB.out))) : w.heap.size ≤ gb302))
             have n6_ := Aside0.mk ((by rw [hg]; exact nn_ (blk_lt (g := gb296) (o := .cells #[.int .i64 a0_0, .int .i64 a0_1, .int .i64 a0_2, .int .i64 a0_3] 33 (0, 0)) (by (with_reducible repeat (first | refine blk_drewN ?_ _ | refine blk_drew ?_ | refine blk_alloc ?_ _)); exact BK296.out)) : gb296 ≠ gb302))
             have n7_ := Aside0.mk ((by rw [hg]; exact Nat.ne_of_gt (blk_lt (g := gb296) (o := .cells #[.int .i64 a0_0, .int .i64 a0_1, .int .i64 a0_2, .int .i64 a0_3] 33 (0, 0)) (by (with_reducible repeat (first | refine blk_drewN ?_ _ | refine blk_drew ?_ | refine blk_alloc ?_ _)); exact BK296.out)) : gb302 ≠ gb296))
             have n8_ := Aside0.mk ((by rw [hg]; exact nn_ (blk_lt (g := gb301) (o := .cells #[.int .i64 0, .int .i64 0, .int .i64 0] 44 (0, 0)) (by (with_reducible repeat (first | refine blk_drewN ?_ _ | refine blk_drew ?_ | refine blk_alloc ?_ _)); exact BK301.out)) : gb301 ≠ gb302))
             have n9_ := Aside0.mk ((by rw [hg]; exact Nat.ne_of_gt (blk_lt (g := gb301) (o := .cells #[.int .i64 0, .int .i64 0, .int .i64 0] 44 (0, 0)) (by (with_reducible repeat (first | refine blk_drewN ?_ _ | refine blk_drew ?_ | refine blk_alloc ?_ _)); exact BK301.out)) : gb302 ≠ gb301))
             clear BK296
             clear BK301
             clear HB
             have BK296 := n0_
             have BK301 := n1_
             have HB := n2_
             have BK302 := n3_
             have GW302 := n4_
             have GE302 := n5_
             have NB296_302 := n6_
             have NB302_296 := n7_
             have NB301_302 := n8_
             have NB302_301 := n9_
             clear n0_ n1_ n2_ n3_ n4_ n5_ n6_ n7_ n8_ n9_
             clear hb hbox hg
             refine hK.out _ _ ⟨((HB.out.cell (bl_ w _ hw299_0)).trans hw299_0), ((HB.out.cell (bl_ w _ hw299_1)).trans hw299_1), ((HB.out.cell (bl_ w _ hw299_2)).trans hw299_2), ((HB.out.cell (bl_ w _ hw300_0)).trans hw300_0), ((HB.out.cell (bl_ w _ hw300_1)).trans hw300_1), ((HB.out.cell (bl_ w _ hw300_2)).trans hw300_2)⟩ (fun hHeld => ?_)
             clear hK K
             refine norm_ (a' := ?_) ?_ ?_
             rotate_left
             ·show Act.put _ (some 9) _ = _
              simp only [Act.put, List.setIfInBounds_toArray, List.set_cons_zero, List.set_cons_succ, i64_w, i32_w]
              rfl
             exact norm_ (by simp only [putAll, Act.put, List.setIfInBounds_toArray, List.set_cons_zero, List.set_cons_succ]) (hCont (gb301, gb302) _ ⟨hHeld, (by (with_reducible repeat (first | refine blk_drewN ?_ _ | refine blk_drew ?_ | refine blk_alloc ?_ _)); exact BK296.out), (by (with_reducible repeat (first | refine blk_drewN ?_ _ | refine blk_drew ?_ | refine blk_alloc ?_ _)); exact BK301.out), (by (with_reducible repeat (first | refine blk_drewN ?_ _ | refine blk_drew ?_ | refine blk_alloc ?_ _)); exact BK302.out), GW301.out, GE301.out, NB296_301.out, NB301_296.out, NB302_301.out, NB301_302.out, GW302.out, GE302.out, NB296_302.out, NB302_296.out, (by repeat (first | (with_reducible first | exact HB.out | apply below_alloc | apply pw_below_drewN | apply below_drew1 | refine below_set ?_ GE296.out | refine below_set ?_ GE301.out | refine below_set ?_ GE302.out) | exact HB.out))⟩)
            ·skip
             refine box_step ?hg (N := 9) ?hd (cs := #[.int .i64 0, .int .i64 0, .int .i64 0]) (t := 44) ?hr ?_; (case hd => rfl); (case hg => rfl); (case hr => first | (go_simp; done) | (go_simp; rfl))
             intro gb302 hg w54 hbox hb
             have n0_ := Aside0.mk (blk_below (g := gb296) (o := .cells #[.int .i64 a0_0, .int .i64 a0_1, .int .i64 a0_2, .int .i64 a0_3] 33 (0, 0)) (by (with_reducible repeat (first | refine blk_drewN ?_ _ | refine blk_drew ?_ | refine blk_alloc ?_ _)); exact BK296.out) hb)
             have n1_ := Aside0.mk (below_step (by repeat (first | (with_reducible first | exact HB.out | apply below_alloc | apply pw_below_drewN | apply below_drew1 | refine below_set ?_ GE296.out) | exact HB.out)) hb)
             have n2_ := Aside0.mk (hbox)
             have n3_ := Aside0.mk ((by rw [hg]; exact (below_size (by repeat (first | (with_reducible first | exact HB.out | apply below_alloc | apply pw_below_drewN | apply below_drew1 | refine below_set ?_ GE296.out) | exact HB.out))) : w.heap.size ≤ gb302))
             have n4_ := Aside0.mk ((by rw [hg]; exact (below_size (by repeat (first | (with_reducible first | exact HB.out | apply below_alloc | apply pw_below_drewN | apply below_drew1 | refine below_set ?_ GE296.out) | exact HB.out))) : w.heap.size ≤ gb302))
             have n5_ := Aside0.mk ((by rw [hg]; exact nn_ (blk_lt (g := gb296) (o := .cells #[.int .i64 a0_0, .int .i64 a0_1, .int .i64 a0_2, .int .i64 a0_3] 33 (0, 0)) (by (with_reducible repeat (first | refine blk_drewN ?_ _ | refine blk_drew ?_ | refine blk_alloc ?_ _)); exact BK296.out)) : gb296 ≠ gb302))
             have n6_ := Aside0.mk ((by rw [hg]; exact Nat.ne_of_gt (blk_lt (g := gb296) (o := .cells #[.int .i64 a0_0, .int .i64 a0_1, .int .i64 a0_2, .int .i64 a0_3] 33 (0, 0)) (by (with_reducible repeat (first | refine blk_drewN ?_ _ | refine blk_drew ?_ | refine blk_alloc ?_ _)); exact BK296.out)) : gb302 ≠ gb296))
             clear BK296
             clear HB
             have BK296 := n0_
             have HB := n1_
             have BK302 := n2_
             have GW302 := n3_
             have GE302 := n4_
             have NB296_302 := n5_
             have NB302_296 := n6_
             clear n0_ n1_ n2_ n3_ n4_ n5_ n6_
             clear hb hbox hg
             refine hK.out _ _ ⟨((HB.out.cell (bl_ w _ hw299_0)).trans hw299_0), ((HB.out.cell (bl_ w _ hw299_1)).trans hw299_1), ((HB.out.cell (bl_ w _ hw299_2)).trans hw299_2), ((HB.out.cell (bl_ w _ hw300_0)).trans hw300_0), ((HB.out.cell (bl_ w _ hw300_1)).trans hw300_1), ((HB.out.cell (bl_ w _ hw300_2)).trans hw300_2)⟩ (fun hHeld => ?_)
             clear hK K
             refine norm_ (a' := ?_) ?_ ?_
             rotate_left
             ·show Act.put _ (some 9) _ = _
              simp only [Act.put, List.setIfInBounds_toArray, List.set_cons_zero, List.set_cons_succ, i64_w, i32_w]
              rfl
             refine one_ (i := 9) (N := some 8) #[true, true, true, true, true, true, true, true, true, true, true, false, false] rfl rfl (one_of HT_.out (by kernel_rfl)) (by decide) (fun K hK => ?_)
             refine box_step ?hg (N := 8) ?hd (cs := #[.int .i64 0, .int .i64 0, .int .i64 0]) (t := 44) ?hr ?_; (case hd => rfl); (case hg => rfl); (case hr => first | (go_simp; done) | (go_simp; rfl))
             intro gb301 hg w55 hbox hb
             have n0_ := Aside0.mk (blk_below (g := gb296) (o := .cells #[.int .i64 a0_0, .int .i64 a0_1, .int .i64 a0_2, .int .i64 a0_3] 33 (0, 0)) (by (with_reducible repeat (first | refine blk_drewN ?_ _ | refine blk_drew ?_ | refine blk_alloc ?_ _)); exact BK296.out) hb)
             have n1_ := Aside0.mk (blk_below (g := gb302) (o := .cells #[.int .i64 0, .int .i64 0, .int .i64 0] 44 (0, 0)) (by (with_reducible repeat (first | refine blk_drewN ?_ _ | refine blk_drew ?_ | refine blk_alloc ?_ _)); exact BK302.out) hb)
             have n2_ := Aside0.mk (below_step (by repeat (first | (with_reducible first | exact HB.out | apply below_alloc | apply pw_below_drewN | apply below_drew1 | refine below_set ?_ GE296.out | refine below_set ?_ GE302.out) | exact HB.out)) hb)
             have n3_ := Aside0.mk (hbox)
             have n4_ := Aside0.mk ((by rw [hg]; exact (below_size (by repeat (first | (with_reducible first | exact HB.out | apply below_alloc | apply pw_below_drewN | apply below_drew1 | refine below_set ?_ GE296.out | refine below_set ?_ GE302.out) | exact HB.out))) : w.heap.size ≤ gb301))
             have n5_ := Aside0.mk ((by rw [hg]; exact (below_size (by repeat (first | (with_reducible first | exact HB.out | apply below_alloc | apply pw_below_drewN | apply below_drew1 | refine below_set ?_ GE296.out | refine below_set ?_ GE302.out) | exact HB.out))) : w.heap.size ≤ gb301))
             have n6_ := Aside0.mk ((by rw [hg]; exact nn_ (blk_lt (g := gb296) (o := .cells #[.int .i64 a0_0, .int .i64 a0_1, .int .i64 a0_2, .int .i64 a0_3] 33 (0, 0)) (by (with_reducible repeat (first | refine blk_drewN ?_ _ | refine blk_drew ?_ | refine blk_alloc ?_ _)); exact BK296.out)) : gb296 ≠ gb301))
             have n7_ := Aside0.mk ((by rw [hg]; exact Nat.ne_of_gt (blk_lt (g := gb296) (o := .cells #[.int .i64 a0_0, .int .i64 a0_1, .int .i64 a0_2, .int .i64 a0_3] 33 (0, 0)) (by (with_reducible repeat (first | refine blk_drewN ?_ _ | refine blk_drew ?_ | refine blk_alloc ?_ _)); exact BK296.out)) : gb301 ≠ gb296))
             have n8_ := Aside0.mk ((by rw [hg]; exact nn_ (blk_lt (g := gb302) (o := .cells #[.int .i64 0, .int .i64 0, .int .i64 0] 44 (0, 0)) (by (with_reducible repeat (first | refine blk_drewN ?_ _ | refine blk_drew ?_ | refine blk_alloc ?_ _)); exact BK302.out)) : gb302 ≠ gb301))
             have n9_ := Aside0.mk ((by rw [hg]; exact Nat.ne_of_gt (blk_lt (g := gb302) (o := .cells #[.int .i64 0, .int .i64 0, .int .i64 0] 44 (0, 0)) (by (with_reducible repeat (first | refine blk_drewN ?_ _ | refine blk_drew ?_ | refine blk_alloc ?_ _)); exact BK302.out)) : gb301 ≠ gb302))
             clear BK296
             clear BK302
             clear HB
             have BK296 := n0_
             have BK302 := n1_
             have HB := n2_
             have BK301 := n3_
             have GW301 := n4_
             have GE301 := n5_
             have NB296_301 := n6_
             have NB301_296 := n7_
             have NB302_301 := n8_
             have NB301_302 := n9_
             clear n0_ n1_ n2_ n3_ n4_ n5_ n6_ n7_ n8_ n9_
             clear hb hbox hg
             refine hK.out _ _ ⟨((HB.out.cell (bl_ w _ hw299_0)).trans hw299_0), ((HB.out.cell (bl_ w _ hw299_1)).trans hw299_1), ((HB.out.cell (bl_ w _ hw299_2)).trans hw299_2), ((HB.out.cell (bl_ w _ hw300_0)).trans hw300_0), ((HB.out.cell (bl_ w _ hw300_1)).trans hw300_1), ((HB.out.cell (bl_ w _ hw300_2)).trans hw300_2)⟩ (fun hHeld => ?_)
             clear hK K
             refine norm_ (a' := ?_) ?_ ?_
             rotate_left
             ·show Act.put _ (some 8) _ = _
              simp only [Act.put, List.setIfInBounds_toArray, List.set_cons_zero, List.set_cons_succ, i64_w, i32_w]
              rfl
             exact norm_ (by simp only [putAll, Act.put, List.setIfInBounds_toArray, List.set_cons_zero, List.set_cons_succ]) (hCont (gb301, gb302) _ ⟨hHeld, (by (with_reducible repeat (first | refine blk_drewN ?_ _ | refine blk_drew ?_ | refine blk_alloc ?_ _)); exact BK296.out), (by (with_reducible repeat (first | refine blk_drewN ?_ _ | refine blk_drew ?_ | refine blk_alloc ?_ _)); exact BK301.out), (by (with_reducible repeat (first | refine blk_drewN ?_ _ | refine blk_drew ?_ | refine blk_alloc ?_ _)); exact BK302.out), GW301.out, GE301.out, NB296_301.out, NB301_296.out, NB302_301.out, NB301_302.out, GW302.out, GE302.out, NB296_302.out, NB302_296.out, (by repeat (first | (with_reducible first | exact HB.out | apply below_alloc | apply pw_below_drewN | apply below_drew1 | refine below_set ?_ GE296.out | refine below_set ?_ GE302.out | refine below_set ?_ GE301.out) | exact HB.out))⟩)
           rintro ⟨gb301, gb302⟩ w56 ⟨hS_, h0_, h1_, h2_, h3_, h4_, h5_, h6_, h7_, h8_, h9_, h10_, h11_, h12_, h13_⟩
           have n0_ : Aside0 (w56.heap[gb296]? = some (.cells #[.int .i64 a0_0, .int .i64 a0_1, .int .i64 a0_2, .int .i64 a0_3] 33 (0, 0))) := ⟨h0_⟩
           have n1_ : Aside0 (w56.heap[gb301]? = some (.cells #[.int .i64 0, .int .i64 0, .int .i64 0] 44 (0, 0))) := ⟨h1_⟩
           have n2_ : Aside0 (w56.heap[gb302]? = some (.cells #[.int .i64 0, .int .i64 0, .int .i64 0] 44 (0, 0))) := ⟨h2_⟩
           have n3_ : Aside0 (w.heap.size ≤ gb301) := ⟨h3_⟩
           have n4_ : Aside0 (w.heap.size ≤ gb301) := ⟨h4_⟩
           have n5_ : Aside0 (gb296 ≠ gb301) := ⟨h5_⟩
           have n6_ : Aside0 (gb301 ≠ gb296) := ⟨h6_⟩
           have n7_ : Aside0 (gb302 ≠ gb301) := ⟨h7_⟩
           have n8_ : Aside0 (gb301 ≠ gb302) := ⟨h8_⟩
           have n9_ : Aside0 (w.heap.size ≤ gb302) := ⟨h9_⟩
           have n10_ : Aside0 (w.heap.size ≤ gb302) := ⟨h10_⟩
           have n11_ : Aside0 (gb296 ≠ gb302) := ⟨h11_⟩
           have n12_ : Aside0 (gb302 ≠ gb296) := ⟨h12_⟩
           have n13_ : Aside0 (Below w.heap.size w w56) := ⟨h13_⟩
           clear BK296
           clear HB
           clear h0_ h1_ h2_ h3_ h4_ h5_ h6_ h7_ h8_ h9_ h10_ h11_ h12_ h13_
           have BK296 := n0_
           have BK301 := n1_
           have BK302 := n2_
           have GW301 := n3_
           have GE301 := n4_
           have NB296_301 := n5_
           have NB301_296 := n6_
           have NB302_301 := n7_
           have NB301_302 := n8_
           have GW302 := n9_
           have GE302 := n10_
           have NB296_302 := n11_
           have NB302_296 := n12_
           have HB := n13_
           clear n0_ n1_ n2_ n3_ n4_ n5_ n6_ n7_ n8_ n9_ n10_ n11_ n12_ n13_
           have hHeld : w56.cell? (ad299.add ((x7_2).toNat * 3)) = some (.int .i64 ((rd_T44 l1 x7_2).f0.f0)) ∧ w56.cell? ⟨(ad299.add ((x7_2).toNat * 3)).block, (ad299.add ((x7_2).toNat * 3)).off + 1, none⟩ = some (.int .i64 ((rd_T44 l1 x7_2).f0.f1)) ∧ w56.cell? ⟨(ad299.add ((x7_2).toNat * 3)).block, (ad299.add ((x7_2).toNat * 3)).off + 2, none⟩ = some (.int .i64 ((rd_T44 l1 x7_2).f1)) ∧ w56.cell? (ad299.add (((ji18)).toNat * 3)) = some (.int .i64 ((rd_T44 l1 (ji18)).f0.f0)) ∧ w56.cell? ⟨(ad299.add (((ji18)).toNat * 3)).block, (ad299.add (((ji18)).toNat * 3)).off + 1, none⟩ = some (.int .i64 ((rd_T44 l1 (ji18)).f0.f1)) ∧ w56.cell? ⟨(ad299.add (((ji18)).toNat * 3)).block, (ad299.add (((ji18)).toNat * 3)).off + 2, none⟩ = some (.int .i64 ((rd_T44 l1 (ji18)).f1)) := hS_
           refine norm_ (a' := ?_) ?_ ?_
           rotate_left
           ·simp only [putAll, Act.put, List.setIfInBounds_toArray, List.set_cons_zero, List.set_cons_succ]
            rfl
           refine one_ (i := 11) (N := none) #[true, true, true, true, true, true, true, true, true, true, true, true, false] rfl rfl (one_of HT_.out (by kernel_rfl)) (by decide) (fun K hK => ?_)
           have hs57 : w56.cell? ⟨gb301, 0, none⟩ = some (.int .i64 0) := (blk_cell BK301.out 0).trans rfl
           have hfs57 := blk_frozen BK301.out 0
           have hns57_0 := NB296_301.out
           have hns57_2 := NB302_301.out
           have hms57_0 := NB301_296.out
           have hms57_2 := NB301_302.out
           have hs58 : w56.cell? ⟨gb301, 1, none⟩ = some (.int .i64 0) := (blk_cell BK301.out 1).trans rfl
           have hfs58 := blk_frozen BK301.out 1
           have hns58_0 := NB296_301.out
           have hns58_2 := NB302_301.out
           have hms58_0 := NB301_296.out
           have hms58_2 := NB301_302.out
           have hs59 : w56.cell? ⟨gb301, 2, none⟩ = some (.int .i64 0) := (blk_cell BK301.out 2).trans rfl
           have hfs59 := blk_frozen BK301.out 2
           have hns59_0 := NB296_301.out
           have hns59_2 := NB302_301.out
           have hms59_0 := NB301_296.out
           have hms59_2 := NB301_302.out
           refine skip_ (w1 := ?_) (by rfl) rfl ?_ ?_
           rotate_left
           ·go_simp
            rfl
           refine hK.out _ _ ⟨((cell_far (p := ⟨gb301, _, none⟩) (by first | exact nn_ (ll_ (by have := bl_ _ _ hw299_0; first | rwa [add_block] at this | exact this) GW301.out) | (rw [add_block]; exact nn_ (ll_ (by have := bl_ _ _ hw299_0; first | rwa [add_block] at this | exact this) GW301.out)) | (show (Addr.add _ _).block ≠ _; rw [add_block]; exact nn_ (ll_ (by have := bl_ _ _ hw299_0; first | rwa [add_block] at this | exact this) GW301.out)) | (dsimp only; exact nn_ (ll_ (by have := bl_ _ _ hw299_0; first | rwa [add_block] at this | exact this) GW301.out))) _).trans (((cell_far (p := ⟨gb301, _, none⟩) (by first | exact nn_ (ll_ (by have := bl_ _ _ hw299_0; first | rwa [add_block] at this | exact this) GW301.out) | (rw [add_block]; exact nn_ (ll_ (by have := bl_ _ _ hw299_0; first | rwa [add_block] at this | exact this) GW301.out)) | (show (Addr.add _ _).block ≠ _; rw [add_block]; exact nn_ (ll_ (by have := bl_ _ _ hw299_0; first | rwa [add_block] at this | exact this) GW301.out)) | (dsimp only; exact nn_ (ll_ (by have := bl_ _ _ hw299_0; first | rwa [add_block] at this | exact this) GW301.out))) _).trans (((cell_far (p := ⟨gb301, _, none⟩) (by first | exact nn_ (ll_ (by have := bl_ _ _ hw299_0; first | rwa [add_block] at this | exact this) GW301.out) | (rw [add_block]; exact nn_ (ll_ (by have := bl_ _ _ hw299_0; first | rwa [add_block] at this | exact this) GW301.out)) | (show (Addr.add _ _).block ≠ _; rw [add_block]; exact nn_ (ll_ (by have := bl_ _ _ hw299_0; first | rwa [add_block] at this | exact this) GW301.out)) | (dsimp only; exact nn_ (ll_ (by have := bl_ _ _ hw299_0; first | rwa [add_block] at this | exact this) GW301.out))) _).trans (hHeld.1)))))), ((cell_far (p := ⟨gb301, _, none⟩) (by first | exact nn_ (ll_ (by have := bl_ _ _ hw299_1; first | rwa [add_block] at this | exact this) GW301.out) | (rw [add_block]; exact nn_ (ll_ (by have := bl_ _ _ hw299_1; first | rwa [add_block] at this | exact this) GW301.out)) | (show (Addr.add _ _).block ≠ _; rw [add_block]; exact nn_ (ll_ (by have := bl_ _ _ hw299_1; first | rwa [add_block] at this | exact this) GW301.out)) | (dsimp only; exact nn_ (ll_ (by have := bl_ _ _ hw299_1; first | rwa [add_block] at this | exact this) GW301.out))) _).trans (((cell_far (p := ⟨gb301, _, none⟩) (by first | exact nn_ (ll_ (by have := bl_ _ _ hw299_1; first | rwa [add_block] at this | exact this) GW301.out) | (rw [add_block]; exact nn_ (ll_ (by have := bl_ _ _ hw299_1; first | rwa [add_block] at this | exact this) GW301.out)) | (show (Addr.add _ _).block ≠ _; rw [add_block]; exact nn_ (ll_ (by have := bl_ _ _ hw299_1; first | rwa [add_block] at this | exact this) GW301.out)) | (dsimp only; exact nn_ (ll_ (by have := bl_ _ _ hw299_1; first | rwa [add_block] at this | exact this) GW301.out))) _).trans (((cell_far (p := ⟨gb301, _, none⟩) (by first | exact nn_ (ll_ (by have := bl_ _ _ hw299_1; first | rwa [add_block] at this | exact this) GW301.out) | (rw [add_block]; exact nn_ (ll_ (by have := bl_ _ _ hw299_1; first | rwa [add_block] at this | exact this) GW301.out)) | (show (Addr.add _ _).block ≠ _; rw [add_block]; exact nn_ (ll_ (by have := bl_ _ _ hw299_1; first | rwa [add_block] at this | exact this) GW301.out)) | (dsimp only; exact nn_ (ll_ (by have := bl_ _ _ hw299_1; first | rwa [add_block] at this | exact this) GW301.out))) _).trans (hHeld.2.1)))))), ((cell_far (p := ⟨gb301, _, none⟩) (by first | exact nn_ (ll_ (by have := bl_ _ _ hw299_2; first | rwa [add_block] at this | exact this) GW301.out) | (rw [add_block]; exact nn_ (ll_ (by have := bl_ _ _ hw299_2; first | rwa [add_block] at this | exact this) GW301.out)) | (show (Addr.add _ _).block ≠ _; rw [add_block]; exact nn_ (ll_ (by have := bl_ _ _ hw299_2; first | rwa [add_block] at this | exact this) GW301.out)) | (dsimp only; exact nn_ (ll_ (by have := bl_ _ _ hw299_2; first | rwa [add_block] at this | exact this) GW301.out))) _).trans (((cell_far (p := ⟨gb301, _, none⟩) (by first | exact nn_ (ll_ (by have := bl_ _ _ hw299_2; first | rwa [add_block] at this | exact this) GW301.out) | (rw [add_block]; exact nn_ (ll_ (by have := bl_ _ _ hw299_2; first | rwa [add_block] at this | exact this) GW301.out)) | (show (Addr.add _ _).block ≠ _; rw [add_block]; exact nn_ (ll_ (by have := bl_ _ _ hw299_2; first | rwa [add_block] at this | exact this) GW301.out)) | (dsimp only; exact nn_ (ll_ (by have := bl_ _ _ hw299_2; first | rwa [add_block] at this | exact this) GW301.out))) _).trans (((cell_far (p := ⟨gb301, _, none⟩) (by first | exact nn_ (ll_ (by have := bl_ _ _ hw299_2; first | rwa [add_block] at this | exact this) GW301.out) | (rw [add_block]; exact nn_ (ll_ (by have := bl_ _ _ hw299_2; first | rwa [add_block] at this | exact this) GW301.out)) | (show (Addr.add _ _).block ≠ _; rw [add_block]; exact nn_ (ll_ (by have := bl_ _ _ hw299_2; first | rwa [add_block] at this | exact this) GW301.out)) | (dsimp only; exact nn_ (ll_ (by have := bl_ _ _ hw299_2; first | rwa [add_block] at this | exact this) GW301.out))) _).trans (hHeld.2.2.1)))))), ((cell_far (p := ⟨gb301, _, none⟩) (by first | exact nn_ (ll_ (by have := bl_ _ _ hw300_0; first | rwa [add_block] at this | exact this) GW301.out) | (rw [add_block]; exact nn_ (ll_ (by have := bl_ _ _ hw300_0; first | rwa [add_block] at this | exact this) GW301.out)) | (show (Addr.add _ _).block ≠ _; rw [add_block]; exact nn_ (ll_ (by have := bl_ _ _ hw300_0; first | rwa [add_block] at this | exact this) GW301.out)) | (dsimp only; exact nn_ (ll_ (by have := bl_ _ _ hw300_0; first | rwa [add_block] at this | exact this) GW301.out))) _).trans (((cell_far (p := ⟨gb301, _, none⟩) (by first | exact nn_ (ll_ (by have := bl_ _ _ hw300_0; first | rwa [add_block] at this | exact this) GW301.out) | (rw [add_block]; exact nn_ (ll_ (by have := bl_ _ _ hw300_0; first | rwa [add_block] at this | exact this) GW301.out)) | (show (Addr.add _ _).block ≠ _; rw [add_block]; exact nn_ (ll_ (by have := bl_ _ _ hw300_0; first | rwa [add_block] at this | exact this) GW301.out)) | (dsimp only; exact nn_ (ll_ (by have := bl_ _ _ hw300_0; first | rwa [add_block] at this | exact this) GW301.out))) _).trans (((cell_far (p := ⟨gb301, _, none⟩) (by first | exact nn_ (ll_ (by have := bl_ _ _ hw300_0; first | rwa [add_block] at this | exact this) GW301.out) | (rw [add_block]; exact nn_ (ll_ (by have := bl_ _ _ hw300_0; first | rwa [add_block] at this | exact this) GW301.out)) | (show (Addr.add _ _).block ≠ _; rw [add_block]; exact nn_ (ll_ (by have := bl_ _ _ hw300_0; first | rwa [add_block] at this | exact this) GW301.out)) | (dsimp only; exact nn_ (ll_ (by have := bl_ _ _ hw300_0; first | rwa [add_block] at this | exact this) GW301.out))) _).trans (hHeld.2.2.2.1)))))), ((cell_far (p := ⟨gb301, _, none⟩) (by first | exact nn_ (ll_ (by have := bl_ _ _ hw300_1; first | rwa [add_block] at this | exact this) GW301.out) | (rw [add_block]; exact nn_ (ll_ (by have := bl_ _ _ hw300_1; first | rwa [add_block] at this | exact this) GW301.out)) | (show (Addr.add _ _).block ≠ _; rw [add_block]; exact nn_ (ll_ (by have := bl_ _ _ hw300_1; first | rwa [add_block] at this | exact this) GW301.out)) | (dsimp only; exact nn_ (ll_ (by have := bl_ _ _ hw300_1; first | rwa [add_block] at this | exact this) GW301.out))) _).trans (((cell_far (p := ⟨gb301, _, none⟩) (by first | exact nn_ (ll_ (by have := bl_ _ _ hw300_1; first | rwa [add_block] at this | exact this) GW301.out) | (rw [add_block]; exact nn_ (ll_ (by have := bl_ _ _ hw300_1; first | rwa [add_block] at this | exact this) GW301.out)) | (show (Addr.add _ _).block ≠ _; rw [add_block]; exact nn_ (ll_ (by have := bl_ _ _ hw300_1; first | rwa [add_block] at this | exact this) GW301.out)) | (dsimp only; exact nn_ (ll_ (by have := bl_ _ _ hw300_1; first | rwa [add_block] at this | exact this) GW301.out))) _).trans (((cell_far (p := ⟨gb301, _, none⟩) (by first | exact nn_ (ll_ (by have := bl_ _ _ hw300_1; first | rwa [add_block] at this | exact this) GW301.out) | (rw [add_block]; exact nn_ (ll_ (by have := bl_ _ _ hw300_1; first | rwa [add_block] at this | exact this) GW301.out)) | (show (Addr.add _ _).block ≠ _; rw [add_block]; exact nn_ (ll_ (by have := bl_ _ _ hw300_1; first | rwa [add_block] at this | exact this) GW301.out)) | (dsimp only; exact nn_ (ll_ (by have := bl_ _ _ hw300_1; first | rwa [add_block] at this | exact this) GW301.out))) _).trans (hHeld.2.2.2.2.1)))))), ((cell_far (p := ⟨gb301, _, none⟩) (by first | exact nn_ (ll_ (by have := bl_ _ _ hw300_2; first | rwa [add_block] at this | exact this) GW301.out) | (rw [add_block]; exact nn_ (ll_ (by have := bl_ _ _ hw300_2; first | rwa [add_block] at this | exact this) GW301.out)) | (show (Addr.add _ _).block ≠ _; rw [add_block]; exact nn_ (ll_ (by have := bl_ _ _ hw300_2; first | rwa [add_block] at this | exact this) GW301.out)) | (dsimp only; exact nn_ (ll_ (by have := bl_ _ _ hw300_2; first | rwa [add_block] at this | exact this) GW301.out))) _).trans (((cell_far (p := ⟨gb301, _, none⟩) (by first | exact nn_ (ll_ (by have := bl_ _ _ hw300_2; first | rwa [add_block] at this | exact this) GW301.out) | (rw [add_block]; exact nn_ (ll_ (by have := bl_ _ _ hw300_2; first | rwa [add_block] at this | exact this) GW301.out)) | (show (Addr.add _ _).block ≠ _; rw [add_block]; exact nn_ (ll_ (by have := bl_ _ _ hw300_2; first | rwa [add_block] at this | exact this) GW301.out)) | (dsimp only; exact nn_ (ll_ (by have := bl_ _ _ hw300_2; first | rwa [add_block] at this | exact this) GW301.out))) _).trans (((cell_far (p := ⟨gb301, _, none⟩) (by first | exact nn_ (ll_ (by have := bl_ _ _ hw300_2; first | rwa [add_block] at this | exact this) GW301.out) | (rw [add_block]; exact nn_ (ll_ (by have := bl_ _ _ hw300_2; first | rwa [add_block] at this | exact this) GW301.out)) | (show (Addr.add _ _).block ≠ _; rw [add_block]; exact nn_ (ll_ (by have := bl_ _ _ hw300_2; first | rwa [add_block] at this | exact this) GW301.out)) | (dsimp only; exact nn_ (ll_ (by have := bl_ _ _ hw300_2; first | rwa [add_block] at this | exact this) GW301.out))) _).trans (hHeld.2.2.2.2.2))))))⟩ (fun hHeld => ?_)
           clear hK K
           refine one_ (i := 12) (N := none) #[true, true, true, true, true, true, true, true, true, true, true, true, true] rfl rfl (one_of HT_.out (by kernel_rfl)) (by decide) (fun K hK => ?_)
           have hs60 : w56.cell? ⟨gb302, 0, none⟩ = some (.int .i64 0) := (blk_cell BK302.out 0).trans rfl
           have hfs60 := blk_frozen BK302.out 0
           have hns60_0 := NB296_302.out
           have hns60_1 := NB301_302.out
           have hms60_0 := NB302_296.out
           have hms60_1 := NB302_301.out
           have hs61 : w56.cell? ⟨gb302, 1, none⟩ = some (.int .i64 0) := (blk_cell BK302.out 1).trans rfl
           have hfs61 := blk_frozen BK302.out 1
           have hns61_0 := NB296_302.out
           have hns61_1 := NB301_302.out
           have hms61_0 := NB302_296.out
           have hms61_1 := NB302_301.out
           have hs62 : w56.cell? ⟨gb302, 2, none⟩ = some (.int .i64 0) := (blk_cell BK302.out 2).trans rfl
           have hfs62 := blk_frozen BK302.out 2
           have hns62_0 := NB296_302.out
           have hns62_1 := NB301_302.out
           have hms62_0 := NB302_296.out
           have hms62_1 := NB302_301.out
           refine skip_ (w1 := ?_) (by rfl) rfl ?_ ?_
           rotate_left
           ·go_simp
            rfl
           refine hK.out _ _ ⟨((cell_far (p := ⟨gb302, _, none⟩) (by first | exact nn_ (ll_ (by have := bl_ _ _ hw299_0; first | rwa [add_block] at this | exact this) GW302.out) | (rw [add_block]; exact nn_ (ll_ (by have := bl_ _ _ hw299_0; first | rwa [add_block] at this | exact this) GW302.out)) | (show (Addr.add _ _).block ≠ _; rw [add_block]; exact nn_ (ll_ (by have := bl_ _ _ hw299_0; first | rwa [add_block] at this | exact this) GW302.out)) | (dsimp only; exact nn_ (ll_ (by have := bl_ _ _ hw299_0; first | rwa [add_block] at this | exact this) GW302.out))) _).trans (((cell_far (p := ⟨gb302, _, none⟩) (by first | exact nn_ (ll_ (by have := bl_ _ _ hw299_0; first | rwa [add_block] at this | exact this) GW302.out) | (rw [add_block]; exact nn_ (ll_ (by have := bl_ _ _ hw299_0; first | rwa [add_block] at this | exact this) GW302.out)) | (show (Addr.add _ _).block ≠ _; rw [add_block]; exact nn_ (ll_ (by have := bl_ _ _ hw299_0; first | rwa [add_block] at this | exact this) GW302.out)) | (dsimp only; exact nn_ (ll_ (by have := bl_ _ _ hw299_0; first | rwa [add_block] at this | exact this) GW302.out))) _).trans (((cell_far (p := ⟨gb302, _, none⟩) (by first | exact nn_ (ll_ (by have := bl_ _ _ hw299_0; first | rwa [add_block] at this | exact this) GW302.out) | (rw [add_block]; exact nn_ (ll_ (by have := bl_ _ _ hw299_0; first | rwa [add_block] at this | exact this) GW302.out)) | (show (Addr.add _ _).block ≠ _; rw [add_block]; exact nn_ (ll_ (by have := bl_ _ _ hw299_0; first | rwa [add_block] at this | exact this) GW302.out)) | (dsimp only; exact nn_ (ll_ (by have := bl_ _ _ hw299_0; first | rwa [add_block] at this | exact this) GW302.out))) _).trans (hHeld.1)))))), ((cell_far (p := ⟨gb302, _, none⟩) (by first | exact nn_ (ll_ (by have := bl_ _ _ hw299_1; first | rwa [add_block] at this | exact this) GW302.out) | (rw [add_block]; exact nn_ (ll_ (by have := bl_ _ _ hw299_1; first | rwa [add_block] at this | exact this) GW302.out)) | (show (Addr.add _ _).block ≠ _; rw [add_block]; exact nn_ (ll_ (by have := bl_ _ _ hw299_1; first | rwa [add_block] at this | exact this) GW302.out)) | (dsimp only; exact nn_ (ll_ (by have := bl_ _ _ hw299_1; first | rwa [add_block] at this | exact this) GW302.out))) _).trans (((cell_far (p := ⟨gb302, _, none⟩) (by first | exact nn_ (ll_ (by have := bl_ _ _ hw299_1; first | rwa [add_block] at this | exact this) GW302.out) | (rw [add_block]; exact nn_ (ll_ (by have := bl_ _ _ hw299_1; first | rwa [add_block] at this | exact this) GW302.out)) | (show (Addr.add _ _).block ≠ _; rw [add_block]; exact nn_ (ll_ (by have := bl_ _ _ hw299_1; first | rwa [add_block] at this | exact this) GW302.out)) | (dsimp only; exact nn_ (ll_ (by have := bl_ _ _ hw299_1; first | rwa [add_block] at this | exact this) GW302.out))) _).trans (((cell_far (p := ⟨gb302, _, none⟩) (by first | exact nn_ (ll_ (by have := bl_ _ _ hw299_1; first | rwa [add_block] at this | exact this) GW302.out) | (rw [add_block]; exact nn_ (ll_ (by have := bl_ _ _ hw299_1; first | rwa [add_block] at this | exact this) GW302.out)) | (show (Addr.add _ _).block ≠ _; rw [add_block]; exact nn_ (ll_ (by have := bl_ _ _ hw299_1; first | rwa [add_block] at this | exact this) GW302.out)) | (dsimp only; exact nn_ (ll_ (by have := bl_ _ _ hw299_1; first | rwa [add_block] at this | exact this) GW302.out))) _).trans (hHeld.2.1)))))), ((cell_far (p := ⟨gb302, _, none⟩) (by first | exact nn_ (ll_ (by have := bl_ _ _ hw299_2; first | rwa [add_block] at this | exact this) GW302.out) | (rw [add_block]; exact nn_ (ll_ (by have := bl_ _ _ hw299_2; first | rwa [add_block] at this | exact this) GW302.out)) | (show (Addr.add _ _).block ≠ _; rw [add_block]; exact nn_ (ll_ (by have := bl_ _ _ hw299_2; first | rwa [add_block] at this | exact this) GW302.out)) | (dsimp only; exact nn_ (ll_ (by have := bl_ _ _ hw299_2; first | rwa [add_block] at this | exact this) GW302.out))) _).trans (((cell_far (p := ⟨gb302, _, none⟩) (by first | exact nn_ (ll_ (by have := bl_ _ _ hw299_2; first | rwa [add_block] at this | exact this) GW302.out) | (rw [add_block]; exact nn_ (ll_ (by have := bl_ _ _ hw299_2; first | rwa [add_block] at this | exact this) GW302.out)) | (show (Addr.add _ _).block ≠ _; rw [add_block]; exact nn_ (ll_ (by have := bl_ _ _ hw299_2; first | rwa [add_block] at this | exact this) GW302.out)) | (dsimp only; exact nn_ (ll_ (by have := bl_ _ _ hw299_2; first | rwa [add_block] at this | exact this) GW302.out))) _).trans (((cell_far (p := ⟨gb302, _, none⟩) (by first | exact nn_ (ll_ (by have := bl_ _ _ hw299_2; first | rwa [add_block] at this | exact this) GW302.out) | (rw [add_block]; exact nn_ (ll_ (by have := bl_ _ _ hw299_2; first | rwa [add_block] at this | exact this) GW302.out)) | (show (Addr.add _ _).block ≠ _; rw [add_block]; exact nn_ (ll_ (by have := bl_ _ _ hw299_2; first | rwa [add_block] at this | exact this) GW302.out)) | (dsimp only; exact nn_ (ll_ (by have := bl_ _ _ hw299_2; first | rwa [add_block] at this | exact this) GW302.out))) _).trans (hHeld.2.2.1)))))), ((cell_far (p := ⟨gb302, _, none⟩) (by first | exact nn_ (ll_ (by have := bl_ _ _ hw300_0; first | rwa [add_block] at this | exact this) GW302.out) | (rw [add_block]; exact nn_ (ll_ (by have := bl_ _ _ hw300_0; first | rwa [add_block] at this | exact this) GW302.out)) | (show (Addr.add _ _).block ≠ _; rw [add_block]; exact nn_ (ll_ (by have := bl_ _ _ hw300_0; first | rwa [add_block] at this | exact this) GW302.out)) | (dsimp only; exact nn_ (ll_ (by have := bl_ _ _ hw300_0; first | rwa [add_block] at this | exact this) GW302.out))) _).trans (((cell_far (p := ⟨gb302, _, none⟩) (by first | exact nn_ (ll_ (by have := bl_ _ _ hw300_0; first | rwa [add_block] at this | exact this) GW302.out) | (rw [add_block]; exact nn_ (ll_ (by have := bl_ _ _ hw300_0; first | rwa [add_block] at this | exact this) GW302.out)) | (show (Addr.add _ _).block ≠ _; rw [add_block]; exact nn_ (ll_ (by have := bl_ _ _ hw300_0; first | rwa [add_block] at this | exact this) GW302.out)) | (dsimp only; exact nn_ (ll_ (by have := bl_ _ _ hw300_0; first | rwa [add_block] at this | exact this) GW302.out))) _).trans (((cell_far (p := ⟨gb302, _, none⟩) (by first | exact nn_ (ll_ (by have := bl_ _ _ hw300_0; first | rwa [add_block] at this | exact this) GW302.out) | (rw [add_block]; exact nn_ (ll_ (by have := bl_ _ _ hw300_0; first | rwa [add_block] at this | exact this) GW302.out)) | (show (Addr.add _ _).block ≠ _; rw [add_block]; exact nn_ (ll_ (by have := bl_ _ _ hw300_0; first | rwa [add_block] at this | exact this) GW302.out)) | (dsimp only; exact nn_ (ll_ (by have := bl_ _ _ hw300_0; first | rwa [add_block] at this | exact this) GW302.out))) _).trans (hHeld.2.2.2.1)))))), ((cell_far (p := ⟨gb302, _, none⟩) (by first | exact nn_ (ll_ (by have := bl_ _ _ hw300_1; first | rwa [add_block] at this | exact this) GW302.out) | (rw [add_block]; exact nn_ (ll_ (by have := bl_ _ _ hw300_1; first | rwa [add_block] at this | exact this) GW302.out)) | (show (Addr.add _ _).block ≠ _; rw [add_block]; exact nn_ (ll_ (by have := bl_ _ _ hw300_1; first | rwa [add_block] at this | exact this) GW302.out)) | (dsimp only; exact nn_ (ll_ (by have := bl_ _ _ hw300_1; first | rwa [add_block] at this | exact this) GW302.out))) _).trans (((cell_far (p := ⟨gb302, _, none⟩) (by first | exact nn_ (ll_ (by have := bl_ _ _ hw300_1; first | rwa [add_block] at this | exact this) GW302.out) | (rw [add_block]; exact nn_ (ll_ (by have := bl_ _ _ hw300_1; first | rwa [add_block] at this | exact this) GW302.out)) | (show (Addr.add _ _).block ≠ _; rw [add_block]; exact nn_ (ll_ (by have := bl_ _ _ hw300_1; first | rwa [add_block] at this | exact this) GW302.out)) | (dsimp only; exact nn_ (ll_ (by have := bl_ _ _ hw300_1; first | rwa [add_block] at this | exact this) GW302.out))) _).trans (((cell_far (p := ⟨gb302, _, none⟩) (by first | exact nn_ (ll_ (by have := bl_ _ _ hw300_1; first | rwa [add_block] at this | exact this) GW302.out) | (rw [add_block]; exact nn_ (ll_ (by have := bl_ _ _ hw300_1; first | rwa [add_block] at this | exact this) GW302.out)) | (show (Addr.add _ _).block ≠ _; rw [add_block]; exact nn_ (ll_ (by have := bl_ _ _ hw300_1; first | rwa [add_block] at this | exact this) GW302.out)) | (dsimp only; exact nn_ (ll_ (by have := bl_ _ _ hw300_1; first | rwa [add_block] at this | exact this) GW302.out))) _).trans (hHeld.2.2.2.2.1)))))), ((cell_far (p := ⟨gb302, _, none⟩) (by first | exact nn_ (ll_ (by have := bl_ _ _ hw300_2; first | rwa [add_block] at this | exact this) GW302.out) | (rw [add_block]; exact nn_ (ll_ (by have := bl_ _ _ hw300_2; first | rwa [add_block] at this | exact this) GW302.out)) | (show (Addr.add _ _).block ≠ _; rw [add_block]; exact nn_ (ll_ (by have := bl_ _ _ hw300_2; first | rwa [add_block] at this | exact this) GW302.out)) | (dsimp only; exact nn_ (ll_ (by have := bl_ _ _ hw300_2; first | rwa [add_block] at this | exact this) GW302.out))) _).trans (((cell_far (p := ⟨gb302, _, none⟩) (by first | exact nn_ (ll_ (by have := bl_ _ _ hw300_2; first | rwa [add_block] at this | exact this) GW302.out) | (rw [add_block]; exact nn_ (ll_ (by have := bl_ _ _ hw300_2; first | rwa [add_block] at this | exact this) GW302.out)) | (show (Addr.add _ _).block ≠ _; rw [add_block]; exact nn_ (ll_ (by have := bl_ _ _ hw300_2; first | rwa [add_block] at this | exact this) GW302.out)) | (dsimp only; exact nn_ (ll_ (by have := bl_ _ _ hw300_2; first | rwa [add_block] at this | exact this) GW302.out))) _).trans (((cell_far (p := ⟨gb302, _, none⟩) (by first | exact nn_ (ll_ (by have := bl_ _ _ hw300_2; first | rwa [add_block] at this | exact this) GW302.out) | (rw [add_block]; exact nn_ (ll_ (by have := bl_ _ _ hw300_2; first | rwa [add_block] at this | exact this) GW302.out)) | (show (Addr.add _ _).block ≠ _; rw [add_block]; exact nn_ (ll_ (by have := bl_ _ _ hw300_2; first | rwa [add_block] at this | exact this) GW302.out)) | (dsimp only; exact nn_ (ll_ (by have := bl_ _ _ hw300_2; first | rwa [add_block] at this | exact this) GW302.out))) _).trans (hHeld.2.2.2.2.2))))))⟩ (fun hHeld => ?_)
           clear hK K
           refine done_ (done_of HT_.out (by kernel_rfl)) ?_
           try go_wp2
           have n0_ : Aside0 (((((((w56.setCell ⟨gb301, 0, none⟩ (.int .i64 ((rd_T44 l1 x7_2).f0.f0))).setCell ⟨gb301, 1, none⟩ (.int .i64 ((rd_T44 l1 x7_2).f0.f1))).setCell ⟨gb301, 2, none⟩ (.int .i64 ((rd_T44 l1 x7_2).f1))).setCell ⟨gb302, 0, none⟩ (.int .i64 ((rd_T44 l1 (ji18)).f0.f0))).setCell ⟨gb302, 1, none⟩ (.int .i64 ((rd_T44 l1 (ji18)).f0.f1))).setCell ⟨gb302, 2, none⟩ (.int .i64 ((rd_T44 l1 (ji18)).f1))).heap[gb296]? = some (.cells #[.int .i64 a0_0, .int .i64 a0_1, .int .i64 a0_2, .int .i64 a0_3] 33 (0, 0))) := ⟨by (with_reducible repeat (first | refine blk_drewN ?_ _ | refine blk_drew ?_ | refine blk_alloc ?_ _)); refine blk_far ?_ NB296_302.out _; (with_reducible repeat (first | refine blk_drewN ?_ _ | refine blk_drew ?_ | refine blk_alloc ?_ _)); refine blk_far ?_ NB296_302.out _; (with_reducible repeat (first | refine blk_drewN ?_ _ | refine blk_drew ?_ | refine blk_alloc ?_ _)); refine blk_far ?_ NB296_302.out _; (with_reducible repeat (first | refine blk_drewN ?_ _ | refine blk_drew ?_ | refine blk_alloc ?_ _)); refine blk_far ?_ NB296_301.out _; (with_reducible repeat (first | refine blk_drewN ?_ _ | refine blk_drew ?_ | refine blk_alloc ?_ _)); refine blk_far ?_ NB296_301.out _; (with_reducible repeat (first | refine blk_drewN ?_ _ | refine blk_drew ?_ | refine blk_alloc ?_ _)); refine blk_far ?_ NB296_301.out _; (with_reducible repeat (first | refine blk_drewN ?_ _ | refine blk_drew ?_ | refine blk_alloc ?_ _)); exact BK296.out⟩
           have n1_ : Aside0 (((((((w56.setCell ⟨gb301, 0, none⟩ (.int .i64 ((rd_T44 l1 x7_2).f0.f0))).setCell ⟨gb301, 1, none⟩ (.int .i64 ((rd_T44 l1 x7_2).f0.f1))).setCell ⟨gb301, 2, none⟩ (.int .i64 ((rd_T44 l1 x7_2).f1))).setCell ⟨gb302, 0, none⟩ (.int .i64 ((rd_T44 l1 (ji18)).f0.f0))).setCell ⟨gb302, 1, none⟩ (.int .i64 ((rd_T44 l1 (ji18)).f0.f1))).setCell ⟨gb302, 2, none⟩ (.int .i64 ((rd_T44 l1 (ji18)).f1))).heap[gb301]? = some (.cells #[.int .i64 ((rd_T44 l1 x7_2).f0.f0), .int .i64 ((rd_T44 l1 x7_2).f0.f1), .int .i64 ((rd_T44 l1 x7_2).f1)] 44 (0, 0))) := ⟨by (with_reducible repeat (first | refine blk_drewN ?_ _ | refine blk_drew ?_ | refine blk_alloc ?_ _)); refine blk_far ?_ NB301_302.out _; (with_reducible repeat (first | refine blk_drewN ?_ _ | refine blk_drew ?_ | refine blk_alloc ?_ _)); refine blk_far ?_ NB301_302.out _; (with_reducible repeat (first | refine blk_drewN ?_ _ | refine blk_drew ?_ | refine blk_alloc ?_ _)); refine blk_far ?_ NB301_302.out _; (with_reducible repeat (first | refine blk_drewN ?_ _ | refine blk_drew ?_ | refine blk_alloc ?_ _)); refine blk_put (cs := #[.int .i64 ((rd_T44 l1 x7_2).f0.f0), .int .i64 ((rd_T44 l1 x7_2).f0.f1), .int .i64 0]) ?_ 2 _ rfl; (with_reducible repeat (first | refine blk_drewN ?_ _ | refine blk_drew ?_ | refine blk_alloc ?_ _)); refine blk_put (cs := #[.int .i64 ((rd_T44 l1 x7_2).f0.f0), .int .i64 0, .int .i64 0]) ?_ 1 _ rfl; (with_reducible repeat (first | refine blk_drewN ?_ _ | refine blk_drew ?_ | refine blk_alloc ?_ _)); refine blk_put (cs := #[.int .i64 0, .int .i64 0, .int .i64 0]) ?_ 0 _ rfl; (with_reducible repeat (first | refine blk_drewN ?_ _ | refine blk_drew ?_ | refine blk_alloc ?_ _)); exact BK301.out⟩
           have n2_ : Aside0 (((((((w56.setCell ⟨gb301, 0, none⟩ (.int .i64 ((rd_T44 l1 x7_2).f0.f0))).setCell ⟨gb301, 1, none⟩ (.int .i64 ((rd_T44 l1 x7_2).f0.f1))).setCell ⟨gb301, 2, none⟩ (.int .i64 ((rd_T44 l1 x7_2).f1))).setCell ⟨gb302, 0, none⟩ (.int .i64 ((rd_T44 l1 (ji18)).f0.f0))).setCell ⟨gb302, 1, none⟩ (.int .i64 ((rd_T44 l1 (ji18)).f0.f1))).setCell ⟨gb302, 2, none⟩ (.int .i64 ((rd_T44 l1 (ji18)).f1))).heap[gb302]? = some (.cells #[.int .i64 ((rd_T44 l1 (ji18)).f0.f0), .int .i64 ((rd_T44 l1 (ji18)).f0.f1), .int .i64 ((rd_T44 l1 (ji18)).f1)] 44 (0, 0))) := ⟨by (with_reducible repeat (first | refine blk_drewN ?_ _ | refine blk_drew ?_ | refine blk_alloc ?_ _)); refine blk_put (cs := #[.int .i64 ((rd_T44 l1 (ji18)).f0.f0), .int .i64 ((rd_T44 l1 (ji18)).f0.f1), .int .i64 0]) ?_ 2 _ rfl; (with_reducible repeat (first | refine blk_drewN ?_ _ | refine blk_drew ?_ | refine blk_alloc ?_ _)); refine blk_put (cs := #[.int .i64 ((rd_T44 l1 (ji18)).f0.f0), .int .i64 0, .int .i64 0]) ?_ 1 _ rfl; (with_reducible repeat (first | refine blk_drewN ?_ _ | refine blk_drew ?_ | refine blk_alloc ?_ _)); refine blk_put (cs := #[.int .i64 0, .int .i64 0, .int .i64 0]) ?_ 0 _ rfl; (with_reducible repeat (first | refine blk_drewN ?_ _ | refine blk_drew ?_ | refine blk_alloc ?_ _)); refine blk_far ?_ NB302_301.out _; (with_reducible repeat (first | refine blk_drewN ?_ _ | refine blk_drew ?_ | refine blk_alloc ?_ _)); refine blk_far ?_ NB302_301.out _; (with_reducible repeat (first | refine blk_drewN ?_ _ | refine blk_drew ?_ | refine blk_alloc ?_ _)); refine blk_far ?_ NB302_301.out _; (with_reducible repeat (first | refine blk_drewN ?_ _ | refine blk_drew ?_ | refine blk_alloc ?_ _)); exact BK302.out⟩
           have n3_ : Aside0 (Below w.heap.size w ((((((w56.setCell ⟨gb301, 0, none⟩ (.int .i64 ((rd_T44 l1 x7_2).f0.f0))).setCell ⟨gb301, 1, none⟩ (.int .i64 ((rd_T44 l1 x7_2).f0.f1))).setCell ⟨gb301, 2, none⟩ (.int .i64 ((rd_T44 l1 x7_2).f1))).setCell ⟨gb302, 0, none⟩ (.int .i64 ((rd_T44 l1 (ji18)).f0.f0))).setCell ⟨gb302, 1, none⟩ (.int .i64 ((rd_T44 l1 (ji18)).f0.f1))).setCell ⟨gb302, 2, none⟩ (.int .i64 ((rd_T44 l1 (ji18)).f1)))) := ⟨by repeat (first | (with_reducible first | exact HB.out | apply below_alloc | apply pw_below_drewN | apply below_drew1 | refine below_set ?_ GE296.out | refine below_set ?_ GE301.out | refine below_set ?_ GE302.out) | exact HB.out)⟩
           (try clear BK296)
           (try clear BK301)
           (try clear BK302)
           (try clear HB)
           generalize ((((((w56.setCell ⟨gb301, 0, none⟩ (.int .i64 ((rd_T44 l1 x7_2).f0.f0))).setCell ⟨gb301, 1, none⟩ (.int .i64 ((rd_T44 l1 x7_2).f0.f1))).setCell ⟨gb301, 2, none⟩ (.int .i64 ((rd_T44 l1 x7_2).f1))).setCell ⟨gb302, 0, none⟩ (.int .i64 ((rd_T44 l1 (ji18)).f0.f0))).setCell ⟨gb302, 1, none⟩ (.int .i64 ((rd_T44 l1 (ji18)).f0.f1))).setCell ⟨gb302, 2, none⟩ (.int .i64 ((rd_T44 l1 (ji18)).f1))) = w63 at n0_ n1_ n2_ n3_ ⊢
           have BK296 := n0_
           have BK301 := n1_
           have BK302 := n2_
           have HB := n3_
           clear n0_ n1_ n2_ n3_
           have n0_ := Aside0.mk (blk_drew BK296.out)
           have n1_ := Aside0.mk (blk_drew BK301.out)
           have n2_ := Aside0.mk (blk_drew BK302.out)
           have n3_ := Aside0.mk (below_drew1 HB.out)
           clear BK296
           clear BK301
           clear BK302
           clear HB
           have BK296 := n0_
           have BK301 := n1_
           have BK302 := n2_
           have HB := n3_
           clear n0_ n1_ n2_ n3_
           refine start_ (n := 28) (S := fun w' => w'.cell? ⟨gb301, 0, none⟩ = some (.int .i64 ((rd_T44 l1 x7_2).f0.f0)) ∧ w'.cell? ⟨gb301, 1, none⟩ = some (.int .i64 ((rd_T44 l1 x7_2).f0.f1)) ∧ w'.cell? ⟨gb301, 2, none⟩ = some (.int .i64 ((rd_T44 l1 x7_2).f1)) ∧ w'.cell? ⟨gb302, 0, none⟩ = some (.int .i64 ((rd_T44 l1 (ji18)).f0.f0)) ∧ w'.cell? ⟨gb302, 1, none⟩ = some (.int .i64 ((rd_T44 l1 (ji18)).f0.f1)) ∧ w'.cell? ⟨gb302, 2, none⟩ = some (.int .i64 ((rd_T44 l1 (ji18)).f1))) (ds := []) #[false, false, false, false, false, false, false, false, false, false, false, false, false, false, false, false, false, false, false, false, false, false, false, false, false, false, false, false] (by kernel_rfl) rfl rfl ⟨(blk_cell BK301.out 0).trans rfl, (blk_cell BK301.out 1).trans rfl, (blk_cell BK301.out 2).trans rfl, (blk_cell BK302.out 0).trans rfl, (blk_cell BK302.out 1).trans rfl, (blk_cell BK302.out 2).trans rfl⟩ (fun hHeld => ?_); refine with_tabW impl_EarlyAt.tab7 impl_EarlyAt.bits7 (fun HT_ HW_ => ?_)
           generalize w63.drew = w64 at BK296 BK301 BK302 HB hHeld ⊢
           refine pure_ (i := 0) (N := some 34) (v := ?_) (a' := ?_) #[true, false, false, false, false, false, false, false, false, false, false, false, false, false, false, false, false, false, false, false, false, false, false, false, false, false, false, false] rfl rfl (any_of HT_.out (by kernel_rfl)) (fun _ _ _ h => h) (Or.inl ⟨by rfl, ?_⟩) ?_ ?_
           rotate_left
           ·intro w'
            go_simp
            with_reducible rfl
           rotate_left
           ·simp only [Act.put, List.setIfInBounds_toArray, List.set_cons_zero, List.set_cons_succ, i64_w, i32_w]
            rfl
           refine pure_ (i := 1) (N := some 35) (v := ?_) (a' := ?_) #[true, true, false, false, false, false, false, false, false, false, false, false, false, false, false, false, false, false, false, false, false, false, false, false, false, false, false, false] rfl rfl (any_of HT_.out (by kernel_rfl)) (fun _ _ _ h => h) (Or.inl ⟨by rfl, ?_⟩) ?_ ?_
           rotate_left
           ·intro w'
            go_simp
            with_reducible rfl
           rotate_left
           ·simp only [Act.put, List.setIfInBounds_toArray, List.set_cons_zero, List.set_cons_succ, i64_w, i32_w]
            rfl
           refine pure_ (i := 3) (N := some 37) (v := ?_) (a' := ?_) #[true, true, false, true, false, false, false, false, false, false, false, false, false, false, false, false, false, false, false, false, false, false, false, false, false, false, false, false] rfl rfl (any_of HT_.out (by kernel_rfl)) (fun _ _ _ h => h) (Or.inl ⟨by rfl, ?_⟩) ?_ ?_
           rotate_left
           ·intro w'
            go_simp
            with_reducible rfl
           rotate_left
           ·simp only [Act.put, List.setIfInBounds_toArray, List.set_cons_zero, List.set_cons_succ, i64_w, i32_w]
            rfl
           refine take_ (i := 2) (N := some 36) (v := ?_) (a' := ?_) #[true, true, true, true, false, false, false, false, false, false, false, false, false, false, false, false, false, false, false, false, false, false, false, false, false, false, false, false] rfl rfl (take_ofW HT_.out HW_.out (by kernel_rfl)) (fun _ _ _ h => h) (Or.inl ⟨by rfl, ?_⟩) hHeld ?_ ?_
           rotate_left
           ·rintro w' ⟨s0, s1, s2, s3, s4, s5⟩
            go_simp
            with_reducible rfl
           rotate_left
           ·simp only [Act.put, List.setIfInBounds_toArray, List.set_cons_zero, List.set_cons_succ, i64_w, i32_w]
            rfl
           refine take_ (i := 4) (N := some 38) (v := ?_) (a' := ?_) #[true, true, true, true, true, false, false, false, false, false, false, false, false, false, false, false, false, false, false, false, false, false, false, false, false, false, false, false] rfl rfl (take_ofW HT_.out HW_.out (by kernel_rfl)) (fun _ _ _ h => h) (Or.inl ⟨by rfl, ?_⟩) hHeld ?_ ?_
           rotate_left
           ·rintro w' ⟨s0, s1, s2, s3, s4, s5⟩
            go_simp
            with_reducible rfl
           rotate_left
           ·simp only [Act.put, List.setIfInBounds_toArray, List.set_cons_zero, List.set_cons_succ, i64_w, i32_w]
            rfl
           refine one_ (i := 5) (N := some 39) #[true, true, true, true, true, true, false, false, false, false, false, false, false, false, false, false, false, false, false, false, false, false, false, false, false, false, false, false] rfl rfl (one_of HT_.out (by kernel_rfl)) (by decide) (fun K hK => ?_)
           refine goes_ Try.func34 (by kernel_rfl) rfl #[.int .i64 a2, .int .i64 ((rd_T44 l1 x7_2).f1), .int .i64 ((rd_T44 l1 (ji18)).f1)] (by rfl) rfl rfl (by (try simp only [List.map_toArray, List.map_cons, List.map_nil]); first | done | (simp only [hji18]; rfl) | rfl | (simp only [List.length_drop, List.length_take]; rfl)) ?_
           with_reducible refine (impl_within.calls a2 ((rd_T44 l1 x7_2).f1) ((rd_T44 l1 (ji18)).f1) false _ A20.out).mono ?_
           rintro e w' ⟨rfl, ⟨nd, rfl⟩⟩
           refine ⟨_, rfl, ?_⟩
           refine hK.out _ _ ⟨(blk_cell BK301.out 0).trans rfl, (blk_cell BK301.out 1).trans rfl, (blk_cell BK301.out 2).trans rfl, (blk_cell BK302.out 0).trans rfl, (blk_cell BK302.out 1).trans rfl, (blk_cell BK302.out 2).trans rfl⟩ (fun hHeld => ?_)
           clear hK K
           refine norm_ (a' := ?_) ?_ ?_
           rotate_left
           ·show Act.put _ (some 39) _ = _
            simp only [Act.put, List.setIfInBounds_toArray, List.set_cons_zero, List.set_cons_succ, i64_w, i32_w]
            rfl
           refine pure_ (i := 6) (N := some 40) (v := ?_) (a' := ?_) #[true, true, true, true, true, true, true, false, false, false, false, false, false, false, false, false, false, false, false, false, false, false, false, false, false, false, false, false] rfl rfl (any_of HT_.out (by kernel_rfl)) (fun _ _ _ h => h) (Or.inl ⟨by rfl, ?_⟩) ?_ ?_
           rotate_left
           ·intro w'
            go_simp
            with_reducible rfl
           rotate_left
           ·simp only [Act.put, List.setIfInBounds_toArray, List.set_cons_zero, List.set_cons_succ, i64_w, i32_w]
            rfl
           refine pure_ (i := 7) (N := some 41) (v := undef) (a' := ?_) #[true, true, true, true, true, true, true, true, false, false, false, false, false, false, false, false, false, false, false, false, false, false, false, false, false, false, false, false] rfl rfl (any_of HT_.out (by kernel_rfl)) (fun _ _ _ h => h) (Or.inr ⟨by rfl, rfl⟩) ?_ ?_
           rotate_left
           ·simp only [Act.put, List.setIfInBounds_toArray, List.set_cons_zero, List.set_cons_succ, i64_w, i32_w]
            rfl
           refine pure_ (i := 8) (N := some 42) (v := undef) (a' := ?_) #[true, true, true, true, true, true, true, true, true, false, false, false, false, false, false, false, false, false, false, false, false, false, false, false, false, false, false, false] rfl rfl (any_of HT_.out (by kernel_rfl)) (fun _ _ _ h => h) (Or.inr ⟨by rfl, rfl⟩) ?_ ?_
           rotate_left
           ·simp only [Act.put, List.setIfInBounds_toArray, List.set_cons_zero, List.set_cons_succ, i64_w, i32_w]
            rfl
           refine pure_ (i := 9) (N := some 43) (v := undef) (a' := ?_) #[true, true, true, true, true, true, true, true, true, true, false, false, false, false, false, false, false, false, false, false, false, false, false, false, false, false, false, false] rfl rfl (any_of HT_.out (by kernel_rfl)) (fun _ _ _ h => h) (Or.inr ⟨by rfl, rfl⟩) ?_ ?_
           rotate_left
           ·simp only [Act.put, List.setIfInBounds_toArray, List.set_cons_zero, List.set_cons_succ, i64_w, i32_w]
            rfl
           refine pure_ (i := 10) (N := some 44) (v := undef) (a' := ?_) #[true, true, true, true, true, true, true, true, true, true, true, false, false, false, false, false, false, false, false, false, false, false, false, false, false, false, false, false] rfl rfl (any_of HT_.out (by kernel_rfl)) (fun _ _ _ h => h) (Or.inr ⟨by rfl, rfl⟩) ?_ ?_
           rotate_left
           ·simp only [Act.put, List.setIfInBounds_toArray, List.set_cons_zero, List.set_cons_succ, i64_w, i32_w]
            rfl
           refine pure_ (i := 11) (N := some 45) (v := undef) (a' := ?_) #[true, true, true, true, true, true, true, true, true, true, true, true, false, false, false, false, false, false, false, false, false, false, false, false, false, false, false, false] rfl rfl (any_of HT_.out (by kernel_rfl)) (fun _ _ _ h => h) (Or.inr ⟨by rfl, rfl⟩) ?_ ?_
           rotate_left
           ·simp only [Act.put, List.setIfInBounds_toArray, List.set_cons_zero, List.set_cons_succ, i64_w, i32_w]
            rfl
           refine pure_ (i := 12) (N := some 46) (v := undef) (a' := ?_) #[true, true, true, true, true, true, true, true, true, true, true, true, true, false, false, false, false, false, false, false, false, false, false, false, false, false, false, false] rfl rfl (any_of HT_.out (by kernel_rfl)) (fun _ _ _ h => h) (Or.inr ⟨by rfl, rfl⟩) ?_ ?_
           rotate_left
           ·simp only [Act.put, List.setIfInBounds_toArray, List.set_cons_zero, List.set_cons_succ, i64_w, i32_w]
            rfl
           refine pure_ (i := 13) (N := some 47) (v := undef) (a' := ?_) #[true, true, true, true, true, true, true, true, true, true, true, true, true, true, false, false, false, false, false, false, false, false, false, false, false, false, false, false] rfl rfl (any_of HT_.out (by kernel_rfl)) (fun _ _ _ h => h) (Or.inr ⟨by rfl, rfl⟩) ?_ ?_
           rotate_left
           ·simp only [Act.put, List.setIfInBounds_toArray, List.set_cons_zero, List.set_cons_succ, i64_w, i32_w]
            rfl
           refine pure_ (i := 14) (N := some 48) (v := undef) (a' := ?_) #[true, true, true, true, true, true, true, true, true, true, true, true, true, true, true, false, false, false, false, false, false, false, false, false, false, false, false, false] rfl rfl (any_of HT_.out (by kernel_rfl)) (fun _ _ _ h => h) (Or.inr ⟨by rfl, rfl⟩) ?_ ?_
           rotate_left
           ·simp only [Act.put, List.setIfInBounds_toArray, List.set_cons_zero, List.set_cons_succ, i64_w, i32_w]
            rfl
           refine pure_ (i := 15) (N := some 49) (v := undef) (a' := ?_) #[true, true, true, true, true, true, true, true, true, true, true, true, true, true, true, true, false, false, false, false, false, false, false, false, false, false, false, false] rfl rfl (any_of HT_.out (by kernel_rfl)) (fun _ _ _ h => h) (Or.inr ⟨by rfl, rfl⟩) ?_ ?_
           rotate_left
           ·simp only [Act.put, List.setIfInBounds_toArray, List.set_cons_zero, List.set_cons_succ, i64_w, i32_w]
            rfl
           refine pure_ (i := 16) (N := some 50) (v := undef) (a' := ?_) #[true, true, true, true, true, true, true, true, true, true, true, true, true, true, true, true, true, false, false, false, false, false, false, false, false, false, false, false] rfl rfl (any_of HT_.out (by kernel_rfl)) (fun _ _ _ h => h) (Or.inr ⟨by rfl, rfl⟩) ?_ ?_
           rotate_left
           ·simp only [Act.put, List.setIfInBounds_toArray, List.set_cons_zero, List.set_cons_succ, i64_w, i32_w]
            rfl
           refine pure_ (i := 17) (N := some 51) (v := undef) (a' := ?_) #[true, true, true, true, true, true, true, true, true, true, true, true, true, true, true, true, true, true, false, false, false, false, false, false, false, false, false, false] rfl rfl (any_of HT_.out (by kernel_rfl)) (fun _ _ _ h => h) (Or.inr ⟨by rfl, rfl⟩) ?_ ?_
           rotate_left
           ·simp only [Act.put, List.setIfInBounds_toArray, List.set_cons_zero, List.set_cons_succ, i64_w, i32_w]
            rfl
           refine pure_ (i := 18) (N := some 52) (v := undef) (a' := ?_) #[true, true, true, true, true, true, true, true, true, true, true, true, true, true, true, true, true, true, true, false, false, false, false, false, false, false, false, false] rfl rfl (any_of HT_.out (by kernel_rfl)) (fun _ _ _ h => h) (Or.inr ⟨by rfl, rfl⟩) ?_ ?_
           rotate_left
           ·simp only [Act.put, List.setIfInBounds_toArray, List.set_cons_zero, List.set_cons_succ, i64_w, i32_w]
            rfl
           refine pure_ (i := 19) (N := some 53) (v := undef) (a' := ?_) #[true, true, true, true, true, true, true, true, true, true, true, true, true, true, true, true, true, true, true, true, false, false, false, false, false, false, false, false] rfl rfl (any_of HT_.out (by kernel_rfl)) (fun _ _ _ h => h) (Or.inr ⟨by rfl, rfl⟩) ?_ ?_
           rotate_left
           ·simp only [Act.put, List.setIfInBounds_toArray, List.set_cons_zero, List.set_cons_succ, i64_w, i32_w]
            rfl
           refine pure_ (i := 20) (N := some 54) (v := undef) (a' := ?_) #[true, true, true, true, true, true, true, true, true, true, true, true, true, true, true, true, true, true, true, true, true, false, false, false, false, false, false, false] rfl rfl (any_of HT_.out (by kernel_rfl)) (fun _ _ _ h => h) (Or.inr ⟨by rfl, rfl⟩) ?_ ?_
           rotate_left
           ·simp only [Act.put, List.setIfInBounds_toArray, List.set_cons_zero, List.set_cons_succ, i64_w, i32_w]
            rfl
           refine pure_ (i := 21) (N := some 55) (v := undef) (a' := ?_) #[true, true, true, true, true, true, true, true, true, true, true, true, true, true, true, true, true, true, true, true, true, true, false, false, false, false, false, false] rfl rfl (any_of HT_.out (by kernel_rfl)) (fun _ _ _ h => h) (Or.inr ⟨by rfl, rfl⟩) ?_ ?_
           rotate_left
           ·simp only [Act.put, List.setIfInBounds_toArray, List.set_cons_zero, List.set_cons_succ, i64_w, i32_w]
            rfl
           refine pure_ (i := 22) (N := some 56) (v := undef) (a' := ?_) #[true, true, true, true, true, true, true, true, true, true, true, true, true, true, true, true, true, true, true, true, true, true, true, false, false, false, false, false] rfl rfl (any_of HT_.out (by kernel_rfl)) (fun _ _ _ h => h) (Or.inr ⟨by rfl, rfl⟩) ?_ ?_
           rotate_left
           ·simp only [Act.put, List.setIfInBounds_toArray, List.set_cons_zero, List.set_cons_succ, i64_w, i32_w]
            rfl
           refine pure_ (i := 23) (N := some 57) (v := undef) (a' := ?_) #[true, true, true, true, true, true, true, true, true, true, true, true, true, true, true, true, true, true, true, true, true, true, true, true, false, false, false, false] rfl rfl (any_of HT_.out (by kernel_rfl)) (fun _ _ _ h => h) (Or.inr ⟨by rfl, rfl⟩) ?_ ?_
           rotate_left
           ·simp only [Act.put, List.setIfInBounds_toArray, List.set_cons_zero, List.set_cons_succ, i64_w, i32_w]
            rfl
           refine pure_ (i := 24) (N := some 58) (v := undef) (a' := ?_) #[true, true, true, true, true, true, true, true, true, true, true, true, true, true, true, true, true, true, true, true, true, true, true, true, true, false, false, false] rfl rfl (any_of HT_.out (by kernel_rfl)) (fun _ _ _ h => h) (Or.inr ⟨by rfl, rfl⟩) ?_ ?_
           rotate_left
           ·simp only [Act.put, List.setIfInBounds_toArray, List.set_cons_zero, List.set_cons_succ, i64_w, i32_w]
            rfl
           refine pure_ (i := 25) (N := some 59) (v := undef) (a' := ?_) #[true, true, true, true, true, true, true, true, true, true, true, true, true, true, true, true, true, true, true, true, true, true, true, true, true, true, false, false] rfl rfl (any_of HT_.out (by kernel_rfl)) (fun _ _ _ h => h) (Or.inr ⟨by rfl, rfl⟩) ?_ ?_
           rotate_left
           ·simp only [Act.put, List.setIfInBounds_toArray, List.set_cons_zero, List.set_cons_succ, i64_w, i32_w]
            rfl
           refine pure_ (i := 26) (N := some 60) (v := undef) (a' := ?_) #[true, true, true, true, true, true, true, true, true, true, true, true, true, true, true, true, true, true, true, true, true, true, true, true, true, true, true, false] rfl rfl (any_of HT_.out (by kernel_rfl)) (fun _ _ _ h => h) (Or.inr ⟨by rfl, rfl⟩) ?_ ?_
           rotate_left
           ·simp only [Act.put, List.setIfInBounds_toArray, List.set_cons_zero, List.set_cons_succ, i64_w, i32_w]
            rfl
           refine pure_ (i := 27) (N := some 61) (v := ?_) (a' := ?_) #[true, true, true, true, true, true, true, true, true, true, true, true, true, true, true, true, true, true, true, true, true, true, true, true, true, true, true, true] rfl rfl (any_of HT_.out (by kernel_rfl)) (fun _ _ _ h => h) (Or.inl ⟨by rfl, ?_⟩) ?_ ?_
           rotate_left
           ·intro w'
            go_simp
            with_reducible rfl
           rotate_left
           ·simp only [Act.put, List.setIfInBounds_toArray, List.set_cons_zero, List.set_cons_succ, i64_w, i32_w]
            rfl
           refine done_ (done_of HT_.out (by kernel_rfl)) ?_
           try go_wp2
           go_roundg k2
           case measure => have := HJ3.out; have := HK2.out; omega
           case rel => exact ⟨(ji18), (by first | rfl | (simp; done) | (simp only [← hji18] <;> (first | rfl | simp)) | (simp [*]; done)), H', ⟨by have := HJ3.out; have := HK2.out; omega⟩, ⟨by (with_reducible repeat (first | refine blk_drewN ?_ _ | refine blk_drew ?_ | refine blk_alloc ?_ _)); exact BK296.out⟩, ⟨by repeat (first | (with_reducible first | exact HB.out | apply below_alloc | apply pw_below_drewN | apply below_drew1 | refine below_set ?_ GE296.out | refine below_set ?_ GE301.out | refine below_set ?_ GE302.out) | exact HB.out)⟩⟩
         ·rw [if_neg c19] at H
          exact absurd H (by simp)
        ·rw [if_neg c17] at H
         exact absurd H (by simp)
       ·rw [if_neg c16] at H
        exact absurd H (by simp)
      ·rw [if_neg c15] at H
       have c15b0 : decide ((wrap64 (x7_2 + 1)) < (l1.length : Int)) = false := decide_eq_false c15
       clear c15
       obtain rfl := Option.some.inj H
       go_wp2
       go_ret
       exact ⟨by first | rfl | (simp [errW_none, errW_some] <;> rfl) | (simp [*, errW_none, errW_some] <;> rfl), by repeat (first | (with_reducible first | exact HB.out | apply below_alloc | apply pw_below_drewN | apply below_drew1 | refine below_set ?_ GE296.out) | exact HB.out)⟩

end Go.Proofs.Ytfllkcmmaibijaa.PFnCutTrack
