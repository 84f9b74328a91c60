/- Tides as they are drawn: l05Any. -/
import Derived.Test.YtjohpjmfnghkoaaTda
import Derived.OpenShut
namespace Go.Proofs.Ytjohpjmfnghkoaa.Ty
open Go.RowKit Kit Fl Bd Dw Td Hnd Go.Proofs.YtjohpjmfnghkoaaW.PrintWords Go.Proofs.YtjohpjmfnghkoaaW.PrintLast Go.Proofs.YtjohpjmfnghkoaaW.PrintMore PFnHighNearest
/-- the cells of a row of stations -/
theorem st_cells {w : World} {e base : Nat} {ok : Nat → Prop} {A : Option Addr} {n c : Nat} {sts : List Stn} (h : stKd.R e w base ok (.slice A n c) sts) (h1 : 1 ≤ sts.length) : ∃ (b : Nat) (s : Stn), A = some ⟨b, 0, none⟩ ∧ ∀ i, i < 14 → w.cell? ⟨b, i, none⟩ = s.cells[i]? := by
  obtain ⟨A', c', e1, hc, hC⟩ := Kd.R_reads h
  injection e1 with e1 e2 e3
  subst e1 e2 e3
  obtain ⟨ad, rfl, hcell⟩ := hC.2.2 (by omega)
  obtain ⟨b, rfl⟩ := Kd.R_head h
  obtain ⟨cs, hl, hK, hu⟩ := hcell 0 _ (List.getElem?_eq_getElem (by omega))
  have hK' : cs = (sts[0]'(by omega)).cells.toList := hK
  rw [hK'] at hu
  refine ⟨b, sts[0]'(by omega), rfl, fun i hi => ?_⟩
  have hs : i < (sts[0]'(by omega)).cells.toList.length := by rw [stn_len]; exact hi
  have := hu i _ (List.getElem?_eq_getElem hs)
  rw [Addr.add_lit] at this
  have e1 : 0 + (0 * stKd.sz + i) = i := by omega
  rw [e1] at this
  rw [this, Array.getElem?_eq_getElem (by simpa using hs)]
  simp
theorem byte_k {w0 ws w : World} {g : Nat} {m : Int} (hm : m ≤ 2000000) (hC : Cur2 w0 ws w g m) :
    Calls Try.prog 65 #[.pointer (some ⟨g, 0, none⟩)] w fun e w' => ∃ r : Int, e = .returned (.int .i64 r) ∧ 0 ≤ r ∧ r ≤ 255 ∧ Cur2 w0 ws w' g (m + 4) := by
  obtain ⟨⟨⟨b, i, h, h1, h2, h3⟩, hB⟩, hK⟩ := hC
  obtain ⟨x, i', h', e, a, c, d, f⟩ := byte_some b i h ⟨h2, by omega⟩
  refine (spec_l01Byte.calls g b i h x i' h' w0 w h1 hB e).mono ?_
  rintro e w' ⟨rfl, k1, k2, k3⟩
  exact ⟨x, rfl, d, f, ⟨⟨b, i', h', k1, a, by omega⟩, k2⟩, hK.trans k3 (.inl rfl)⟩
/-- a call that leaves all elder blocks alone -/
theorem Cur2.step {w0 ws w w1 : World} {g : Nat} {m : Int} (h : Cur2 w0 ws w g m) (hb : Below w.heap.size w w1) : Cur2 w0 ws w1 g m := by
  obtain ⟨⟨⟨b, i, k, ⟨A0, c0, e1, e2, e3⟩, h2, h3⟩, h4⟩, h5⟩ := h
  exact ⟨⟨⟨b, i, k, ⟨A0, c0, blk_below e1 hb, e2, e3⟩, h2, h3⟩, h4.trans (hb.mono h4.size)⟩, h5.trans (KeepBut.of_below hb g none) (.inl rfl)⟩
theorem AI.step {w0 ws w w1 : World} {g T : Nat} {A1 A2 : Option Addr} {n1 c1 n2 c2 : Nat} {m : Int} (h : AI w0 ws w g T A1 n1 c1 A2 n2 c2 m) (hb : Below w.heap.size w w1) : AI w0 ws w1 g T A1 n1 c1 A2 n2 c2 m := ⟨Cur2.step h.cur hb, blk_below h.t hb, h.ge, h.s.below hb⟩
theorem lit8 (w : World) (x : Int) (hx : (Lit.int .u8 x).wf = true) : ∃ l : List Int, l.length = 1 ∧ Kd.C (Kd.int .u8) (w.alloc (.cells #[.int .u8 x] 5)) (some ⟨w.heap.size, 0, none⟩) l.length l := by
  obtain ⟨l, h1, h2, _, _, _⟩ := ReadsInt.ofRowC (k := .u8) (w := w.alloc (.cells #[.int .u8 x] 5)) (a := some ⟨w.heap.size, 0, none⟩) (len := 1) (cap := 1) (zs := [x])
    (Or.inr ⟨⟨w.heap.size, 0, none⟩, rfl, Nat.le_refl _, by unfold maxLen; omega, rfl, fun i hi => by
      have : i = 0 := by simpa using hi
      subst this
      rw [Addr.add_lit, World.cell?_alloc_at _ _ _ _ rfl]
      rfl, by simpa using hx⟩)
  exact ⟨l, h1.symm, Kd.C_of_reads (d := (0 : Int)) (h1 := fun _ => rfl) h2⟩
set_option maxRecDepth 100000 in
theorem vecOk_call {W : World} {A : Option Addr} {c : Nat} {l : List Int} (hr : Kd.C (Kd.int .u8) W A l.length l) (hc : l.length ≤ c) (hl : l.length ≤ 1048576) :
    Calls Try.prog 68 #[.slice A l.length c] W fun e w' => ∃ x y : Nat, e = .returned (.complex .f64 x y) ∧ Below W.heap.size W w' := by
  have HR := Lib.hid hr
  clear hr
  go_enter Try.func68, Try.ntmps68
  go_wp2_with fail
  refine (new_k (Below.refl _ _) HR.out hc hl).mono ?_
  rintro e w1 ⟨g, rfl, hC1, _⟩
  have C1 := Lib.hid hC1
  clear hC1
  go_wp2_with fail
  refine (vector_k 1000 (by omega) (by omega) (by omega) C1.out).mono ?_
  rintro e w2 ⟨a, b, rfl, hC2⟩
  have C2 := Lib.hid hC2
  clear hC2
  go_wp2_with fail
  refine (below_k 6 (by omega) (by omega) C2.out).mono ?_
  rintro e w3 ⟨r, rfl, _, _, hC3⟩
  have C3 := Lib.hid hC3
  clear hC3
  go_wp2_with fail
  all_goals first
    | (go_ret; exact ⟨_, _, rfl, C3.out.below⟩)
    | (refine (odd_k (by omega) C3.out).mono ?_
       rintro e w4 ⟨x, rfl, hC4⟩
       have C4 := Lib.hid hC4
       clear hC4
       go_wp2_with fail
       refine (odd_k (by omega) C4.out).mono ?_
       rintro e w5 ⟨y, rfl, hC5⟩
       have C5 := Lib.hid hC5
       clear hC5
       go_wp2_with fail
       go_ret
       exact ⟨_, _, rfl, C5.out.below⟩)
theorem TI_of {w0 w w2 : World} {g : Nat} {v1 v2 : Value} {sts : List Stn} {hs : List Int} {m : Int} (hC : Cur2 w0 w w2 g m) (hT : Tide w0 w2 v1 v2 sts hs) : TI w0 w0 (w2.alloc (.cells #[v1, v2] 41)) g w2.heap.size (fun _ => True) v1 v2 sts hs m :=
  ⟨hC.root.alloc _, blk_new w2 _, ⟨Nat.le_refl _, hC.below.size⟩, Kd.R_below hT.r1 ((Below.refl _ _).alloc (Nat.le_refl _) _), Kd.R_below hT.r2 ((Below.refl _ _).alloc (Nat.le_refl _) _)⟩
def lenAt (w : World) (T : Nat) : Nat := match w.cell? ⟨T, 0, none⟩ with
  | some (.slice _ n _) => n
  | _ => 0
theorem TI.lenAt {w0 ws w : World} {g T : Nat} {ok : Nat → Prop} {A1 : Option Addr} {n1 c1 : Nat} {v2 : Value} {sts : List Stn} {hs : List Int} {m : Int} (h : TI w0 ws w g T ok (.slice A1 n1 c1) v2 sts hs m) : Ty.lenAt w T = n1 := by
  unfold Ty.lenAt
  rw [h.cells.1]
abbrev nilT : Obj := .cells #[.slice none 0 0, .slice none 0 0] 41 (0, 0)
def Rel5 (w0 : World) (g T X : Nat) (wr : World) : Prop := ∃ (v1 v2 : Value) (sts : List Stn) (hs : List Int), 1 ≤ sts.length ∧ sts.length ≤ 21 ∧ hs.length ≤ 5 ∧ TI w0 w0 wr g T (fun _ => True) v1 v2 sts hs (1600 + 8 * (sts.length : Nat)) ∧ wr.heap[X]? = some nilT
theorem AI.fin {w0 w : World} {g T X : Nat} {A1 A2 : Option Addr} {n1 c1 n2 c2 : Nat} {m : Int} (h : AI w0 w0 w g T A1 n1 c1 A2 n2 c2 m) (hX : w.heap[X]? = some nilT) (hgX : X ≠ g) (hw : w0.heap.size ≤ X) (u0 u1 : Value) :
    Cur2 w0 w0 ((w.setCell ⟨X, 0, none⟩ u0).setCell ⟨X, 1, none⟩ u1) g m ∧ Shp ((w.setCell ⟨X, 0, none⟩ u0).setCell ⟨X, 1, none⟩ u1) w0.heap.size A1 n1 A2 n2 := by
  have hX2 := blk_set hX 0 u0
  exact ⟨Cur2.far (Cur2.far h.cur u0 hgX.symm hw hw) u1 hgX.symm hw hw, (h.s.set hX notT 0 u0).set hX2 notT 1 u1⟩
set_option maxRecDepth 100000 in
set_option maxHeartbeats 4000000 in
theorem any_tide {w0 w : World} {g : Nat} (hC : Cur2 w0 w0 w g 0) :
    Calls Try.prog 43 #[.pointer (some ⟨g, 0, none⟩)] w fun e w' => ∃ (A1 : Option Addr) (n1 c1 : Nat) (A2 : Option Addr) (n2 c2 : Nat), e = .returned (.agg #[.slice A1 n1 c1, .slice A2 n2 c2]) ∧ (n1 ≤ 22 ∧ n2 ≤ 7) ∧ Cur2 w0 w0 w' g 4000 ∧ Shp w' w0.heap.size A1 n1 A2 n2 := by
  have hb1 := build_tide
  have hgX : w.heap.size ≠ g := fun e => by have := hC.lt; omega
  have hwX : w0.heap.size ≤ w.heap.size := hC.below.size
  have hX0 := blk_new w (.cells #[.slice none 0 0, .slice none 0 0] 41)
  have C0 := Lib.hid (hC.alloc (.cells #[.slice none 0 0, .slice none 0 0] 41))
  clear hC
  go_enter Try.func43, Try.ntmps43
  go_wp2_with fail
  generalize w.alloc (.cells #[.slice none 0 0, .slice none 0 0] 41) = ws at *
  generalize w.heap.size = X at *
  refine (tide_call C0.out).mono ?_
  rintro e w2 ⟨v1, v2, sts, hs, rfl, hC2, hT⟩
  have I2 := Lib.hid (TI_of hC2 hT)
  have HX2 := Lib.hid (blk_alloc (hC2.keep.blk hX0 hgX (by simp)) (.cells #[v1, v2] 41))
  have hlt := blk_lt (hC2.keep.blk hX0 hgX (by simp))
  have l1 := hT.l1
  have l2 := hT.l2
  clear hC2 hT hX0 C0
  obtain ⟨A1, c1, rfl⟩ := Kd.R_slice I2.out.r1
  obtain ⟨A2, c2, rfl⟩ := Kd.R_slice I2.out.r2
  go_upto_region 2 with fail
  have hTX : w2.heap.size ≠ X := by omega
  clear hlt
  generalize w2.alloc (.cells #[.slice A1 sts.length c1, .slice A2 hs.length c2] 41) = w3 at *
  generalize w2.heap.size = T at *
  obtain ⟨t0, t1, tf0, tf1⟩ := I2.out.cells
  go_wp2_with fail
  refine (below_k (sts.length : Int) (by omega) (by omega) I2.out.cur.here).mono ?_
  rintro e w4 ⟨k, rfl, k0, k1, hC4⟩
  have I4 := Lib.hid (I2.out.move hC4)
  have HX4 := Lib.hid (hC4.keep.blk HX2.out hgX (by simp))
  have k1 := k1 (by omega)
  obtain ⟨k, rfl⟩ : ∃ j : Nat, k = (j : Int) := ⟨k.toNat, by omega⟩
  clear hC4 I2 HX2 t0 t1 tf0 tf1 k0
  go_wp2_with fail
  refine (below_k 24 (by omega) (by omega) I4.out.cur.here).mono ?_
  rintro e w5 ⟨r, rfl, r0, r1, hC5⟩
  have I5 := Lib.hid (I4.out.move hC5)
  have HX5 := Lib.hid (hC5.keep.blk HX4.out hgX (by simp))
  have r1 := r1 (by omega)
  clear hC5 I4 HX4
  obtain ⟨hA, _, _, d1, d2⟩ := TI.any I5.out
  have K5 := Lib.hid (AI.mono hA (show _ ≤ (1600 : Int) by omega))
  clear hA
  go_upto_block 0 with fail
  go_cut [] (fun wr => ∃ (A1 : Option Addr) (n1 c1 : Nat) (A2 : Option Addr) (n2 c2 : Nat), (n1 ≤ 22 ∧ n2 ≤ 7) ∧ AI w0 w0 wr g T A1 n1 c1 A2 n2 c2 3900 ∧ wr.heap[X]? = some nilT)
  case first =>
    rcases (show r = 0 ∨ r = 1 ∨ r = 2 ∨ r = 3 ∨ r = 4 ∨ r = 5 ∨ r = 6 ∨ 7 ≤ r by omega) with rfl | rfl | rfl | rfl | rfl | rfl | rfl | r9
    · -- 0
      clear I5 d1 d2
      obtain ⟨b, cells, rfl, hb, hB, hS⟩ := K5.out.st (k := k) (by omega)
      have HG := Lib.hid (K5.out.far hB (by decide))
      have hXb := blk_ne HX5.out hB (show 41 ≠ 32 by decide)
      have HB := Lib.hid hB
      have HS := Lib.hid hS
      have hge := Lib.hid hb
      obtain ⟨⟨t0, t1⟩, tf0, tf1⟩ := K5.out.cells
      obtain ⟨⟨x, y, hx⟩, _⟩ := hS
      rw [Nat.mul_comm] at hx
      have cx := (blk_cell hB (k * 14)).trans hx
      have cf := blk_frozen hB (k * 14)
      have Hx := Lib.hid hx
      clear hB hb hx
      go_upto_region 5 with fail
      go_region_with (first | (go_at_call 65; refine (byte_k (by omega) K5.out.drew.cur.here).mono ?_; rintro e w6 ⟨z, rfl, z0, z1, hC6⟩; have K6 := Lib.hid (K5.out.drew.move hC6); have HB6 := Lib.hid (hC6.keep.blk (show w5.drew.heap[b]? = _ from HB.out) HG.out (by simp)); have HX6 := Lib.hid (hC6.keep.blk (show w5.drew.heap[X]? = _ from HX5.out) hgX (by simp)); obtain ⟨⟨t0, t1⟩, tf0, tf1⟩ := K6.out.cells; have ta := (K6.out.alloc (.cells #[.int .u8 (IntKind.u8.wrap z)] 5)).cells.1.1; clear hC6) | (go_at_call 68; obtain ⟨l8, e8, h8⟩ := lit8 w6 (IntKind.u8.wrap z) (wf_wrap _ _); have hv := vecOk_call (c := 1) h8 (by omega) (by omega); rw [e8] at hv; refine hv.mono ?_; clear hv h8 e8; rintro e w7 ⟨p, q, rfl, hb7⟩; have K7 := Lib.hid ((K6.out.alloc (.cells #[.int .u8 (IntKind.u8.wrap z)] 5)).step hb7); have HB7 := Lib.hid (blk_below (blk_alloc HB6.out (.cells #[.int .u8 (IntKind.u8.wrap z)] 5)) hb7); have HX7 := blk_below (blk_alloc HX6.out (.cells #[.int .u8 (IntKind.u8.wrap z)] 5)) hb7; obtain ⟨⟨t0, t1⟩, tf0, tf1⟩ := K7.out.cells; have cx : w7.cell? ⟨b, k * 14, none⟩ = some (.complex .f64 x y) := (blk_cell HB7.out (k * 14)).trans Hx.out; have cf := blk_frozen HB7.out (k * 14); have P := Lib.hid ((K7.out.puts HB7.out hge.out (k * 14) (.complex .f64 p q) (fun _ _ h => (Nat.mul_comm k 14) ▸ SC.at p q h)).mono (show _ ≤ (3900 : Int) by omega)); have HX8 := Lib.hid (blk_far HX7 (p := ⟨b, k * 14, none⟩) hXb (.complex .f64 p q)); clear hb7 HX7))
      all_goals (go_wp2_with fail)
      all_goals go_meet
      all_goals exact ⟨_, _, _, _, _, _, ⟨by omega, by omega⟩, P.out, HX8.out⟩
    · -- 1
      clear I5 d1 d2
      obtain ⟨b, cells, rfl, hb, hB, hS⟩ := K5.out.st (k := k) (by omega)
      have HG := Lib.hid (K5.out.far hB (by decide))
      have hXb := blk_ne HX5.out hB (show 41 ≠ 32 by decide)
      have HB := Lib.hid hB
      have HS := Lib.hid hS
      have hge := Lib.hid hb
      obtain ⟨⟨t0, t1⟩, tf0, tf1⟩ := K5.out.cells
      clear hB hb hS
      go_upto_region 7 with fail
      go_region_with (first | (go_at_call 34; refine (below_k 13 (by omega) (by omega) K5.out.drew.cur.here).mono ?_; rintro e w6 ⟨z, rfl, z0, z1, hC6⟩; have K6 := Lib.hid (K5.out.drew.move hC6); have HB6 := Lib.hid (hC6.keep.blk (show w5.drew.heap[b]? = _ from HB.out) HG.out (by simp)); have HX6 := Lib.hid (hC6.keep.blk (show w5.drew.heap[X]? = _ from HX5.out) hgX (by simp)); obtain ⟨⟨t0, t1⟩, tf0, tf1⟩ := K6.out.cells; have z1 := z1 (by omega); clear hC6; obtain ⟨z, rfl⟩ : ∃ j : Nat, z = (j : Int) := ⟨z.toNat, by omega⟩) | (go_at_call 33; refine (air_k (by omega) K6.out.cur.here).mono ?_; rintro e w7 ⟨p, q, rfl, hC7⟩; have K7 := Lib.hid (K6.out.move hC7); have HB7 := Lib.hid (hC7.keep.blk HB6.out HG.out (by simp)); have HX7 := hC7.keep.blk HX6.out hgX (by simp); obtain ⟨⟨t0, t1⟩, tf0, tf1⟩ := K7.out.cells; obtain ⟨fa, fb, hx⟩ := HS.out.2 z (by omega); rw [Nat.mul_comm] at hx; have cx := (blk_cell HB7.out (k * 14 + 1 + z)).trans hx; have cf := blk_frozen HB7.out (k * 14 + 1 + z); have P := Lib.hid ((K7.out.puts HB7.out hge.out (k * 14 + 1 + z) (.complex .f32 p q) (fun _ _ h => (Nat.mul_comm k 14) ▸ SC.flow (by omega) p q h)).mono (show _ ≤ (3900 : Int) by omega)); have HX8 := Lib.hid (blk_far HX7 (p := ⟨b, k * 14 + 1 + z, none⟩) hXb (.complex .f32 p q)); clear hC7 HX7))
      all_goals (go_wp2_with fail)
      all_goals go_meet
      all_goals exact ⟨_, _, _, _, _, _, ⟨by omega, by omega⟩, P.out, HX8.out⟩
    · -- 2
      clear I5 d1 d2
      obtain ⟨⟨t0, t1⟩, tf0, tf1⟩ := K5.out.cells
      go_upto_region 9 with fail
      go_region_with (first | (go_at_call 34; refine (below_k (hs.length : Int) (by omega) (by omega) K5.out.drew.cur.here).mono ?_; rintro e w6 ⟨z, rfl, z0, z1, hC6⟩; have K6 := Lib.hid (K5.out.drew.move hC6); have HX6 := Lib.hid (hC6.keep.blk (show w5.drew.heap[X]? = _ from HX5.out) hgX (by simp)); obtain ⟨⟨t0, t1⟩, tf0, tf1⟩ := K6.out.cells; have z1 := z1 (by omega); clear hC6; obtain ⟨z, rfl⟩ : ∃ j : Nat, z = (j : Int) := ⟨z.toNat, by omega⟩) | (go_at_call 35; refine (number_k (by omega) K6.out.cur.here).mono ?_; rintro e w7 ⟨y, rfl, hC7⟩; have K7 := Lib.hid (K6.out.move hC7); have HX7 := hC7.keep.blk HX6.out hgX (by simp); obtain ⟨b, o, cells, x, rfl, hb, hB, hx⟩ := K7.out.hi (k := z) (by omega); obtain ⟨⟨t0, t1⟩, tf0, tf1⟩ := K7.out.cells; have cx := (blk_cell hB (o + z)).trans hx; have cf := blk_frozen hB (o + z); have P := Lib.hid ((K7.out.puti hB hb (o + z) y).mono (show _ ≤ (3900 : Int) by omega)); have HX8 := Lib.hid (blk_far HX7 (p := ⟨b, o + z, none⟩) (blk_ne HX7 hB (by decide)) (.int .i64 y)); clear hC7 HX7 hB hb hx))
      all_goals (go_wp2_with fail)
      all_goals go_meet
      all_goals exact ⟨_, _, _, _, _, _, ⟨by omega, by omega⟩, P.out, HX8.out⟩
    · -- 3
      clear I5
      obtain ⟨⟨t0, t1⟩, tf0, tf1⟩ := (K5.out.alloc (.cells #[] 3)).cells
      have P := Lib.hid (((K5.out.alloc (.cells #[] 3)).put2 (some ⟨w5.heap.size, 0, none⟩) 0).mono (show _ ≤ (3900 : Int) by omega))
      have HX6 := Lib.hid (blk_far (blk_alloc HX5.out (.cells #[] 3)) (p := ⟨T, 1, none⟩) hTX.symm (.slice (some ⟨w5.heap.size, 0, none⟩) 0 0))
      go_wp2_with fail
      go_meet
      case rel => exact ⟨_, _, _, _, _, _, ⟨by omega, by omega⟩, P.out, HX6.out⟩
    · -- 4
      clear I5
      obtain ⟨⟨t0, t1⟩, tf0, tf1⟩ := (K5.out.alloc (.cells #[] 32)).cells
      have P := Lib.hid (((K5.out.alloc (.cells #[] 32)).put1 (some ⟨w5.heap.size, 0, none⟩) 0).mono (show _ ≤ (3900 : Int) by omega))
      have HX6 := Lib.hid (blk_far (blk_alloc HX5.out (.cells #[] 32)) (p := ⟨T, 0, none⟩) hTX.symm (.slice (some ⟨w5.heap.size, 0, none⟩) 0 0))
      go_wp2_with fail
      go_meet
      case rel => exact ⟨_, _, _, _, _, _, ⟨by omega, by omega⟩, P.out, HX6.out⟩
    · -- 5
      have H5 := Lib.hid (show Rel5 w0 g T X w5 from ⟨_, _, sts, hs, by omega, by omega, by omega, I5.out.mono (by omega), HX5.out⟩)
      clear K5 I5 HX5
      go_wp2_with fail
      go_loopw [] (fun wr => Rel5 w0 g T X wr) (fun wr => 40 - lenAt wr T)
      case atStart => exact H5.out
      case round =>
        clear H5
        obtain ⟨v1, v2, sts, hs, s1, s2, s3, hI, hXr⟩ := hrel
        have I := Lib.hid hI
        have HXr := Lib.hid hXr
        clear hI hXr
        obtain ⟨A1, c1, rfl⟩ := Kd.R_slice I.out.r1
        obtain ⟨A2, c2, rfl⟩ := Kd.R_slice I.out.r2
        have hla := TI.lenAt I.out
        obtain ⟨t0, t1, tf0, tf1⟩ := I.out.cells
        go_upto_region 15 with fail
        go_cut [66] (fun s wr => ∃ b, s = .bool b ∧ (b = true → sts.length ≤ 20) ∧ TI w0 w0 wr g T (fun _ => True) (.slice A1 sts.length c1) (.slice A2 hs.length c2) sts hs (1604 + 8 * (sts.length : Nat)) ∧ wr.heap[X]? = some nilT)
        case first =>
          go_region_with (first | (go_at_call 34; refine (below_k 2 (by omega) (by omega) I.out.drew.cur.here).mono ?_; rintro e w6 ⟨r, rfl, r0, r1, hC6⟩; have I6 := Lib.hid ((I.out.drew.move hC6).mono (show _ ≤ (1604 + 8 * (sts.length : Nat) : Int) by omega)); have HX6 := Lib.hid (hC6.keep.blk (show wr.drew.heap[X]? = _ from HXr.out) hgX (by simp)); obtain ⟨t0, t1, tf0, tf1⟩ := I6.out.cells; clear hC6))
          all_goals (go_wp2_with fail)
          all_goals go_meet
          all_goals exact ⟨_, rfl, fun h => by (have := of_decide_eq_true h; rw [show IntKind.i64.wrap (20 + r) = 20 + r from by rw [IntKind.wrap_i64]; omega] at this; omega), I6.out, HX6.out⟩
        case rest =>
          obtain ⟨b, rfl, hb, hI, hXr⟩ := hcut
          have I6 := Lib.hid hI
          have HX6 := Lib.hid hXr
          clear hI hXr I HXr t0 t1 tf0 tf1
          cases b
          · obtain ⟨hA, _⟩ := TI.any I6.out
            have P := Lib.hid hA
            clear hA
            go_wp2_with fail
            go_meet
            case rel => exact ⟨_, _, _, _, _, _, ⟨by omega, by omega⟩, P.out.mono (by omega), HX6.out⟩
          · have hu := hb rfl
            clear hb
            obtain ⟨bb, s, rfl, hcells⟩ := st_cells (I6.out.r1) s1
            obtain ⟨x, y, fs⟩ := s
            have x0 : wc.cell? ⟨bb, 0, none⟩ = some (.complex .f64 x y) := hcells 0 (by omega)
            have x1 : wc.cell? ⟨bb, 1, none⟩ = some (.complex .f32 (fs 0).1 (fs 0).2) := hcells 1 (by omega)
            have x2 : wc.cell? ⟨bb, 2, none⟩ = some (.complex .f32 (fs 1).1 (fs 1).2) := hcells 2 (by omega)
            have x3 : wc.cell? ⟨bb, 3, none⟩ = some (.complex .f32 (fs 2).1 (fs 2).2) := hcells 3 (by omega)
            have x4 : wc.cell? ⟨bb, 4, none⟩ = some (.complex .f32 (fs 3).1 (fs 3).2) := hcells 4 (by omega)
            have x5 : wc.cell? ⟨bb, 5, none⟩ = some (.complex .f32 (fs 4).1 (fs 4).2) := hcells 5 (by omega)
            have x6 : wc.cell? ⟨bb, 6, none⟩ = some (.complex .f32 (fs 5).1 (fs 5).2) := hcells 6 (by omega)
            have x7 : wc.cell? ⟨bb, 7, none⟩ = some (.complex .f32 (fs 6).1 (fs 6).2) := hcells 7 (by omega)
            have x8 : wc.cell? ⟨bb, 8, none⟩ = some (.complex .f32 (fs 7).1 (fs 7).2) := hcells 8 (by omega)
            have x9 : wc.cell? ⟨bb, 9, none⟩ = some (.complex .f32 (fs 8).1 (fs 8).2) := hcells 9 (by omega)
            have x10 : wc.cell? ⟨bb, 10, none⟩ = some (.complex .f32 (fs 9).1 (fs 9).2) := hcells 10 (by omega)
            have x11 : wc.cell? ⟨bb, 11, none⟩ = some (.complex .f32 (fs 10).1 (fs 10).2) := hcells 11 (by omega)
            have x12 : wc.cell? ⟨bb, 12, none⟩ = some (.complex .f32 (fs 11).1 (fs 11).2) := hcells 12 (by omega)
            have x13 : wc.cell? ⟨bb, 13, none⟩ = some (.complex .f32 (fs 12).1 (fs 12).2) := hcells 13 (by omega)
            obtain ⟨t0, t1, tf0, tf1⟩ := I6.out.cells
            have ta := (I6.out.alloc (.cells #[.complex .f64 x y, .complex .f32 (fs 0).1 (fs 0).2, .complex .f32 (fs 1).1 (fs 1).2, .complex .f32 (fs 2).1 (fs 2).2, .complex .f32 (fs 3).1 (fs 3).2, .complex .f32 (fs 4).1 (fs 4).2, .complex .f32 (fs 5).1 (fs 5).2, .complex .f32 (fs 6).1 (fs 6).2, .complex .f32 (fs 7).1 (fs 7).2, .complex .f32 (fs 8).1 (fs 8).2, .complex .f32 (fs 9).1 (fs 9).2, .complex .f32 (fs 10).1 (fs 10).2, .complex .f32 (fs 11).1 (fs 11).2, .complex .f32 (fs 12).1 (fs 12).2] 32)).cells.1
            have hs0 : (0 : Int) < (sts.length : Int) := by omega
            have hs1 : 0 < sts.length := by omega
            clear hcells
            go_upto_region 16 with fail
            go_region_law (rw [show (wc.alloc (.cells #[.complex .f64 x y, .complex .f32 (fs 0).1 (fs 0).2, .complex .f32 (fs 1).1 (fs 1).2, .complex .f32 (fs 2).1 (fs 2).2, .complex .f32 (fs 3).1 (fs 3).2, .complex .f32 (fs 4).1 (fs 4).2, .complex .f32 (fs 5).1 (fs 5).2, .complex .f32 (fs 6).1 (fs 6).2, .complex .f32 (fs 7).1 (fs 7).2, .complex .f32 (fs 8).1 (fs 8).2, .complex .f32 (fs 9).1 (fs 9).2, .complex .f32 (fs 10).1 (fs 10).2, .complex .f32 (fs 11).1 (fs 11).2, .complex .f32 (fs 12).1 (fs 12).2] 32)).drew = wc.drew.alloc (.cells [.complex .f64 x y, .complex .f32 (fs 0).1 (fs 0).2, .complex .f32 (fs 1).1 (fs 1).2, .complex .f32 (fs 2).1 (fs 2).2, .complex .f32 (fs 3).1 (fs 3).2, .complex .f32 (fs 4).1 (fs 4).2, .complex .f32 (fs 5).1 (fs 5).2, .complex .f32 (fs 6).1 (fs 6).2, .complex .f32 (fs 7).1 (fs 7).2, .complex .f32 (fs 8).1 (fs 8).2, .complex .f32 (fs 9).1 (fs 9).2, .complex .f32 (fs 10).1 (fs 10).2, .complex .f32 (fs 11).1 (fs 11).2, .complex .f32 (fs 12).1 (fs 12).2].toArray 32) from rfl]; refine Kd.R_append_step stKd (w0 := wc.drew) w0.heap.size (by rfl) (.tmp 68) (.tmp 73) 38 32 (.agg (stn 0 0 (fun _ => (0, 0)))) 120 rfl Try.underlying38 st_info rfl (by decide) (by omega) (.slice (some ⟨bb, 0, none⟩) sts.length c1) sts ⟨x, y, fs⟩ [.complex .f64 x y, .complex .f32 (fs 0).1 (fs 0).2, .complex .f32 (fs 1).1 (fs 1).2, .complex .f32 (fs 2).1 (fs 2).2, .complex .f32 (fs 3).1 (fs 3).2, .complex .f32 (fs 4).1 (fs 4).2, .complex .f32 (fs 5).1 (fs 5).2, .complex .f32 (fs 6).1 (fs 6).2, .complex .f32 (fs 7).1 (fs 7).2, .complex .f32 (fs 8).1 (fs 8).2, .complex .f32 (fs 9).1 (fs 9).2, .complex .f32 (fs 10).1 (fs 10).2, .complex .f32 (fs 11).1 (fs 11).2, .complex .f32 (fs 12).1 (fs 12).2] (fun _ => True) (fun _ => False) rfl ?aX ?aP (fun _ hk => hk.elim) ?aF ?aO ?aB ?aS ?aL ?_; (case aX => rfl); (case aP => exact rfl); (case aF => exact (fun _ _ => trivial)); (case aO => exact I6.out.drew.r1); (case aB => exact Below.refl _ _); (case aS => exact I6.out.drew.cur.keep.1); (case aL => omega); intro v6 w6 hR hb hg hat; obtain ⟨A6, c6, hv6⟩ := Kd.R_slice hR; rw [List.length_append, List.length_singleton] at hv6; subst hv6; obtain ⟨hI7, hT7⟩ := I6.out.drew.app1 hg hR; have I7 := Lib.hid hI7; have q0 := blk_cell hT7 0; have qf0 := blk_frozen hT7 0; have HX7 := Lib.hid (blk_far (blk_grown (show wc.drew.heap[X]? = _ from HX6.out) hg (Kd.R_ne I6.out.drew.r1 (show wc.drew.heap[X]? = _ from HX6.out) (by decide))) (p := ⟨T, 0, none⟩) hTX.symm (.slice A6 (sts.length + 1) c6)); clear hR hb hg hat hI7 hT7)
            all_goals (go_wp2_with fail)
            all_goals go_roundw
            all_goals first
              | exact ⟨_, _, sts ++ [⟨x, y, fs⟩], hs, by simp, by simp; omega, s3, I7.out.mono (by simp; omega), HX7.out⟩
              | (rw [TI.lenAt I7.out, hla]; omega)
    · -- 6
      obtain ⟨q, hq⟩ : ∃ q, hs.length = q + 1 := ⟨hs.length - 1, by omega⟩
      obtain ⟨bb, oo, cells, x, rfl, hbb, hB, hx⟩ := K5.out.hi (k := q) (by omega)
      have cx := (blk_cell hB (oo + q)).trans hx
      have HQ := Lib.hid hq
      have hI7 := I5.out
      rw [hq] at hI7
      have I7 := Lib.hid hI7
      obtain ⟨t0, t1, tf0, tf1⟩ := I7.out.cells
      obtain ⟨y1, hy1⟩ : ∃ y, IntKind.i64.wrap (x + 21600) = y := ⟨_, rfl⟩
      obtain ⟨y2, hy2⟩ : ∃ y, IntKind.i64.wrap (y1 - 1) = y := ⟨_, rfl⟩
      have hq1 : IntKind.i64.wrap (q : Int) = (q : Int) := by rw [IntKind.wrap_i64]; omega
      have hq2 : (0 : Int) ≤ (q : Int) := by omega
      have hq3 : (q : Int) < (q : Int) + 1 := by omega
      have ta := (I7.out.alloc (.cells #[.int .i64 y2] 3)).cells.2.1
      clear hI7 hB hx hbb I5 K5
      go_upto_region 18 with fail
      go_region_law (rw [show (w5.alloc (.cells #[.int .i64 y2] 3)).drew = w5.drew.alloc (.cells [.int .i64 y2].toArray 3) from rfl]; refine Kd.R_append_step (Kd.int .i64) (w0 := w5.drew) w0.heap.size (by rfl) (.tmp 79) (.tmp 90) 39 3 (.int .i64 0) 8 rfl Try.underlying39 int_info rfl (by decide) (by omega) (.slice (some ⟨bb, oo, none⟩) (q + 1) c2) hs y2 [.int .i64 y2] (fun _ => True) (fun _ => False) rfl ?aX ?aP (fun _ hk => hk.elim) ?aF ?aO ?aB ?aS ?aL ?_; (case aX => rfl); (case aP => exact rfl); (case aF => exact (fun _ _ => trivial)); (case aO => exact I7.out.drew.r2); (case aB => exact Below.refl _ _); (case aS => exact I7.out.drew.cur.keep.1); (case aL => omega); intro v6 w6 hR hb hg hat; obtain ⟨A6, c6, hv6⟩ := Kd.R_slice hR; rw [List.length_append, List.length_singleton, hq] at hv6; subst hv6; obtain ⟨hI8, hT8⟩ := I7.out.drew.app2 hg hR; have I8 := Lib.hid hI8; have q0 := blk_cell hT8 1; have qf0 := blk_frozen hT8 1; have HX7 := Lib.hid (blk_far (blk_grown (show w5.drew.heap[X]? = _ from HX5.out) hg (Kd.R_ne I7.out.drew.r2 (show w5.drew.heap[X]? = _ from HX5.out) (by decide))) (p := ⟨T, 1, none⟩) hTX.symm (.slice A6 (q + 1 + 1) c6)); clear hR hb hg hat hI8 hT8)
      all_goals (obtain ⟨hA, _⟩ := TI.any I8.out)
      all_goals (have P := Lib.hid hA)
      all_goals (have hn : q + 1 + 1 ≤ 7 := by omega)
      all_goals (clear hA hy1 hy2 hq1 hq2 hq3 ta cx t0 t1 tf0 tf1 q0 qf0 hq I8 I7)
      all_goals (go_wp2_with fail)
      all_goals go_meet
      all_goals first
        | exact ⟨A1, sts.length, c1, A6, q + 1 + 1, c6, ⟨by omega, by omega⟩, P.out.mono (by omega), HX7.out⟩
        | (have hn2 := HQ.out; have P2 := P.out; have HX8 := HX7.out; rw [← hn2] at P2 HX8; exact ⟨A1, sts.length, c1, A6, hs.length + 1, c6, ⟨by omega, by omega⟩, P2.mono (by omega), HX8⟩)
    · clear I5
      go_wp2_with fail
      go_meet
      case rel => exact ⟨_, _, _, _, _, _, ⟨by omega, by omega⟩, K5.out.mono (by omega), HX5.out⟩
  case rest =>
    obtain ⟨A1', n1', c1', A2', n2', c2', hn', hI, hX⟩ := hcut
    clear I5 K5 HX5
    obtain ⟨⟨t0, t1⟩, tf0, tf1⟩ := hI.cells
    have x0 : wc.cell? ⟨X, 0, none⟩ = some (.slice none 0 0) := blk_cell hX 0
    have x1 : wc.cell? ⟨X, 1, none⟩ = some (.slice none 0 0) := blk_cell hX 1
    have xf0 := blk_frozen hX 0
    have xf1 := blk_frozen hX 1
    have F := Lib.hid (hI.fin hX hgX hwX (.slice A1' n1' c1') (.slice A2' n2' c2'))
    clear hX hI
    go_wp2_with fail
    exact bodyPost_ret (v := .agg #[.slice A1' n1' c1', .slice A2' n2' c2']) (by simp [results, Try.results43, go_sem, x0, x1]) rfl ⟨_, _, _, _, _, _, rfl, hn', F.out.1.mono (by omega), F.out.2⟩
end Go.Proofs.Ytjohpjmfnghkoaa.Ty
