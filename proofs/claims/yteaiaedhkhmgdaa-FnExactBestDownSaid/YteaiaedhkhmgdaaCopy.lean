/- Copies of rows and of polars that the laws make, whatever they hold. -/
import Derived.Test.YteaiaedhkhmgdaaPolW
import Derived.Deep.OwnRows
namespace Go.Proofs.Yteaiaedhkhmgdaa.Cp
open Go.RowKit Kit Fl Bd Pf Pw
def FRd (w : World) (A : Option Addr) (l : List Nat) : Prop := l.length = 0 ∨ ∃ a, A = some a ∧ ∀ j, j < l.length → w.cell? (a.add j) = some (.float .f32 (fn l j))
def IRd (w : World) (A : Option Addr) (l : List Int) : Prop := l.length = 0 ∨ ∃ a, A = some a ∧ ∀ j, j < l.length → w.cell? (a.add j) = some (.int .i64 (zn l j))
def RRd (w : World) (A : Option Addr) (l : List (List Nat)) : Prop := l.length = 0 ∨ ∃ a, A = some a ∧ ∀ j, j < l.length → ∃ B c, w.cell? (a.add j) = some (.slice B (rn l j).length c) ∧ FRd w B (rn l j)
structure PRd (w : World) (A0 A1 A2 : Option Addr) (d : Pol) : Prop where
  f : FRd w A0 d.ws
  i : IRd w A1 d.an
  r : RRd w A2 d.rows
theorem kcb {w v : World} {p : Addr} {u : Value} (hb : Below w.heap.size w v) (h : w.cell? p = some u) : v.cell? p = some u := (hb.cell (World.block_lt_of_cell? w _ h)).trans h
theorem FRd.below {w w1 : World} {A : Option Addr} {l : List Nat} (h : FRd w A l) (hb : Below w.heap.size w w1) : FRd w1 A l := by
  rcases h with h | ⟨b, e, h⟩
  · exact Or.inl h
  · exact Or.inr ⟨b, e, fun j hj => kcb hb (h j hj)⟩
theorem IRd.below {w w1 : World} {A : Option Addr} {l : List Int} (h : IRd w A l) (hb : Below w.heap.size w w1) : IRd w1 A l := by
  rcases h with h | ⟨b, e, h⟩
  · exact Or.inl h
  · exact Or.inr ⟨b, e, fun j hj => kcb hb (h j hj)⟩
theorem RRd.below {w w1 : World} {A : Option Addr} {l : List (List Nat)} (h : RRd w A l) (hb : Below w.heap.size w w1) : RRd w1 A l := by
  rcases h with h | ⟨b, e, h⟩
  · exact Or.inl h
  · refine Or.inr ⟨b, e, fun j hj => ?_⟩
    obtain ⟨B, c, h1, h2⟩ := h j hj
    exact ⟨B, c, kcb hb h1, h2.below hb⟩
theorem PRd.below {w w1 : World} {A0 A1 A2 : Option Addr} {d : Pol} (h : PRd w A0 A1 A2 d) (hb : Below w.heap.size w w1) : PRd w1 A0 A1 A2 d := ⟨h.f.below hb, h.i.below hb, h.r.below hb⟩
theorem row_below {w w1 : World} {b n : Nat} {t : TypeId} {f : Nat → Value} (h : w.rowIs b t n f) (hb : Below w.heap.size w w1) : w1.rowIs b t n f := h.of_block (hb.block b h.lt)
theorem f_info : (Try.prog.info? 27).map (fun i => (i.zero, i.size, i.bytes)) = some (some (.float .f32 0), 1, 4) := by kernel_rfl
theorem i_info : (Try.prog.info? 3).map (fun i => (i.zero, i.size, i.bytes)) = some (some (.int .i64 0), 1, 8) := by kernel_rfl
theorem s_info : (Try.prog.info? 22).map (fun i => (i.zero, i.size, i.bytes)) = some (some (.slice none 0 0), 1, 24) := by kernel_rfl
def fRow (l : List Nat) (i : Nat) : Value := .float .f32 (fn l i)
def iRow (l : List Int) (i : Nat) : Value := .int .i64 (zn l i)
set_option maxRecDepth 100000 in
theorem toFloat32S {w : World} {A : Option Addr} {c : Nat} {l : List Nat} (hR : FRd w A l) (hm : l.length ≤ 1048576) :
    Calls Try.prog 32 #[.slice A l.length c] w fun e w' => e = .returned (.slice (some ⟨w.heap.size, 0, none⟩) l.length l.length) ∧ w'.rowIs w.heap.size 27 l.length (fRow l) ∧ Below w.heap.size w w' := by
  have hmk := run_make_row' (P := Try.prog) 22 27 (.float .f32 0) 4 Try.underlying22 f_info rfl .i64 .i64 l.length (by omega) (by omega)
  have HR := Lib.hid hR
  clear hR
  go_enter Try.func32, Try.ntmps32
  go_wp2_with fail
  go_loopw [4] (fun k wr => ∃ j : Nat, j ≤ l.length ∧ k = .int .i64 (j : Int) ∧ wr.rowIs w.heap.size 27 l.length (fun i => if i < j then fRow l i else .float .f32 0) ∧ Below w.heap.size w wr) (fun k _ => l.length - (intOf k).toNat)
  case atStart => exact ⟨0, by omega, rfl, (World.rowIs_made w (.float .f32 0) l.length 27).congr (fun i _ => by rw [if_neg (by omega)]), (Below.refl w.heap.size w).alloc (Nat.le_refl _) _⟩
  case round =>
    obtain ⟨j, hj, rfl, hr, hb⟩ := hrel
    have HW := Lib.hid hr
    have HB := Lib.hid hb
    clear hr hb
    by_cases hl : j < l.length
    · obtain ⟨a, rfl, hL⟩ := (HR.out.below HB.out).resolve_left (by omega)
      have y1 := hL j hl
      have z1 := HW.out.cell hl
      have z2 := HW.out.frozen j
      go_wp2_with fail
      go_roundw
      case rel => exact ⟨j + 1, by omega, by go_num, (HW.out.set j _).congr (fun i _ => by
                    by_cases e : i = j
                    · subst e; rw [if_pos rfl, if_pos (by omega)]; rfl
                    · rw [if_neg e]
                      by_cases e2 : i < j
                      · rw [if_pos e2, if_pos (by omega)]
                      · rw [if_neg e2, if_neg (by omega)]), HB.out.setCell (Nat.le_refl _) _⟩
      case measure => simp [intOf]; omega
    · obtain rfl : j = l.length := by omega
      go_wp2_with fail
      go_ret
      exact ⟨rfl, HW.out.congr (fun i hi => if_pos hi), HB.out⟩
set_option maxRecDepth 100000 in
theorem toIntS {w : World} {A : Option Addr} {c : Nat} {l : List Int} (hR : IRd w A l) (hm : l.length ≤ 1048576) :
    Calls Try.prog 33 #[.slice A l.length c] w fun e w' => e = .returned (.slice (some ⟨w.heap.size, 0, none⟩) l.length l.length) ∧ w'.rowIs w.heap.size 3 l.length (iRow l) ∧ Below w.heap.size w w' := by
  have hmk := run_make_row' (P := Try.prog) 23 3 (.int .i64 0) 8 Try.underlying23 i_info rfl .i64 .i64 l.length (by omega) (by omega)
  have HR := Lib.hid hR
  clear hR
  go_enter Try.func33, Try.ntmps33
  go_wp2_with fail
  go_loopw [4] (fun k wr => ∃ j : Nat, j ≤ l.length ∧ k = .int .i64 (j : Int) ∧ wr.rowIs w.heap.size 3 l.length (fun i => if i < j then iRow l i else .int .i64 0) ∧ Below w.heap.size w wr) (fun k _ => l.length - (intOf k).toNat)
  case atStart => exact ⟨0, by omega, rfl, (World.rowIs_made w (.int .i64 0) l.length 3).congr (fun i _ => by rw [if_neg (by omega)]), (Below.refl w.heap.size w).alloc (Nat.le_refl _) _⟩
  case round =>
    obtain ⟨j, hj, rfl, hr, hb⟩ := hrel
    have HW := Lib.hid hr
    have HB := Lib.hid hb
    clear hr hb
    by_cases hl : j < l.length
    · obtain ⟨a, rfl, hL⟩ := (HR.out.below HB.out).resolve_left (by omega)
      have y1 := hL j hl
      have z1 := HW.out.cell hl
      have z2 := HW.out.frozen j
      go_wp2_with fail
      go_roundw
      case rel => exact ⟨j + 1, by omega, by go_num, (HW.out.set j _).congr (fun i _ => by
                    by_cases e : i = j
                    · subst e; rw [if_pos rfl, if_pos (by omega)]; rfl
                    · rw [if_neg e]
                      by_cases e2 : i < j
                      · rw [if_pos e2, if_pos (by omega)]
                      · rw [if_neg e2, if_neg (by omega)]), HB.out.setCell (Nat.le_refl _) _⟩
      case measure => simp [intOf]; omega
    · obtain rfl : j = l.length := by omega
      go_wp2_with fail
      go_ret
      exact ⟨rfl, HW.out.congr (fun i hi => if_pos hi), HB.out⟩
def putq (q : Nat → Nat) (j b : Nat) (i : Nat) : Nat := if i = j then b else q i
theorem putq_same (q : Nat → Nat) (j b : Nat) : putq q j b j = b := if_pos rfl
theorem putq_other {q : Nat → Nat} {j b i : Nat} (h : i ≠ j) : putq q j b i = q i := if_neg h
def sRow (l : List (List Nat)) (q : Nat → Nat) (i : Nat) : Value := .slice (some ⟨q i, 0, none⟩) (rn l i).length (rn l i).length
set_option maxRecDepth 100000 in
theorem toFloat32SS {w : World} {A : Option Addr} {c : Nat} {l : List (List Nat)} (hR : RRd w A l) (hm : l.length ≤ 1048576) (hr : ∀ j, j < l.length → (rn l j).length ≤ 1048576) :
    Calls Try.prog 34 #[.slice A l.length c] w fun e w' => e = .returned (.slice (some ⟨w.heap.size, 0, none⟩) l.length l.length) ∧ (∃ q : Nat → Nat, w'.rowIs w.heap.size 22 l.length (sRow l q) ∧ ∀ i, i < l.length → w.heap.size < q i ∧ w'.rowIs (q i) 27 (rn l i).length (fRow (rn l i))) ∧ Below w.heap.size w w' := by
  have hmk := run_make_row' (P := Try.prog) 24 22 (.slice none 0 0) 24 Try.underlying24 s_info rfl .i64 .i64 l.length (by omega) (by omega)
  have HR := Lib.hid hR
  have HL := Lib.hid hr
  clear hR hr
  go_enter Try.func34, Try.ntmps34
  go_wp2_with fail
  go_loopw [4] (fun k wr => ∃ (j : Nat) (q : Nat → Nat), j ≤ l.length ∧ k = .int .i64 (j : Int) ∧ wr.rowIs w.heap.size 22 l.length (fun i => if i < j then sRow l q i else .slice none 0 0) ∧ (∀ i, i < j → w.heap.size < q i ∧ wr.rowIs (q i) 27 (rn l i).length (fRow (rn l i))) ∧ Below w.heap.size w wr) (fun k _ => l.length - (intOf k).toNat)
  case atStart => exact ⟨0, fun _ => 0, by omega, rfl, (World.rowIs_made w (.slice none 0 0) l.length 22).congr (fun i _ => by rw [if_neg (by omega)]), fun i hi => by omega, (Below.refl w.heap.size w).alloc (Nat.le_refl _) _⟩
  case round =>
    obtain ⟨j, q, hj, rfl, hr, hq, hb⟩ := hrel
    have HW := Lib.hid hr
    have HQ := Lib.hid hq
    have HB := Lib.hid hb
    clear hr hq hb
    by_cases hl : j < l.length
    · obtain ⟨a, rfl, hL⟩ := (HR.out.below HB.out).resolve_left (by omega)
      obtain ⟨B, cc, y1, y2⟩ := hL j hl
      have Y2 := Lib.hid y2
      clear y2 hL
      go_wp2_with fail
      refine (toFloat32S Y2.out (HL.out j hl)).mono ?_
      rintro e w2 ⟨rfl, hrow, hb⟩
      have HW2 := Lib.hid (row_below HW.out hb)
      have HN := Lib.hid hrow
      have HB2 := Lib.hid (HB.out.trans (hb.mono HB.out.size))
      have HK := Lib.hid (fun i (hi : i < j) => (⟨(HQ.out i hi).1, row_below (HQ.out i hi).2 hb⟩ : w.heap.size < q i ∧ w2.rowIs (q i) 27 (rn l i).length (fRow (rn l i))))
      have hlt := HW.out.lt
      have z1 := HW2.out.cell hl
      have z2 := HW2.out.frozen j
      clear hrow hb HW HQ y1
      go_wp2_with fail
      go_roundw
      case rel => exact ⟨j + 1, putq q j wr.heap.size, by omega, by go_num, (HW2.out.set j _).congr (fun i _ => by
                    by_cases e : i = j
                    · subst e; rw [if_pos rfl, if_pos (by omega)]; unfold sRow; rw [putq_same]
                    · rw [if_neg e]
                      by_cases e2 : i < j
                      · rw [if_pos e2, if_pos (by omega)]; unfold sRow; rw [putq_other e]
                      · rw [if_neg e2, if_neg (by omega)]), fun i hi => by
                    by_cases e : i = j
                    · subst e
                      rw [putq_same]
                      exact ⟨by omega, HN.out.setOther (by show wr.heap.size ≠ w.heap.size; omega) _⟩
                    · rw [putq_other e]
                      obtain ⟨k1, k2⟩ := HK.out i (by omega)
                      exact ⟨k1, k2.setOther (by show q i ≠ w.heap.size; omega) _⟩, HB2.out.setCell (Nat.le_refl _) _⟩
      case measure => simp [intOf]; omega
    · obtain rfl : j = l.length := by omega
      go_wp2_with fail
      go_ret
      exact ⟨rfl, ⟨q, HW.out.congr (fun i hi => if_pos hi), fun i hi => HQ.out i hi⟩, HB.out⟩
/-! ### polars -/
structure Copy (v : World) (b0 b1 b2 : Nat) (q : Nat → Nat) (d : Pol) : Prop where
  f : v.rowIs b0 27 d.ws.length (fRow d.ws)
  i : v.rowIs b1 3 d.an.length (iRow d.an)
  r : v.rowIs b2 22 d.rows.length (sRow d.rows q)
  q : ∀ i, i < d.rows.length → v.rowIs (q i) 27 (rn d.rows i).length (fRow (rn d.rows i))
theorem Copy.below {v v1 : World} {b0 b1 b2 : Nat} {q : Nat → Nat} {d : Pol} (h : Copy v b0 b1 b2 q d) (hb : Below v.heap.size v v1) : Copy v1 b0 b1 b2 q d :=
  ⟨row_below h.f hb, row_below h.i hb, row_below h.r hb, fun i hi => row_below (h.q i hi) hb⟩
theorem Copy.at {v : World} {b0 b1 b2 : Nat} {q : Nat → Nat} {d : Pol} (h : Copy v b0 b1 b2 q d) : PolAt v (some ⟨b0, 0, none⟩) (some ⟨b1, 0, none⟩) (some ⟨b2, 0, none⟩) d :=
  ⟨Or.inr ⟨b0, rfl, fun _ hj => h.f.cell hj⟩, Or.inr ⟨b1, rfl, fun _ hj => h.i.cell hj⟩, Or.inr ⟨b2, rfl, fun j hj => ⟨_, _, h.r.cell hj, Or.inr ⟨q j, rfl, fun _ ht => (h.q j hj).cell ht⟩⟩⟩⟩
structure Stg (w v : World) (A0 A1 A2 : Option Addr) (c0 c1 c2 : Nat) (d : Pol) (s0 s1 s2 : Value) : Prop where
  x0 : v.cell? ⟨w.heap.size, 0, none⟩ = some (.slice A0 d.ws.length c0)
  x1 : v.cell? ⟨w.heap.size, 1, none⟩ = some (.slice A1 d.an.length c1)
  x2 : v.cell? ⟨w.heap.size, 2, none⟩ = some (.slice A2 d.rows.length c2)
  r : v.rowIs (w.heap.size + 1) 31 3 (fun _ => .slice none 0 0)
  t : v.rowIs (w.heap.size + 1 + 1) 31 3 (fun i => if i = 0 then s0 else if i = 1 then s1 else s2)
  b : Below w.heap.size w v
  p : PRd w A0 A1 A2 d
section
variable {w v v1 : World} {A0 A1 A2 : Option Addr} {c0 c1 c2 : Nat} {d : Pol} {s0 s1 s2 : Value}
theorem Stg.to (h : Stg w v A0 A1 A2 c0 c1 c2 d s0 s1 s2) (hb : Below v.heap.size v v1) : Stg w v1 A0 A1 A2 c0 c1 c2 d s0 s1 s2 :=
  ⟨kcb hb h.x0, kcb hb h.x1, kcb hb h.x2, row_below h.r hb, row_below h.t hb, h.b.trans (hb.mono h.b.size), h.p⟩
theorem Stg.rd (h : Stg w v A0 A1 A2 c0 c1 c2 d s0 s1 s2) : PRd v A0 A1 A2 d := h.p.below h.b
theorem far {p : Addr} {u : Value} {b i : Nat} {x : Value} (hne : p.block ≠ b) (h : v.cell? p = some u) : (v.setCell ⟨b, i, none⟩ x).cell? p = some u := by
  rw [World.cell?_setCell_other _ _ _ _ (by intro e; rw [← e] at hne; exact hne rfl)]; exact h
theorem Stg.set (h : Stg w v A0 A1 A2 c0 c1 c2 d s0 s1 s2) (i : Nat) (u : Value) {t0 t1 t2 : Value} (e0 : (if 0 = i then u else s0) = t0) (e1 : (if 1 = i then u else s1) = t1) (e2 : (if 2 = i then u else s2) = t2) :
    Stg w (v.setCell ⟨w.heap.size + 1 + 1, i, none⟩ u) A0 A1 A2 c0 c1 c2 d t0 t1 t2 :=
  ⟨far (by show w.heap.size ≠ _; omega) h.x0, far (by show w.heap.size ≠ _; omega) h.x1, far (by show w.heap.size ≠ _; omega) h.x2, h.r.setOther (by show _ ≠ w.heap.size + 1 + 1; omega) _, (h.t.set i u).congr (fun j hj => by
    have h3 : j = 0 ∨ j = 1 ∨ j = 2 := by omega
    rcases h3 with rfl | rfl | rfl
    · simpa using e0
    · simpa using e1
    · simpa using e2), h.b.setCell (by show w.heap.size ≤ w.heap.size + 1 + 1; omega) _, h.p⟩
theorem Stg.cells (h : Stg w v A0 A1 A2 c0 c1 c2 d s0 s1 s2) : v.cell? ⟨w.heap.size + 1, 0, none⟩ = some (.slice none 0 0) ∧ v.cell? ⟨w.heap.size + 1, 1, none⟩ = some (.slice none 0 0) ∧ v.cell? ⟨w.heap.size + 1, 2, none⟩ = some (.slice none 0 0) ∧ v.cell? ⟨w.heap.size + 1 + 1, 0, none⟩ = some s0 ∧ v.cell? ⟨w.heap.size + 1 + 1, 1, none⟩ = some s1 ∧ v.cell? ⟨w.heap.size + 1 + 1, 2, none⟩ = some s2 ∧
    v.frozen? ⟨w.heap.size + 1, 0, none⟩ = false ∧ v.frozen? ⟨w.heap.size + 1, 1, none⟩ = false ∧ v.frozen? ⟨w.heap.size + 1, 2, none⟩ = false ∧ v.frozen? ⟨w.heap.size + 1 + 1, 0, none⟩ = false ∧ v.frozen? ⟨w.heap.size + 1 + 1, 1, none⟩ = false ∧ v.frozen? ⟨w.heap.size + 1 + 1, 2, none⟩ = false :=
  ⟨h.r.cell (by omega), h.r.cell (by omega), h.r.cell (by omega), h.t.cell (i := 0) (by omega), h.t.cell (i := 1) (by omega), h.t.cell (i := 2) (by omega), h.r.frozen _, h.r.frozen _, h.r.frozen _, h.t.frozen _, h.t.frozen _, h.t.frozen _⟩
end
theorem set_below {w v : World} {B i : Nat} (h : Below w.heap.size w v) (hg : w.heap.size ≤ B) (u : Value) : Below w.heap.size w (v.setCell ⟨B, i, none⟩ u) := h.setCell hg u
theorem three_zero : ∀ i, i < (#[Value.slice none 0 0, .slice none 0 0, .slice none 0 0]).size → (#[Value.slice none 0 0, .slice none 0 0, .slice none 0 0])[i]? = some (.slice none 0 0) := by
  intro i hi
  have : i = 0 ∨ i = 1 ∨ i = 2 := by simp at hi; omega
  rcases this with rfl | rfl | rfl <;> rfl
theorem Copy.set {v : World} {b0 b1 b2 : Nat} {q : Nat → Nat} {d : Pol} (h : Copy v b0 b1 b2 q d) {B i : Nat} (u : Value) (h0 : b0 ≠ B) (h1 : b1 ≠ B) (h2 : b2 ≠ B) (h3 : ∀ i, i < d.rows.length → q i ≠ B) : Copy (v.setCell ⟨B, i, none⟩ u) b0 b1 b2 q d :=
  ⟨h.f.setOther h0 _, h.i.setOther h1 _, h.r.setOther h2 _, fun i hi => (h.q i hi).setOther (h3 i hi) _⟩
set_option maxRecDepth 100000 in
set_option maxHeartbeats 1000000 in
theorem toPolar {w : World} {A0 A1 A2 : Option Addr} {c0 c1 c2 : Nat} {d : Pol} (hP : PRd w A0 A1 A2 d) (hm : d.ws.length ≤ 1048576 ∧ d.an.length ≤ 1048576 ∧ d.rows.length ≤ 1048576) (hr : ∀ j, j < d.rows.length → (rn d.rows j).length ≤ 1048576) :
    Calls Try.prog 9 #[.agg #[.slice A0 d.ws.length c0, .slice A1 d.an.length c1, .slice A2 d.rows.length c2]] w fun e w' => (∃ b0 b1 b2 q, e = .returned (.agg #[.slice (some ⟨b0, 0, none⟩) d.ws.length d.ws.length, .slice (some ⟨b1, 0, none⟩) d.an.length d.an.length, .slice (some ⟨b2, 0, none⟩) d.rows.length d.rows.length]) ∧ Copy w' b0 b1 b2 q d) ∧ Below w.heap.size w w' := by
  obtain ⟨W3, hW3, hS⟩ : ∃ W3, W3 = (((w.alloc (.cells #[.slice A0 d.ws.length c0, .slice A1 d.an.length c1, .slice A2 d.rows.length c2] 26)).alloc (.cells #[.slice none 0 0, .slice none 0 0, .slice none 0 0] 31)).alloc (.cells #[.slice none 0 0, .slice none 0 0, .slice none 0 0] 31)) ∧ Stg w W3 A0 A1 A2 c0 c1 c2 d (.slice none 0 0) (.slice none 0 0) (.slice none 0 0) := by
    refine ⟨_, rfl, ?_⟩
    refine ⟨by go_simp, by go_simp, by go_simp, ?_, ?_, ?_, hP⟩
    · have := (World.rowIs_alloc (w.alloc (.cells #[.slice A0 d.ws.length c0, .slice A1 d.an.length c1, .slice A2 d.rows.length c2] 26)) _ 31 (fun _ => .slice none 0 0) three_zero).alloc (.cells #[.slice none 0 0, .slice none 0 0, .slice none 0 0] 31)
      simpa using this
    · have := (World.rowIs_alloc ((w.alloc (.cells #[.slice A0 d.ws.length c0, .slice A1 d.an.length c1, .slice A2 d.rows.length c2] 26)).alloc (.cells #[.slice none 0 0, .slice none 0 0, .slice none 0 0] 31)) _ 31 (fun i => if i = 0 then .slice none 0 0 else if i = 1 then .slice none 0 0 else .slice none 0 0) (fun i hi => by
        rw [three_zero i hi]
        by_cases e0 : i = 0
        · rw [if_pos e0]
        · rw [if_neg e0]
          by_cases e1 : i = 1
          · rw [if_pos e1]
          · rw [if_neg e1]))
      simpa using this
    · repeat (first | exact Below.refl _ _ | refine Below.alloc ?_ (by first | omega | (simp; omega) | (simp; done)) _)
  have H0 := Lib.hid hS
  clear hS hP
  go_enter Try.func9, Try.ntmps9
  go_wp2_with fail
  rw [← hW3]
  clear hW3
  refine (toFloat32S H0.out.rd.f hm.1).mono ?_
  rintro e v1 ⟨rfl, hf, hb⟩
  have l0 := H0.out.t.lt
  have H1 := Lib.hid (H0.out.to hb)
  clear hb H0
  generalize W3.heap.size = b0 at *
  have H2 := Lib.hid (H1.out.set 0 (.slice (some ⟨b0, 0, none⟩) d.ws.length d.ws.length) (t0 := .slice (some ⟨b0, 0, none⟩) d.ws.length d.ws.length) (t1 := .slice none 0 0) (t2 := .slice none 0 0) rfl rfl rfl)
  have F2 := Lib.hid (hf.setOther (a := ⟨w.heap.size + 1 + 1, 0, none⟩) (by show b0 ≠ w.heap.size + 1 + 1; omega) (.slice (some ⟨b0, 0, none⟩) d.ws.length d.ws.length))
  obtain ⟨x0, x1, x2, _, _, _, _⟩ := H1.out
  obtain ⟨r0, r1, r2, t0, t1, t2, g0, g1, g2, f0, f1, f2⟩ := H1.out.cells
  clear hf H1
  go_wp2_with fail
  have hsz : b0 < (v1.setCell ⟨w.heap.size + 1 + 1, 0, none⟩ (.slice (some ⟨b0, 0, none⟩) d.ws.length d.ws.length)).heap.size := F2.out.lt
  generalize v1.setCell ⟨w.heap.size + 1 + 1, 0, none⟩ (.slice (some ⟨b0, 0, none⟩) d.ws.length d.ws.length) = u1 at *
  clear x0 x1 x2 r0 r1 r2 t0 t1 t2 g0 g1 g2 f0 f1 f2
  refine (toIntS H2.out.rd.i hm.2.1).mono ?_
  rintro e v2 ⟨rfl, hf, hb⟩
  have H3 := Lib.hid (H2.out.to hb)
  have F3 := Lib.hid (row_below F2.out hb)
  clear hb H2 F2
  generalize u1.heap.size = b1 at *
  have H4 := Lib.hid (H3.out.set 1 (.slice (some ⟨b1, 0, none⟩) d.an.length d.an.length) (t0 := .slice (some ⟨b0, 0, none⟩) d.ws.length d.ws.length) (t1 := .slice (some ⟨b1, 0, none⟩) d.an.length d.an.length) (t2 := .slice none 0 0) rfl rfl rfl)
  have F4 := Lib.hid (F3.out.setOther (a := ⟨w.heap.size + 1 + 1, 1, none⟩) (by show b0 ≠ w.heap.size + 1 + 1; omega) (.slice (some ⟨b1, 0, none⟩) d.an.length d.an.length))
  have I4 := Lib.hid (hf.setOther (a := ⟨w.heap.size + 1 + 1, 1, none⟩) (by show b1 ≠ w.heap.size + 1 + 1; omega) (.slice (some ⟨b1, 0, none⟩) d.an.length d.an.length))
  obtain ⟨x0, x1, x2, _, _, _, _⟩ := H3.out
  obtain ⟨r0, r1, r2, t0, t1, t2, g0, g1, g2, f0, f1, f2⟩ := H3.out.cells
  clear hf H3 F3
  go_wp2_with fail
  have hsz2 : b1 < (v2.setCell ⟨w.heap.size + 1 + 1, 1, none⟩ (.slice (some ⟨b1, 0, none⟩) d.an.length d.an.length)).heap.size := I4.out.lt
  generalize v2.setCell ⟨w.heap.size + 1 + 1, 1, none⟩ (.slice (some ⟨b1, 0, none⟩) d.an.length d.an.length) = u2 at *
  clear x0 x1 x2 r0 r1 r2 t0 t1 t2 g0 g1 g2 f0 f1 f2
  refine (toFloat32SS H4.out.rd.r hm.2.2 hr).mono ?_
  rintro e v3 ⟨rfl, ⟨q, hf, hq⟩, hb⟩
  have H5 := Lib.hid (H4.out.to hb)
  have C5 := Lib.hid (show Copy v3 b0 b1 u2.heap.size q d from ⟨row_below F4.out hb, row_below I4.out hb, hf, fun i hi => (hq i hi).2⟩)
  have HQ := Lib.hid (fun i hi => (hq i hi).1)
  clear hf hq hb H4 F4 I4
  generalize u2.heap.size = b2 at *
  have H6 := Lib.hid (H5.out.set 2 (.slice (some ⟨b2, 0, none⟩) d.rows.length d.rows.length) (t0 := .slice (some ⟨b0, 0, none⟩) d.ws.length d.ws.length) (t1 := .slice (some ⟨b1, 0, none⟩) d.an.length d.an.length) (t2 := .slice (some ⟨b2, 0, none⟩) d.rows.length d.rows.length) rfl rfl rfl)
  have C6 := Lib.hid (C5.out.set (B := w.heap.size + 1 + 1) (i := 2) (.slice (some ⟨b2, 0, none⟩) d.rows.length d.rows.length) (by omega) (by omega) (by omega) (fun i hi => by have := HQ.out i hi; omega))
  obtain ⟨x0, x1, x2, _, _, _, _⟩ := H5.out
  obtain ⟨r0, r1, r2, t0, t1, t2, g0, g1, g2, f0, f1, f2⟩ := H5.out.cells
  have C9 := Lib.hid (((C6.out.set (B := w.heap.size + 1) (i := 0) (.slice (some ⟨b0, 0, none⟩) d.ws.length d.ws.length) (by omega) (by omega) (by omega) (fun i hi => by have := HQ.out i hi; omega)).set (B := w.heap.size + 1) (i := 1) (.slice (some ⟨b1, 0, none⟩) d.an.length d.an.length) (by omega) (by omega) (by omega) (fun i hi => by have := HQ.out i hi; omega)).set (B := w.heap.size + 1) (i := 2) (.slice (some ⟨b2, 0, none⟩) d.rows.length d.rows.length) (by omega) (by omega) (by omega) (fun i hi => by have := HQ.out i hi; omega))
  have B9 := Lib.hid (set_below (i := 2) (set_below (i := 1) (set_below (i := 0) H6.out.b (show w.heap.size ≤ w.heap.size + 1 by omega) (.slice (some ⟨b0, 0, none⟩) d.ws.length d.ws.length)) (show w.heap.size ≤ w.heap.size + 1 by omega) (.slice (some ⟨b1, 0, none⟩) d.an.length d.an.length)) (show w.heap.size ≤ w.heap.size + 1 by omega) (.slice (some ⟨b2, 0, none⟩) d.rows.length d.rows.length))
  have R9 := Lib.hid (((H6.out.r.set 0 (.slice (some ⟨b0, 0, none⟩) d.ws.length d.ws.length)).set 1 (.slice (some ⟨b1, 0, none⟩) d.an.length d.an.length)).set 2 (.slice (some ⟨b2, 0, none⟩) d.rows.length d.rows.length))
  clear C6 H6 C5 H5
  go_wp2_with fail
  have z0 := R9.out.cell (i := 0) (by omega)
  have z1 := R9.out.cell (i := 1) (by omega)
  have z2 := R9.out.cell (i := 2) (by omega)
  simp only [Nat.reduceEqDiff, if_false, if_true] at z0 z1 z2
  trace_state
  exact bodyPost_ret (v := .agg #[.slice (some ⟨b0, 0, none⟩) d.ws.length d.ws.length, .slice (some ⟨b1, 0, none⟩) d.an.length d.an.length, .slice (some ⟨b2, 0, none⟩) d.rows.length d.rows.length]) (by simp [results, Try.results9, go_sem, z0, z1, z2]) rfl ⟨⟨b0, b1, b2, q, rfl, C9.out⟩, B9.out⟩
end Go.Proofs.Yteaiaedhkhmgdaa.Cp
