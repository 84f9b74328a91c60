/- The heading to steer: the program's loop over all headings. -/
import Derived.Test.YtpapcohenejpmaaAlong
import Derived.OneCell
import Derived.Deep.RegionHeld3
namespace Go.Proofs.Ytpapcohenejpmaa.Ss
open Go.RowKit Kit Fl Bd Tn Vl Sc Al
theorem impl_boatOk' (s : Nat) (w : World) : Calls Try.prog 49 #[.float .f32 s] w fun e w' => e = .returned (.bool (speedB s)) ∧ w = w' := impl_boatOk s w
/-- one heading's turn -/
def stepS (t : Nat × Nat) (s c d : Nat) (k : Nat) (st : Int × Nat) : Int × Nat :=
  if (FloatKind.f64.format.order (dotP t (wk (tb k) s c d)) 0 == some .gt) = true then
    if (decide (st.1 < 0) || (FloatKind.f64.format.order (crossP t (wk (tb k) s c d) % 2 ^ 63) st.2 == some .lt)) = true then ((k : Int), crossP t (wk (tb k) s c d) % 2 ^ 63) else st
  else st
def runS (t : Nat × Nat) (s c d : Nat) : Nat → Int × Nat
  | 0 => (-1, 0)
  | n + 1 => stepS t s c d n (runS t s c d n)
theorem runS_zero (t : Nat × Nat) (s c d : Nat) : runS t s c d 0 = (-1, 0) := rfl
theorem runS_succ (t : Nat × Nat) (s c d n : Nat) : runS t s c d (n + 1) = stepS t s c d n (runS t s c d n) := rfl
attribute [irreducible] runS
def Inv (w0 : World) (bs bm bt bb bl : Nat) (s c d : Nat) (t : Nat × Nat) (st : Int × Nat) (w' : World) : Prop := w'.cell? ⟨bs, 0, none⟩ = some (.float .f32 s) ∧ w'.cell? ⟨bm, 0, none⟩ = some (.complex .f32 c d) ∧ w'.cell? ⟨bt, 0, none⟩ = some (.complex .f64 t.1 t.2) ∧ w'.cell? ⟨bb, 0, none⟩ = some (.int .i64 st.1) ∧ w'.cell? ⟨bl, 0, none⟩ = some (.float .f64 st.2) ∧ w'.frozen? ⟨bb, 0, none⟩ = false ∧ w'.frozen? ⟨bl, 0, none⟩ = false ∧ Below w0.heap.size w0 w'
theorem Inv.drew {w0 w : World} {bs bm bt bb bl s c d : Nat} {t : Nat × Nat} {st : Int × Nat} (h : Inv w0 bs bm bt bb bl s c d t st w) : Inv w0 bs bm bt bb bl s c d t st w.drew := by
  obtain ⟨h1, h2, h3, h4, h5, h6, h7, h8⟩ := h
  exact ⟨h1, h2, h3, h4, h5, h6, h7, h8.drew⟩
/-- best and least laid anew -/
theorem Inv.lay {w0 w : World} {bs bm bt bb bl s c d : Nat} {t : Nat × Nat} {st : Int × Nat} (h : Inv w0 bs bm bt bb bl s c d t st w) (n1 : bb ≠ bs ∧ bb ≠ bm ∧ bb ≠ bt ∧ bb ≠ bl) (n2 : bl ≠ bs ∧ bl ≠ bm ∧ bl ≠ bt) (hb : w0.heap.size ≤ bb ∧ w0.heap.size ≤ bl) (k : Int) (x : Nat) :
    Inv w0 bs bm bt bb bl s c d t (k, x) ((w.setCell ⟨bb, 0, none⟩ (.int .i64 k)).setCell ⟨bl, 0, none⟩ (.float .f64 x)) := by
  obtain ⟨h1, h2, h3, h4, h5, h6, h7, h8⟩ := h
  obtain ⟨a1, a2, a3, a4⟩ := n1
  obtain ⟨b1, b2, b3⟩ := n2
  have far : ∀ (b : Nat) (v : Value), b ≠ bb → b ≠ bl → w.cell? ⟨b, 0, none⟩ = some v → ((w.setCell ⟨bb, 0, none⟩ (.int .i64 k)).setCell ⟨bl, 0, none⟩ (.float .f64 x)).cell? ⟨b, 0, none⟩ = some v := fun b v e1 e2 hv => by
    rw [World.cell?_setCell_other _ _ _ _ (by intro h; injection h with h; exact e2 h.symm), World.cell?_setCell_other _ _ _ _ (by intro h; injection h with h; exact e1 h.symm)]
    exact hv
  refine ⟨far _ _ (Ne.symm a1) (Ne.symm b1) h1, far _ _ (Ne.symm a2) (Ne.symm b2) h2, far _ _ (Ne.symm a3) (Ne.symm b3) h3, ?_, ?_, by simpa using h6, by simpa using h7, ?_⟩
  · rw [World.cell?_setCell_other _ _ _ _ (by intro h; injection h with h; exact a4 h.symm)]
    exact World.cell?_setCell_same _ _ _ h4
  · refine World.cell?_setCell_same _ _ _ (u := .float .f64 st.2) ?_
    rw [World.cell?_setCell_other _ _ _ _ (by intro h; injection h with h; exact a4 h)]
    exact h5
  · exact (h8.setCell hb.1 _).setCell hb.2 _
theorem clo {w0 w : World} {bs bm bt bb bl s c d k : Nat} {t : Nat × Nat} {st : Int × Nat} (hI : Inv w0 bs bm bt bb bl s c d t st w) (n1 : bb ≠ bs ∧ bb ≠ bm ∧ bb ≠ bt ∧ bb ≠ bl) (n2 : bl ≠ bs ∧ bl ≠ bm ∧ bl ≠ bt) (hb : w0.heap.size ≤ bb ∧ w0.heap.size ≤ bl)
    (F : Sure t (tb k) s c d) (hz : okN (tb k) = true) (hs : speedB s = true) :
    Calls Try.prog 52 #[.int .i64 (k : Int), .complex .f64 (tb k).1 (tb k).2, .pointer (some ⟨bs, 0, none⟩), .pointer (some ⟨bm, 0, none⟩), .pointer (some ⟨bt, 0, none⟩), .pointer (some ⟨bb, 0, none⟩), .pointer (some ⟨bl, 0, none⟩)] w fun e w' =>
      e = .returned (.tuple #[]) ∧ Inv w0 bs bm bt bb bl s c d t (stepS t s c d k st) w' := by
  have HF := Lib.hid F
  have HZ := Lib.hid hz
  have HSP := Lib.hid hs
  have HI := Lib.hid hI
  have HL := Lib.hid (fun (w : World) (h : Inv w0 bs bm bt bb bl s c d t st w) => h.lay n1 n2 hb)
  clear F hz hs hI
  go_enter Try.func52, Try.ntmps52
  go_wp2_with fail
  go_region_held3 (fun w' => w'.cell? ⟨bs, 0, none⟩ = some (.float .f32 s) ∧ w'.cell? ⟨bm, 0, none⟩ = some (.complex .f32 c d) ∧ w'.cell? ⟨bt, 0, none⟩ = some (.complex .f64 t.1 t.2) ∧ w'.cell? ⟨bb, 0, none⟩ = some (.int .i64 st.1) ∧ w'.cell? ⟨bl, 0, none⟩ = some (.float .f64 st.2) ∧ w'.frozen? ⟨bb, 0, none⟩ = false ∧ w'.frozen? ⟨bl, 0, none⟩ = false ∧ Below w0.heap.size w0 w')
    (first | exact HI.out | exact HI.out.drew | assumption)
    (first | (go_at_call 55; refine (impl_along _ _ HZ.out (speed_num HSP.out) _).mono ?_; rintro e w1 ⟨rfl, rfl⟩) | (go_at_call 54; refine (impl_drifted _ _ _ _ HF.out.a1 HF.out.a2 _).mono ?_; rintro e w1 ⟨rfl, rfl⟩) | (go_at_call 53; refine (impl_wide _ _ HF.out.w1 HF.out.w2 _).mono ?_; rintro e w1 ⟨rfl, rfl⟩))
  rename_i hH
  replace hH : Inv w0 bs bm bt bb bl s c d t st w.drew := hH
  have HJ := Lib.hid hH
  clear HI
  generalize w.drew = w1 at *
  obtain ⟨i1, i2, i3, i4, i5, i6, i7, _⟩ := hH
  cases g : (FloatKind.f64.format.order (dotP t (wk (tb k) s c d)) 0 == some .gt)
  · have G := Lib.hid g
    unfold dotP at g
    go_wp2_with (go_at_call 45; refine (impl_Dot _ _ _ _ HF.out.d1 HF.out.d2 HF.out.d3 _).mono ?_; rintro e w1 ⟨rfl, rfl⟩)
    refine bodyPost_ret (results_none rfl _ _ _) rfl ?_
    refine ⟨rfl, ?_⟩
    unfold stepS
    rw [G.out, if_neg (by decide)]
    exact HJ.out
  · cases o : (decide (st.1 < 0) || (FloatKind.f64.format.order (crossP t (wk (tb k) s c d) % 2 ^ 63) st.2 == some .lt))
    · have G := Lib.hid g
      have O := Lib.hid o
      rw [Bool.or_eq_false_iff] at o
      obtain ⟨o1, o2⟩ := o
      unfold dotP at g
      unfold crossP at o2
      go_wp2_with (first | (go_at_call 45; refine (impl_Dot _ _ _ _ HF.out.d1 HF.out.d2 HF.out.d3 _).mono ?_; rintro e w1 ⟨rfl, rfl⟩) | (go_at_call 38; refine (impl_Cross _ _ _ _ HF.out.c1 HF.out.c2 HF.out.c3 _).mono ?_; rintro e w1 ⟨rfl, rfl⟩) | (go_at_call 56; refine (math_Abs _ _).mono ?_; rintro e w1 ⟨rfl, rfl⟩))
      all_goals go_end0
      all_goals refine ⟨rfl, ?_⟩
      all_goals unfold stepS
      all_goals rw [G.out, if_pos rfl, O.out, if_neg (by decide)]
      all_goals exact HJ.out
    · have G := Lib.hid g
      have O := Lib.hid o
      unfold dotP at g
      rw [Bool.or_eq_true] at o
      rcases o with o | o
      all_goals try unfold crossP at o
      all_goals go_wp2_with (first | (go_at_call 45; refine (impl_Dot _ _ _ _ HF.out.d1 HF.out.d2 HF.out.d3 _).mono ?_; rintro e w1 ⟨rfl, rfl⟩) | (go_at_call 38; refine (impl_Cross _ _ _ _ HF.out.c1 HF.out.c2 HF.out.c3 _).mono ?_; rintro e w1 ⟨rfl, rfl⟩) | (go_at_call 56; refine (math_Abs _ _).mono ?_; rintro e w1 ⟨rfl, rfl⟩))
      all_goals go_end0
      all_goals refine ⟨rfl, ?_⟩
      all_goals unfold stepS
      all_goals rw [G.out, if_pos rfl, O.out, if_pos rfl]
      all_goals exact HL.out _ HJ.out _ _
theorem tup {a a' : Int} {b b' : Bool} (h1 : a = a') (h2 : b = b') : Ending.returned (.tuple #[.int .i64 a, .bool b]) = Ending.returned (.tuple #[.int .i64 a', .bool b']) := by rw [h1, h2]
set_option maxRecDepth 100000 in
theorem turnsBy_call {w0 w : World} {bs bm bt bb bl s c d : Nat} {t : Nat × Nat} (hI : Inv w0 bs bm bt bb bl s c d t (runS t s c d 0) w) (n1 : bb ≠ bs ∧ bb ≠ bm ∧ bb ≠ bt ∧ bb ≠ bl) (n2 : bl ≠ bs ∧ bl ≠ bm ∧ bl ≠ bt) (hb : w0.heap.size ≤ bb ∧ w0.heap.size ≤ bl)
    (F : ∀ k, k < 360 → Sure t (tb k) s c d) (hs : speedB s = true) :
    Calls Try.prog 51 #[.func (.func 52) #[] #[.pointer (some ⟨bs, 0, none⟩), .pointer (some ⟨bm, 0, none⟩), .pointer (some ⟨bt, 0, none⟩), .pointer (some ⟨bb, 0, none⟩), .pointer (some ⟨bl, 0, none⟩)]] w fun e w' =>
      e = .returned (.tuple #[]) ∧ Inv w0 bs bm bt bb bl s c d t (runS t s c d 360) w' := by
  have HF := Lib.hid F
  have HSP := Lib.hid hs
  have HI := Lib.hid hI
  clear F hs hI
  go_enter Try.func51, Try.ntmps51
  go_wp2_with fail
  go_loopw [2, 3] (fun z n wr => ∃ j : Nat, j ≤ 360 ∧ n = .int .i64 (j : Int) ∧ z = .complex .f64 (tb j).1 (tb j).2 ∧ Inv w0 bs bm bt bb bl s c d t (runS t s c d j) wr) (fun _ n _ => 360 - (intOf n).toNat)
  case atStart => exact ⟨0, by omega, rfl, rfl, HI.out⟩
  case round =>
    obtain ⟨j, hj, rfl, rfl, hI⟩ := hrel
    have HJ := Lib.hid hI
    clear hI
    by_cases hl : j < 360
    · have HK := Lib.hid (ok_tb j hl)
      have HN := Lib.hid (okN_tb j hl)
      have HFj := Lib.hid (HF.out j hl)
      go_wp2_with fail
      refine (clo HJ.out n1 n2 hb HFj.out HN.out HSP.out).mono ?_
      rintro e w1 ⟨rfl, hI1⟩
      have HI1 := Lib.hid hI1
      clear hI1
      go_wp2_with fail
      refine (impl_times _ HK.out _).mono ?_
      rintro e w' ⟨rfl, rfl⟩
      go_wp2_with fail
      go_round
      case rel => exact ⟨j + 1, by omega, by go_num, rfl, by rw [runS_succ]; exact HI1.out⟩
      case measure => simp [intOf]; omega
    · obtain rfl : j = 360 := by omega
      go_wp2_with fail
      go_end0
      exact ⟨rfl, HJ.out⟩
theorem impl_Steer_yes (t : Int) (s c d : Nat) (hs : speedB s = true) (hv : (within100 c && within100 d) = true) (w : World) : Calls Try.prog 16 #[.int .i64 t, .float .f32 s, .complex .f32 c d] w fun e w' =>
    e = .returned (.tuple #[.int .i64 (max (runS (tb (deg t)) s c d 360).1 0), .bool (decide (0 ≤ (runS (tb (deg t)) s c d 360).1))]) ∧ Below w.heap.size w w' := by
  have hmf : ∀ (fn : Fn) (first cap : Array Value) (w : World), (Instr.makeFunc fn first cap).run Try.prog w = .ok (.func fn first cap) w := fun _ _ _ _ => rfl
  have HS := Lib.hid hs
  have HV := Lib.hid hv
  clear hs hv
  go_enter Try.func16, Try.ntmps16
  go_wp2_with (first | (go_at_call 49; refine (impl_boatOk _ _).mono ?_; rintro e w' ⟨rfl, rfl⟩; rw [HS.out]) | (go_at_call 50; refine (impl_VelocityOk _ _ _).mono ?_; rintro e w' ⟨rfl, rfl⟩; rw [HV.out]) | (go_at_call 13; refine (impl_Turn _ _).mono ?_; rintro e w' ⟨rfl, rfl⟩))
  have HT := Lib.hid (fun k (hk : k < 360) => sure (s := s) (c := c) (d := d) (bt_tb (deg t) (deg_lt t)) (bt_tb k hk) HS.out (by have := HV.out; rw [Bool.and_eq_true] at this; exact this.1) (by have := HV.out; rw [Bool.and_eq_true] at this; exact this.2))
  refine (turnsBy_call (w0 := w) (bs := w.heap.size) (bm := w.heap.size + 1) (bt := w.heap.size + 1 + 1 + 1 + 1) (bb := w.heap.size + 1 + 1) (bl := w.heap.size + 1 + 1 + 1) (s := s) (c := c) (d := d) (t := tb (deg t)) ?_ (by omega) (by omega) (by omega) HT.out HS.out).mono ?_
  · rw [runS_zero]
    refine ⟨by go_simp, by go_simp, by go_simp, by go_simp, by go_simp, by go_simp, by go_simp, ?_⟩
    repeat (first | exact Below.refl _ _ | refine Below.alloc ?_ (by simp; try omega) _)
  · rintro e w1 ⟨rfl, hI⟩
    have HI := Lib.hid hI
    obtain ⟨_, _, _, i4, _, _, _, i8⟩ := hI
    have HB := Lib.hid i8
    clear i8
    go_wp2_with fail
    obtain ⟨R, hR⟩ : ∃ R, (runS (tb (deg t)) s c d 360).1 = R := ⟨_, rfl⟩
    rw [hR] at i4
    have HR := Lib.hid hR
    clear hR
    go_region_held3 (fun w' => w'.cell? ⟨w.heap.size + 1 + 1, 0, none⟩ = some (.int .i64 R) ∧ Below w.heap.size w w')
      (first | exact ⟨i4, HB.out⟩ | exact ⟨i4, HB.out.drew⟩ | assumption)
      (fail)
    all_goals (rename_i hH; replace hH := Lib.hid hH.2)
    all_goals go_wp2
    all_goals go_ret2
    all_goals rw [HR.out]
    all_goals refine ⟨tup (by omega) ?_, hH.out⟩
    all_goals first | rfl | (symm; simp; omega)
theorem impl_Steer_no (t : Int) (s c d : Nat) (hs : (speedB s && (within100 c && within100 d)) = false) (w : World) : Calls Try.prog 16 #[.int .i64 t, .float .f32 s, .complex .f32 c d] w fun e w' =>
    e = .returned (.tuple #[.int .i64 0, .bool false]) ∧ Below w.heap.size w w' := by
  cases h : speedB s
  · have HS := Lib.hid h
    clear hs h
    go_enter Try.func16, Try.ntmps16
    go_wp2_with (first | (go_at_call 49; refine (impl_boatOk _ _).mono ?_; rintro e w' ⟨rfl, rfl⟩; rw [HS.out]))
    go_ret2
    refine ⟨rfl, ?_⟩
    repeat (first | exact Below.refl _ _ | refine Below.alloc ?_ (by simp; try omega) _)
  · rw [h, Bool.true_and] at hs
    have HS := Lib.hid h
    have HV := Lib.hid hs
    clear hs h
    go_enter Try.func16, Try.ntmps16
    go_wp2_with (first | (go_at_call 49; refine (impl_boatOk _ _).mono ?_; rintro e w' ⟨rfl, rfl⟩; rw [HS.out]) | (go_at_call 50; refine (impl_VelocityOk _ _ _).mono ?_; rintro e w' ⟨rfl, rfl⟩; rw [HV.out]))
    go_ret2
    refine ⟨rfl, ?_⟩
    repeat (first | exact Below.refl _ _ | refine Below.alloc ?_ (by simp; try omega) _)
/-! ### the reference's loop -/
def am64 (x : Nat) : Nat := if (FloatKind.f64.format.order x 0 == some .lt) = true then Op.negFloat .f64 x else x
theorem spec_l02Amount (x : Nat) (w : World) : Calls Try.prog 62 #[.float .f64 x] w fun e w' => e = .returned (.float .f64 (am64 x)) ∧ w = w' := by
  unfold am64
  cases h : (FloatKind.f64.format.order x 0 == some .lt)
  all_goals go_enter Try.func62, Try.ntmps62
  all_goals go_wp2
  all_goals go_ret
  all_goals exact ⟨rfl, rfl⟩
/-- does some heading below n come on along the track? -/
def someB (t : Nat × Nat) (s c d : Nat) : Nat → Bool
  | 0 => false
  | n + 1 => someB t s c d n || (FloatKind.f64.format.order (dotP t (wk (tb n) s c d)) 0 == some .gt)
theorem someB_succ (t : Nat × Nat) (s c d n : Nat) : someB t s c d (n + 1) = (someB t s c d n || (FloatKind.f64.format.order (dotP t (wk (tb n) s c d)) 0 == some .gt)) := rfl
theorem someB_zero (t : Nat × Nat) (s c d : Nat) : someB t s c d 0 = false := rfl
attribute [irreducible] someB
theorem deg_nat {j : Nat} (h : j < 360) : deg (j : Int) = j := by unfold deg; omega
theorem not_le {x : Nat} (h : Num FloatKind.f64.format x) : (FloatKind.f64.format.order x 0 == some .lt || FloatKind.f64.format.order x 0 == some .eq) = !(FloatKind.f64.format.order x 0 == some .gt) := by
  have h0 : Num FloatKind.f64.format 0 := num_iff.2 (by decide)
  rw [lss_num h h0, eql_num h h0, gtr_num h h0]
  by_cases a : V FloatKind.f64.format x < V FloatKind.f64.format 0
  · have : ¬ V FloatKind.f64.format 0 < V FloatKind.f64.format x := by grind
    simp [a, this]
  · by_cases b : V FloatKind.f64.format x = V FloatKind.f64.format 0
    · have : ¬ V FloatKind.f64.format 0 < V FloatKind.f64.format x := by grind
      simp [b]
    · have : V FloatKind.f64.format 0 < V FloatKind.f64.format x := by grind
      simp [a, b, this]
set_option maxRecDepth 100000 in
theorem spec_Steer (t : Int) (s c d : Nat) (w : World) : Calls Try.prog 21 #[.int .i64 t, .float .f32 s, .complex .f32 c d] w fun e w' =>
    ∃ n : Int, e = .returned (.tuple #[.int .i64 n, .bool ((speedB s && (within100 c && within100 d)) && someB (tb (deg t)) s c d 360)]) ∧ w = w' := by
  go_enter Try.func21, Try.ntmps21
  go_wp2_with fail
  go_loop [8, 9, 10] (fun b l n => ∃ (j : Nat) (B : Int) (L : Nat), j ≤ 360 ∧ n = .int .i64 (j : Int) ∧ b = .int .i64 B ∧ l = .float .f64 L ∧ decide (0 ≤ B) = ((speedB s && (within100 c && within100 d)) && someB (tb (deg t)) s c d j)) (fun _ _ n => 360 - (intOf n).toNat)
  case atStart => exact ⟨0, -1, 0, by omega, rfl, rfl, rfl, by rw [someB_zero, Bool.and_false]; rfl⟩
  case round =>
    obtain ⟨j, B, L, hj, rfl, rfl, rfl, hB⟩ := hrel
    have HB := Lib.hid hB
    clear hB
    by_cases hl : j < 360
    · have HD := Lib.hid (deg_nat hl)
      cases hc : (speedB s && (within100 c && within100 d))
      · have HC := Lib.hid hc
        clear hc
        go_wp2_with (go_at_call 60; refine (spec_AlongTrack _ _ _ _ _ _).mono ?_; rintro e w' ⟨rfl, rfl⟩; rw [HC.out, if_neg (by decide)])
        go_round
        case rel => exact ⟨j + 1, B, L, by omega, by go_num, rfl, rfl, by rw [HB.out, HC.out, Bool.false_and, Bool.false_and]⟩
        case measure => simp [intOf]; omega
      · have hv' := hc
        rw [Bool.and_eq_true, Bool.and_eq_true] at hv'
        have F := Lib.hid (sure (bt_tb (deg t) (deg_lt t)) (bt_tb j hl) hv'.1 hv'.2.1 hv'.2.2)
        have HC := Lib.hid hc
        clear hc hv'
        have nl := not_le F.out.dn
        cases g : (FloatKind.f64.format.order (dotP (tb (deg t)) (wk (tb j) s c d)) 0 == some .gt)
        · have G := Lib.hid g
          rw [g, Bool.not_false] at nl
          clear g
          go_wp2_with (go_at_call 60; refine (spec_AlongTrack _ _ _ _ _ _).mono ?_; rintro e w' ⟨rfl, rfl⟩; rw [HC.out, if_pos (by decide), HD.out])
          go_round
          case rel => exact ⟨j + 1, B, L, by omega, by go_num, rfl, rfl, by rw [HB.out, HC.out, Bool.true_and, Bool.true_and, someB_succ, G.out, Bool.or_false]⟩
          case measure => simp [intOf]; omega
        · have G := Lib.hid g
          rw [g, Bool.not_true] at nl
          clear g
          go_wp2_with (first | (go_at_call 60; refine (spec_AlongTrack _ _ _ _ _ _).mono ?_; rintro e w' ⟨rfl, rfl⟩; rw [HC.out, if_pos (by decide), HD.out]) | (go_at_call 61; refine (spec_OffTrack _ _ _ _ _ _).mono ?_; rintro e w' ⟨rfl, rfl⟩; rw [HC.out, if_pos (by decide), HD.out]) | (go_at_call 62; refine (spec_l02Amount _ _).mono ?_; rintro e w' ⟨rfl, rfl⟩))
          all_goals refine ⟨⟨j + 1, _, _, by omega, by go_num, rfl, rfl, ?_⟩, ?_⟩
          all_goals first | (rw [Bool.true_and, someB_succ, G.out, Bool.or_true]; exact decide_eq_true (by omega)) | (simp [intOf]; omega)
    · obtain rfl : j = 360 := by omega
      by_cases h0 : 0 ≤ B
      · go_wp2_with fail
        go_ret2
        have e1 := HB.out.symm.trans (decide_eq_true h0)
        first | exact ⟨⟨_, tup rfl e1.symm⟩, rfl⟩ | exact ⟨_, tup rfl e1.symm, rfl⟩
      · go_wp2_with fail
        go_ret2
        have e1 := HB.out.symm.trans (decide_eq_false (show ¬ 0 ≤ B by omega))
        first | exact ⟨⟨_, tup rfl e1.symm⟩, rfl⟩ | exact ⟨_, tup rfl e1.symm, rfl⟩
theorem run_some (t : Nat × Nat) (s c d : Nat) : ∀ n, decide (0 ≤ (runS t s c d n).1) = someB t s c d n := by
  intro n
  induction n with
  | zero => rw [runS_zero, someB_zero]; rfl
  | succ n ih =>
    rw [runS_succ, someB_succ, ← ih]
    unfold stepS
    by_cases g : (FloatKind.f64.format.order (dotP t (wk (tb n) s c d)) 0 == some .gt) = true
    · rw [if_pos g, g, Bool.or_true]
      by_cases o : (decide ((runS t s c d n).1 < 0) || (FloatKind.f64.format.order (crossP t (wk (tb n) s c d) % 2 ^ 63) (runS t s c d n).2 == some .lt)) = true
      · rw [if_pos o]; exact decide_eq_true (by simp)
      · rw [if_neg o]
        rw [Bool.not_eq_true, Bool.or_eq_false_iff] at o
        exact decide_eq_true (by have := of_decide_eq_false o.1; omega)
    · rw [if_neg g]
      rw [Bool.not_eq_true] at g
      rw [g, Bool.or_false]
/-- the heading that is told, and whether there is one -/
def okR (s c d : Nat) : Bool := speedB s && (within100 c && within100 d)
def headN (t : Int) (s c d : Nat) : Int := if okR s c d = true then max (runS (tb (deg t)) s c d 360).1 0 else 0
def headB (t : Int) (s c d : Nat) : Bool := okR s c d && someB (tb (deg t)) s c d 360
theorem impl_Steer (t : Int) (s c d : Nat) (w : World) : Calls Try.prog 16 #[.int .i64 t, .float .f32 s, .complex .f32 c d] w fun e w' =>
    e = .returned (.tuple #[.int .i64 (headN t s c d), .bool (headB t s c d)]) ∧ Below w.heap.size w w' := by
  unfold headN headB
  cases h : okR s c d
  · exact impl_Steer_no t s c d h w
  · have h' := h
    unfold okR at h'
    rw [Bool.and_eq_true] at h'
    refine (impl_Steer_yes t s c d h'.1 h'.2 w).mono fun e w' ⟨he, hw⟩ => ⟨?_, hw⟩
    rw [he]
    exact tup rfl (by rw [Bool.true_and]; exact run_some _ _ _ _ _)
theorem spec_Steer' (t : Int) (s c d : Nat) (w : World) : Calls Try.prog 21 #[.int .i64 t, .float .f32 s, .complex .f32 c d] w fun e w' =>
    ∃ n : Int, e = .returned (.tuple #[.int .i64 n, .bool (headB t s c d)]) ∧ w = w' := spec_Steer t s c d w
end Go.Proofs.Ytpapcohenejpmaa.Ss
