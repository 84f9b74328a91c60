/- The best angle of a polar: both sides. Printed by gen/mkbest.py. -/
import Derived.Test.YteaiaedhkhmgdaaGreatMade
import Derived.OneCell
namespace Go.Proofs.YteaiaedhkhmgdaaGreat.BestDown
open Go.RowKit Kit Fl Bd Tn Pf Pw Mu
def fF (d : Pol) (x : Nat) (k : Nat) : Nat := Op.negFloat .f32 (upF d x (k : Int))
/-- one angle -/
def stepM (f : Nat → Nat) (k : Nat) (st : Int × Nat) : Int × Nat :=
  if (decide ((91 : Int) ≤ (k : Int)) && decide ((k : Int) ≤ 180)) = true then (if ((k : Int) == 91) = true ∨ gtB (f k) st.2 = true then ((k : Int), f k) else st) else st
def runM (f : Nat → Nat) : Nat → Int × Nat
  | 0 => (91, 0)
  | n + 1 => stepM f n (runM f n)
theorem runM_zero (f : Nat → Nat) : runM f 0 = (91, 0) := rfl
theorem runM_succ (f : Nat → Nat) (n : Nat) : runM f (n + 1) = stepM f n (runM f n) := rfl
attribute [irreducible] runM
/-- what the closures see -/
structure Inv (w0 : World) (bp bx bl bh bf ba bb : Nat) (A0 A1 A2 : Option Addr) (c0 c1 c2 : Nat) (d : Pol) (x : Nat) (st : Int × Nat) (v : World) : Prop where
  p0 : v.cell? ⟨bp, 0, none⟩ = some (.slice A0 d.ws.length c0)
  p1 : v.cell? ⟨bp, 1, none⟩ = some (.slice A1 d.an.length c1)
  p2 : v.cell? ⟨bp, 2, none⟩ = some (.slice A2 d.rows.length c2)
  px : v.cell? ⟨bx, 0, none⟩ = some (.float .f32 x)
  pl : v.cell? ⟨bl, 0, none⟩ = some (.int .i64 91)
  ph : v.cell? ⟨bh, 0, none⟩ = some (.int .i64 180)
  pf : v.cell? ⟨bf, 0, none⟩ = some (.func (.func 24) #[] #[.pointer (some ⟨bp, 0, none⟩), .pointer (some ⟨bx, 0, none⟩)])
  pa : v.cell? ⟨ba, 0, none⟩ = some (.int .i64 st.1)
  pb : v.cell? ⟨bb, 0, none⟩ = some (.float .f32 st.2)
  fa : v.frozen? ⟨ba, 0, none⟩ = false
  fb : v.frozen? ⟨bb, 0, none⟩ = false
  b : Below w0.heap.size w0 v
section
variable {w0 v v1 : World} {bp bx bl bh bf ba bb : Nat} {A0 A1 A2 : Option Addr} {c0 c1 c2 : Nat} {d : Pol} {x : Nat} {st : Int × Nat}
theorem Inv.to (h : Inv w0 bp bx bl bh bf ba bb A0 A1 A2 c0 c1 c2 d x st v) (hb : Below v.heap.size v v1) : Inv w0 bp bx bl bh bf ba bb A0 A1 A2 c0 c1 c2 d x st v1 :=
  ⟨kc hb h.p0, kc hb h.p1, kc hb h.p2, kc hb h.px, kc hb h.pl, kc hb h.ph, kc hb h.pf, kc hb h.pa, kc hb h.pb, (hb.frozen (World.block_lt_of_cell? v _ h.pa)).trans h.fa, (hb.frozen (World.block_lt_of_cell? v _ h.pb)).trans h.fb, h.b.trans (hb.mono h.b.size)⟩
structure Apart (w0 : World) (bp bx bl bh bf ba bb : Nat) : Prop where
  a : ba ≠ bp ∧ ba ≠ bx ∧ ba ≠ bl ∧ ba ≠ bh ∧ ba ≠ bf ∧ ba ≠ bb
  b : bb ≠ bp ∧ bb ≠ bx ∧ bb ≠ bl ∧ bb ≠ bh ∧ bb ≠ bf
  g : w0.heap.size ≤ ba ∧ w0.heap.size ≤ bb
/-- at and best laid anew -/
theorem Inv.lay (h : Inv w0 bp bx bl bh bf ba bb A0 A1 A2 c0 c1 c2 d x st v) (n : Apart w0 bp bx bl bh bf ba bb) (k : Int) (y : Nat) :
    Inv w0 bp bx bl bh bf ba bb A0 A1 A2 c0 c1 c2 d x (k, y) ((v.setCell ⟨ba, 0, none⟩ (.int .i64 k)).setCell ⟨bb, 0, none⟩ (.float .f32 y)) := by
  obtain ⟨a1, a2, a3, a4, a5, a6⟩ := n.a
  obtain ⟨b1, b2, b3, b4, b5⟩ := n.b
  have far : ∀ (q i : Nat) (u : Value), q ≠ ba → q ≠ bb → v.cell? ⟨q, i, none⟩ = some u → ((v.setCell ⟨ba, 0, none⟩ (.int .i64 k)).setCell ⟨bb, 0, none⟩ (.float .f32 y)).cell? ⟨q, i, none⟩ = some u := fun q i u e1 e2 hv => by
    rw [World.cell?_setCell_other _ _ _ _ (by intro h; injection h with h; exact e2 h.symm), World.cell?_setCell_other _ _ _ _ (by intro h; injection h with h; exact e1 h.symm)]
    exact hv
  refine ⟨far _ _ _ a1.symm b1.symm h.p0, far _ _ _ a1.symm b1.symm h.p1, far _ _ _ a1.symm b1.symm h.p2, far _ _ _ a2.symm b2.symm h.px, far _ _ _ a3.symm b3.symm h.pl, far _ _ _ a4.symm b4.symm h.ph, far _ _ _ a5.symm b5.symm h.pf, ?_, ?_, by simpa using h.fa, by simpa using h.fb, ?_⟩
  · rw [World.cell?_setCell_other _ _ _ _ (by intro h; injection h with h; exact a6 h.symm)]
    exact World.cell?_setCell_same _ _ _ h.pa
  · refine World.cell?_setCell_same _ _ _ (u := .float .f32 st.2) ?_
    rw [World.cell?_setCell_other _ _ _ _ (by intro h; injection h with h; exact a6 h)]
    exact h.pb
  · exact (h.b.setCell n.g.1 _).setCell n.g.2 _
end
set_option maxRecDepth 100000 in
theorem clo1 {w0 v : World} {bp bx bl bh bf ba bb : Nat} {A0 A1 A2 : Option Addr} {c0 c1 c2 : Nat} {d : Pol} {x k : Nat} {st : Int × Nat} (hP : PolAt w0 A0 A1 A2 d) (ok : Okp d) (hx : airB x = true) (hI : Inv w0 bp bx bl bh bf ba bb A0 A1 A2 c0 c1 c2 d x st v) (hk : k ≤ 180) :
    Calls Tryz.prog 24 #[.int .i64 (k : Int), .complex .f64 (tb k).1 (tb k).2, .pointer (some ⟨bp, 0, none⟩), .pointer (some ⟨bx, 0, none⟩)] v fun e v' => e = .returned (.float .f32 (fF d x k)) ∧ Below v.heap.size v v' := by
  have HP := Lib.hid (hP.below hI.b)
  have HO := Lib.hid ok
  have HA := Lib.hid hx
  have HU := Lib.hid (okU_tb k (by omega))
  have HE := Lib.hid (show upF d x (k : Int) = upZ d x (k : Int) (tb k) by unfold upF; rw [show deg (k : Int) = k by unfold deg; omega])
  obtain ⟨p0, p1, p2, px, _, _, _, _, _, _, _, _⟩ := hI
  clear hP ok hx
  go_enter Tryz.func24, Tryz.ntmps24
  go_wp2_with fail
  refine (impl_up HP.out HO.out HA.out (by omega) (by omega) HU.out).mono ?_
  rintro e w1 ⟨rfl, hb⟩
  have HB := Lib.hid hb
  clear hb
  go_wp2_with fail
  go_ret
  exact ⟨by unfold fF; rw [HE.out]; rfl, HB.out⟩
theorem step_out {f : Nat → Nat} {k : Nat} {st : Int × Nat} (h : (decide ((91 : Int) ≤ (k : Int)) && decide ((k : Int) ≤ 180)) = false) : stepM f k st = st := by unfold stepM; rw [if_neg (by rw [h]; decide)]
theorem step_in {f : Nat → Nat} {k : Nat} {st : Int × Nat} (h : (decide ((91 : Int) ≤ (k : Int)) && decide ((k : Int) ≤ 180)) = true) (hc : ((k : Int) == 91) = true ∨ gtB (f k) st.2 = true) : stepM f k st = ((k : Int), f k) := by unfold stepM; rw [if_pos h, if_pos hc]
theorem step_no {f : Nat → Nat} {k : Nat} {st : Int × Nat} (hc : ((k : Int) == 91) = false) (hg : gtB (f k) st.2 = false) : stepM f k st = st := by
  unfold stepM
  split
  · rw [if_neg (by rw [hc, hg]; decide)]
  · rfl
set_option maxRecDepth 100000 in
theorem clo {w0 v : World} {bp bx bl bh bf ba bb : Nat} {A0 A1 A2 : Option Addr} {c0 c1 c2 : Nat} {d : Pol} {x k : Nat} {st : Int × Nat} (hP : PolAt w0 A0 A1 A2 d) (ok : Okp d) (hx : airB x = true) (n : Apart w0 bp bx bl bh bf ba bb) (hI : Inv w0 bp bx bl bh bf ba bb A0 A1 A2 c0 c1 c2 d x st v) :
    Calls Tryz.prog 56 #[.int .i64 (k : Int), .complex .f64 (tb k).1 (tb k).2, .pointer (some ⟨bl, 0, none⟩), .pointer (some ⟨bh, 0, none⟩), .pointer (some ⟨bf, 0, none⟩), .pointer (some ⟨bb, 0, none⟩), .pointer (some ⟨ba, 0, none⟩)] v fun e v' => e = .returned (.tuple #[]) ∧ Inv w0 bp bx bl bh bf ba bb A0 A1 A2 c0 c1 c2 d x (stepM (fF d x) k st) v' := by
  have HI := Lib.hid hI
  have HP := Lib.hid hP
  have HO := Lib.hid ok
  have HA := Lib.hid hx
  have HN := Lib.hid n
  obtain ⟨_, _, _, _, pl, ph, pf, pa, pb, fa, fb, _⟩ := hI
  cases hw : (decide ((91 : Int) ≤ (k : Int)) && decide ((k : Int) ≤ 180))
  · have HW := Lib.hid hw
    clear hw hP ok hx n
    go_enter Tryz.func56, Tryz.ntmps56
    go_wp2_with (go_at_call 33; refine (impl_within _ _ _ _).mono ?_; rintro e w' ⟨rfl, rfl⟩; rw [HW.out])
    all_goals first | (refine bodyPost_ret (results_none rfl _ _ _) rfl ?_) | go_end0
    all_goals refine ⟨rfl, ?_⟩
    all_goals rw [step_out HW.out]
    all_goals exact HI.out
  · have HW := Lib.hid hw
    have hk : k ≤ 180 := by
      rw [Bool.and_eq_true] at hw
      have := of_decide_eq_true hw.2
      omega
    clear hw hP ok hx n
    go_enter Tryz.func56, Tryz.ntmps56
    go_wp2_with (go_at_call 33; refine (impl_within _ _ _ _).mono ?_; rintro e w' ⟨rfl, rfl⟩; rw [HW.out])
    refine (clo1 HP.out HO.out HA.out HI.out hk).mono ?_
    rintro e w1 ⟨rfl, hb⟩
    have HJ := Lib.hid (HI.out.to hb)
    clear hb HI pl ph pf pa pb fa fb
    obtain ⟨_, _, _, _, pl, ph, pf, pa, pb, fa, fb, _⟩ := HJ.out
    have hne1 := HN.out.a.2.2.2.2.2
    have hne2 := hne1.symm
    by_cases hl : (k : Int) = 91
    · have HK := Lib.hid hl
      have HL := Lib.hid (step_in (f := fF d x) (st := st) HW.out (Or.inl (beq_iff_eq.2 hl)))
      go_wp2_with fail
      all_goals go_end0
      all_goals refine ⟨rfl, ?_⟩
      all_goals rw [HL.out, HK.out]
      all_goals exact HJ.out.lay HN.out _ _
    · cases hg : gtB (fF d x k) st.2
      · have HL := Lib.hid (step_no (f := fF d x) (st := st) (beq_eq_false_iff_ne.2 hl) hg)
        unfold gtB at hg
        go_wp2_with fail
        all_goals go_end0
        all_goals refine ⟨rfl, ?_⟩
        all_goals rw [HL.out]
        all_goals exact HJ.out
      · have HL := Lib.hid (step_in (f := fF d x) (st := st) HW.out (Or.inr hg))
        unfold gtB at hg
        go_wp2_with fail
        all_goals go_end0
        all_goals refine ⟨rfl, ?_⟩
        all_goals rw [HL.out]
        all_goals exact HJ.out.lay HN.out _ _
set_option maxRecDepth 100000 in
theorem turnsBy_call {w0 v : World} {bp bx bl bh bf ba bb : Nat} {A0 A1 A2 : Option Addr} {c0 c1 c2 : Nat} {d : Pol} {x : Nat} (hP : PolAt w0 A0 A1 A2 d) (ok : Okp d) (hx : airB x = true) (n : Apart w0 bp bx bl bh bf ba bb) (hI : Inv w0 bp bx bl bh bf ba bb A0 A1 A2 c0 c1 c2 d x (runM (fF d x) 0) v) :
    Calls Tryz.prog 55 #[.func (.func 56) #[] #[.pointer (some ⟨bl, 0, none⟩), .pointer (some ⟨bh, 0, none⟩), .pointer (some ⟨bf, 0, none⟩), .pointer (some ⟨bb, 0, none⟩), .pointer (some ⟨ba, 0, none⟩)]] v fun e v' => e = .returned (.tuple #[]) ∧ Inv w0 bp bx bl bh bf ba bb A0 A1 A2 c0 c1 c2 d x (runM (fF d x) 360) v' := by
  have HI := Lib.hid hI
  have HP := Lib.hid hP
  have HO := Lib.hid ok
  have HA := Lib.hid hx
  have HN := Lib.hid n
  clear hI hP ok hx n
  go_enter Tryz.func55, Tryz.ntmps55
  go_wp2_with fail
  go_loopw [2, 3] (fun z n wr => ∃ j : Nat, j ≤ 360 ∧ n = .int .i64 (j : Int) ∧ z = .complex .f64 (tb j).1 (tb j).2 ∧ Inv w0 bp bx bl bh bf ba bb A0 A1 A2 c0 c1 c2 d x (runM (fF d x) j) wr) (fun _ n _ => 360 - (intOf n).toNat)
  case atStart => exact ⟨0, by omega, rfl, rfl, HI.out⟩
  case round =>
    obtain ⟨j, hj, rfl, rfl, hI⟩ := hrel
    have HJ := Lib.hid hI
    clear hI
    by_cases hl : j < 360
    · have HK := Lib.hid (ok_tb j hl)
      go_wp2_with fail
      refine (clo HP.out HO.out HA.out HN.out HJ.out).mono ?_
      rintro e w1 ⟨rfl, hI1⟩
      have HI1 := Lib.hid hI1
      clear hI1
      go_wp2_with fail
      refine (impl_times _ HK.out _).mono ?_
      rintro e w' ⟨rfl, rfl⟩
      go_wp2_with fail
      go_round
      case rel => exact ⟨j + 1, by omega, by go_num, rfl, by rw [runM_succ]; exact HI1.out⟩
      case measure => simp [intOf]; omega
    · obtain rfl : j = 360 := by omega
      go_wp2_with fail
      go_end0
      exact ⟨rfl, HJ.out⟩
theorem run_before (f : Nat → Nat) : ∀ n, n ≤ 91 → runM f n = (91, 0) := by
  intro n
  induction n with
  | zero => intro _; rw [runM_zero]
  | succ n ih =>
    intro h
    rw [runM_succ, ih (by omega)]
    exact step_out (by rw [decide_eq_false (show ¬ (91 : Int) ≤ (n : Int) by omega)]; rfl)
theorem in_range {n : Nat} (h1 : 91 ≤ n) (h2 : n ≤ 180) : (decide ((91 : Int) ≤ (n : Int)) && decide ((n : Int) ≤ 180)) = true := by
  rw [decide_eq_true (show (91 : Int) ≤ (n : Int) by omega), decide_eq_true (show (n : Int) ≤ 180 by omega)]; rfl
theorem run_first (f : Nat → Nat) : runM f 92 = (91, f 91) := by
  rw [runM_succ, run_before f 91 (by omega)]
  exact step_in (k := 91) (in_range (by omega) (by omega)) (Or.inl (by decide))
theorem run_after (f : Nat → Nat) : ∀ n, 181 ≤ n → runM f n = runM f 181 := by
  intro n
  induction n with
  | zero => intro h; omega
  | succ n ih =>
    intro h
    by_cases e : n + 1 = 181
    · rw [e]
    · rw [runM_succ, ih (by omega)]
      exact step_out (by rw [decide_eq_false (show ¬ (n : Int) ≤ (180 : Int) by omega), Bool.and_false])
theorem run_step {f : Nat → Nat} {n a : Nat} (h1 : 92 ≤ n) (h2 : n ≤ 180) (h : runM f n = ((a : Int), f a)) : runM f (n + 1) = if gtB (f n) (f a) = true then ((n : Int), f n) else ((a : Int), f a) := by
  rw [runM_succ, h]
  cases hg : gtB (f n) (f a)
  · rw [if_neg (by decide)]
    exact step_no (beq_eq_false_iff_ne.2 (by omega)) hg
  · rw [if_pos rfl]
    exact step_in (in_range (by omega) h2) (Or.inr hg)
theorem run_num {f : Nat → Nat} : ∀ n, 92 ≤ n → n ≤ 181 → ∃ a : Nat, 91 ≤ a ∧ a ≤ 180 ∧ runM f n = ((a : Int), f a) := by
  intro n
  induction n with
  | zero => intro h; omega
  | succ n ih =>
    intro h1 h2
    by_cases e : n + 1 = 92
    · obtain rfl : n = 91 := by omega
      exact ⟨91, by omega, by omega, run_first f⟩
    · obtain ⟨a, a1, a2, ha⟩ := ih (by omega) (by omega)
      rw [run_step (by omega) (by omega) ha]
      split
      · exact ⟨n, by omega, by omega, rfl⟩
      · exact ⟨a, a1, a2, rfl⟩
/-- what is told -/
noncomputable def bestR (d : Pol) (x : Nat) : Array Value := if okS d x 91 = true ∧ gtB (runM (fF d x) 360).2 0 = true then #[.int .i64 (runM (fF d x) 360).1, .bool true] else #[.int .i64 0, .bool false]
theorem best_none {d : Pol} {x : Nat} (h : okS d x 91 = false) : bestR d x = #[.int .i64 0, .bool false] := by unfold bestR; rw [if_neg (by rw [h]; simp)]
theorem best_low {d : Pol} {x : Nat} (h : gtB (runM (fF d x) 360).2 0 = false) : bestR d x = #[.int .i64 0, .bool false] := by unfold bestR; rw [if_neg (by rw [h]; simp)]
theorem best_yes {d : Pol} {x : Nat} (h : okS d x 91 = true) (h2 : gtB (runM (fF d x) 360).2 0 = true) : bestR d x = #[.int .i64 (runM (fF d x) 360).1, .bool true] := by unfold bestR; rw [if_pos ⟨h, h2⟩]
set_option maxRecDepth 100000 in
set_option maxHeartbeats 1000000 in
theorem impl_most {w0 v : World} {bp bx : Nat} {A0 A1 A2 : Option Addr} {c0 c1 c2 : Nat} {d : Pol} {x : Nat} (hP : PolAt w0 A0 A1 A2 d) (ok : Okp d) (hx : airB x = true)
    (p0 : v.cell? ⟨bp, 0, none⟩ = some (.slice A0 d.ws.length c0)) (p1 : v.cell? ⟨bp, 1, none⟩ = some (.slice A1 d.an.length c1)) (p2 : v.cell? ⟨bp, 2, none⟩ = some (.slice A2 d.rows.length c2)) (px : v.cell? ⟨bx, 0, none⟩ = some (.float .f32 x)) (hB : Below w0.heap.size w0 v) :
    Calls Tryz.prog 23 #[.int .i64 91, .int .i64 180, .func (.func 24) #[] #[.pointer (some ⟨bp, 0, none⟩), .pointer (some ⟨bx, 0, none⟩)]] v fun e v' => e = .returned (.tuple #[.int .i64 (runM (fF d x) 360).1, .float .f32 (runM (fF d x) 360).2]) ∧ Below w0.heap.size w0 v' := by
  have hmf : ∀ (fn : Fn) (first cap : Array Value) (w : World), (Instr.makeFunc fn first cap).run Tryz.prog w = .ok (.func fn first cap) w := fun _ _ _ _ => rfl
  have l1 : bp < v.heap.size := World.block_lt_of_cell? v _ p0
  have l2 : bx < v.heap.size := World.block_lt_of_cell? v _ px
  have l3 := hB.size
  have HP := Lib.hid hP
  have HO := Lib.hid ok
  have HA := Lib.hid hx
  have HB := Lib.hid hB
  have HQ := Lib.hid (show v.cell? ⟨bp, 0, none⟩ = some (.slice A0 d.ws.length c0) ∧ v.cell? ⟨bp, 1, none⟩ = some (.slice A1 d.an.length c1) ∧ v.cell? ⟨bp, 2, none⟩ = some (.slice A2 d.rows.length c2) ∧ v.cell? ⟨bx, 0, none⟩ = some (.float .f32 x) from ⟨p0, p1, p2, px⟩)
  clear hP ok hx hB p0 p1 p2 px
  go_enter Tryz.func23, Tryz.ntmps23
  go_wp2_with fail
  refine (turnsBy_call (w0 := w0) (bp := bp) (bx := bx) (bl := v.heap.size) (bh := v.heap.size + 1) (bf := v.heap.size + 1 + 1) (ba := v.heap.size + 1 + 1 + 1) (bb := v.heap.size + 1 + 1 + 1 + 1) (c0 := c0) (c1 := c1) (c2 := c2) HP.out HO.out HA.out ⟨by omega, by omega, by omega⟩ ?_).mono ?_
  · rw [runM_zero]
    exact ⟨kc (by repeat (first | exact Below.refl _ _ | refine Below.alloc ?_ (by simp; try omega) _)) HQ.out.1, kc (by repeat (first | exact Below.refl _ _ | refine Below.alloc ?_ (by simp; try omega) _)) HQ.out.2.1, kc (by repeat (first | exact Below.refl _ _ | refine Below.alloc ?_ (by simp; try omega) _)) HQ.out.2.2.1, kc (by repeat (first | exact Below.refl _ _ | refine Below.alloc ?_ (by simp; try omega) _)) HQ.out.2.2.2, by go_simp, by go_simp, by go_simp, by go_simp, by go_simp, by go_simp, by go_simp, by
      repeat (first | exact HB.out | refine Below.alloc ?_ (by first | omega | (simp; omega)) _)⟩
  · rintro e w1 ⟨rfl, hI⟩
    have HJ := Lib.hid hI
    obtain ⟨_, _, _, _, _, _, _, pa, pb, _, _, _⟩ := hI
    clear HQ
    obtain ⟨r, hr⟩ : ∃ r, runM (fF d x) 360 = r := ⟨_, rfl⟩
    rw [hr] at pa pb
    have HR := Lib.hid hr
    clear hr
    go_wp2_with fail
    go_quiet (fail)
    go_wp2_with fail
    go_ret2
    exact ⟨by rw [HR.out]; rfl, drewN_below HJ.out.b _⟩
set_option maxRecDepth 100000 in
set_option maxHeartbeats 1000000 in
theorem impl_BestDown {w : World} {A0 A1 A2 : Option Addr} {c0 c1 c2 : Nat} {d : Pol} (x : Nat) (hP : PolAt w A0 A1 A2 d) :
    Calls Tryz.prog 6 #[.agg #[.slice A0 d.ws.length c0, .slice A1 d.an.length c1, .slice A2 d.rows.length c2], .float .f32 x] w fun e w' => e = .returned (.tuple (bestR d x)) ∧ Below w.heap.size w w' := by
  have hmf : ∀ (fn : Fn) (first cap : Array Value) (w : World), (Instr.makeFunc fn first cap).run Tryz.prog w = .ok (.func fn first cap) w := fun _ _ _ _ => rfl
  have HP := Lib.hid hP
  clear hP
  go_enter Tryz.func6, Tryz.ntmps6
  go_wp2_with fail
  refine (impl_MadeUp x 91 (HP.out.below (by repeat (first | exact Below.refl _ _ | refine Below.alloc ?_ (by first | omega | (simp; omega) | (simp; done)) _)))).mono ?_
  rintro e w1 ⟨rfl, hb⟩
  have p0 : w1.cell? ⟨w.heap.size, 0, none⟩ = some (.slice A0 d.ws.length c0) := kc hb (by go_simp)
  have p1 : w1.cell? ⟨w.heap.size, 1, none⟩ = some (.slice A1 d.an.length c1) := kc hb (by go_simp)
  have p2 : w1.cell? ⟨w.heap.size, 2, none⟩ = some (.slice A2 d.rows.length c2) := kc hb (by go_simp)
  have px : w1.cell? ⟨w.heap.size + 1, 0, none⟩ = some (.float .f32 x) := kc hb (by go_simp)
  have HB := Lib.hid (show Below w.heap.size w w1 from Below.trans (by repeat (first | exact Below.refl _ _ | refine Below.alloc ?_ (by first | omega | (simp; omega) | (simp; done)) _)) (hb.mono (by simp; omega)))
  clear hb
  cases ho : okS d x 91
  · have HM := Lib.hid (made_no ho)
    have HR := Lib.hid (best_none ho)
    clear ho
    rw [HM.out]
    go_wp2_with fail
    go_ret2
    exact ⟨by rw [HR.out]; rfl, HB.out⟩
  · have HM := Lib.hid (made_yes ho)
    have HO := Lib.hid (okS_get ho)
    have HS := Lib.hid ho
    clear ho
    rw [HM.out]
    go_wp2_with fail
    refine (impl_most (w0 := w) (c0 := c0) (c1 := c1) (c2 := c2) HP.out HO.out.1 HO.out.2.1 p0 p1 p2 px HB.out).mono ?_
    rintro e w2 ⟨rfl, hb⟩
    have HC := Lib.hid hb
    clear hb
    cases hg : gtB (runM (fF d x) 360).2 0
    · have HR := Lib.hid (best_low hg)
      unfold gtB at hg
      go_wp2_with fail
      go_ret2
      exact ⟨by rw [HR.out]; rfl, HC.out⟩
    · have HR := Lib.hid (best_yes HS.out hg)
      unfold gtB at hg
      go_wp2_with fail
      go_ret2
      exact ⟨by rw [HR.out]; rfl, HC.out⟩
theorem up_num {d : Pol} {x : Nat} (ok : Okp d) (hx : airB x = true) {a : Nat} (ha : a ≤ 180) : Num FloatKind.f32.format (upF d x (a : Int)) := (upOk ok hx (by omega) (by omega) (okU_tb (deg (a : Int)) (deg_lt _))).n
theorem test {d : Pol} {x : Nat} (ok : Okp d) (hx : airB x = true) {j a : Nat} (hj : j ≤ 180) (ha : a ≤ 180) : gtB (fF d x j) (fF d x a) = (FloatKind.f32.format.order (upF d x (j : Int)) (upF d x (a : Int)) == some .lt) := by
  obtain ⟨n1, v1⟩ := neg_num (up_num ok hx hj)
  obtain ⟨n2, v2⟩ := neg_num (up_num ok hx ha)
  rw [lss_num (up_num ok hx hj) (up_num ok hx ha)]
  unfold fF
  rw [gtB_num n1 n2, v1, v2]
  congr 1
  exact propext ⟨fun h => by grind, fun h => by grind⟩
theorem fin_test {d : Pol} {x : Nat} (ok : Okp d) (hx : airB x = true) {a : Nat} (ha : a ≤ 180) : (FloatKind.f32.format.order (upF d x (a : Int)) 0 == some .gt || FloatKind.f32.format.order (upF d x (a : Int)) 0 == some .eq) = !gtB (fF d x a) 0 := by
  obtain ⟨n1, v1⟩ := neg_num (up_num ok hx ha)
  have := geB_num (up_num ok hx ha) n0
  unfold geB at this
  rw [this]
  unfold fF
  rw [gtB_num n1 n0, v1, v0, ← decide_not]
  congr 1
  exact propext ⟨fun h => by grind, fun h => by grind⟩
end Go.Proofs.YteaiaedhkhmgdaaGreat.BestDown
