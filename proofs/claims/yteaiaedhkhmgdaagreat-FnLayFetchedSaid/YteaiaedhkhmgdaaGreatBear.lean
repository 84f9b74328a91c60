/- The bearing of a vector, where a wind is from, how fast it is: both sides. -/
import Derived.Test.YteaiaedhkhmgdaaGreatRoot
import Derived.Test.YteaiaedhkhmgdaaGreatAir
import Derived.OneCell
import Derived.BigQuiet
import Derived.Deep.Cut
namespace Go.Proofs.YteaiaedhkhmgdaaGreat.Be
open Go.RowKit Kit Fl Bd Tn Ve Ro Ai
def okT (z : Nat × Nat) : Bool := bndB .f64 1 z.1 && bndB .f64 1 z.2
def chkT : Nat → Nat × Nat → Bool
  | 0, _ => true
  | n + 1, z => okT z && chkT n (st z)
theorem chkT_all : chkT 360 (tb 0) = true := by decide +kernel
theorem chkT_get : ∀ (n i k : Nat), chkT n (tb k) = true → i < n → okT (tb (k + i)) = true := by
  intro n
  induction n with
  | zero => intro i k _ h; omega
  | succ n ih =>
    intro i k h hi
    unfold chkT at h
    rw [Bool.and_eq_true] at h
    cases i with
    | zero => exact h.1
    | succ i =>
      have := ih i (k + 1) h.2 (by omega)
      rw [show k + (i + 1) = k + 1 + i by omega]; exact this
theorem okT_tb (i : Nat) (h : i < 360) : okT (tb i) = true := by
  have := chkT_get 360 i 0 chkT_all h
  rwa [Nat.zero_add] at this
structure DotS (p q c d : Nat) : Prop where
  s1 : (floatBits .mul .f64 p c).isSome = true
  s2 : (floatBits .mul .f64 q d).isSome = true
  s3 : (floatBits .add .f64 (fl .mul .f64 p c) (fl .mul .f64 q d)).isSome = true
theorem dotT {p q : Nat} (hp : vOk p = true) (hq : vOk q = true) {z : Nat × Nat} (hz : okT z = true) : DotS p q z.1 z.2 := by
  unfold okT at hz
  rw [Bool.and_eq_true] at hz
  have b1 := bnd27 hp
  have b2 := bnd27 hq
  have c1 := bnd_lit hz.1
  have c2 := bnd_lit hz.2
  have m1 := b1.mul c1 (by decide) (by decide)
  have m2 := b2.mul c2 (by decide) (by decide)
  exact ⟨b1.mulS c1, b2.mulS c2, m1.addS m2⟩
def zeroB (p q : Nat) : Bool := (FloatKind.f64.format.order p 0 == some .eq) && (FloatKind.f64.format.order q 0 == some .eq)
def stepB (p q : Nat) (k : Nat) (st : Int × Nat) : Int × Nat :=
  if ((k : Int) == 0) = true ∨ (FloatKind.f64.format.order (dotF p q (tb k).1 (tb k).2) st.2 == some .gt) = true then ((k : Int), dotF p q (tb k).1 (tb k).2) else st
def runB (p q : Nat) : Nat → Int × Nat
  | 0 => (0, 0)
  | n + 1 => stepB p q n (runB p q n)
theorem runB_zero (p q : Nat) : runB p q 0 = (0, 0) := rfl
theorem runB_succ (p q n : Nat) : runB p q (n + 1) = stepB p q n (runB p q n) := rfl
theorem runB_range (p q : Nat) : ∀ n, n ≤ 360 → 0 ≤ (runB p q n).1 ∧ (runB p q n).1 < 360 := by
  intro n
  induction n with
  | zero => intro _; rw [runB_zero]; exact ⟨by decide, by decide⟩
  | succ n ih =>
    intro h
    have := ih (by omega)
    rw [runB_succ]
    unfold stepB
    split
    · exact ⟨by simp, by simp; omega⟩
    · exact this
attribute [irreducible] runB
def bearI (p q : Nat) : Int := if (vOk p && vOk q) = true ∧ zeroB p q = false then (runB p q 360).1 else -1
/-- what the closure sees -/
structure BI (w0 : World) (bz bm bb : Nat) (p q : Nat) (st : Int × Nat) (v : World) : Prop where
  z : v.cell? ⟨bz, 0, none⟩ = some (.complex .f64 p q)
  m : v.cell? ⟨bm, 0, none⟩ = some (.float .f64 st.2)
  b : v.cell? ⟨bb, 0, none⟩ = some (.int .i64 st.1)
  fm : v.frozen? ⟨bm, 0, none⟩ = false
  fb : v.frozen? ⟨bb, 0, none⟩ = false
  B : Below w0.heap.size w0 v
theorem BI.lay {w0 v : World} {bz bm bb p q : Nat} {st : Int × Nat} (h : BI w0 bz bm bb p q st v) (n1 : bm ≠ bz ∧ bb ≠ bz ∧ bb ≠ bm) (g1 : w0.heap.size ≤ bm ∧ w0.heap.size ≤ bb) (k : Int) (y : Nat) :
    BI w0 bz bm bb p q (k, y) ((v.setCell ⟨bb, 0, none⟩ (.int .i64 k)).setCell ⟨bm, 0, none⟩ (.float .f64 y)) := by
  obtain ⟨a1, a2, a3⟩ := n1
  refine ⟨?_, ?_, ?_, by simpa using h.fm, by simpa using h.fb, (h.B.setCell g1.2 _).setCell g1.1 _⟩
  · rw [World.cell?_setCell_other _ _ _ _ (by intro h; injection h with h; exact a1 h), World.cell?_setCell_other _ _ _ _ (by intro h; injection h with h; exact a2 h)]
    exact h.z
  · refine World.cell?_setCell_same _ _ _ (u := .float .f64 st.2) ?_
    rw [World.cell?_setCell_other _ _ _ _ (by intro h; injection h with h; exact a3 h)]
    exact h.m
  · rw [World.cell?_setCell_other _ _ _ _ (by intro h; injection h with h; exact a3 h.symm)]
    exact World.cell?_setCell_same _ _ _ h.b
set_option maxRecDepth 100000 in
theorem clo {w0 v : World} {bz bm bb p q k : Nat} {st : Int × Nat} (hI : BI w0 bz bm bb p q st v) (n1 : bm ≠ bz ∧ bb ≠ bz ∧ bb ≠ bm) (g1 : w0.heap.size ≤ bm ∧ w0.heap.size ≤ bb) (hD : DotS p q (tb k).1 (tb k).2) :
    Calls Tryz.prog 58 #[.int .i64 (k : Int), .complex .f64 (tb k).1 (tb k).2, .pointer (some ⟨bz, 0, none⟩), .pointer (some ⟨bm, 0, none⟩), .pointer (some ⟨bb, 0, none⟩)] v fun e v' => e = .returned (.tuple #[]) ∧ BI w0 bz bm bb p q (stepB p q k st) v' := by
  have HI := Lib.hid hI
  have HD := Lib.hid hD
  have HN := Lib.hid n1
  have HG := Lib.hid g1
  have hne := n1.2.2
  have hne2 := hne.symm
  obtain ⟨z, m, b, fm, fb, _⟩ := hI
  clear n1 g1 hD
  by_cases hl : (k : Int) = 0
  · have HK := Lib.hid hl
    have HL := Lib.hid (show stepB p q k st = ((k : Int), dotF p q (tb k).1 (tb k).2) from if_pos (Or.inl (beq_iff_eq.2 hl)))
    go_enter Tryz.func58, Tryz.ntmps58
    go_wp2_with (go_at_call 43; refine (impl_DotS _ _ _ _ HD.out.s1 HD.out.s2 HD.out.s3 _).mono ?_; rintro e w' ⟨rfl, rfl⟩)
    all_goals go_end0
    all_goals refine ⟨rfl, ?_⟩
    all_goals rw [HL.out, HK.out]
    all_goals exact HI.out.lay HN.out HG.out _ _
  · cases hg : (FloatKind.f64.format.order (dotF p q (tb k).1 (tb k).2) st.2 == some .gt)
    · have HL := Lib.hid (show stepB p q k st = st from if_neg (by rw [beq_eq_false_iff_ne.2 hl, hg]; simp))
      go_enter Tryz.func58, Tryz.ntmps58
      go_wp2_with (go_at_call 43; refine (impl_DotS _ _ _ _ HD.out.s1 HD.out.s2 HD.out.s3 _).mono ?_; rintro e w' ⟨rfl, rfl⟩)
      all_goals go_end0
      all_goals refine ⟨rfl, ?_⟩
      all_goals rw [HL.out]
      all_goals exact HI.out
    · have HL := Lib.hid (show stepB p q k st = ((k : Int), dotF p q (tb k).1 (tb k).2) from if_pos (Or.inr hg))
      go_enter Tryz.func58, Tryz.ntmps58
      go_wp2_with (go_at_call 43; refine (impl_DotS _ _ _ _ HD.out.s1 HD.out.s2 HD.out.s3 _).mono ?_; rintro e w' ⟨rfl, rfl⟩)
      all_goals go_end0
      all_goals refine ⟨rfl, ?_⟩
      all_goals rw [HL.out]
      all_goals exact HI.out.lay HN.out HG.out _ _
set_option maxRecDepth 100000 in
theorem turnsBy_bear {w0 v : World} {bz bm bb p q : Nat} (hp : vOk p = true) (hq : vOk q = true) (hI : BI w0 bz bm bb p q (runB p q 0) v) (n1 : bm ≠ bz ∧ bb ≠ bz ∧ bb ≠ bm) (g1 : w0.heap.size ≤ bm ∧ w0.heap.size ≤ bb) :
    Calls Tryz.prog 55 #[.func (.func 58) #[] #[.pointer (some ⟨bz, 0, none⟩), .pointer (some ⟨bm, 0, none⟩), .pointer (some ⟨bb, 0, none⟩)]] v fun e v' => e = .returned (.tuple #[]) ∧ BI w0 bz bm bb p q (runB p q 360) v' := by
  have HI := Lib.hid hI
  have HP := Lib.hid hp
  have HQ := Lib.hid hq
  have HN := Lib.hid n1
  have HG := Lib.hid g1
  clear hI hp hq n1 g1
  go_enter Tryz.func55, Tryz.ntmps55
  go_wp2_with fail
  go_loopw [2, 3] (fun z n wr => ∃ j : Nat, j ≤ 360 ∧ n = .int .i64 (j : Int) ∧ z = .complex .f64 (tb j).1 (tb j).2 ∧ BI w0 bz bm bb p q (runB p q j) wr) (fun _ n _ => 360 - (intOf n).toNat)
  case atStart => exact ⟨0, by omega, rfl, rfl, HI.out⟩
  case round =>
    obtain ⟨j, hj, rfl, rfl, hI⟩ := hrel
    have HJ := Lib.hid hI
    clear hI
    by_cases hl : j < 360
    · have HK := Lib.hid (ok_tb j hl)
      have HT := Lib.hid (okT_tb j hl)
      go_wp2_with fail
      refine (clo HJ.out HN.out HG.out (dotT HP.out HQ.out HT.out)).mono ?_
      rintro e w1 ⟨rfl, hI1⟩
      have HI1 := Lib.hid hI1
      clear hI1
      go_wp2_with fail
      refine (impl_times _ HK.out _).mono ?_
      rintro e w' ⟨rfl, rfl⟩
      go_wp2_with fail
      go_round
      case rel => exact ⟨j + 1, by omega, by go_num, rfl, by rw [runB_succ]; exact HI1.out⟩
      case measure => simp [intOf]; omega
    · obtain rfl : j = 360 := by omega
      go_wp2_with fail
      go_end0
      exact ⟨rfl, HJ.out⟩
set_option maxRecDepth 100000 in
set_option maxHeartbeats 1000000 in
theorem impl_Bearing (p q : Nat) (w : World) :
    Calls Tryz.prog 29 #[.complex .f64 p q] w fun e w' => e = .returned (.int .i64 (bearI p q)) ∧ Below w.heap.size w w' := by
  have hmf : ∀ (fn : Fn) (first cap : Array Value) (w : World), (Instr.makeFunc fn first cap).run Tryz.prog w = .ok (.func fn first cap) w := fun _ _ _ _ => rfl
  cases hv : (vOk p && vOk q)
  · have HV := Lib.hid hv
    have HR := Lib.hid (show bearI p q = -1 from if_neg (by rw [hv]; simp))
    have B0 := Lib.hid ((Below.refl w.heap.size w).alloc (Nat.le_refl _) (.cells #[.complex .f64 p q] 30))
    clear hv
    go_enter Tryz.func29, Tryz.ntmps29
    go_wp2_with (go_at_call 41; refine (impl_VectorOk _ _ _).mono ?_; rintro e w' ⟨rfl, rfl⟩; rw [HV.out])
    go_ret
    exact ⟨by rw [HR.out]; rfl, B0.out⟩
  · have HV := Lib.hid hv
    rw [Bool.and_eq_true] at hv
    cases hz : zeroB p q
    · have HR := Lib.hid (show bearI p q = (runB p q 360).1 from if_pos ⟨HV.out, hz⟩)
      unfold zeroB at hz
      have HP := Lib.hid hv
      have hrg := Lib.hid (runB_range p q 360 (Nat.le_refl _))
      clear hv
      go_enter Tryz.func29, Tryz.ntmps29
      go_wp2_with (go_at_call 41; refine (impl_VectorOk _ _ _).mono ?_; rintro e w' ⟨rfl, rfl⟩; rw [HV.out])
      refine (turnsBy_bear (w0 := w) (bz := w.heap.size) (bb := w.heap.size + 1) (bm := w.heap.size + 1 + 1) HP.out.1 HP.out.2 ?_ (by omega) (by omega)).mono ?_
      · rw [runB_zero]
        refine ⟨by go_simp, by go_simp, by go_simp, by go_simp, by go_simp, ?_⟩
        repeat (first | exact Below.refl _ _ | refine Below.alloc ?_ (by simp; try omega) _)
      · rintro e w1 ⟨rfl, hI⟩
        have HJ := Lib.hid hI
        obtain ⟨_, _, b, _, _, _⟩ := hI
        obtain ⟨R, hR⟩ : ∃ R, (runB p q 360).1 = R := ⟨_, rfl⟩
        rw [hR] at b
        have HE := Lib.hid hR
        clear hR
        go_wp2_with fail
        go_ret
        exact ⟨by rw [HR.out, HE.out]; rfl, HJ.out.B⟩
    · have HR := Lib.hid (show bearI p q = -1 from if_neg (by rw [hz]; simp))
      have B0 := Lib.hid ((Below.refl w.heap.size w).alloc (Nat.le_refl _) (.cells #[.complex .f64 p q] 30))
      unfold zeroB at hz
      clear hv
      go_enter Tryz.func29, Tryz.ntmps29
      go_wp2_with (go_at_call 41; refine (impl_VectorOk _ _ _).mono ?_; rintro e w' ⟨rfl, rfl⟩; rw [HV.out])
      go_ret
      exact ⟨by rw [HR.out]; rfl, B0.out⟩
theorem tb0 : (4607182418800017408, 0) = tb 0 := by rfl
theorem tb_succ (j : Nat) : tb (j + 1) = st (tb j) := rfl
theorem runB_one (p q : Nat) : runB p q 1 = (0, dotF p q (tb 0).1 (tb 0).2) := by
  rw [runB_succ, runB_zero]
  exact if_pos (Or.inl (by decide))
theorem runB_gt {p q n : Nat} (h : (FloatKind.f64.format.order (dotF p q (tb n).1 (tb n).2) (runB p q n).2 == some .gt) = true) : runB p q (n + 1) = ((n : Int), dotF p q (tb n).1 (tb n).2) := by
  rw [runB_succ]
  exact if_pos (Or.inr h)
theorem runB_le {p q n : Nat} (h1 : 1 ≤ n) (h : (FloatKind.f64.format.order (dotF p q (tb n).1 (tb n).2) (runB p q n).2 == some .gt) = false) : runB p q (n + 1) = runB p q n := by
  rw [runB_succ]
  exact if_neg (by rw [h, beq_eq_false_iff_ne.2 (show (n : Int) ≠ 0 by omega)]; simp)
set_option maxRecDepth 100000 in
set_option maxHeartbeats 1000000 in
theorem spec_Bearing (p q : Nat) (w : World) :
    Calls Tryz.prog 30 #[.complex .f64 p q] w fun e w' => e = .returned (.int .i64 (bearI p q)) ∧ w = w' := by
  cases hv : (vOk p && vOk q)
  · have HV := Lib.hid hv
    have HR := Lib.hid (show bearI p q = -1 from if_neg (by rw [hv]; simp))
    clear hv
    go_enter Tryz.func30, Tryz.ntmps30
    go_wp2_with (go_at_call 59; refine (spec_VectorOk _ _ _).mono ?_; rintro e w' ⟨rfl, rfl⟩; rw [HV.out])
    go_ret
    exact ⟨by rw [HR.out]; rfl, rfl⟩
  · have HV := Lib.hid hv
    rw [Bool.and_eq_true] at hv
    cases hz : zeroB p q
    · have HR := Lib.hid (show bearI p q = (runB p q 360).1 from if_pos ⟨HV.out, hz⟩)
      unfold zeroB at hz
      have HP := Lib.hid hv
      clear hv
      have H0 := Lib.hid (dotT HP.out.1 HP.out.2 (okT_tb 0 (by omega)))
      have H1 := Lib.hid (runB_one p q)
      rw [← tb0] at H0 H1
      go_enter Tryz.func30, Tryz.ntmps30
      go_wp2_with (first | (go_at_call 59; refine (spec_VectorOk _ _ _).mono ?_; rintro e w' ⟨rfl, rfl⟩; rw [HV.out]) | (go_at_call 60; refine (spec_DotS _ _ _ _ H0.out.s1 H0.out.s2 H0.out.s3 _).mono ?_; rintro e w' ⟨rfl, rfl⟩))
      go_loopw [3, 4, 5, 6] (fun b t m n wr => ∃ (j : Nat) (r : Int) (y : Nat), 1 ≤ j ∧ j ≤ 360 ∧ n = .int .i64 (j : Int) ∧ t = .complex .f64 (tb (j - 1)).1 (tb (j - 1)).2 ∧ b = .int .i64 r ∧ runB p q j = (r, y) ∧ m = .float .f64 y ∧ wr = w) (fun _ _ _ n _ => 360 - (intOf n).toNat)
      case atStart => exact ⟨1, 0, _, by omega, by omega, rfl, rfl, rfl, H1.out, rfl, rfl⟩
      case round =>
        obtain ⟨j, r, y, j1, j2, rfl, rfl, rfl, r0, rfl, rfl⟩ := hrel
        have HS := Lib.hid r0
        clear r0
        obtain ⟨i, rfl⟩ : ∃ i, j = i + 1 := ⟨j - 1, by omega⟩
        by_cases hl : i + 1 < 360
        · have HK := Lib.hid (ok_tb i (by omega))
          have HT := Lib.hid (dotT HP.out.1 HP.out.2 (okT_tb (i + 1) hl))
          rw [show i + 1 - 1 = i by omega]
          cases hg : (FloatKind.f64.format.order (dotF p q (tb (i + 1)).1 (tb (i + 1)).2) y == some .gt)
          · have HN := Lib.hid (show runB p q (i + 1 + 1) = (r, y) by rw [runB_le (by omega) (by rw [HS.out]; exact hg), HS.out])
            have HG := Lib.hid hg
            clear hg
            go_wp2_with fail
            refine (spec_step _).mono ?_
            rintro e w' ⟨rfl, rfl⟩
            go_wp2_with fail
            refine (spec_times _ HK.out _).mono ?_
            rintro e w' ⟨rfl, rfl⟩
            go_wp2_with fail
            refine (spec_DotS _ _ _ _ HT.out.s1 HT.out.s2 HT.out.s3 _).mono ?_
            rintro e w' ⟨rfl, rfl⟩
            have hg := HG.out
            generalize dotF p q (tb (i + 1)).1 (tb (i + 1)).2 = D at *
            go_wp2_with fail
            all_goals go_roundw
            all_goals first
              | exact ⟨i + 1 + 1, _, _, by omega, by omega, by go_num, by rw [Nat.add_sub_cancel, tb_succ], rfl, HN.out, rfl, trivial⟩
              | (simp [intOf]; omega)
          · have HN := Lib.hid (show runB p q (i + 1 + 1) = ((i : Int) + 1, dotF p q (tb (i + 1)).1 (tb (i + 1)).2) from (runB_gt (by rw [HS.out]; exact hg)).trans (by push_cast; rfl))
            have HG := Lib.hid hg
            clear hg
            go_wp2_with fail
            refine (spec_step _).mono ?_
            rintro e w' ⟨rfl, rfl⟩
            go_wp2_with fail
            refine (spec_times _ HK.out _).mono ?_
            rintro e w' ⟨rfl, rfl⟩
            go_wp2_with fail
            refine (spec_DotS _ _ _ _ HT.out.s1 HT.out.s2 HT.out.s3 _).mono ?_
            rintro e w' ⟨rfl, rfl⟩
            have hg := HG.out
            generalize dotF p q (tb (i + 1)).1 (tb (i + 1)).2 = D at *
            go_wp2_with fail
            all_goals go_roundw
            all_goals first
              | exact ⟨i + 1 + 1, _, _, by omega, by omega, by go_num, by rw [Nat.add_sub_cancel, tb_succ], rfl, HN.out, rfl, trivial⟩
              | (simp [intOf]; omega)
        · obtain rfl : i = 359 := by omega
          go_wp2_with fail
          go_ret
          exact ⟨by rw [HR.out, HS.out]; rfl, rfl⟩
    · have HR := Lib.hid (show bearI p q = -1 from if_neg (by rw [hz]; simp))
      unfold zeroB at hz
      clear hv
      go_enter Tryz.func30, Tryz.ntmps30
      go_wp2_with (go_at_call 59; refine (spec_VectorOk _ _ _).mono ?_; rintro e w' ⟨rfl, rfl⟩; rw [HV.out])
      go_ret
      exact ⟨by rw [HR.out]; rfl, rfl⟩
/-! ### where a wind is from, how fast it is -/
def wideN (a : Nat) : Nat := cv .f32 (Op.negFloat .f32 a) .f64
def zero32 (a b : Nat) : Bool := (FloatKind.f32.format.order a 0 == some .eq) && (FloatKind.f32.format.order b 0 == some .eq)
def fromI (a b : Nat) : Int := if (within100 a && within100 b) = true ∧ zero32 a b = false then bearI (wideN a) (wideN b) else -1
theorem fromI_range (a b : Nat) : -1 ≤ fromI a b ∧ fromI a b < 360 := by
  unfold fromI
  split
  · unfold bearI
    split
    · have := runB_range (wideN a) (wideN b) 360 (Nat.le_refl _)
      omega
    · omega
  · omega
theorem neg_some {a : Nat} (h : within100 a = true) : (floatToFloatBits .f32 (Op.negFloat .f32 a) .f64).isSome = true := by
  obtain ⟨s, m, e, hx⟩ := (bnd_100 h).num
  have hn := Ai.neg_read a
  rw [hx] at hn
  exact (Ap.wide_num ⟨_, _, _, hn⟩).1
theorem wide_some {a : Nat} (h : within100 a = true) : (floatToFloatBits .f32 a .f64).isSome = true := (Ap.wide_num (bnd_100 h).num).1
theorem impl_wide (a b : Nat) (h1 : (floatToFloatBits .f32 a .f64).isSome = true) (h2 : (floatToFloatBits .f32 b .f64).isSome = true) (w : World) : Calls Tryz.prog 27 #[.complex .f32 a b] w fun e w' => e = .returned (.complex .f64 (cv .f32 a .f64) (cv .f32 b .f64)) ∧ w = w' := by
  go_enter Tryz.func27, Tryz.ntmps27
  go_wp2
  go_ret
  exact ⟨rfl, rfl⟩
theorem spec_l03Wide (a b : Nat) (h1 : (floatToFloatBits .f32 a .f64).isSome = true) (h2 : (floatToFloatBits .f32 b .f64).isSome = true) (w : World) : Calls Tryz.prog 79 #[.complex .f32 a b] w fun e w' => e = .returned (.complex .f64 (cv .f32 a .f64) (cv .f32 b .f64)) ∧ w = w' := by
  go_enter Tryz.func79, Tryz.ntmps79
  go_wp2
  go_ret
  exact ⟨rfl, rfl⟩
set_option maxRecDepth 100000 in
theorem impl_FromOf (a b : Nat) (w : World) : Calls Tryz.prog 35 #[.complex .f32 a b] w fun e w' => e = .returned (.int .i64 (fromI a b)) ∧ Below w.heap.size w w' := by
  cases hv : (within100 a && within100 b)
  · have HV := Lib.hid hv
    have HR := Lib.hid (show fromI a b = -1 from if_neg (by rw [hv]; simp))
    clear hv
    go_enter Tryz.func35, Tryz.ntmps35
    go_wp2_with (go_at_call 26; refine (impl_VelocityOk _ _ _).mono ?_; rintro e w' ⟨rfl, rfl⟩; rw [HV.out])
    go_ret
    exact ⟨by rw [HR.out]; rfl, Below.refl _ _⟩
  · have HV := Lib.hid hv
    rw [Bool.and_eq_true] at hv
    cases hz : zero32 a b
    · have HR := Lib.hid (show fromI a b = bearI (wideN a) (wideN b) from if_pos ⟨HV.out, hz⟩)
      unfold zero32 at hz
      have s1 := neg_some hv.1
      have s2 := neg_some hv.2
      clear hv
      go_enter Tryz.func35, Tryz.ntmps35
      go_wp2_with (go_at_call 26; refine (impl_VelocityOk _ _ _).mono ?_; rintro e w' ⟨rfl, rfl⟩; rw [HV.out])
      refine (impl_Bearing _ _ _).mono ?_
      rintro e w' ⟨rfl, hb⟩
      have HB := Lib.hid hb
      clear hb
      go_wp2_with fail
      go_ret
      exact ⟨by rw [HR.out]; rfl, HB.out⟩
    · have HR := Lib.hid (show fromI a b = -1 from if_neg (by rw [hz]; simp))
      unfold zero32 at hz
      clear hv
      go_enter Tryz.func35, Tryz.ntmps35
      go_wp2_with (go_at_call 26; refine (impl_VelocityOk _ _ _).mono ?_; rintro e w' ⟨rfl, rfl⟩; rw [HV.out])
      go_ret
      exact ⟨by rw [HR.out]; rfl, Below.refl _ _⟩
set_option maxRecDepth 100000 in
theorem spec_FromOf (a b : Nat) (w : World) : Calls Tryz.prog 47 #[.complex .f32 a b] w fun e w' => e = .returned (.int .i64 (fromI a b)) ∧ w = w' := by
  cases hv : (within100 a && within100 b)
  · have HV := Lib.hid hv
    have HR := Lib.hid (show fromI a b = -1 from if_neg (by rw [hv]; simp))
    clear hv
    go_enter Tryz.func47, Tryz.ntmps47
    go_wp2_with (go_at_call 78; refine (spec_VelocityOk _ _ _).mono ?_; rintro e w' ⟨rfl, rfl⟩; rw [HV.out])
    go_ret
    exact ⟨by rw [HR.out]; rfl, rfl⟩
  · have HV := Lib.hid hv
    rw [Bool.and_eq_true] at hv
    cases hz : zero32 a b
    · have HR := Lib.hid (show fromI a b = bearI (wideN a) (wideN b) from if_pos ⟨HV.out, hz⟩)
      unfold zero32 at hz
      have HW := Lib.hid (And.intro (neg_some hv.1) (neg_some hv.2))
      clear hv
      go_enter Tryz.func47, Tryz.ntmps47
      go_wp2_with (first | (go_at_call 78; refine (spec_VelocityOk _ _ _).mono ?_; rintro e w' ⟨rfl, rfl⟩; rw [HV.out]) | (go_at_call 79; refine (spec_l03Wide _ _ HW.out.1 HW.out.2 _).mono ?_; rintro e w' ⟨rfl, rfl⟩))
      refine (spec_Bearing _ _ _).mono ?_
      rintro e w' ⟨rfl, rfl⟩
      go_wp2_with fail
      go_ret
      exact ⟨by rw [HR.out]; rfl, rfl⟩
    · have HR := Lib.hid (show fromI a b = -1 from if_neg (by rw [hz]; simp))
      unfold zero32 at hz
      clear hv
      go_enter Tryz.func47, Tryz.ntmps47
      go_wp2_with (go_at_call 78; refine (spec_VelocityOk _ _ _).mono ?_; rintro e w' ⟨rfl, rfl⟩; rw [HV.out])
      go_ret
      exact ⟨by rw [HR.out]; rfl, rfl⟩
def speedW (a b : Nat) : Nat := if (within100 a && within100 b) = true then cv .f64 (lenF (cv .f32 a .f64) (cv .f32 b .f64)) .f32 else 0
theorem narrow_some {x : Nat} (hn : Num FloatKind.f64.format x) (h1 : V FloatKind.f64.format x < p2 127) (h2 : -p2 127 < V FloatKind.f64.format x) : (floatToFloatBits .f64 x .f32).isSome = true := by
  obtain ⟨g, m, i, hr'⟩ := hn
  rw [V_of hr'] at h1 h2
  have hR : reach FloatKind.f32.format = 127 := by decide
  have hw := write_num FloatKind.f32.format (Sm.kx .f32) g m i (sval_abs _ _ _ _ (by rw [hR]; exact h1) (by rw [hR]; exact h2))
  have hf : floatToFloatBits .f64 x .f32 = some (FloatKind.f32.encode (.number g m i)) := by
    unfold floatToFloatBits
    rw [if_neg (by decide)]
    have hd : FloatKind.f64.decode x = .number g m i := hr'
    rw [hd]
    obtain ⟨g', m', i', hn⟩ := hw.1
    have hn' : FloatKind.f32.decode (FloatKind.f32.encode (.number g m i)) = .number g' m' i' := hn
    simp only [hn']
    rfl
  rw [hf]; rfl
theorem len_some (p q : Nat) : (floatToFloatBits .f64 (lenF p q) .f32).isSome = true := by
  obtain ⟨h1, h2, h3⟩ := len_num p q
  have h4 : p2 78 < p2 127 := p2_lt (by omega)
  have h5 := p2_pos 127
  exact narrow_some h1 (by grind) (by grind)
theorem impl_WindSpeed (a b : Nat) (w : World) : Calls Tryz.prog 7 #[.complex .f32 a b] w fun e w' => e = .returned (.float .f32 (speedW a b)) ∧ w = w' := by
  cases hv : (within100 a && within100 b)
  · have HV := Lib.hid hv
    have HR := Lib.hid (show speedW a b = 0 from if_neg (by rw [hv]; simp))
    clear hv
    go_enter Tryz.func7, Tryz.ntmps7
    go_wp2_with (go_at_call 26; refine (impl_VelocityOk _ _ _).mono ?_; rintro e w' ⟨rfl, rfl⟩; rw [HV.out])
    go_ret
    exact ⟨by rw [HR.out]; rfl, rfl⟩
  · have HV := Lib.hid hv
    have HR := Lib.hid (show speedW a b = cv .f64 (lenF (cv .f32 a .f64) (cv .f32 b .f64)) .f32 from if_pos hv)
    rw [Bool.and_eq_true] at hv
    have HW := Lib.hid (And.intro (wide_some hv.1) (wide_some hv.2))
    have s3 := len_some (cv .f32 a .f64) (cv .f32 b .f64)
    clear hv
    go_enter Tryz.func7, Tryz.ntmps7
    go_wp2_with (first | (go_at_call 26; refine (impl_VelocityOk _ _ _).mono ?_; rintro e w' ⟨rfl, rfl⟩; rw [HV.out]) | (go_at_call 27; refine (impl_wide _ _ HW.out.1 HW.out.2 _).mono ?_; rintro e w' ⟨rfl, rfl⟩) | (go_at_call 14; refine (impl_Length _ _ _).mono ?_; rintro e w' ⟨rfl, rfl⟩))
    go_ret
    exact ⟨by rw [HR.out]; rfl, rfl⟩
theorem spec_WindSpeed (a b : Nat) (w : World) : Calls Tryz.prog 49 #[.complex .f32 a b] w fun e w' => e = .returned (.float .f32 (speedW a b)) ∧ w = w' := by
  cases hv : (within100 a && within100 b)
  · have HV := Lib.hid hv
    have HR := Lib.hid (show speedW a b = 0 from if_neg (by rw [hv]; simp))
    clear hv
    go_enter Tryz.func49, Tryz.ntmps49
    go_wp2_with (go_at_call 78; refine (spec_VelocityOk _ _ _).mono ?_; rintro e w' ⟨rfl, rfl⟩; rw [HV.out])
    go_ret
    exact ⟨by rw [HR.out]; rfl, rfl⟩
  · have HV := Lib.hid hv
    have HR := Lib.hid (show speedW a b = cv .f64 (lenF (cv .f32 a .f64) (cv .f32 b .f64)) .f32 from if_pos hv)
    rw [Bool.and_eq_true] at hv
    have HW := Lib.hid (And.intro (wide_some hv.1) (wide_some hv.2))
    have s3 := len_some (cv .f32 a .f64) (cv .f32 b .f64)
    clear hv
    go_enter Tryz.func49, Tryz.ntmps49
    go_wp2_with (first | (go_at_call 78; refine (spec_VelocityOk _ _ _).mono ?_; rintro e w' ⟨rfl, rfl⟩; rw [HV.out]) | (go_at_call 79; refine (spec_l03Wide _ _ HW.out.1 HW.out.2 _).mono ?_; rintro e w' ⟨rfl, rfl⟩) | (go_at_call 81; refine (spec_Length _ _ _).mono ?_; rintro e w' ⟨rfl, rfl⟩))
    go_ret
    exact ⟨by rw [HR.out]; rfl, rfl⟩
end Go.Proofs.YteaiaedhkhmgdaaGreat.Be
