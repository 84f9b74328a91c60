/- The nearest high water: the program's side. -/
import Derived.Test.YtjohpjmfnghkoaaTdt
import Derived.BigQuiet
import Derived.Deep.RegionHeld3
namespace Go.Proofs.Ytjohpjmfnghkoaa.Tz
open Go.RowKit Kit Fl Bd Dw Td Fa Ai Ve Ty Hnd Go.Proofs.YtjohpjmfnghkoaaW.PrintWords Go.Proofs.YtjohpjmfnghkoaaW.PrintLast Go.Proofs.YtjohpjmfnghkoaaW.PrintMore PFnHighNearest
/-- how far a high water is -/
def far (t h : Int) : Int := max (t - h) (h - t)
set_option maxRecDepth 100000 in
set_option maxHeartbeats 1000000 in
theorem far_call {v : World} {bt bq bh oh c2 j n : Nat} {t h : Int} (p0 : v.cell? ⟨bt, 0, none⟩ = some (.int .i64 t)) (p1 : v.cell? ⟨bq, 1, none⟩ = some (.slice (some ⟨bh, oh, none⟩) n c2)) (z0 : v.cell? ⟨bh, oh + j, none⟩ = some (.int .i64 h)) (hj : j < n) (ht : 0 ≤ t ∧ t ≤ 10000000) (hh : 0 ≤ h ∧ h ≤ 10000000) :
    Calls Try.prog 46 #[.int .i64 (j : Int), .pointer (some ⟨bt, 0, none⟩), .pointer (some ⟨bq, 0, none⟩)] v fun e w' => e = .returned (.int .i64 (far t h)) ∧ Below v.heap.size v w' := by
  have w1 : IntKind.i64.wrap (t - h) = t - h := by rw [IntKind.wrap_i64]; omega
  have w2 : IntKind.i64.wrap (h - t) = h - t := by rw [IntKind.wrap_i64]; omega
  have j0 : (0 : Int) ≤ (j : Int) := by omega
  have jn : (j : Int) < (n : Int) := by omega
  by_cases hc : t - h < h - t
  · have hf : far t h = h - t := by unfold far; omega
    go_enter Try.func46, Try.ntmps46
    go_wp2_with fail
    go_region
    all_goals first | (exfalso; omega) | skip
    all_goals go_wp2_with fail
    all_goals go_ret
    all_goals exact ⟨by rw [hf]; rfl, (Below.refl _ _).drew⟩
  · have hf : far t h = t - h := by unfold far; omega
    go_enter Try.func46, Try.ntmps46
    go_wp2_with fail
    go_region
    all_goals first | (exfalso; omega) | skip
    all_goals go_wp2_with fail
    all_goals go_ret
    all_goals exact ⟨by rw [hf]; rfl, (Below.refl _ _).drew⟩
/-- the first of the nearest -/
def bestI (hs : List Int) (t : Int) : Nat → Nat
  | 0 => 0
  | n + 1 => if far t (zn hs n) < far t (zn hs (bestI hs t n)) then n else bestI hs t n
theorem bestI_zero (hs : List Int) (t : Int) : bestI hs t 0 = 0 := rfl
theorem bestI_succ (hs : List Int) (t : Int) (n : Nat) : bestI hs t (n + 1) = if far t (zn hs n) < far t (zn hs (bestI hs t n)) then n else bestI hs t n := rfl
attribute [irreducible] bestI
theorem bestI_lt (hs : List Int) (t : Int) : ∀ n, bestI hs t n ≤ n - 1 := by
  intro n
  induction n with
  | zero => rw [bestI_zero]; omega
  | succ n ih =>
    rw [bestI_succ]
    split <;> omega
theorem bestI_least (hs : List Int) (t : Int) : ∀ n i, i < n → far t (zn hs (bestI hs t n)) ≤ far t (zn hs i) ∧ (far t (zn hs i) = far t (zn hs (bestI hs t n)) → bestI hs t n ≤ i) := by
  intro n
  induction n with
  | zero => intro i h; omega
  | succ n ih =>
    intro i hi
    have hb := bestI_lt hs t n
    rw [bestI_succ]
    by_cases hc : far t (zn hs n) < far t (zn hs (bestI hs t n))
    · rw [if_pos hc]
      by_cases e : i = n
      · subst e; exact ⟨Int.le_refl _, fun _ => Nat.le_refl _⟩
      · have := (ih i (by omega)).1
        exact ⟨by omega, fun h => by omega⟩
    · rw [if_neg hc]
      by_cases e : i = n
      · subst e; exact ⟨by omega, fun _ => by omega⟩
      · exact ih i (by omega)
/-- what a valid tide's high waters are -/
theorem tide_hs {sts : List Stn} {hs : List Int} (h : tideB sts hs = true) : (1 ≤ hs.length ∧ hs.length ≤ 60) ∧ ∀ j, j < hs.length → 0 ≤ zn hs j ∧ zn hs j ≤ 10000000 := by
  unfold tideB lenB at h
  simp only [Bool.and_eq_true, decide_eq_true_eq] at h
  refine ⟨by omega, fun j hj => ?_⟩
  have := allH_at h.2.2.2 j hj
  unfold hOk at this
  simp only [Bool.and_eq_true, decide_eq_true_eq] at this
  exact this.1
theorem lenB_le {n a b : Int} (h : lenB n a b = true) : a ≤ n ∧ n ≤ b := by
  unfold lenB at h
  simp only [Bool.and_eq_true, decide_eq_true_eq] at h
  exact h
/-- what is told -/
def highR (sts : List Stn) (hs : List Int) (t : Int) : Int := if (tideB sts hs && lenB t 0 10000000) = true then (bestI hs t hs.length : Int) else -1
set_option maxRecDepth 100000 in
set_option maxHeartbeats 2000000 in
theorem impl_HighAt {w : World} {A1 A2 : Option Addr} {c1 c2 : Nat} {sts : List Stn} {hs : List Int} (t : Int) (hP : TidAt w A1 sts A2 hs) :
    Calls Try.prog 17 #[.agg #[.slice A1 sts.length c1, .slice A2 hs.length c2], .int .i64 t] w fun e w' => e = .returned (.int .i64 (highR sts hs t)) ∧ Below w.heap.size w w' := by
  have hmf : ∀ (fn : Fn) (first cap : Array Value) (w : World), (Instr.makeFunc fn first cap).run Try.prog w = .ok (.func fn first cap) w := fun _ _ _ _ => rfl
  obtain ⟨W, hW, hX⟩ := bx (c1 := c1) (c2 := c2) hP
  have hs0 : W.heap.size = w.heap.size + 1 := by rw [hW]; simp
  have HY := Lib.hid hX
  clear hP hX
  obtain ⟨b1, hb1⟩ : ∃ b, tideB sts hs = b := ⟨_, rfl⟩
  obtain ⟨b2, hb2⟩ : ∃ b, lenB t 0 10000000 = b := ⟨_, rfl⟩
  have HR := Lib.hid (show highR sts hs t = if (b1 && b2) = true then (bestI hs t hs.length : Int) else -1 by unfold highR; rw [hb1, hb2])
  have E1 := Lib.hid hb1
  have E2 := Lib.hid hb2
  clear hb1 hb2
  go_enter Try.func17, Try.ntmps17
  go_upto_region 1 with fail
  rw [← hW]
  obtain ⟨V, hV⟩ : ∃ V, V = W.alloc (.cells #[.int .i64 t] 3) := ⟨_, rfl⟩
  have v0 : V.cell? ⟨w.heap.size + 1, 0, none⟩ = some (.int .i64 t) := by rw [hV, ← hs0]; simp
  have HV := Lib.hid (show Bx w V A1 A2 c1 c2 sts hs by rw [hV]; exact HY.out.to ((Below.refl _ _).alloc (Nat.le_refl _) _))
  rw [← hV]
  clear hV hW HY
  have x0 := HV.out.x0
  have x1 := HV.out.x1
  cases b1
  · go_wp2_with (go_at_call 18; refine (impl_TideOk HV.out.p).mono ?_; rintro e w1 ⟨rfl, hb⟩; have HB := Lib.hid hb; clear hb; rw [E1.out])
    go_ret
    exact ⟨by rw [HR.out]; rfl, HV.out.b.trans (HB.out.mono HV.out.b.size)⟩
  · go_wp2_with (go_at_call 18; refine (impl_TideOk HV.out.p).mono ?_; rintro e w1 ⟨rfl, hb⟩; have HW1 := Lib.hid (HV.out.to hb); have v1 := kc hb v0; have x2 := kc hb x0; have x3 := kc hb x1; clear hb HV v0 x0 x1; rw [E1.out])
    refine (impl_timeOk t w1).mono ?_
    rintro e w2 ⟨rfl, rfl⟩
    rw [E2.out]
    cases b2
    · go_wp2_with fail
      go_ret
      exact ⟨by rw [HR.out]; rfl, HW1.out.b⟩
    · obtain ⟨⟨g1, g2⟩, g3⟩ := tide_hs E1.out
      obtain ⟨bh, oh, rfl, hH⟩ := HW1.out.p.h.resolve_left (by omega)
      have HG := Lib.hid g3
      have HT := Lib.hid (lenB_le E2.out)
      clear g3 hH
      go_wp2_with fail
      have H0 := Lib.hid (show ∃ n : Nat, n ≤ hs.length ∧ Value.int .i64 0 = .int .i64 ((bestI hs t n : Nat) : Int) ∧ Value.int .i64 0 = .int .i64 (n : Int) ∧ Bx w w1 A1 (some ⟨bh, oh, none⟩) c1 c2 sts hs ∧ w1.cell? ⟨w.heap.size + 1, 0, none⟩ = some (.int .i64 t) from ⟨0, by omega, by rw [bestI_zero]; rfl, rfl, HW1.out, v1⟩)
      clear HW1 v1 x2 x3
      go_loopw [6, 20] (fun x k wr => ∃ n : Nat, n ≤ hs.length ∧ x = .int .i64 ((bestI hs t n : Nat) : Int) ∧ k = .int .i64 (n : Int) ∧ Bx w wr A1 (some ⟨bh, oh, none⟩) c1 c2 sts hs ∧ wr.cell? ⟨w.heap.size + 1, 0, none⟩ = some (.int .i64 t)) (fun _ k _ => hs.length - (intOf k).toNat)
      case atStart => exact H0.out
      case round =>
        clear H0
        obtain ⟨n, hn, rfl, rfl, hB, hv⟩ := hrel
        have HB := Lib.hid hB
        have HV := Lib.hid hv
        clear hB hv
        have hbl := bestI_lt hs t n
        by_cases hl : n < hs.length
        · obtain ⟨bh', oh', e1, hH⟩ := HB.out.p.h.resolve_left (by omega)
          cases e1
          obtain ⟨m, hm⟩ : ∃ m, bestI hs t n = m := ⟨_, rfl⟩
          have HS := Lib.hid (bestI_succ hs t n)
          rw [hm] at HS hbl
          rw [hm]
          have z0 := hH n hl
          have z1 := hH m (by omega)
          have y0 := HG.out n hl
          have y1 := HG.out m (by omega)
          have q1 := HB.out.x1
          have F1 := Lib.hid (far_call (j := n) HV.out q1 z0 hl HT.out y0)
          have F2 := Lib.hid (fun v' (hb : Below wr.heap.size wr v') => far_call (j := m) (kc hb HV.out) (kc hb q1) (kc hb z1) (by omega) HT.out y1)
          obtain ⟨d1, hd1⟩ : ∃ d, far t (zn hs n) = d := ⟨_, rfl⟩
          obtain ⟨d2, hd2⟩ : ∃ d, far t (zn hs m) = d := ⟨_, rfl⟩
          rw [hd1] at F1 HS
          rw [hd2] at F2 HS
          clear z0 z1 y0 y1 q1 hH hd1 hd2 hm
          by_cases hc : d1 < d2
          · go_wp2_with fail
            refine F1.out.mono ?_
            rintro e v1 ⟨rfl, hb1⟩
            go_wp2_with fail
            refine (F2.out v1 hb1).mono ?_
            rintro e v2 ⟨rfl, hb2⟩
            go_wp2_with fail
            go_roundw
            case rel => exact ⟨n + 1, by omega, by rw [HS.out, if_pos hc], by go_num, HB.out.to (hb1.trans (hb2.mono hb1.size)), kc (hb1.trans (hb2.mono hb1.size)) HV.out⟩
            case measure => simp [intOf]; omega
          · go_wp2_with fail
            refine F1.out.mono ?_
            rintro e v1 ⟨rfl, hb1⟩
            go_wp2_with fail
            refine (F2.out v1 hb1).mono ?_
            rintro e v2 ⟨rfl, hb2⟩
            go_wp2_with fail
            go_roundw
            case rel => exact ⟨n + 1, by omega, by rw [HS.out, if_neg (by omega)], by go_num, HB.out.to (hb1.trans (hb2.mono hb1.size)), kc (hb1.trans (hb2.mono hb1.size)) HV.out⟩
            case measure => simp [intOf]; omega
        · obtain rfl : n = hs.length := by omega
          go_wp2_with fail
          go_ret
          exact ⟨by rw [HR.out]; rfl, HB.out.b⟩
end Go.Proofs.Ytjohpjmfnghkoaa.Tz
