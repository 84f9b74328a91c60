/- The stream of a station at a time from high water: both sides, in numbers. -/
import Derived.Test.YtjohpjmfnghkoaaTide
import Derived.Test.YtjohpjmfnghkoaaAir
import Derived.Deep.QuietTactic
import Derived.BigQuiet
namespace Go.Proofs.Ytjohpjmfnghkoaa.Fa
open Go.RowKit Kit Fl Bd Td Ai Go.Proofs.YtjohpjmfnghkoaaW.PrintWords Go.Proofs.YtjohpjmfnghkoaaW.PrintLast Go.Proofs.YtjohpjmfnghkoaaW.PrintMore
/-- are the first n streams valid? -/
def allV (fs : Nat → Nat × Nat) : Nat → Bool
  | 0 => true
  | n + 1 => allV fs n && air (fs n)
theorem allV_zero (fs : Nat → Nat × Nat) : allV fs 0 = true := rfl
theorem allV_succ (fs : Nat → Nat × Nat) (n : Nat) : allV fs (n + 1) = (allV fs n && air (fs n)) := rfl
attribute [irreducible] allV
theorem allV_at {fs : Nat → Nat × Nat} : ∀ n, allV fs n = true → ∀ j, j < n → air (fs j) = true := by
  intro n
  induction n with
  | zero => intro _ j hj; omega
  | succ n ih =>
    intro h j hj
    rw [allV_succ, Bool.and_eq_true] at h
    by_cases e : j = n
    · rw [e]; exact h.2
    · exact ih h.1 j (by omega)
theorem allV_not {fs : Nat → Nat × Nat} {n j : Nat} (hj : j < n) (h : air (fs j) = false) : allV fs n = false := by
  cases e : allV fs n
  · rfl
  · have := allV_at n e j hj
    rw [h] at this; cases this
theorem impl_velocitiesOk {w : World} {b o c : Nat} {fs : Nat → Nat × Nat} (hc : ∀ j, j < 13 → w.cell? ⟨b, o + j, none⟩ = some (.complex .f32 (fs j).1 (fs j).2)) : Calls Try.prog 36 #[.slice (some ⟨b, o, none⟩) 13 c] w fun e w' => e = .returned (.bool (allV fs 13)) ∧ w = w' := by
  have HC := Lib.hid hc
  clear hc
  go_enter Try.func36, Try.ntmps36
  go_wp2_with fail
  go_loop [7] (fun k => ∃ j : Nat, j ≤ 13 ∧ k = .int .i64 (j : Int) ∧ allV fs j = true) (fun k => 13 - (intOf k).toNat)
  case atStart => exact ⟨0, by omega, rfl, allV_zero fs⟩
  case round =>
    obtain ⟨j, hj, rfl, ha⟩ := hrel
    have HA := Lib.hid ha
    clear ha
    by_cases hl : j < 13
    · have h1 := HC.out j hl
      cases hv : air (fs j)
      · have HV := Lib.hid hv
        clear hv
        go_wp2_with (go_at_call 58; refine (impl_VelocityOk _ _ _).mono ?_; rintro e w' ⟨rfl, rfl⟩; rw [show (within100 (fs j).1 && within100 (fs j).2) = false from HV.out])
        go_ret
        exact ⟨by rw [allV_not hl HV.out]; rfl, rfl⟩
      · have HV := Lib.hid hv
        clear hv
        go_wp2_with (go_at_call 58; refine (impl_VelocityOk _ _ _).mono ?_; rintro e w' ⟨rfl, rfl⟩; rw [show (within100 (fs j).1 && within100 (fs j).2) = true from HV.out])
        go_round
        case rel => exact ⟨j + 1, by omega, by go_num, by rw [allV_succ, HA.out, HV.out]; rfl⟩
        case measure => simp [intOf]; omega
    · obtain rfl : j = 13 := by omega
      go_wp2_with fail
      go_ret
      exact ⟨by rw [HA.out]; rfl, rfl⟩
theorem spec_l05FlowOk (w : World) (x y : Nat) (fs : Nat → Nat × Nat) : Calls Try.prog 39 #[.agg #[.complex .f64 x y, .complex .f32 (fs 0).1 (fs 0).2, .complex .f32 (fs 1).1 (fs 1).2, .complex .f32 (fs 2).1 (fs 2).2, .complex .f32 (fs 3).1 (fs 3).2, .complex .f32 (fs 4).1 (fs 4).2, .complex .f32 (fs 5).1 (fs 5).2, .complex .f32 (fs 6).1 (fs 6).2, .complex .f32 (fs 7).1 (fs 7).2, .complex .f32 (fs 8).1 (fs 8).2, .complex .f32 (fs 9).1 (fs 9).2, .complex .f32 (fs 10).1 (fs 10).2, .complex .f32 (fs 11).1 (fs 11).2, .complex .f32 (fs 12).1 (fs 12).2]] w fun e w' => e = .returned (.bool (allV fs 13)) ∧ Below w.heap.size w w' := by
  have HC := Lib.hid (fun j (hj : j < 13) => (blk_cell (blk_new w (.cells (stn x y fs) 32)) (1 + j)).trans (stn_at x y fs j hj))
  have HB := Lib.hid ((Below.refl w.heap.size w).alloc (Nat.le_refl _) (.cells (stn x y fs) 32))
  unfold stn at HC HB
  go_enter Try.func39, Try.ntmps39
  go_wp2_with fail
  generalize w.alloc (.cells #[.complex .f64 x y, .complex .f32 (fs 0).1 (fs 0).2, .complex .f32 (fs 1).1 (fs 1).2, .complex .f32 (fs 2).1 (fs 2).2, .complex .f32 (fs 3).1 (fs 3).2, .complex .f32 (fs 4).1 (fs 4).2, .complex .f32 (fs 5).1 (fs 5).2, .complex .f32 (fs 6).1 (fs 6).2, .complex .f32 (fs 7).1 (fs 7).2, .complex .f32 (fs 8).1 (fs 8).2, .complex .f32 (fs 9).1 (fs 9).2, .complex .f32 (fs 10).1 (fs 10).2, .complex .f32 (fs 11).1 (fs 11).2, .complex .f32 (fs 12).1 (fs 12).2] 32) = w1 at *
  go_loop [3] (fun k => ∃ j : Nat, j ≤ 13 ∧ k = .int .i64 (j : Int) ∧ allV fs j = true) (fun k => 13 - (intOf k).toNat)
  case atStart => exact ⟨0, by omega, rfl, allV_zero fs⟩
  case round =>
    obtain ⟨j, hj, rfl, ha⟩ := hrel
    have HA := Lib.hid ha
    clear ha
    by_cases hl : j < 13
    · have h1 := HC.out j hl
      cases hv : air (fs j)
      · have HV := Lib.hid hv
        clear hv
        go_wp2_with (go_at_call 66; refine (spec_VelocityOk _ _ _).mono ?_; rintro e w' ⟨rfl, rfl⟩; rw [show (within100 (fs j).1 && within100 (fs j).2) = false from HV.out])
        go_ret
        exact ⟨by rw [allV_not hl HV.out]; rfl, HB.out⟩
      · have HV := Lib.hid hv
        clear hv
        go_wp2_with (go_at_call 66; refine (spec_VelocityOk _ _ _).mono ?_; rintro e w' ⟨rfl, rfl⟩; rw [show (within100 (fs j).1 && within100 (fs j).2) = true from HV.out])
        go_round
        case rel => exact ⟨j + 1, by omega, by go_num, by rw [allV_succ, HA.out, HV.out]; rfl⟩
        case measure => simp [intOf]; omega
    · obtain rfl : j = 13 := by omega
      go_wp2_with fail
      go_ret
      exact ⟨by rw [HA.out]; rfl, HB.out⟩
/-! ### the time, clamped -/
def clip (t : Int) : Int := if t < -21600 then -21600 else if 21600 < t then 21600 else t
def tick (t : Int) : Nat := (clip t + 21600).toNat
theorem clip_tick (t : Int) : clip t = (tick t : Int) - 21600 ∧ tick t ≤ 43200 := by
  have : -21600 ≤ clip t ∧ clip t ≤ 21600 := by unfold clip; split <;> (try split) <;> omega
  unfold tick
  omega
theorem impl_Clamp (t : Int) (w : World) : Calls Try.prog 37 #[.int .i64 t, .int .i64 (-21600), .int .i64 21600] w fun e w' => e = .returned (.int .i64 ((tick t : Int) - 21600)) ∧ w = w' := by
  have H := Lib.hid (show ((tick t : Int) - 21600) = clip t from (clip_tick t).1.symm)
  rw [H.out]
  clear H
  unfold clip
  by_cases h : t < -21600
  · rw [if_pos h]
    go_enter Try.func37, Try.ntmps37
    go_wp2
    go_ret
    exact ⟨rfl, rfl⟩
  · rw [if_neg h]
    have h' : -21600 ≤ t := by omega
    by_cases h2 : 21600 < t
    · rw [if_pos h2]
      go_enter Try.func37, Try.ntmps37
      go_wp2
      all_goals go_ret
      all_goals refine ⟨congrArg (fun n => Ending.returned (.int .i64 n)) ?_, rfl⟩
      all_goals omega
    · rw [if_neg h2]
      go_enter Try.func37, Try.ntmps37
      go_wp2
      all_goals go_ret
      all_goals refine ⟨congrArg (fun n => Ending.returned (.int .i64 n)) ?_, rfl⟩
      all_goals omega
theorem spec_Clamp (t : Int) (w : World) : Calls Try.prog 40 #[.int .i64 t, .int .i64 (-21600), .int .i64 21600] w fun e w' => e = .returned (.int .i64 ((tick t : Int) - 21600)) ∧ w = w' := by
  have H := Lib.hid (show ((tick t : Int) - 21600) = clip t from (clip_tick t).1.symm)
  rw [H.out]
  clear H
  unfold clip
  by_cases h : t < -21600
  · rw [if_pos h]
    go_enter Try.func40, Try.ntmps40
    go_wp2
    go_ret
    exact ⟨rfl, rfl⟩
  · rw [if_neg h]
    have h' : -21600 ≤ t := by omega
    by_cases h2 : 21600 < t
    · rw [if_pos h2]
      go_enter Try.func40, Try.ntmps40
      go_wp2
      all_goals go_ret
      all_goals exact ⟨rfl, rfl⟩
    · rw [if_neg h2]
      go_enter Try.func40, Try.ntmps40
      go_wp2
      all_goals go_ret
      all_goals exact ⟨rfl, rfl⟩
/-! ### between two hours -/
def mixF (a b q : Nat) : Nat := fl .add .f32 a (fl .mul .f32 (fl .sub .f32 b a) q)
def shareF (r : Nat) : Nat := fl .quo .f32 (floatOfInt .f32 (r : Int)) 1163984896
structure Mix (a b q : Nat) : Prop where
  s : (floatBits .sub .f32 b a).isSome = true
  m : (floatBits .mul .f32 (fl .sub .f32 b a) q).isSome = true
  d : (floatBits .add .f32 a (fl .mul .f32 (fl .sub .f32 b a) q)).isSome = true
theorem mix {a b q : Nat} (ha : within100 a = true) (hb : within100 b = true) (hq : Bnd .f32 0 q) : Mix a b q := by
  have A := bnd_100 ha
  have B := bnd_100 hb
  have S := B.sub A (by decide) (by decide +kernel)
  have M := S.mul hq (by decide) (by decide +kernel)
  exact ⟨B.subS A, S.mulS hq, (A.mono (show (7 : Int) ≤ 7 + 1 + 0 by omega)).addS M⟩
theorem share {r : Nat} (h : r < 3600) : (floatBits .quo .f32 (floatOfInt .f32 (r : Int)) 1163984896).isSome = true ∧ Bnd .f32 0 (shareF r) := by
  have hr : reach FloatKind.f32.format = 127 := by decide
  have hl : FloatKind.f32.format.leastPlace = -149 := by decide
  obtain ⟨b, sr⟩ := ofInt (k := .f32) (n := (r : Int)) (e := 12) (by simp <;> omega) (by simp; omega) (by decide +kernel)
  have hd : FloatKind.f32.format.read 1163984896 = .number false 14745600 (-12) := by decide +kernel
  have nd : Num FloatKind.f32.format 1163984896 := ⟨_, _, _, hd⟩
  have vd : V FloatKind.f32.format 1163984896 = 3600 := by
    rw [V_of hd]
    have : p2 (-12) = 1 / 4096 := by decide +kernel
    simp only [sval, this, Bool.false_eq_true, if_false]; decide +kernel
  have e0 : sval false r 0 = ((r : Int) : Rat) := by
    unfold sval; rw [p2_zero, if_neg (by decide), Rat.mul_one]; push_cast; rfl
  have vr : V FloatKind.f32.format (floatOfInt .f32 (r : Int)) = (r : Rat) := by
    rw [← e0] at sr
    have := sr.exact (by rw [hl]; omega) (by have : FloatKind.f32.format.binade = 8388608 := by decide
                                             omega)
    rw [this]; unfold sval; rw [p2_zero]; simp
  have r0 : (0 : Rat) ≤ (r : Rat) := by exact_mod_cast Nat.zero_le r
  have r1 : (r : Rat) ≤ 3600 := by exact_mod_cast Nat.le_of_lt h
  have P0 := p2_zero
  have P1 : p2 127 > 10 := by decide +kernel
  obtain ⟨z, e1, e2, e3⟩ := div_num (Sm.kx .f32) b.num nd ((r : Rat) / 3600) (by rw [vd, vr]; grind) (by rw [vd]; decide) (by rw [hr]; grind) (by rw [hr]; grind)
  have e : shareF r = z := fl_eq e1
  refine ⟨by show (FloatKind.f32.format.div _ _).isSome = true; rw [e1]; rfl, ?_⟩
  rw [e]
  exact ⟨e2, e3.ge_p2 _ (by rw [hl]; omega) (by grind), e3.le_p2 _ (by rw [hl]; omega) (by grind)⟩
theorem impl_between (a b q : Nat) (h : Mix a b q) (w : World) : Calls Try.prog 38 #[.float .f32 a, .float .f32 b, .float .f32 q] w fun e w' => e = .returned (.float .f32 (mixF a b q)) ∧ w = w' := by
  obtain ⟨h1, h2, h3⟩ := h
  go_enter Try.func38, Try.ntmps38
  go_wp2
  go_ret
  exact ⟨rfl, rfl⟩
theorem spec_l04Mix (a b q : Nat) (h : Mix a b q) (w : World) : Calls Try.prog 41 #[.float .f32 a, .float .f32 b, .float .f32 q] w fun e w' => e = .returned (.float .f32 (mixF a b q)) ∧ w = w' := by
  obtain ⟨h1, h2, h3⟩ := h
  go_enter Try.func41, Try.ntmps41
  go_wp2
  go_ret
  exact ⟨rfl, rfl⟩
def flowR (fs : Nat → Nat × Nat) (t : Int) : Nat × Nat :=
  if tick t % 3600 = 0 then fs (tick t / 3600) else (mixF (fs (tick t / 3600)).1 (fs (tick t / 3600 + 1)).1 (shareF (tick t % 3600)), mixF (fs (tick t / 3600)).2 (fs (tick t / 3600 + 1)).2 (shareF (tick t % 3600)))
set_option maxRecDepth 100000 in
theorem impl_FlowAt_no (x y : Nat) (fs : Nat → Nat × Nat) (t : Int) (ha : allV fs 13 = false) (w : World) : Calls Try.prog 13 #[.agg #[.complex .f64 x y, .complex .f32 (fs 0).1 (fs 0).2, .complex .f32 (fs 1).1 (fs 1).2, .complex .f32 (fs 2).1 (fs 2).2, .complex .f32 (fs 3).1 (fs 3).2, .complex .f32 (fs 4).1 (fs 4).2, .complex .f32 (fs 5).1 (fs 5).2, .complex .f32 (fs 6).1 (fs 6).2, .complex .f32 (fs 7).1 (fs 7).2, .complex .f32 (fs 8).1 (fs 8).2, .complex .f32 (fs 9).1 (fs 9).2, .complex .f32 (fs 10).1 (fs 10).2, .complex .f32 (fs 11).1 (fs 11).2, .complex .f32 (fs 12).1 (fs 12).2], .int .i64 t] w fun e w' => e = .returned (.tuple #[.complex .f32 0 0, .bool false]) ∧ Below w.heap.size w w' := by
  have HC := Lib.hid (fun j (hj : j < 13) => (blk_cell (blk_new w (.cells (stn x y fs) 32)) (1 + j)).trans (stn_at x y fs j hj))
  have HB := Lib.hid ((Below.refl w.heap.size w).alloc (Nat.le_refl _) (.cells (stn x y fs) 32))
  have HA := Lib.hid ha
  unfold stn at HC HB
  clear ha
  go_enter Try.func13, Try.ntmps13
  go_wp2_with (first | (go_at_call 36; refine (impl_velocitiesOk (fs := fs) (fun j hj => by rw [← HC.out j hj]) ).mono ?_; rintro e w' ⟨rfl, rfl⟩; rw [HA.out]))
  go_ret2
  exact ⟨rfl, HB.out⟩
set_option maxRecDepth 100000 in
set_option maxHeartbeats 1000000 in
theorem impl_FlowAt_yes (x y : Nat) (fs : Nat → Nat × Nat) (t : Int) (ha : allV fs 13 = true) (w : World) : Calls Try.prog 13 #[.agg #[.complex .f64 x y, .complex .f32 (fs 0).1 (fs 0).2, .complex .f32 (fs 1).1 (fs 1).2, .complex .f32 (fs 2).1 (fs 2).2, .complex .f32 (fs 3).1 (fs 3).2, .complex .f32 (fs 4).1 (fs 4).2, .complex .f32 (fs 5).1 (fs 5).2, .complex .f32 (fs 6).1 (fs 6).2, .complex .f32 (fs 7).1 (fs 7).2, .complex .f32 (fs 8).1 (fs 8).2, .complex .f32 (fs 9).1 (fs 9).2, .complex .f32 (fs 10).1 (fs 10).2, .complex .f32 (fs 11).1 (fs 11).2, .complex .f32 (fs 12).1 (fs 12).2], .int .i64 t] w fun e w' => e = .returned (.tuple #[.complex .f32 (flowR fs t).1 (flowR fs t).2, .bool true]) ∧ Below w.heap.size w w' := by
  have HC := Lib.hid (fun j (hj : j < 13) => (blk_cell (blk_new w (.cells (stn x y fs) 32)) (1 + j)).trans (stn_at x y fs j hj))
  have HB := Lib.hid ((Below.refl w.heap.size w).alloc (Nat.le_refl _) (.cells (stn x y fs) 32))
  have HA := Lib.hid ha
  unfold stn at HC HB
  clear ha
  have hN := (clip_tick t).2
  obtain ⟨h, r, hh, hr⟩ : ∃ h r : Nat, tick t / 3600 = h ∧ tick t % 3600 = r := ⟨_, _, rfl, rfl⟩
  have e1 : (tick t : Int) / 3600 = (h : Int) := by omega
  have e2 : (tick t : Int) % 3600 = (r : Int) := by omega
  have hh12 : h ≤ 12 := by omega
  have hr36 : r < 3600 := by omega
  have hrh : r ≠ 0 → h ≤ 11 := by omega
  have HR := Lib.hid (show flowR fs t = if r = 0 then fs h else (mixF (fs h).1 (fs (h + 1)).1 (shareF r), mixF (fs h).2 (fs (h + 1)).2 (shareF r)) by unfold flowR; rw [hh, hr])
  clear hh hr
  have c1 := HC.out h (by omega)
  by_cases r0 : r = 0
  · subst r0
    clear hrh
    go_enter Try.func13, Try.ntmps13
    go_wp2_with (first | (go_at_call 36; refine (impl_velocitiesOk (fs := fs) (fun j hj => by rw [← HC.out j hj]) ).mono ?_; rintro e w' ⟨rfl, rfl⟩; rw [HA.out]) | (go_at_call 37; refine (impl_Clamp _ _).mono ?_; rintro e w' ⟨rfl, rfl⟩))
    go_ret2
    exact ⟨by rw [HR.out]; rfl, HB.out⟩
  · have c2 := HC.out (h + 1) (by have := hrh r0; omega)
    have hh11 : h ≤ 11 := hrh r0
    obtain ⟨s1, s2⟩ := share hr36
    have b1 := allV_at 13 HA.out h (by omega)
    have b2 := allV_at 13 HA.out (h + 1) (by omega)
    unfold air at b1 b2
    rw [Bool.and_eq_true] at b1 b2
    have M1 := Lib.hid (mix b1.1 b2.1 s2)
    have M2 := Lib.hid (mix b1.2 b2.2 s2)
    have HQ := Lib.hid r0
    have r0b : ((r : Int) == 0) = false := by simp; omega
    clear s2 b1 b2 hrh r0
    go_enter Try.func13, Try.ntmps13
    go_wp2_with (first | (go_at_call 36; refine (impl_velocitiesOk (fs := fs) (fun j hj => by rw [← HC.out j hj]) ).mono ?_; rintro e w' ⟨rfl, rfl⟩; rw [HA.out]) | (go_at_call 37; refine (impl_Clamp _ _).mono ?_; rintro e w' ⟨rfl, rfl⟩) | (go_at_call 38; refine (impl_between _ _ _ (by first | exact M1.out | exact M2.out) _).mono ?_; rintro e w' ⟨rfl, rfl⟩))
    go_quiet (fail)
    go_wp2_with (first | (go_at_call 38; refine (impl_between _ _ _ (by first | exact M1.out | exact M2.out) _).mono ?_; rintro e w' ⟨rfl, rfl⟩))
    go_ret2
    exact ⟨by rw [HR.out, if_neg HQ.out]; rfl, by first | exact HB.out | exact pw_below_drewN HB.out _⟩
set_option maxRecDepth 100000 in
theorem spec_FlowAt_no (x y : Nat) (fs : Nat → Nat × Nat) (t : Int) (ha : allV fs 13 = false) (w : World) : Calls Try.prog 14 #[.agg #[.complex .f64 x y, .complex .f32 (fs 0).1 (fs 0).2, .complex .f32 (fs 1).1 (fs 1).2, .complex .f32 (fs 2).1 (fs 2).2, .complex .f32 (fs 3).1 (fs 3).2, .complex .f32 (fs 4).1 (fs 4).2, .complex .f32 (fs 5).1 (fs 5).2, .complex .f32 (fs 6).1 (fs 6).2, .complex .f32 (fs 7).1 (fs 7).2, .complex .f32 (fs 8).1 (fs 8).2, .complex .f32 (fs 9).1 (fs 9).2, .complex .f32 (fs 10).1 (fs 10).2, .complex .f32 (fs 11).1 (fs 11).2, .complex .f32 (fs 12).1 (fs 12).2], .int .i64 t] w fun e w' => e = .returned (.tuple #[.complex .f32 0 0, .bool false]) ∧ Below w.heap.size w w' := by
  have HC := Lib.hid (fun j (hj : j < 13) => (blk_cell (blk_new w (.cells (stn x y fs) 32)) (1 + j)).trans (stn_at x y fs j hj))
  have HB := Lib.hid ((Below.refl w.heap.size w).alloc (Nat.le_refl _) (.cells (stn x y fs) 32))
  have HA := Lib.hid ha
  unfold stn at HC HB
  clear ha
  go_enter Try.func14, Try.ntmps14
  go_wp2_with (first | (go_at_call 39; refine (spec_l05FlowOk _ x y fs).mono ?_; rintro e w2 ⟨rfl, hb⟩; rw [HA.out]; obtain ⟨h2, h2f⟩ := bcell hb; have HB2 := Lib.hid (HB.out.trans (hb.mono HB.out.size)); clear hb))
  go_ret2
  exact ⟨rfl, HB2.out⟩
set_option maxRecDepth 100000 in
set_option maxHeartbeats 1000000 in
theorem spec_FlowAt_yes (x y : Nat) (fs : Nat → Nat × Nat) (t : Int) (ha : allV fs 13 = true) (w : World) : Calls Try.prog 14 #[.agg #[.complex .f64 x y, .complex .f32 (fs 0).1 (fs 0).2, .complex .f32 (fs 1).1 (fs 1).2, .complex .f32 (fs 2).1 (fs 2).2, .complex .f32 (fs 3).1 (fs 3).2, .complex .f32 (fs 4).1 (fs 4).2, .complex .f32 (fs 5).1 (fs 5).2, .complex .f32 (fs 6).1 (fs 6).2, .complex .f32 (fs 7).1 (fs 7).2, .complex .f32 (fs 8).1 (fs 8).2, .complex .f32 (fs 9).1 (fs 9).2, .complex .f32 (fs 10).1 (fs 10).2, .complex .f32 (fs 11).1 (fs 11).2, .complex .f32 (fs 12).1 (fs 12).2], .int .i64 t] w fun e w' => e = .returned (.tuple #[.complex .f32 (flowR fs t).1 (flowR fs t).2, .bool true]) ∧ Below w.heap.size w w' := by
  have HC := Lib.hid (fun j (hj : j < 13) => (blk_cell (blk_new w (.cells (stn x y fs) 32)) (1 + j)).trans (stn_at x y fs j hj))
  have HB := Lib.hid ((Below.refl w.heap.size w).alloc (Nat.le_refl _) (.cells (stn x y fs) 32))
  have HA := Lib.hid ha
  unfold stn at HC HB
  clear ha
  have hN := (clip_tick t).2
  obtain ⟨h, r, hh, hr⟩ : ∃ h r : Nat, tick t / 3600 = h ∧ tick t % 3600 = r := ⟨_, _, rfl, rfl⟩
  have e1 : (tick t : Int) / 3600 = (h : Int) := by omega
  have e2 : (tick t : Int) % 3600 = (r : Int) := by omega
  have hh12 : h ≤ 12 := by omega
  have hr36 : r < 3600 := by omega
  have hrh : r ≠ 0 → h ≤ 11 := by omega
  have HR := Lib.hid (show flowR fs t = if r = 0 then fs h else (mixF (fs h).1 (fs (h + 1)).1 (shareF r), mixF (fs h).2 (fs (h + 1)).2 (shareF r)) by unfold flowR; rw [hh, hr])
  clear hh hr
  have c1 := HC.out h (by omega)
  by_cases r0 : r = 0
  · subst r0
    clear hrh
    go_enter Try.func14, Try.ntmps14
    go_wp2_with (first | (go_at_call 39; refine (spec_l05FlowOk _ x y fs).mono ?_; rintro e w2 ⟨rfl, hb⟩; rw [HA.out]; obtain ⟨h2, h2f⟩ := bcell hb; have HB2 := Lib.hid (HB.out.trans (hb.mono HB.out.size)); clear hb) | (go_at_call 40; refine (spec_Clamp _ _).mono ?_; rintro e w' ⟨rfl, rfl⟩))
    go_ret2
    exact ⟨by rw [HR.out]; rfl, HB2.out⟩
  · have c2 := HC.out (h + 1) (by have := hrh r0; omega)
    have hh11 : h ≤ 11 := hrh r0
    obtain ⟨s1, s2⟩ := share hr36
    have b1 := allV_at 13 HA.out h (by omega)
    have b2 := allV_at 13 HA.out (h + 1) (by omega)
    unfold air at b1 b2
    rw [Bool.and_eq_true] at b1 b2
    have M1 := Lib.hid (mix b1.1 b2.1 s2)
    have M2 := Lib.hid (mix b1.2 b2.2 s2)
    have HQ := Lib.hid r0
    have r0b : ((r : Int) == 0) = false := by simp; omega
    clear s2 b1 b2 hrh r0
    go_enter Try.func14, Try.ntmps14
    go_wp2_with (first | (go_at_call 39; refine (spec_l05FlowOk _ x y fs).mono ?_; rintro e w2 ⟨rfl, hb⟩; rw [HA.out]; obtain ⟨h2, h2f⟩ := bcell hb; have HB2 := Lib.hid (HB.out.trans (hb.mono HB.out.size)); clear hb) | (go_at_call 40; refine (spec_Clamp _ _).mono ?_; rintro e w' ⟨rfl, rfl⟩) | (go_at_call 41; refine (spec_l04Mix _ _ _ (by first | exact M1.out | exact M2.out) _).mono ?_; rintro e w' ⟨rfl, rfl⟩))
    go_ret2
    exact ⟨by rw [HR.out, if_neg HQ.out]; rfl, by first | exact HB2.out | exact pw_below_drewN HB2.out _⟩
end Go.Proofs.Ytjohpjmfnghkoaa.Fa
