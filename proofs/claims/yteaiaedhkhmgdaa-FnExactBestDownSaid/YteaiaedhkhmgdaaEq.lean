/- Polars that hold the same are the same to the laws. -/
import Derived.Test.YteaiaedhkhmgdaaSize
import Derived.Test.YteaiaedhkhmgdaaSame
import Derived.Deep.RegionWith
import Derived.Deep.Cut
namespace Go.Proofs.Yteaiaedhkhmgdaa.Eq
open Go.RowKit Kit Fl Bd Pf Pw Cp
/-- a single that is no number, made a double -/
def nanOf (x : Nat) (w : World) : Nat := (Question.nanConv .f64 x).cut (w.tape w.drawn (Question.nanConv .f64 x))
theorem nan_cut (x t : Nat) : ¬ Firm FloatKind.f64.format ((Question.nanConv .f64 x).cut t) := by
  intro h
  have e : (Question.nanConv .f64 x).cut t = (t % 2) * 2 ^ 63 + 0x7ff0000000000000 + 1 + (t / 2) % (2 ^ 52 - 1) := rfl
  have hS : FloatKind.f64.format.signWeight = 2 ^ 63 := by decide
  have hB : FloatKind.f64.format.binade = 2 ^ 52 := by decide
  have hI : FloatKind.f64.format.infRung = 0x7ff0000000000000 := by decide
  generalize (Question.nanConv .f64 x).cut t = z at *
  have h1 : t % 2 < 2 := Nat.mod_lt _ (by decide)
  have h2 : (t / 2) % (2 ^ 52 - 1) < 2 ^ 52 - 1 := Nat.mod_lt _ (by decide)
  generalize t % 2 = p at *
  generalize (t / 2) % (2 ^ 52 - 1) = q at *
  have hm : z % 2 ^ 63 = 0x7ff0000000000000 + 1 + q := by omega
  have hr : FloatKind.f64.format.read z = .nan (z / 2 ^ 63 % 2 == 1) (0x7ff0000000000000 + 1 + q - 0x7ff0000000000000) := by
    unfold Ieee.Format.read
    rw [hS, hB, hI, hm]
    dsimp only
    rw [if_neg (by omega), if_neg (by omega), if_neg (by omega)]
  exact h _ _ hr
theorem nan_read {x : Nat} (h : ¬ Firm FloatKind.f32.format x) : ∃ s t, FloatKind.f32.format.read x = .nan s t := by
  cases hx : FloatKind.f32.format.read x with
  | nan s t => exact ⟨s, t, rfl⟩
  | infinity s => exact absurd (fun a b e => by rw [hx] at e; cases e) h
  | number s m e => exact absurd (fun a b e => by rw [hx] at e; cases e) h
theorem conv_nan {x : Nat} (h : ¬ Firm FloatKind.f32.format x) (w : World) : (convert 27 67 (.float .f32 x)).run Try.prog w = .ok (.float .f64 (nanOf x w)) w.drew := by
  obtain ⟨s, t, hx⟩ := nan_read h
  have hs : Try.prog.underlying 27 = some (.float .f32) := Try.underlying27
  have hd : Try.prog.underlying 67 = some (.float .f64) := Try.underlying67
  have hdec : FloatKind.f32.decode x = .nan s t := hx
  have hq : (Question.nanConv .f64 x).forced = false := rfl
  simp [convert, run_underlying hs, run_underlying hd, Conv.floatToFloat, hdec, hq, nanOf]
theorem drew_m {w v : World} (h : ∃ m, v = w.drewN m) : ∃ m, v.drew = w.drewN m := by
  obtain ⟨m, rfl⟩ := h
  exact ⟨m + 1, World.drewN_drewN (n := m) (m := 1) ..⟩
theorem cd {v : World} {p : Addr} {u : Value} (h : v.cell? p = some u) : v.drew.cell? p = some u := h
theorem sameNan {x y : Nat} (hx : ¬ Firm FloatKind.f64.format x) (hy : ¬ Firm FloatKind.f64.format y) (w : World) : Calls Try.prog 65 #[.float .f64 x, .float .f64 y] w fun e w' => e = .returned (.bool true) ∧ w = w' := by
  have h1 := (order_nan hx x).1
  have h2 := (order_nan hy y).1
  clear hx hy
  go_enter Try.func65, Try.ntmps65
  go_wp2
  go_ret
  exact ⟨rfl, rfl⟩
theorem same_quiet (x : Nat) (w : World) : Calls Try.prog 65 #[.float .f64 x, .float .f64 x] w fun e w' => e = .returned (.bool true) ∧ w' = w := by
  refine (Sm.sameFloat x w).mono ?_
  rintro e w' ⟨rfl, rfl⟩
  exact ⟨rfl, rfl⟩
set_option maxRecDepth 100000 in
set_option maxHeartbeats 1000000 in
theorem eqFloat32S {w : World} {A B : Option Addr} {c c' : Nat} {l : List Nat} (hA : FAt w A l) (hB : FAt w B l) (hm : l.length ≤ 1048576) :
    Calls Try.prog 38 #[.slice A l.length c, .slice B l.length c'] w fun e w' => e = .returned (.bool true) ∧ ∃ m, w' = w.drewN m := by
  have HA := Lib.hid hA
  have HB := Lib.hid hB
  clear hA hB
  go_enter Try.func38, Try.ntmps38
  go_wp2_with fail
  go_loopw [5] (fun k wr => ∃ j : Nat, j ≤ l.length ∧ k = .int .i64 (j : Int) ∧ ∃ m, wr = w.drewN m) (fun k _ => l.length - (intOf k).toNat)
  case atStart => exact ⟨0, by omega, rfl, 0, rfl⟩
  case round =>
    obtain ⟨j, hj, rfl, hm2⟩ := hrel
    have HM := Lib.hid hm2
    have HA2 := Lib.hid (show FAt wr A l by obtain ⟨m, rfl⟩ := hm2; exact HA.out.below (drewN_below (Below.refl _ _) m))
    have HB2 := Lib.hid (show FAt wr B l by obtain ⟨m, rfl⟩ := hm2; exact HB.out.below (drewN_below (Below.refl _ _) m))
    clear hm2
    by_cases hl : j < l.length
    · obtain ⟨b, rfl, hL⟩ := HA2.out.resolve_left (by omega)
      obtain ⟨b', rfl, hM⟩ := HB2.out.resolve_left (by omega)
      have y1 := hL j hl
      have y2 := hM j hl
      have i1 : (j : Int) < (l.length : Int) := by omega
      have i2 : (0 : Int) ≤ (j : Int) := by omega
      clear hL hM
      by_cases hf : Firm FloatKind.f32.format (fn l j)
      · have cw := Sm.cv_wide hf
        clear hf
        go_wp2_with fail
        go_quiet (first | (go_at_call 65; refine Calls.quiet_of_same (same_quiet _ _)))
        go_wp2_with fail
        go_roundw
        case rel => exact ⟨j + 1, by omega, by go_num, by
                      obtain ⟨m, e⟩ := HM.out
                      rw [e]; exact ⟨_, World.drewN_drewN ..⟩⟩
        case measure => simp [intOf]; omega
      · have hcv := conv_nan hf
        clear hf
        go_wp2_with fail
        obtain ⟨m, hw⟩ := HM.out
        have HZ := Lib.hid (show ∀ k, ∃ m, wr.drewN k = w.drewN m from fun k => by rw [hw]; exact ⟨_, World.drewN_drewN ..⟩)
        clear hw
        go_region_with (first | (go_at_call 65; refine (sameNan (nan_cut _ _) (nan_cut _ _) _).mono ?_; rintro e w1 ⟨rfl, rfl⟩))
        all_goals go_wp2_with fail
        all_goals go_roundw
        all_goals try (case measure => simp [intOf]; omega)
        all_goals exact ⟨j + 1, by omega, by go_num, by first | exact HZ.out 3 | exact HZ.out 2 | exact HZ.out 1⟩
    · obtain rfl : j = l.length := by omega
      go_wp2_with fail
      go_ret
      exact ⟨rfl, HM.out⟩
set_option maxRecDepth 100000 in
set_option maxHeartbeats 1000000 in
theorem eqIntS {w : World} {A B : Option Addr} {c c' : Nat} {l : List Int} (hA : IAt w A l) (hB : IAt w B l) (hm : l.length ≤ 1048576) :
    Calls Try.prog 39 #[.slice A l.length c, .slice B l.length c'] w fun e w' => e = .returned (.bool true) ∧ ∃ m, w' = w.drewN m := by
  have HA := Lib.hid hA
  have HB := Lib.hid hB
  clear hA hB
  go_enter Try.func39, Try.ntmps39
  go_wp2_with fail
  go_loopw [5] (fun k wr => ∃ j : Nat, j ≤ l.length ∧ k = .int .i64 (j : Int) ∧ ∃ m, wr = w.drewN m) (fun k _ => l.length - (intOf k).toNat)
  case atStart => exact ⟨0, by omega, rfl, 0, rfl⟩
  case round =>
    obtain ⟨j, hj, rfl, hm2⟩ := hrel
    have HM := Lib.hid hm2
    have HA2 := Lib.hid (show IAt wr A l by obtain ⟨m, rfl⟩ := hm2; exact HA.out.below (drewN_below (Below.refl _ _) m))
    have HB2 := Lib.hid (show IAt wr B l by obtain ⟨m, rfl⟩ := hm2; exact HB.out.below (drewN_below (Below.refl _ _) m))
    clear hm2
    by_cases hl : j < l.length
    · obtain ⟨b, rfl, hL⟩ := HA2.out.resolve_left (by omega)
      obtain ⟨b', rfl, hM⟩ := HB2.out.resolve_left (by omega)
      have y1 := hL j hl
      have y2 := hM j hl
      have i1 : (j : Int) < (l.length : Int) := by omega
      have i2 : (0 : Int) ≤ (j : Int) := by omega
      clear hL hM
      go_wp2_with fail
      go_quiet (fail)
      go_wp2_with fail
      go_roundw
      case rel => exact ⟨j + 1, by omega, by go_num, by
                    obtain ⟨m, e⟩ := HM.out
                    rw [e]; exact ⟨_, World.drewN_drewN ..⟩⟩
      case measure => simp [intOf]; omega
    · obtain rfl : j = l.length := by omega
      go_wp2_with fail
      go_ret
      exact ⟨rfl, HM.out⟩
theorem eq_quiet {w : World} {A B : Option Addr} {c c' : Nat} {l : List Nat} (hA : FAt w A l) (hB : FAt w B l) (hm : l.length ≤ 1048576) (n : Nat) :
    Calls Try.prog 38 #[.slice A l.length c, .slice B l.length c'] (w.drewN n) fun e w' => e = .returned (.bool true) ∧ ∃ m, w' = w.drewN m := by
  refine (eqFloat32S (hA.below (drewN_below (Below.refl _ _) n)) (hB.below (drewN_below (Below.refl _ _) n)) hm).mono ?_
  rintro e w' ⟨h, m, rfl⟩
  exact ⟨h, _, World.drewN_drewN ..⟩
set_option maxRecDepth 100000 in
set_option maxHeartbeats 1000000 in
theorem eqFloat32SS {w : World} {A B : Option Addr} {c c' : Nat} {l : List (List Nat)} (hA : RAt w A l) (hB : RAt w B l) (hm : l.length ≤ 1048576) (hr : ∀ j, j < l.length → (rn l j).length ≤ 1048576) :
    Calls Try.prog 40 #[.slice A l.length c, .slice B l.length c'] w fun e w' => e = .returned (.bool true) ∧ ∃ m, w' = w.drewN m := by
  have HA := Lib.hid hA
  have HB := Lib.hid hB
  have HL := Lib.hid hr
  clear hA hB hr
  go_enter Try.func40, Try.ntmps40
  go_wp2_with fail
  go_loopw [5] (fun k wr => ∃ j : Nat, j ≤ l.length ∧ k = .int .i64 (j : Int) ∧ ∃ m, wr = w.drewN m) (fun k _ => l.length - (intOf k).toNat)
  case atStart => exact ⟨0, by omega, rfl, 0, rfl⟩
  case round =>
    obtain ⟨j, hj, rfl, hm2⟩ := hrel
    have HM := Lib.hid hm2
    have HA2 := Lib.hid (show RAt wr A l by obtain ⟨m, rfl⟩ := hm2; exact HA.out.below (drewN_below (Below.refl _ _) m))
    have HB2 := Lib.hid (show RAt wr B l by obtain ⟨m, rfl⟩ := hm2; exact HB.out.below (drewN_below (Below.refl _ _) m))
    clear hm2
    by_cases hl : j < l.length
    · obtain ⟨b, rfl, hL⟩ := HA2.out.resolve_left (by omega)
      obtain ⟨b', rfl, hM⟩ := HB2.out.resolve_left (by omega)
      obtain ⟨R1, d1, y1, q1⟩ := hL j hl
      obtain ⟨R2, d2, y2, q2⟩ := hM j hl
      have Q1 := Lib.hid q1
      have Q2 := Lib.hid q2
      have i1 : (j : Int) < (l.length : Int) := by omega
      have i2 : (0 : Int) ≤ (j : Int) := by omega
      clear hL hM q1 q2
      go_wp2_with fail
      go_quiet (first | (go_at_call 38; exact eq_quiet Q1.out Q2.out (HL.out j hl) _))
      go_wp2_with fail
      go_roundw
      case rel => exact ⟨j + 1, by omega, by go_num, by
                    obtain ⟨m, e⟩ := HM.out
                    rw [e]; exact ⟨_, World.drewN_drewN ..⟩⟩
      case measure => simp [intOf]; omega
    · obtain rfl : j = l.length := by omega
      go_wp2_with fail
      go_ret
      exact ⟨rfl, HM.out⟩
set_option maxRecDepth 100000 in
set_option maxHeartbeats 1000000 in
theorem eqPolar {w : World} {A0 A1 A2 B0 B1 B2 : Option Addr} {c0 c1 c2 e0 e1 e2 : Nat} {d : Pol} (hA : PolAt w A0 A1 A2 d) (hB : PolAt w B0 B1 B2 d) (hS : Sz.Small d) :
    Calls Try.prog 11 #[.agg #[.slice A0 d.ws.length c0, .slice A1 d.an.length c1, .slice A2 d.rows.length c2], .agg #[.slice B0 d.ws.length e0, .slice B1 d.an.length e1, .slice B2 d.rows.length e2]] w fun e w' => e = .returned (.bool true) ∧ Below w.heap.size w w' := by
  obtain ⟨W, hW, hBW⟩ : ∃ W, W = (w.alloc (.cells #[.slice A0 d.ws.length c0, .slice A1 d.an.length c1, .slice A2 d.rows.length c2] 31)).alloc (.cells #[.slice B0 d.ws.length e0, .slice B1 d.an.length e1, .slice B2 d.rows.length e2] 31) ∧ Below w.heap.size w W :=
    ⟨_, rfl, by repeat (first | exact Below.refl _ _ | refine Below.alloc ?_ (by first | omega | (simp; omega) | (simp; done)) _)⟩
  have x0 : W.cell? ⟨w.heap.size, 0, none⟩ = some (.slice A0 d.ws.length c0) := by rw [hW]; go_simp
  have x1 : W.cell? ⟨w.heap.size, 1, none⟩ = some (.slice A1 d.an.length c1) := by rw [hW]; go_simp
  have x2 : W.cell? ⟨w.heap.size, 2, none⟩ = some (.slice A2 d.rows.length c2) := by rw [hW]; go_simp
  have z0 : W.cell? ⟨w.heap.size + 1, 0, none⟩ = some (.slice B0 d.ws.length e0) := by rw [hW]; go_simp
  have z1 : W.cell? ⟨w.heap.size + 1, 1, none⟩ = some (.slice B1 d.an.length e1) := by rw [hW]; go_simp
  have z2 : W.cell? ⟨w.heap.size + 1, 2, none⟩ = some (.slice B2 d.rows.length e2) := by rw [hW]; go_simp
  have HA := Lib.hid (hA.below hBW)
  have HB := Lib.hid (hB.below hBW)
  have HBW := Lib.hid hBW
  have HS := Lib.hid hS
  clear hA hB hBW hS
  go_enter Try.func11, Try.ntmps11
  go_upto_region 1 with fail
  rw [← hW]
  clear hW
  go_wp2_with fail
  refine (eqFloat32S HA.out.f HB.out.f HS.out.f).mono ?_
  rintro e w1 ⟨rfl, m1, rfl⟩
  go_wp2_with fail
  refine (eqIntS (HA.out.drewN m1).i (HB.out.drewN m1).i HS.out.i).mono ?_
  rintro e w1 ⟨rfl, m2, rfl⟩
  go_wp2_with fail
  refine (eqFloat32SS (HA.out.drewN (m1 + m2)).r (HB.out.drewN (m1 + m2)).r HS.out.r HS.out.q).mono ?_
  rintro e w1 ⟨rfl, m3, rfl⟩
  go_wp2_with fail
  go_ret
  exact ⟨rfl, drewN_below HBW.out _⟩
end Go.Proofs.Yteaiaedhkhmgdaa.Eq
