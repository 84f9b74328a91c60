/- The speed that a polar tells: rows of it, both sides. -/
import Derived.Test.YteaiaedhkhmgdaaGreatPolV
namespace Go.Proofs.YteaiaedhkhmgdaaGreat.Pw
open Go.RowKit Kit Fl Bd Tn Pf
theorem impl_between (a b q : Nat) (h : Mix a b q) (w : World) : Calls Tryz.prog 65 #[.float .f32 a, .float .f32 b, .float .f32 q] w fun e w' => e = .returned (.float .f32 (mixF a b q)) ∧ w' = w := by
  obtain ⟨h1, h2, h3⟩ := h
  go_enter Tryz.func65, Tryz.ntmps65
  go_wp2
  go_ret
  exact ⟨rfl, rfl⟩
theorem spec_l04Mix (a b q : Nat) (h : Mix a b q) (w : World) : Calls Tryz.prog 99 #[.float .f32 a, .float .f32 b, .float .f32 q] w fun e w' => e = .returned (.float .f32 (mixF a b q)) ∧ w' = w := by
  obtain ⟨h1, h2, h3⟩ := h
  go_enter Tryz.func99, Tryz.ntmps99
  go_wp2
  go_ret
  exact ⟨rfl, rfl⟩
structure Near (an : List Int) (g : Int) (k : Nat) : Prop where
  a : IntKind.i64.wrap ((k : Int) - 1) = (k : Int) - 1
  b : (0 : Int) ≤ (k : Int) - 1
  c : ((k : Int) - 1).toNat = k - 1
  e : IntKind.i64.wrap (g - zn an (k - 1)) = g - zn an (k - 1)
  f : IntKind.i64.wrap (zn an k - zn an (k - 1)) = zn an k - zn an (k - 1)
theorem near {an : List Int} {row : List Nat} {g : Int} {k : Nat} (F : Pf.Found an row g k) (h : zn an k ≠ g) : Near an g k := by
  have k0 := F.k0 h
  have := F.lt
  have := F.s
  have := F.g0
  have := F.r k F.lt
  have := F.r (k - 1) (by omega)
  exact ⟨by rw [IntKind.wrap_i64]; omega, by omega, by omega, by rw [IntKind.wrap_i64]; omega, by rw [IntKind.wrap_i64]; omega⟩
set_option maxRecDepth 100000 in
set_option maxHeartbeats 1000000 in
theorem spec_l04Row {w : World} {A B : Option Addr} {c cc : Nat} {an : List Int} {row : List Nat} {g : Int} (hA : IAt w A an) (hB : FAt w B row) (hF : Pf.Found an row g (kOf an g)) :
    Calls Tryz.prog 98 #[.slice A an.length c, .slice B row.length cc, .int .i64 g] w fun e w' => e = .returned (.float .f32 (rowF an row g)) ∧ ∃ m, w' = w.drewN m := by
  have HF := Lib.hid hF
  have hlt := hF.lt
  have hlr := hF.lr
  have hs := hF.s
  clear hF
  obtain ⟨b1, ob1, rfl, hL⟩ := hA.resolve_left (by omega)
  obtain ⟨b2, ob2, rfl, hM⟩ := hB.resolve_left (by omega)
  have HR := Lib.hid (show rowF an row g = if zn an (kOf an g) = g then fn row (kOf an g) else mixF (fn row (kOf an g - 1)) (fn row (kOf an g)) (shareA an g (kOf an g)) from rfl)
  generalize kOf an g = k at *
  generalize rowF an row g = R at *
  clear hA hB
  go_enter Tryz.func98, Tryz.ntmps98
  go_wp2_with fail
  go_loop [7] (fun q => ∃ j : Nat, j ≤ k ∧ q = .int .i64 (j : Int)) (fun q => k - (intOf q).toNat)
  case atStart => exact ⟨0, by omega, rfl⟩
  case round =>
    obtain ⟨j, hj, rfl⟩ := hrel
    have y1 := hL j (by omega)
    by_cases hl : j < k
    · have hlo := HF.out.lo j hl
      go_wp2_with fail
      go_round
      case rel => exact ⟨j + 1, by omega, by go_num⟩
      case measure => simp [intOf]; omega
    · obtain rfl : j = k := by omega
      have hhi := HF.out.hi
      have z1 := hM j (by omega)
      by_cases he : zn an j = g
      · have HE := Lib.hid he
        rw [he] at y1
        go_wp2_with fail
        go_ret
        exact ⟨by rw [HR.out, if_pos HE.out]; rfl, 0, rfl⟩
      · have HE := Lib.hid he
        obtain ⟨n1, n2, n3, n4, n5⟩ := near HF.out he
        have k0 := HF.out.k0 he
        obtain ⟨q1, q2⟩ := HF.out.q he
        have Q2 := Lib.hid q2
        have y2 := hL (j - 1) (by omega)
        have z2 := hM (j - 1) (by omega)
        have i1 : (j : Int) < (an.length : Int) := by omega
        have i2 : (j : Int) - 1 < (an.length : Int) := by omega
        have i3 : (j : Int) < (row.length : Int) := by omega
        have i4 : (j : Int) - 1 < (row.length : Int) := by omega
        clear q2 hL hM
        go_wp2_with fail
        go_quiet (fail)
        rename_i nq
        go_wp2_with fail
        have HE2 := Lib.hid (show ∀ k, ∃ m, (w.drewN nq).drewN k = w.drewN m from fun k => ⟨_, World.drewN_drewN ..⟩)
        have z1' : (w.drewN nq).cell? ⟨b2, ob2 + j, none⟩ = some (.float .f32 (fn row j)) := z1
        have z2' : (w.drewN nq).cell? ⟨b2, ob2 + (j - 1), none⟩ = some (.float .f32 (fn row (j - 1))) := z2
        clear y1 y2 z1 z2
        generalize w.drewN nq = W2 at *
        go_quiet (first | (go_at_call 99; refine Calls.quiet_of_same (spec_l04Mix _ _ _ Q2.out _)))
        go_wp2_with fail
        go_ret
        exact ⟨by rw [HR.out, if_neg HE.out]; rfl, HE2.out _⟩
theorem IAt.drewN {w : World} {A : Option Addr} {l : List Int} (h : IAt w A l) (n : Nat) : IAt (w.drewN n) A l := h.below (drewN_below (Below.refl _ _) n)
theorem FAt.drewN {w : World} {A : Option Addr} {l : List Nat} (h : FAt w A l) (n : Nat) : FAt (w.drewN n) A l := h.below (drewN_below (Below.refl _ _) n)
theorem row_quiet {w : World} {A B : Option Addr} {c cc : Nat} {an : List Int} {row : List Nat} {g : Int} (hA : IAt w A an) (hB : FAt w B row) (hF : Pf.Found an row g (kOf an g)) (n : Nat) :
    Calls Tryz.prog 98 #[.slice A an.length c, .slice B row.length cc, .int .i64 g] (w.drewN n) fun e w' => e = .returned (.float .f32 (rowF an row g)) ∧ ∃ m, w' = w.drewN m := by
  refine (spec_l04Row (hA.drewN n) (hB.drewN n) hF).mono ?_
  rintro e w' ⟨h, m, rfl⟩
  exact ⟨h, _, World.drewN_drewN ..⟩
set_option maxRecDepth 100000 in
set_option maxHeartbeats 1000000 in
theorem impl_rowAt {w : World} {A0 A1 A2 B : Option Addr} {c0 c1 c2 cc : Nat} {d : Pol} {row : List Nat} {g : Int} (hP : PolAt w A0 A1 A2 d) (hB : FAt w B row) (hF : Pf.Found d.an row g (kOf d.an g)) :
    Calls Tryz.prog 64 #[.agg #[.slice A0 d.ws.length c0, .slice A1 d.an.length c1, .slice A2 d.rows.length c2], .slice B row.length cc, .int .i64 g] w fun e w' => e = .returned (.float .f32 (rowF d.an row g)) ∧ Below w.heap.size w w' := by
  obtain ⟨W, hW, hX⟩ := boxed (c0 := c0) (c1 := c1) (c2 := c2) hP
  have HX := Lib.hid hX
  have hBW := hB.below hX.b
  have HF := Lib.hid hF
  have hlt := hF.lt
  have hlr := hF.lr
  have hs := hF.s
  obtain ⟨x0, x1, x2, _, hp, _⟩ := hX
  obtain ⟨b1, ob1, rfl, hL⟩ := hp.i.resolve_left (by omega)
  obtain ⟨b2, ob2, rfl, hM⟩ := hBW.resolve_left (by omega)
  clear hF hP hB hBW hp
  have HR := Lib.hid (show rowF d.an row g = if zn d.an (kOf d.an g) = g then fn row (kOf d.an g) else mixF (fn row (kOf d.an g - 1)) (fn row (kOf d.an g)) (shareA d.an g (kOf d.an g)) from rfl)
  generalize kOf d.an g = k at *
  generalize rowF d.an row g = R at *
  go_enter Tryz.func64, Tryz.ntmps64
  go_wp2_with fail
  rw [← hW]
  clear hW
  go_loop [13] (fun q => ∃ j : Nat, j ≤ k ∧ q = .int .i64 (j : Int)) (fun q => k - (intOf q).toNat)
  case atStart => exact ⟨0, by omega, rfl⟩
  case round =>
    obtain ⟨j, hj, rfl⟩ := hrel
    have y1 := hL j (by omega)
    by_cases hl : j < k
    · have hlo := HF.out.lo j hl
      go_wp2_with fail
      go_round
      case rel => exact ⟨j + 1, by omega, by go_num⟩
      case measure => simp [intOf]; omega
    · obtain rfl : j = k := by omega
      have hhi := HF.out.hi
      have z1 := hM j (by omega)
      by_cases he : zn d.an j = g
      · have HE := Lib.hid he
        rw [he] at y1
        go_wp2_with fail
        go_ret
        exact ⟨by rw [HR.out, if_pos HE.out]; rfl, HX.out.b⟩
      · have HE := Lib.hid he
        obtain ⟨n1, n2, n3, n4, n5⟩ := near HF.out he
        have k0 := HF.out.k0 he
        obtain ⟨q1, q2⟩ := HF.out.q he
        have Q2 := Lib.hid q2
        have y2 := hL (j - 1) (by omega)
        have z2 := hM (j - 1) (by omega)
        have i1 : (j : Int) < (d.an.length : Int) := by omega
        have i2 : (j : Int) - 1 < (d.an.length : Int) := by omega
        have i3 : (j : Int) < (row.length : Int) := by omega
        have i4 : (j : Int) - 1 < (row.length : Int) := by omega
        have i5 : g < zn d.an j := by omega
        clear q2 hL hM
        go_wp2_with fail
        go_quiet (first | (go_at_call 65; refine Calls.quiet_of_same (impl_between _ _ _ Q2.out _)))
        go_wp2_with fail
        go_ret
        exact ⟨by rw [HR.out, if_neg HE.out]; rfl, (HX.out.drewN _).b⟩
end Go.Proofs.YteaiaedhkhmgdaaGreat.Pw
