/- The speed that a polar tells: both sides. -/
import Derived.Test.YteaiaedhkhmgdaaGreatPolS
import Derived.Deep.RegionHeld3
import Derived.Deep.Cut
namespace Go.Proofs.YteaiaedhkhmgdaaGreat.Pw
open Go.RowKit Kit Fl Bd Tn Pf
/-- a valid polar in a box of its own, laid open -/
structure Fr (w : World) (b0 o0 b1 o1 b2 o2 : Nat) (B : Nat → Option Addr) (C : Nat → Nat) (c0 c1 c2 : Nat) (d : Pol) (v : World) : Prop where
  x0 : v.cell? ⟨w.heap.size, 0, none⟩ = some (.slice (some ⟨b0, o0, none⟩) d.ws.length c0)
  x1 : v.cell? ⟨w.heap.size, 1, none⟩ = some (.slice (some ⟨b1, o1, none⟩) d.an.length c1)
  x2 : v.cell? ⟨w.heap.size, 2, none⟩ = some (.slice (some ⟨b2, o2, none⟩) d.ws.length c2)
  f : ∀ j, j < d.ws.length → v.cell? ⟨b0, o0 + j, none⟩ = some (.float .f32 (fn d.ws j))
  i : IAt v (some ⟨b1, o1, none⟩) d.an
  r : ∀ j, j < d.ws.length → v.cell? ⟨b2, o2 + j, none⟩ = some (.slice (B j) (rn d.rows j).length (C j))
  q : ∀ j, j < d.ws.length → FAt v (B j) (rn d.rows j)
  b : Below w.heap.size w v
  p : PolAt v (some ⟨b0, o0, none⟩) (some ⟨b1, o1, none⟩) (some ⟨b2, o2, none⟩) d
theorem kc {w v : World} {p : Addr} {u : Value} (hb : Below w.heap.size w v) (h : w.cell? p = some u) : v.cell? p = some u := (hb.cell (World.block_lt_of_cell? w _ h)).trans h
theorem Fr.to {w v v1 : World} {b0 o0 b1 o1 b2 o2 : Nat} {B : Nat → Option Addr} {C : Nat → Nat} {c0 c1 c2 : Nat} {d : Pol} (h : Fr w b0 o0 b1 o1 b2 o2 B C c0 c1 c2 d v) (hb : Below v.heap.size v v1) : Fr w b0 o0 b1 o1 b2 o2 B C c0 c1 c2 d v1 :=
  ⟨kc hb h.x0, kc hb h.x1, kc hb h.x2, fun j hj => kc hb (h.f j hj), h.i.below hb, fun j hj => kc hb (h.r j hj), fun j hj => (h.q j hj).below hb, h.b.trans (hb.mono h.b.size), h.p.below hb⟩
theorem Fr.drewN {w v : World} {b0 o0 b1 o1 b2 o2 : Nat} {B : Nat → Option Addr} {C : Nat → Nat} {c0 c1 c2 : Nat} {d : Pol} (h : Fr w b0 o0 b1 o1 b2 o2 B C c0 c1 c2 d v) (n : Nat) : Fr w b0 o0 b1 o1 b2 o2 B C c0 c1 c2 d (v.drewN n) := h.to (drewN_below (Below.refl _ _) n)
theorem Fr.drew {w v : World} {b0 o0 b1 o1 b2 o2 : Nat} {B : Nat → Option Addr} {C : Nat → Nat} {c0 c1 c2 : Nat} {d : Pol} (h : Fr w b0 o0 b1 o1 b2 o2 B C c0 c1 c2 d v) : Fr w b0 o0 b1 o1 b2 o2 B C c0 c1 c2 d v.drew := h.to (Below.refl _ _).drew
theorem frame {w W : World} {A0 A1 A2 : Option Addr} {c0 c1 c2 : Nat} {d : Pol} (h : Boxed w W A0 A1 A2 c0 c1 c2 d) (ok : Okp d) : ∃ b0 o0 b1 o1 b2 o2 B C, A0 = some ⟨b0, o0, none⟩ ∧ A1 = some ⟨b1, o1, none⟩ ∧ A2 = some ⟨b2, o2, none⟩ ∧ Fr w b0 o0 b1 o1 b2 o2 B C c0 c1 c2 d W := by
  have h1 := ok.nw
  have h2 := ok.na
  have h3 := ok.nr
  obtain ⟨b0, o0, rfl, f⟩ := h.p.f.resolve_left (by omega)
  obtain ⟨b1, o1, rfl, i⟩ := h.p.i.resolve_left (by omega)
  obtain ⟨b2, o2, rfl, r⟩ := h.p.r.resolve_left (by omega)
  have r' : ∀ j, ∃ z : Option Addr × Nat, j < d.ws.length → W.cell? ⟨b2, o2 + j, none⟩ = some (.slice z.1 (rn d.rows j).length z.2) ∧ FAt W z.1 (rn d.rows j) := fun j => by
    by_cases hj : j < d.ws.length
    · obtain ⟨B, c, q1, q2⟩ := r j (by omega)
      exact ⟨(B, c), fun _ => ⟨q1, q2⟩⟩
    · exact ⟨(none, 0), fun h => absurd h hj⟩
  have hx2 := h.x2
  rw [h3] at hx2
  exact ⟨b0, o0, b1, o1, b2, o2, fun j => (r' j).choose.1, fun j => (r' j).choose.2, rfl, rfl, rfl, ⟨h.x0, h.x1, hx2, f, h.p.i, fun j hj => ((r' j).choose_spec hj).1, fun j hj => ((r' j).choose_spec hj).2, h.b, h.p⟩⟩
set_option maxRecDepth 100000 in
set_option maxHeartbeats 1000000 in
theorem impl_speedAt {w : World} {A0 A1 A2 : Option Addr} {c0 c1 c2 : Nat} {d : Pol} {x : Nat} {g : Int} (hP : PolAt w A0 A1 A2 d) (ok : Okp d) (hx : airB x = true) (g0 : 0 ≤ g) (g1 : g ≤ 180) :
    Calls Tryz.prog 34 #[.agg #[.slice A0 d.ws.length c0, .slice A1 d.an.length c1, .slice A2 d.rows.length c2], .float .f32 x, .int .i64 g] w fun e w' => e = .returned (.float .f32 (speedF d x g)) ∧ Below w.heap.size w w' := by
  obtain ⟨W, hW, hX⟩ := boxed (c0 := c0) (c1 := c1) (c2 := c2) hP
  obtain ⟨b0, o0, b1, o1, b2, o2, B, C, rfl, rfl, rfl, hF⟩ := frame hX ok
  have HX := Lib.hid hF
  have HO := Lib.hid ok
  have hn := ok.nw
  have h3 := ok.nr
  rw [h3] at hW ⊢
  have HROW := Lib.hid (fun j (hj : j < d.ws.length) => found ok g0 g1 (i := j) (by omega))
  have HR := Lib.hid (fun j (hj : j < d.ws.length) (v : World) (h : Fr w b0 o0 b1 o1 b2 o2 B C c0 c1 c2 d v) => by
    have := impl_rowAt (c0 := c0) (c1 := c1) (c2 := c2) (cc := C j) h.p (h.q j hj) (HROW.out j hj).1
    rw [h3] at this
    exact this)
  have y0 := hF.f 0 (by omega)
  rw [Nat.add_zero] at y0
  have y9 := hF.f (d.ws.length - 1) (by omega)
  have r0 := hF.r 0 (by omega)
  rw [Nat.add_zero] at r0
  have r9 := hF.r (d.ws.length - 1) (by omega)
  obtain ⟨x0, x1, x2, _, _, _, _, _, _⟩ := hF
  clear hX hP
  have l1 : IntKind.i64.wrap ((d.ws.length : Int) - 1) = (d.ws.length : Int) - 1 := by rw [IntKind.wrap_i64]; omega
  have l2 : (0 : Int) ≤ (d.ws.length : Int) - 1 := by omega
  have l3 : ((d.ws.length : Int) - 1).toNat = d.ws.length - 1 := by omega
  have l4 : (d.ws.length : Int) - 1 < (d.ws.length : Int) := by omega
  have l5 : (0 : Int) < (d.ws.length : Int) := by omega
  have l6 : 0 < d.ws.length := by omega
  cases hc : leB x (fn d.ws 0)
  · have hcc := hc
    unfold leB at hcc
    rw [Bool.or_eq_false_iff] at hcc
    obtain ⟨hcc1, hcc2⟩ := hcc
    cases hd : geB x (fn d.ws (d.ws.length - 1))
    · obtain ⟨M, _⟩ := mid ok hx hc hd g0 g1
      have HM := Lib.hid M
      have HS := Lib.hid (show speedF d x g = mixF (rowF d.an (rn d.rows (jOf d.ws x)) g) (rowF d.an (rn d.rows (jOf d.ws x + 1)) g) (shareW d.ws x (jOf d.ws x)) by unfold speedF; rw [if_neg (by rw [hc]; decide), if_neg (by rw [hd]; decide)])
      have hdd := hd
      unfold geB at hdd
      rw [Bool.or_eq_false_iff] at hdd
      obtain ⟨hdd1, hdd2⟩ := hdd
      have mlt := M.lt
      obtain ⟨s1, s2, s3, _⟩ := M.sh
      have HMX := Lib.hid M.mx
      clear M hc hd
      generalize speedF d x g = R at *
      generalize jOf d.ws x = j at *
      have u1 := HX.out.f j (by omega)
      have u2 := HX.out.f (j + 1) (by omega)
      go_enter Tryz.func34, Tryz.ntmps34
      go_upto_region 1 with fail
      rw [← hW]
      clear hW
      go_wp2_with fail
      go_loop [8] (fun q => ∃ i : Nat, i ≤ j ∧ q = .int .i64 (i : Int)) (fun q => j - (intOf q).toNat)
      case atStart => exact ⟨0, by omega, rfl⟩
      case round =>
        obtain ⟨i, hi, rfl⟩ := hrel
        have u3 := HX.out.f (i + 1) (by omega)
        by_cases hl : i < j
        · have e1 := HM.out.lo i hl
          unfold leB at e1
          go_wp2_with fail
          go_round
          case rel => exact ⟨i + 1, by omega, by go_num⟩
          case measure => simp [intOf]; omega
        · obtain rfl : i = j := by omega
          have e1 := HM.out.hi
          unfold leB at e1
          rw [Bool.or_eq_false_iff] at e1
          obtain ⟨e1, e2⟩ := e1
          have i1 : IntKind.i64.wrap ((i : Int) + 1) = (i : Int) + 1 := by rw [IntKind.wrap_i64]; omega
          have i2 : (0 : Int) ≤ (i : Int) + 1 := by omega
          have i3 : ((i : Int) + 1).toNat = i + 1 := by omega
          have i4 : (i : Int) + 1 < (d.ws.length : Int) := by omega
          have i5 : (i : Int) < (d.ws.length : Int) := by omega
          go_wp2_with fail
          go_quiet (fail)
          rename_i nq
          go_wp2_with fail
          have HY := Lib.hid (HX.out.drewN nq)
          clear u1 u2 u3 x0 x1 x2 y0 y9 r0 r9 HX
          generalize W.drewN nq = W2 at *
          have r1 := HY.out.r i (by omega)
          have r2 := HY.out.r (i + 1) (by omega)
          obtain ⟨x0, x1, x2, _, _, _, _, _, _⟩ := HY.out
          go_region_held3 (fun v => v.cell? ⟨w.heap.size, 0, none⟩ = some (.slice (some ⟨b0, o0, none⟩) d.ws.length c0) ∧ v.cell? ⟨w.heap.size, 1, none⟩ = some (.slice (some ⟨b1, o1, none⟩) d.an.length c1) ∧ v.cell? ⟨w.heap.size, 2, none⟩ = some (.slice (some ⟨b2, o2, none⟩) d.ws.length c2) ∧ v.cell? ⟨b2, o2 + i, none⟩ = some (.slice (B i) (rn d.rows i).length (C i)) ∧ v.cell? ⟨b2, o2 + (i + 1), none⟩ = some (.slice (B (i + 1)) (rn d.rows (i + 1)).length (C (i + 1))) ∧ Fr w b0 o0 b1 o1 b2 o2 B C c0 c1 c2 d v)
            (first | exact ⟨x0, x1, x2, r1, r2, HY.out⟩ | exact ⟨x0, x1, x2, r1, r2, HY.out.drew⟩ | assumption | (go_split_ands; exact ⟨kc hb (by assumption), kc hb (by assumption), kc hb (by assumption), kc hb (by assumption), kc hb (by assumption), Fr.to (by assumption) hb⟩))
            (first | (go_at_call 64; refine (HR.out _ (by omega) _ (by first | exact HY.out | exact HY.out.drew | (go_split_ands; assumption))).mono ?_; rintro e w1 ⟨rfl, hb⟩) | (go_at_call 65; refine (impl_between _ _ _ HMX.out _).mono ?_; rintro e w1 ⟨rfl, rfl⟩))
          all_goals (rename_i hH; have HZ := Lib.hid hH.2.2.2.2.2; clear hH)
          all_goals go_wp2_with fail
          all_goals go_ret
          all_goals exact ⟨by rw [HS.out]; rfl, HZ.out.b⟩
    · have HS := Lib.hid (show speedF d x g = rowF d.an (rn d.rows (d.ws.length - 1)) g by unfold speedF; rw [if_neg (by rw [hc]; decide), if_pos hd])
      unfold geB at hd
      unfold leB at hc
      clear r0
      generalize speedF d x g = R at *
      go_enter Tryz.func34, Tryz.ntmps34
      go_upto_region 1 with fail
      rw [← hW]
      clear hW
      go_wp2_with fail
      obtain ⟨m, hmm⟩ : ∃ m, d.ws.length - 1 = m := ⟨_, rfl⟩
      have hmI : (d.ws.length : Int) - 1 = (m : Int) := by omega
      have m1 : (0 : Int) ≤ (m : Int) := by omega
      have m2 : (m : Int) < (d.ws.length : Int) := by omega
      have hml : m < d.ws.length := by omega
      rw [hmm] at r9 HS
      rw [hmI]
      clear l1 l2 l3 l4 y9 hd hmI
      go_region_held3 (fun v => v.cell? ⟨w.heap.size, 0, none⟩ = some (.slice (some ⟨b0, o0, none⟩) d.ws.length c0) ∧ v.cell? ⟨w.heap.size, 1, none⟩ = some (.slice (some ⟨b1, o1, none⟩) d.an.length c1) ∧ v.cell? ⟨w.heap.size, 2, none⟩ = some (.slice (some ⟨b2, o2, none⟩) d.ws.length c2) ∧ v.cell? ⟨b2, o2 + m, none⟩ = some (.slice (B m) (rn d.rows m).length (C m)) ∧ Fr w b0 o0 b1 o1 b2 o2 B C c0 c1 c2 d v)
        (first | exact ⟨x0, x1, x2, r9, HX.out⟩ | exact ⟨x0, x1, x2, r9, HX.out.drew⟩ | (go_split_ands; exact ⟨kc hb (by assumption), kc hb (by assumption), kc hb (by assumption), kc hb (by assumption), Fr.to (by assumption) hb⟩))
        (first | (go_at_call 64; refine (HR.out m hml _ (by first | assumption | exact HX.out | exact HX.out.drew)).mono ?_; rintro e w1 ⟨rfl, hb⟩))
      all_goals (rename_i hH; have HZ := Lib.hid hH.2.2.2.2; clear hH)
      all_goals go_wp2_with fail
      all_goals go_ret
      all_goals exact ⟨by rw [HS.out]; rfl, HZ.out.b⟩
  · obtain ⟨q1, q2, _⟩ := low ok hx hc g0 g1
    have HS := Lib.hid (show speedF d x g = fl .mul .f32 (fl .quo .f32 x (fn d.ws 0)) (rowF d.an (rn d.rows 0) g) by unfold speedF; rw [if_pos hc])
    unfold leB at hc
    clear y9 r9
    generalize speedF d x g = R at *
    go_enter Tryz.func34, Tryz.ntmps34
    go_upto_region 1 with fail
    rw [← hW]
    clear hW
    go_wp2_with fail
    go_region_held3 (fun v => v.cell? ⟨w.heap.size, 0, none⟩ = some (.slice (some ⟨b0, o0, none⟩) d.ws.length c0) ∧ v.cell? ⟨w.heap.size, 1, none⟩ = some (.slice (some ⟨b1, o1, none⟩) d.an.length c1) ∧ v.cell? ⟨w.heap.size, 2, none⟩ = some (.slice (some ⟨b2, o2, none⟩) d.ws.length c2) ∧ v.cell? ⟨b0, o0, none⟩ = some (.float .f32 (fn d.ws 0)) ∧ v.cell? ⟨b2, o2, none⟩ = some (.slice (B 0) (rn d.rows 0).length (C 0)) ∧ Fr w b0 o0 b1 o1 b2 o2 B C c0 c1 c2 d v)
      (first | exact ⟨x0, x1, x2, y0, r0, HX.out⟩ | exact ⟨x0, x1, x2, y0, r0, HX.out.drew⟩ | (go_split_ands; exact ⟨kc hb (by assumption), kc hb (by assumption), kc hb (by assumption), kc hb (by assumption), kc hb (by assumption), Fr.to (by assumption) hb⟩))
      (first | (go_at_call 64; refine (HR.out 0 (by omega) _ (by first | assumption | exact HX.out | exact HX.out.drew)).mono ?_; rintro e w1 ⟨rfl, hb⟩))
    all_goals (rename_i hH; have HZ := Lib.hid hH.2.2.2.2.2; clear hH)
    all_goals go_wp2_with fail
    all_goals go_ret
    all_goals exact ⟨by rw [HS.out]; rfl, HZ.out.b⟩
/-! ### with the tests ahead -/
noncomputable def okS (d : Pol) (x : Nat) (g : Int) : Bool := okB d && (airB x && (decide (0 ≤ g) && decide (g ≤ 180)))
noncomputable def told (d : Pol) (x : Nat) (g : Int) : Array Value := if okS d x g = true then #[.float .f32 (speedF d x g), .bool true] else #[.float .f32 0, .bool false]
theorem told_no {d : Pol} {x : Nat} {g : Int} (h : okS d x g = false) : told d x g = #[.float .f32 0, .bool false] := by unfold told; rw [h]; rfl
theorem told_yes {d : Pol} {x : Nat} {g : Int} (h : okS d x g = true) : told d x g = #[.float .f32 (speedF d x g), .bool true] := by unfold told; rw [if_pos h]
theorem Boxed.of {w W : World} {A0 A1 A2 : Option Addr} {c0 c1 c2 : Nat} {d : Pol} (h : Boxed w W A0 A1 A2 c0 c1 c2 d) : W.cell? ⟨w.heap.size, 0, none⟩ = some (.slice A0 d.ws.length c0) ∧ W.cell? ⟨w.heap.size, 1, none⟩ = some (.slice A1 d.an.length c1) ∧ W.cell? ⟨w.heap.size, 2, none⟩ = some (.slice A2 d.rows.length c2) := ⟨h.x0, h.x1, h.x2⟩
set_option maxRecDepth 100000 in
set_option maxHeartbeats 1000000 in
theorem impl_SpeedAt {w : World} {A0 A1 A2 : Option Addr} {c0 c1 c2 : Nat} {d : Pol} (x : Nat) (g : Int) (hP : PolAt w A0 A1 A2 d) :
    Calls Tryz.prog 11 #[.agg #[.slice A0 d.ws.length c0, .slice A1 d.an.length c1, .slice A2 d.rows.length c2], .float .f32 x, .int .i64 g] w fun e w' => e = .returned (.tuple (told d x g)) ∧ Below w.heap.size w w' := by
  obtain ⟨W, hW, hX⟩ := boxed (c0 := c0) (c1 := c1) (c2 := c2) hP
  have HX := Lib.hid hX
  clear hP hX
  go_enter Tryz.func11, Tryz.ntmps11
  go_upto_region 1 with fail
  rw [← hW]
  clear hW
  obtain ⟨x0, x1, x2⟩ := HX.out.of
  go_wp2_with fail
  refine (impl_PolarOk HX.out.p).mono ?_
  rintro e w1 ⟨rfl, hb⟩
  have HY := Lib.hid (HX.out.to hb)
  clear hb HX x0 x1 x2
  obtain ⟨x0, x1, x2⟩ := HY.out.of
  cases h1 : okB d
  · have HN := Lib.hid (told_no (d := d) (x := x) (g := g) (by unfold okS; rw [h1]; rfl))
    clear h1
    go_wp2_with fail
    go_ret2
    exact ⟨by rw [HN.out]; rfl, HY.out.b⟩
  cases h2 : airB x
  · have HN := Lib.hid (told_no (d := d) (x := x) (g := g) (by unfold okS; rw [h1, h2]; rfl))
    clear h1
    unfold airB at h2
    cases e1 : geB x 0
    · unfold geB at e1
      go_wp2_with fail
      go_ret2
      exact ⟨by rw [HN.out]; rfl, HY.out.b⟩
    · rw [e1, Bool.true_and] at h2
      unfold geB at e1
      unfold leB at h2
      go_wp2_with fail
      go_ret2
      exact ⟨by rw [HN.out]; rfl, HY.out.b⟩
  cases h3 : (decide ((0 : Int) ≤ g) && decide (g ≤ 180))
  · have HN := Lib.hid (told_no (d := d) (x := x) (g := g) (by unfold okS; rw [h1, h2, h3]; rfl))
    have H3 := Lib.hid h3
    clear h1 h3
    unfold airB at h2
    rw [Bool.and_eq_true] at h2
    obtain ⟨e1, e2⟩ := h2
    unfold geB at e1
    unfold leB at e2
    go_wp2_with (go_at_call 33; refine (impl_within _ _ _ _).mono ?_; rintro e w' ⟨rfl, rfl⟩; rw [H3.out])
    go_ret2
    exact ⟨by rw [HN.out]; rfl, HY.out.b⟩
  · have HN := Lib.hid (told_yes (d := d) (x := x) (g := g) (by unfold okS; rw [h1, h2, h3]; rfl))
    have H3 := Lib.hid h3
    have HA := Lib.hid h2
    have HO := Lib.hid (okB_iff.1 h1)
    have HG := Lib.hid (show 0 ≤ g ∧ g ≤ 180 by simpa using h3)
    clear h1 h3
    unfold airB at h2
    rw [Bool.and_eq_true] at h2
    obtain ⟨e1, e2⟩ := h2
    unfold geB at e1
    unfold leB at e2
    go_wp2_with (go_at_call 33; refine (impl_within _ _ _ _).mono ?_; rintro e w' ⟨rfl, rfl⟩; rw [H3.out])
    refine (impl_speedAt HY.out.p HO.out HA.out HG.out.1 HG.out.2).mono ?_
    rintro e w2 ⟨rfl, hb⟩
    have HZ := Lib.hid (HY.out.to hb)
    clear hb
    go_wp2_with fail
    go_ret2
    exact ⟨by rw [HN.out]; rfl, HZ.out.b⟩
end Go.Proofs.YteaiaedhkhmgdaaGreat.Pw
