/- Which tides are valid (the program's side); the nearest high water. -/
import Derived.Test.YtjohpjmfnghkoaaTda
import Derived.Test.YtjohpjmfnghkoaaFlowAt
import Derived.Test.YtjohpjmfnghkoaaVec
import Derived.BigQuiet
namespace Go.Proofs.Ytjohpjmfnghkoaa.Ty
open Go.RowKit Kit Fl Bd Dw Td Fa Ai Ve Hnd Go.Proofs.YtjohpjmfnghkoaaW.PrintWords Go.Proofs.YtjohpjmfnghkoaaW.PrintLast Go.Proofs.YtjohpjmfnghkoaaW.PrintMore PFnHighNearest
def s0 : Stn := ⟨0, 0, fun _ => (0, 0)⟩
def stA (l : List Stn) (j : Nat) : Stn := l.getD j s0
def zn (l : List Int) (j : Nat) : Int := l.getD j 0
structure TidAt (w : World) (A1 : Option Addr) (sts : List Stn) (A2 : Option Addr) (hs : List Int) : Prop where
  s : sts.length = 0 ∨ ∃ b, A1 = some ⟨b, 0, none⟩ ∧ ∀ j, j < sts.length → w.cell? ⟨b, j * 14, none⟩ = some (.complex .f64 (stA sts j).x (stA sts j).y) ∧ ∀ i, i < 13 → w.cell? ⟨b, j * 14 + 1 + i, none⟩ = some (.complex .f32 ((stA sts j).fs i).1 ((stA sts j).fs i).2)
  h : hs.length = 0 ∨ ∃ b o, A2 = some ⟨b, o, none⟩ ∧ ∀ j, j < hs.length → w.cell? ⟨b, o + j, none⟩ = some (.int .i64 (zn hs j))
theorem kc {w v : World} {p : Addr} {u : Value} (hb : Below w.heap.size w v) (h : w.cell? p = some u) : v.cell? p = some u := (hb.cell (World.block_lt_of_cell? w _ h)).trans h
theorem TidAt.below {w w1 : World} {A1 A2 : Option Addr} {sts : List Stn} {hs : List Int} (h : TidAt w A1 sts A2 hs) (hb : Below w.heap.size w w1) : TidAt w1 A1 sts A2 hs := by
  refine ⟨?_, ?_⟩
  · rcases h.s with h | ⟨b, e, h⟩
    · exact .inl h
    · exact .inr ⟨b, e, fun j hj => ⟨kc hb (h j hj).1, fun i hi => kc hb ((h j hj).2 i hi)⟩⟩
  · rcases h.h with h | ⟨b, o, e, h⟩
    · exact .inl h
    · exact .inr ⟨b, o, e, fun j hj => kc hb (h j hj)⟩
theorem pickl {α : Type} (d0 : α) {P : Nat → α → Prop} : ∀ n, (∀ j, j < n → ∃ x, P j x) → ∃ l : List α, l.length = n ∧ ∀ j, j < n → P j (l.getD j d0) := by
  intro n
  induction n with
  | zero => exact fun _ => ⟨[], rfl, fun j hj => by omega⟩
  | succ n ih =>
    intro h
    obtain ⟨l, e, hl⟩ := ih (fun j hj => h j (by omega))
    obtain ⟨x, hx⟩ := h n (by omega)
    refine ⟨l ++ [x], by simp [e], fun j hj => ?_⟩
    by_cases e1 : j = n
    · subst e1
      have : (l ++ [x]).getD j d0 = x := by simp [List.getD_eq_getElem?_getD, ← e]
      rw [this]; exact hx
    · have : (l ++ [x]).getD j d0 = l.getD j d0 := by
        rw [List.getD_eq_getElem?_getD, List.getD_eq_getElem?_getD, List.getElem?_append_left (by omega)]
      rw [this]; exact hl j (by omega)
theorem Shp.tid {w : World} {base : Nat} {A1 A2 : Option Addr} {n1 n2 : Nat} (h : Shp w base A1 n1 A2 n2) : ∃ (sts : List Stn) (hs : List Int), sts.length = n1 ∧ hs.length = n2 ∧ TidAt w A1 sts A2 hs := by
  have q1 : ∃ sts : List Stn, sts.length = n1 ∧ (sts.length = 0 ∨ ∃ b, A1 = some ⟨b, 0, none⟩ ∧ ∀ j, j < sts.length → w.cell? ⟨b, j * 14, none⟩ = some (.complex .f64 (stA sts j).x (stA sts j).y) ∧ ∀ i, i < 13 → w.cell? ⟨b, j * 14 + 1 + i, none⟩ = some (.complex .f32 ((stA sts j).fs i).1 ((stA sts j).fs i).2)) := by
    rcases h.s with h | ⟨b, cells, e, _, hb, h⟩
    · exact ⟨[], h.symm, .inl rfl⟩
    · obtain ⟨l, e1, hl⟩ := pickl (P := fun j (s : Stn) => w.cell? ⟨b, j * 14, none⟩ = some (.complex .f64 s.x s.y) ∧ ∀ i, i < 13 → w.cell? ⟨b, j * 14 + 1 + i, none⟩ = some (.complex .f32 (s.fs i).1 (s.fs i).2)) s0 n1 (fun j hj => by
        obtain ⟨⟨x, y, g1⟩, g2⟩ := h j hj
        rw [Nat.mul_comm] at g1 g2
        obtain ⟨lf, ef, hf⟩ := pickl (P := fun i (z : Nat × Nat) => cells[j * 14 + 1 + i]? = some (.complex .f32 z.1 z.2)) (0, 0) 13 (fun i hi => by
          obtain ⟨a, b', g3⟩ := g2 i hi
          exact ⟨(a, b'), g3⟩)
        exact ⟨⟨x, y, fun i => lf.getD i (0, 0)⟩, (blk_cell hb _).trans g1, fun i hi => (blk_cell hb _).trans (hf i hi)⟩)
      exact ⟨l, e1, .inr ⟨b, e, fun j hj => hl j (by omega)⟩⟩
  have q2 : ∃ hs : List Int, hs.length = n2 ∧ (hs.length = 0 ∨ ∃ b o, A2 = some ⟨b, o, none⟩ ∧ ∀ j, j < hs.length → w.cell? ⟨b, o + j, none⟩ = some (.int .i64 (zn hs j))) := by
    rcases h.h with h | ⟨b, o, cells, e, _, hb, h⟩
    · exact ⟨[], h.symm, .inl rfl⟩
    · obtain ⟨l, e1, hl⟩ := pickl (0 : Int) n2 h
      exact ⟨l, e1, .inr ⟨b, o, e, fun j hj => (blk_cell hb (o + j)).trans (hl j (by omega))⟩⟩
  obtain ⟨sts, e1, h1⟩ := q1
  obtain ⟨hs, e2, h2⟩ := q2
  exact ⟨sts, hs, e1, e2, h1, h2⟩
def stOk (s : Stn) : Bool := (vOk s.x && vOk s.y) && allV s.fs 13
def allS (l : List Stn) : Nat → Bool
  | 0 => true
  | n + 1 => allS l n && stOk (stA l n)
def hOk (l : List Int) (j : Nat) : Bool := (decide (0 ≤ zn l j) && decide (zn l j ≤ 10000000)) && !(decide (0 < j) && decide (zn l j < zn l (j - 1) + 21600))
def allH (l : List Int) : Nat → Bool
  | 0 => true
  | n + 1 => allH l n && hOk l n
theorem allS_zero (l : List Stn) : allS l 0 = true := rfl
theorem allS_succ (l : List Stn) (n : Nat) : allS l (n + 1) = (allS l n && stOk (stA l n)) := rfl
theorem allH_zero (l : List Int) : allH l 0 = true := rfl
theorem allH_succ (l : List Int) (n : Nat) : allH l (n + 1) = (allH l n && hOk l n) := rfl
theorem allS_not {l : List Stn} : ∀ {n j : Nat}, j < n → stOk (stA l j) = false → allS l n = false := by
  intro n
  induction n with
  | zero => intro j h; omega
  | succ n ih =>
    intro j h hj
    rw [allS_succ]
    by_cases e : j = n
    · subst e; rw [hj, Bool.and_false]
    · rw [ih (by omega) hj]; rfl
theorem allH_not {l : List Int} : ∀ {n j : Nat}, j < n → hOk l j = false → allH l n = false := by
  intro n
  induction n with
  | zero => intro j h; omega
  | succ n ih =>
    intro j h hj
    rw [allH_succ]
    by_cases e : j = n
    · subst e; rw [hj, Bool.and_false]
    · rw [ih (by omega) hj]; rfl
theorem allH_at {l : List Int} : ∀ {n : Nat}, allH l n = true → ∀ j, j < n → hOk l j = true := by
  intro n
  induction n with
  | zero => intro _ j h; omega
  | succ n ih =>
    intro h j hj
    rw [allH_succ, Bool.and_eq_true] at h
    by_cases e : j = n
    · subst e; exact h.2
    · exact ih h.1 j (by omega)
attribute [irreducible] allS allH
def lenB (n a b : Int) : Bool := decide (a ≤ n) && decide (n ≤ b)
def tideB (sts : List Stn) (hs : List Int) : Bool := lenB sts.length 1 20 && (lenB hs.length 1 60 && (allS sts sts.length && allH hs hs.length))
theorem impl_timeOk (t : Int) (w : World) : Calls Try.prog 45 #[.int .i64 t] w fun e w' => e = .returned (.bool (lenB t 0 10000000)) ∧ w = w' := by
  go_enter Try.func45, Try.ntmps45
  go_wp2_with fail
  refine (Ve.impl_within _ _ _ _).mono ?_
  rintro e w' ⟨rfl, rfl⟩
  go_wp2_with fail
  go_ret
  exact ⟨rfl, rfl⟩
/-- a tide in a box of its own -/
structure Bx (w W : World) (A1 A2 : Option Addr) (c1 c2 : Nat) (sts : List Stn) (hs : List Int) : Prop where
  x0 : W.cell? ⟨w.heap.size, 0, none⟩ = some (.slice A1 sts.length c1)
  x1 : W.cell? ⟨w.heap.size, 1, none⟩ = some (.slice A2 hs.length c2)
  b : Below w.heap.size w W
  p : TidAt W A1 sts A2 hs
theorem Bx.to {w W W1 : World} {A1 A2 : Option Addr} {c1 c2 : Nat} {sts : List Stn} {hs : List Int} (h : Bx w W A1 A2 c1 c2 sts hs) (hb : Below W.heap.size W W1) : Bx w W1 A1 A2 c1 c2 sts hs := ⟨kc hb h.x0, kc hb h.x1, h.b.trans (hb.mono h.b.size), h.p.below hb⟩
theorem bx {w : World} {A1 A2 : Option Addr} {c1 c2 : Nat} {sts : List Stn} {hs : List Int} (h : TidAt w A1 sts A2 hs) : ∃ W, W = w.alloc (.cells #[.slice A1 sts.length c1, .slice A2 hs.length c2] 41) ∧ Bx w W A1 A2 c1 c2 sts hs :=
  ⟨_, rfl, by simp, by simp, (Below.refl w.heap.size w).alloc (Nat.le_refl _) _, h.below ((Below.refl w.heap.size w).alloc (Nat.le_refl _) _)⟩
set_option maxRecDepth 100000 in
set_option maxHeartbeats 2000000 in
theorem impl_TideOk {w : World} {A1 A2 : Option Addr} {c1 c2 : Nat} {sts : List Stn} {hs : List Int} (hP : TidAt w A1 sts A2 hs) :
    Calls Try.prog 18 #[.agg #[.slice A1 sts.length c1, .slice A2 hs.length c2]] w fun e w' => e = .returned (.bool (tideB sts hs)) ∧ Below w.heap.size w w' := by
  obtain ⟨W, hW, hX⟩ := bx (c1 := c1) (c2 := c2) hP
  have HY := Lib.hid hX
  clear hP hX
  obtain ⟨b1, hb1⟩ : ∃ b, lenB sts.length 1 20 = b := ⟨_, rfl⟩
  obtain ⟨b2, hb2⟩ : ∃ b, lenB hs.length 1 60 = b := ⟨_, rfl⟩
  have E1 := Lib.hid hb1
  have E2 := Lib.hid hb2
  have E3 := Lib.hid (show (decide ((1 : Int) ≤ (sts.length : Int)) && decide ((sts.length : Int) ≤ 20)) = b1 from hb1)
  have E4 := Lib.hid (show (decide ((1 : Int) ≤ (hs.length : Int)) && decide ((hs.length : Int) ≤ 60)) = b2 from hb2)
  have HT := Lib.hid (show tideB sts hs = (b1 && (b2 && (allS sts sts.length && allH hs hs.length))) by unfold tideB; rw [hb1, hb2])
  clear hb1 hb2
  go_enter Try.func18, Try.ntmps18
  go_upto_region 1 with fail
  rw [← hW]
  clear hW
  have x0 := HY.out.x0
  have x1 := HY.out.x1
  cases b1
  · go_wp2_with (go_at_call 47; refine (Ve.impl_within _ _ _ _).mono ?_; rintro e w' ⟨rfl, rfl⟩; first | rw [E3.out] | rw [E4.out])
    go_ret
    exact ⟨by rw [HT.out]; rfl, HY.out.b⟩
  · cases b2
    · go_wp2_with (go_at_call 47; refine (Ve.impl_within _ _ _ _).mono ?_; rintro e w' ⟨rfl, rfl⟩; first | rw [E3.out] | rw [E4.out])
      go_ret
      exact ⟨by rw [HT.out]; rfl, HY.out.b⟩
    · have hl1 : (1 : Int) ≤ (sts.length : Int) ∧ (sts.length : Int) ≤ 20 := by
        have := E3.out
        simp only [Bool.and_eq_true, decide_eq_true_eq] at this
        exact this
      have hl2 : (1 : Int) ≤ (hs.length : Int) ∧ (hs.length : Int) ≤ 60 := by
        have := E4.out
        simp only [Bool.and_eq_true, decide_eq_true_eq] at this
        exact this
      obtain ⟨bs, rfl, hS⟩ := HY.out.p.s.resolve_left (by omega)
      obtain ⟨bh, oh, rfl, hH⟩ := HY.out.p.h.resolve_left (by omega)
      have HS := Lib.hid hS
      have HH := Lib.hid hH
      clear hS hH
      go_wp2_with (go_at_call 47; refine (Ve.impl_within _ _ _ _).mono ?_; rintro e w' ⟨rfl, rfl⟩; first | rw [E3.out] | rw [E4.out])
      have H0 := Lib.hid (show ∃ j : Nat, j ≤ sts.length ∧ Value.int .i64 0 = .int .i64 (j : Int) ∧ allS sts j = true ∧ Bx w W (some ⟨bs, 0, none⟩) (some ⟨bh, oh, none⟩) c1 c2 sts hs from ⟨0, by omega, rfl, allS_zero sts, HY.out⟩)
      clear HS HH HY x0 x1
      go_loopw [22] (fun k wr => ∃ j : Nat, j ≤ sts.length ∧ k = .int .i64 (j : Int) ∧ allS sts j = true ∧ Bx w wr (some ⟨bs, 0, none⟩) (some ⟨bh, oh, none⟩) c1 c2 sts hs) (fun k _ => sts.length - (intOf k).toNat)
      case atStart => exact H0.out
      case round =>
        clear H0
        obtain ⟨j, hj, rfl, ha, hB⟩ := hrel
        have HA := Lib.hid ha
        have HB := Lib.hid hB
        clear ha hB
        have x0 := HB.out.x0
        have x1 := HB.out.x1
        by_cases hl : j < sts.length
        · obtain ⟨bs', e1, hS⟩ := HB.out.p.s.resolve_left (by omega)
          cases e1
          obtain ⟨s0, s1⟩ := hS j hl
          have EJ := Lib.hid (show stOk (stA sts j) = stOk (stA sts j) from rfl)
          obtain ⟨S, hSt⟩ : ∃ S, stA sts j = S := ⟨_, rfl⟩
          rw [hSt] at s0 s1
          have HSt := Lib.hid hSt
          clear hS EJ hSt
          obtain ⟨x, y, fs⟩ := S
          have y0 : wr.cell? ⟨bs, j * 14, none⟩ = some (.complex .f64 x y) := s0
          have y1 : wr.cell? ⟨bs, j * 14 + 1, none⟩ = some (.complex .f32 (fs 0).1 (fs 0).2) := s1 0 (by omega)
          have y2 : wr.cell? ⟨bs, j * 14 + 2, none⟩ = some (.complex .f32 (fs 1).1 (fs 1).2) := s1 1 (by omega)
          have y3 : wr.cell? ⟨bs, j * 14 + 3, none⟩ = some (.complex .f32 (fs 2).1 (fs 2).2) := s1 2 (by omega)
          have y4 : wr.cell? ⟨bs, j * 14 + 4, none⟩ = some (.complex .f32 (fs 3).1 (fs 3).2) := s1 3 (by omega)
          have y5 : wr.cell? ⟨bs, j * 14 + 5, none⟩ = some (.complex .f32 (fs 4).1 (fs 4).2) := s1 4 (by omega)
          have y6 : wr.cell? ⟨bs, j * 14 + 6, none⟩ = some (.complex .f32 (fs 5).1 (fs 5).2) := s1 5 (by omega)
          have y7 : wr.cell? ⟨bs, j * 14 + 7, none⟩ = some (.complex .f32 (fs 6).1 (fs 6).2) := s1 6 (by omega)
          have y8 : wr.cell? ⟨bs, j * 14 + 8, none⟩ = some (.complex .f32 (fs 7).1 (fs 7).2) := s1 7 (by omega)
          have y9 : wr.cell? ⟨bs, j * 14 + 9, none⟩ = some (.complex .f32 (fs 8).1 (fs 8).2) := s1 8 (by omega)
          have y10 : wr.cell? ⟨bs, j * 14 + 10, none⟩ = some (.complex .f32 (fs 9).1 (fs 9).2) := s1 9 (by omega)
          have y11 : wr.cell? ⟨bs, j * 14 + 11, none⟩ = some (.complex .f32 (fs 10).1 (fs 10).2) := s1 10 (by omega)
          have y12 : wr.cell? ⟨bs, j * 14 + 12, none⟩ = some (.complex .f32 (fs 11).1 (fs 11).2) := s1 11 (by omega)
          have y13 : wr.cell? ⟨bs, j * 14 + 13, none⟩ = some (.complex .f32 (fs 12).1 (fs 12).2) := s1 12 (by omega)
          have HC := Lib.hid (fun i (hi : i < 13) => (blk_cell (blk_new wr (.cells (stn x y fs) 32)) (1 + i)).trans (stn_at x y fs i hi))
          have HD := Lib.hid (HB.out.to ((Below.refl wr.heap.size wr).alloc (Nat.le_refl _) (.cells (stn x y fs) 32)))
          unfold stn at HC HD
          clear s0 s1
          obtain ⟨v1, hv1⟩ : ∃ v, (vOk x && vOk y) = v := ⟨_, rfl⟩
          obtain ⟨v2, hv2⟩ : ∃ v, allV fs 13 = v := ⟨_, rfl⟩
          have HO := Lib.hid (show stOk (stA sts j) = (v1 && v2) by rw [HSt.out]; unfold stOk; rw [hv1, hv2])
          have V1 := Lib.hid hv1
          have V2 := Lib.hid hv2
          clear hv1 hv2
          cases v1
          · go_wp2_with (first | (go_at_call 48; refine (Ve.impl_VectorOk _ _ _).mono ?_; rintro e w' ⟨rfl, rfl⟩; rw [V1.out]))
            go_ret
            exact ⟨by rw [HT.out, allS_not hl (HO.out.trans rfl)]; rfl, HD.out.b⟩
          · cases v2
            · go_wp2_with (first | (go_at_call 48; refine (Ve.impl_VectorOk _ _ _).mono ?_; rintro e w' ⟨rfl, rfl⟩; rw [V1.out]) | (go_at_call 36; refine (impl_velocitiesOk (fs := fs) HC.out).mono ?_; rintro e w' ⟨rfl, rfl⟩; rw [V2.out]))
              go_ret
              exact ⟨by rw [HT.out, allS_not hl (HO.out.trans rfl)]; rfl, HD.out.b⟩
            · go_wp2_with (first | (go_at_call 48; refine (Ve.impl_VectorOk _ _ _).mono ?_; rintro e w' ⟨rfl, rfl⟩; rw [V1.out]) | (go_at_call 36; refine (impl_velocitiesOk (fs := fs) HC.out).mono ?_; rintro e w' ⟨rfl, rfl⟩; rw [V2.out]))
              go_roundw
              case rel => exact ⟨j + 1, by omega, by go_num, by rw [allS_succ, HA.out, HO.out]; rfl, HD.out⟩
              case measure => simp [intOf]; omega
        · obtain rfl : j = sts.length := by omega
          have HT2 := Lib.hid (show tideB sts hs = allH hs hs.length by rw [HT.out, HA.out]; rfl)
          go_wp2_with fail
          have H1 := Lib.hid (show ∃ i : Nat, i ≤ hs.length ∧ Value.int .i64 0 = .int .i64 (i : Int) ∧ allH hs i = true from ⟨0, by omega, rfl, allH_zero hs⟩)
          go_loop [40] (fun k => ∃ i : Nat, i ≤ hs.length ∧ k = .int .i64 (i : Int) ∧ allH hs i = true) (fun k => hs.length - (intOf k).toNat)
          case atStart => exact H1.out
          case round =>
            clear H1
            obtain ⟨i, hi, rfl, ha⟩ := hrel
            have HA2 := Lib.hid ha
            clear ha
            by_cases hl2 : i < hs.length
            · obtain ⟨bh', oh', e1, hH⟩ := HB.out.p.h.resolve_left (by omega)
              cases e1
              have z0 := hH i hl2
              obtain ⟨t1, ht1⟩ : ∃ t, lenB (zn hs i) 0 10000000 = t := ⟨_, rfl⟩
              have T1 := Lib.hid ht1
              have HO := Lib.hid (show hOk hs i = (t1 && !(decide (0 < i) && decide (zn hs i < zn hs (i - 1) + 21600))) by rw [← ht1]; rfl)
              clear ht1
              cases t1
              · clear hH
                go_wp2_with (go_at_call 45; refine (impl_timeOk _ _).mono ?_; rintro e w' ⟨rfl, rfl⟩; rw [T1.out])
                go_ret
                exact ⟨by rw [HT2.out, allH_not hl2 (HO.out.trans rfl)]; rfl, HB.out.b⟩
              · rcases i with _ | q
                · clear hH
                  have z1 : wr.cell? ⟨bh, oh, none⟩ = some (.int .i64 (zn hs 0)) := z0
                  obtain ⟨hn, hhn⟩ : ∃ n : Int, (hs.length : Int) = n := ⟨_, rfl⟩
                  have hp : (0 : Int) < (hs.length : Int) := by omega
                  have hp0 : ((0 : Nat) : Int) = 0 := rfl
                  rw [hp0]
                  clear z0 hhn
                  go_wp2_with (go_at_call 45; refine (impl_timeOk _ _).mono ?_; rintro e w' ⟨rfl, rfl⟩; rw [T1.out])
                  go_round
                  case rel => exact ⟨0 + 1, by omega, by go_num, by rw [allH_succ, HA2.out, HO.out]; rfl⟩
                  case measure => simp [intOf]; omega
                · have zq := hH q (by omega)
                  clear hH
                  obtain ⟨u, hu⟩ : ∃ u, zn hs q = u := ⟨_, rfl⟩
                  obtain ⟨v, hv⟩ : ∃ v, zn hs (q + 1) = v := ⟨_, rfl⟩
                  rw [hu] at zq
                  rw [hv] at z0
                  have hub : 0 ≤ u ∧ u ≤ 10000000 := by
                    have := allH_at HA2.out q (by omega)
                    unfold hOk at this
                    rw [hu] at this
                    simp only [Bool.and_eq_true, decide_eq_true_eq] at this
                    exact this.1
                  have hvb : 0 ≤ v ∧ v ≤ 10000000 := by
                    have := T1.out
                    unfold lenB at this
                    rw [hv] at this
                    simp only [Bool.and_eq_true, decide_eq_true_eq] at this
                    exact this
                  have HO2 := Lib.hid (show hOk hs (q + 1) = !decide (v < u + 21600) by rw [HO.out, Nat.add_sub_cancel, hu, hv, decide_eq_true (Nat.succ_pos q)]; simp)
                  have T2 := Lib.hid (show lenB v 0 10000000 = true by rw [← hv]; exact T1.out)
                  clear hu hv HO T1
                  have hwu : IntKind.i64.wrap (u + 21600) = u + 21600 := by rw [IntKind.wrap_i64]; omega
                  have hwq : IntKind.i64.wrap (q : Int) = (q : Int) := by rw [IntKind.wrap_i64]; omega
                  have hwq1 : IntKind.i64.wrap ((q : Int) + 1 - 1) = (q : Int) := by rw [IntKind.wrap_i64]; omega
                  have hq0 : (0 : Int) ≤ (q : Int) := by omega
                  have hqn : (q : Int) < (hs.length : Int) := by omega
                  by_cases hc : v < u + 21600
                  · go_wp2_with (go_at_call 45; refine (impl_timeOk _ _).mono ?_; rintro e w' ⟨rfl, rfl⟩; rw [T2.out])
                    go_ret
                    exact ⟨by rw [HT2.out, allH_not hl2 (HO2.out.trans (by rw [decide_eq_true hc]; rfl))]; rfl, HB.out.b⟩
                  · go_wp2_with (go_at_call 45; refine (impl_timeOk _ _).mono ?_; rintro e w' ⟨rfl, rfl⟩; rw [T2.out])
                    go_round
                    case rel => exact ⟨q + 1 + 1, by omega, by go_num, by rw [allH_succ, HA2.out, HO2.out, decide_eq_false (show ¬ v < u + 21600 by omega)]; rfl⟩
                    case measure => simp [intOf]; omega
            · obtain rfl : i = hs.length := by omega
              go_wp2_with fail
              go_ret
              exact ⟨by rw [HT2.out, HA2.out]; rfl, HB.out.b⟩
end Go.Proofs.Ytjohpjmfnghkoaa.Ty
