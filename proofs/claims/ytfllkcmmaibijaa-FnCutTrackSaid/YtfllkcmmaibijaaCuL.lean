/- The law FnCutTrack, walked: for every code it returns true, and nothing that was there before has changed. No condition. -/
import Derived.Test.YtfllkcmmaibijaaCuD
import Derived.Test.YtfllkcmmaibijaaCuP
namespace Go.Proofs.Ytfllkcmmaibijaa.Cul
open Cud (box2 box3 box4 draw_k)
open Go.RowKit Cus Cup Go.Proofs.Ytfllkcmmaibijaa.PFnCutTrack Go.Proofs.YtfllkcmmaibijaaW.PrintWords Go.Proofs.YtfllkcmmaibijaaW.PrintLast Go.Proofs.YtfllkcmmaibijaaW.PrintMore
abbrev Ten (b3 b4 b6 b7 : Nat) (a b c d x y mx my ux uy : Int) (w' : World) : Prop := w'.cell? ⟨b3, 0, none⟩ = some (.int .i64 a) ∧ w'.cell? ⟨b3, 1, none⟩ = some (.int .i64 b) ∧ w'.cell? ⟨b3, 2, none⟩ = some (.int .i64 c) ∧ w'.cell? ⟨b3, 3, none⟩ = some (.int .i64 d) ∧ w'.cell? ⟨b4, 0, none⟩ = some (.int .i64 x) ∧ w'.cell? ⟨b4, 1, none⟩ = some (.int .i64 y) ∧ w'.cell? ⟨b6, 0, none⟩ = some (.int .i64 mx) ∧ w'.cell? ⟨b6, 1, none⟩ = some (.int .i64 my) ∧ w'.cell? ⟨b7, 0, none⟩ = some (.int .i64 ux) ∧ w'.cell? ⟨b7, 1, none⟩ = some (.int .i64 uy)
theorem ten {w0 w : World} {b3 b4 b6 b7 : Nat} {a b c d x y s mx my ux uy : Int} {p8 p9 p10 : Nat × Obj} (h : St w0 w [p10, p9, (b7, box2 ux uy), (b6, box2 mx my), p8, (b4, box3 x y s), (b3, box4 a b c d)]) : Aside0 (Ten b3 b4 b6 b7 a b c d x y mx my ux uy w) :=
  ⟨⟨(h.b4 6 rfl).1, (h.b4 6 rfl).2.1, (h.b4 6 rfl).2.2.1, (h.b4 6 rfl).2.2.2.1, (h.b3 5 rfl).1, (h.b3 5 rfl).2.1, (h.b2 3 rfl).1, (h.b2 3 rfl).2.1, (h.b2 2 rfl).1, (h.b2 2 rfl).2.1⟩⟩
abbrev Sev (b3 b6 b9 : Nat) (a b c d mx my mt : Int) (w' : World) : Prop := w'.cell? ⟨b3, 0, none⟩ = some (.int .i64 a) ∧ w'.cell? ⟨b3, 1, none⟩ = some (.int .i64 b) ∧ w'.cell? ⟨b3, 2, none⟩ = some (.int .i64 c) ∧ w'.cell? ⟨b3, 3, none⟩ = some (.int .i64 d) ∧ w'.cell? ⟨b6, 0, none⟩ = some (.int .i64 mx) ∧ w'.cell? ⟨b6, 1, none⟩ = some (.int .i64 my) ∧ w'.cell? ⟨b9, 2, none⟩ = some (.int .i64 mt)
theorem seven {w0 w : World} {b3 b6 b9 : Nat} {a b c d p9x p9y mx my mt : Int} {p4 p7 p8 p10 : Nat × Obj} (h : St w0 w [p10, (b9, box3 p9x p9y mt), p7, (b6, box2 mx my), p8, p4, (b3, box4 a b c d)]) : Aside0 (Sev b3 b6 b9 a b c d mx my mt w) :=
  ⟨⟨(h.b4 6 rfl).1, (h.b4 6 rfl).2.1, (h.b4 6 rfl).2.2.1, (h.b4 6 rfl).2.2.2.1, (h.b2 3 rfl).1, (h.b2 3 rfl).2.1, (h.b3 1 rfl).2.2.1⟩⟩
set_option maxRecDepth 100000 in
set_option maxHeartbeats 4000000 in
theorem law {w : World} {A : Option Addr} {c0 : Nat} {l0 : List Int} (hr0 : Kd.C (Kd.int .u8) w A l0.length l0) (hc0 : l0.length ≤ c0) :
    Calls Try.prog 7 #[.slice A l0.length c0] w fun e w' => e = .returned (.bool true) ∧ Below w.heap.size w w' := by
  have HR := Aside0.mk hr0
  go_enter Try.func7, Try.ntmps7
  go_wp2_with fail
  refine (laws_big.calls A c0 l0 (decide ((l0.length : Int) > 1048576)) w hr0 hc0 rfl).mono ?_
  rintro e w1 ⟨rfl, hd⟩
  have B1 := Aside0.mk hd.below
  clear hr0 hd
  by_cases hl : (l0.length : Int) > 1048576
  · rw [decide_eq_true hl]
    go_wp2_with fail
    go_ret
    exact ⟨rfl, B1.out⟩
  · rw [decide_eq_false hl]
    go_upto_region 3 with fail
    go_cut [3, 4, 5] (fun v3 v4 v5 wc => ∃ (b3 b4 b5 : Nat) (a b c d x y s u v t : Int), v3 = .pointer (some ⟨b3, 0, none⟩) ∧ v4 = .pointer (some ⟨b4, 0, none⟩) ∧ v5 = .pointer (some ⟨b5, 0, none⟩) ∧ St w wc [(b5, box3 u v t), (b4, box3 x y s), (b3, box4 a b c d)])
    case first =>
      go_wp2_with fail
      refine (draw_k (Kd.C_below HR.out B1.out) hc0 (by omega)).mono ?_
      rintro e w2 ⟨a, b, c, d, x, y, s, u, v, t, rfl, hb⟩
      have B2 := Aside0.mk (below_step B1.out hb)
      clear hb B1
      go_wp2_with fail
      go_meet
      case rel => exact ⟨_, _, _, a, b, c, d, x, y, s, u, v, t, rfl, rfl, rfl, (St.nil B2.out).alloc3 _ _ _⟩
    case rest =>
      obtain ⟨b3, b4, b5, a, b, c, d, x, y, s, u, v, t, rfl, rfl, rfl, hS⟩ := hcut
      have HS := Aside0.mk hS
      clear hS B1 HR
      obtain ⟨m1, m2, m3, m4, hm⟩ : ∃ m1 m2 m3 m4, laws_middle.f x y u v = some (m1, m2, m3, m4) := ⟨_, _, _, _, rfl⟩
      have HM := Aside0.mk hm
      clear hm
      go_upto_region 4 with fail
      go_cut [6, 7] (fun v6 v7 wc => ∃ (b6 b7 : Nat), v6 = .pointer (some ⟨b6, 0, none⟩) ∧ v7 = .pointer (some ⟨b7, 0, none⟩) ∧ St w wc [(b7, box2 m3 m4), (b6, box2 m1 m2), (b5, box3 u v t), (b4, box3 x y s), (b3, box4 a b c d)])
      case first =>
        obtain ⟨x0, x1, x2, _⟩ := HS.out.b3 0 rfl
        obtain ⟨y0, y1, y2, _⟩ := HS.out.b3 1 rfl
        go_wp2_with fail
        refine (laws_middle.calls _ _ _ _ _ _ _ _ _ HM.out).mono ?_
        rintro e w3 ⟨rfl, hb⟩
        have HS1 := Aside0.mk (HS.out.call hb)
        clear hb
        go_wp2_with fail
        go_meet
        case rel => exact ⟨_, _, rfl, rfl, HS1.out.alloc2 _ _⟩
      case rest =>
        obtain ⟨b6, b7, rfl, rfl, hS⟩ := hcut
        have HS1 := Aside0.mk hS
        clear hS HS
        have x2 := (HS1.out.b3 2 rfl).2.2.1
        have y2 := (HS1.out.b3 3 rfl).2.2.1
        go_upto_region 6 with fail
        clear x2 y2
        obtain ⟨x0, x1, x2, _⟩ := HS1.out.b3 2 rfl
        obtain ⟨y0, y1, y2, _⟩ := HS1.out.b3 3 rfl
        obtain ⟨K, hK⟩ : ∃ K, wrap64 ((wrap64 (t - s)).tdiv 2) = K := ⟨_, rfl⟩
        obtain ⟨T, hT⟩ : ∃ T, trackOk [⟨⟨x, y⟩, s⟩, ⟨⟨u, v⟩, t⟩] = T := ⟨_, rfl⟩
        obtain ⟨N, hN⟩ : ∃ N, lineB a b c d = N := ⟨_, rfl⟩
        have eT := spec_track [⟨⟨x, y⟩, s⟩, ⟨⟨u, v⟩, t⟩] (by simp) 5 (by simp)
        have eN : spec_LineOk.f a b c d = some (lineB a b c d) := line_is a b c d
        rw [hT] at eT
        rw [hN] at eN
        rw [hK]
        have HK := Aside0.mk hK
        have HT := Aside0.mk hT
        have HN := Aside0.mk hN
        have ET := Aside0.mk eT
        have EN := Aside0.mk eN
        clear hK hT hN eT eN
        by_cases h1 : K < 1
        · have q : decide (K < 1) = true := decide_eq_true h1
          clear h1
          go_wp2_with fail
          go_ret
          exact ⟨rfl, HS1.out.below⟩
        · have q : decide (K < 1) = false := decide_eq_false h1
          have H1 := Aside0.mk h1
          clear h1
          cases T
          · go_wp2_with (first | (go_at_call 21; refine (spec_TrackOk.calls 5 _ _ [⟨⟨x, y⟩, s⟩, ⟨⟨u, v⟩, t⟩] _ _ (lit_reads _ _ _ _ rfl (by simp)) (by simp) ET.out).mono ?_; rintro e w4 ⟨rfl, hb⟩; have HS2 := Aside0.mk ((HS1.out.call (below_alloc (Below.refl _ _) _)).call hb); clear hb))
            go_ret
            exact ⟨rfl, HS2.out.below⟩
          · cases N
            · go_wp2_with (first | (go_at_call 21; refine (spec_TrackOk.calls 5 _ _ [⟨⟨x, y⟩, s⟩, ⟨⟨u, v⟩, t⟩] _ _ (lit_reads _ _ _ _ rfl (by simp)) (by simp) ET.out).mono ?_; rintro e w4 ⟨rfl, hb⟩; have HS2 := Aside0.mk ((HS1.out.call (below_alloc (Below.refl _ _) _)).call hb); obtain ⟨z0, z1, z2, z3, _⟩ := HS2.out.b4 4 rfl; clear hb) | (go_at_call 22; refine (spec_LineOk.calls a b c d _ _ EN.out).mono ?_; rintro e w5 ⟨rfl, hb⟩; have HS3 := Aside0.mk (HS2.out.call hb); clear hb))
              go_ret
              exact ⟨rfl, HS3.out.below⟩
            · obtain ⟨p, q, rfl, rfl, rfl, rfl, hP⟩ := step_of HK.out HT.out HN.out HM.out H1.out
              have w1K : wrap64 (s + K) = s + K := w64 (by have := hP.s0; have := hP.h1; omega) (by have := hP.s1; have := hP.h1; omega)
              have w2K : wrap64 (2 * K) = 2 * K := w64 (by have := hP.h1; omega) (by have := hP.s0; have := hP.s1; omega)
              have w3K : wrap64 (s + 2 * K) = s + 2 * K := w64 (by have := hP.s0; have := hP.h1; omega) (by have := hP.s1; omega)
              have HP := Aside0.mk hP
              have W1 := Aside0.mk w1K
              have W2 := Aside0.mk w2K
              have W3 := Aside0.mk w3K
              clear hP w1K w2K w3K HK HT HN HM H1
              go_upto_region 8 with (first | (go_at_call 21; refine (spec_TrackOk.calls 5 _ _ [⟨⟨x, y⟩, s⟩, ⟨⟨u, v⟩, t⟩] _ _ (lit_reads _ _ _ _ rfl (by simp)) (by simp) ET.out).mono ?_; rintro e w4 ⟨rfl, hb⟩; have HS2 := Aside0.mk ((HS1.out.call (below_alloc (Below.refl _ _) _)).call hb); obtain ⟨z0, z1, z2, z3, _⟩ := HS2.out.b4 4 rfl; clear hb) | (go_at_call 22; refine (spec_LineOk.calls a b c d _ _ EN.out).mono ?_; rintro e w5 ⟨rfl, hb⟩; have HS3 := Aside0.mk (HS2.out.call hb); clear hb))
              clear x0 x1 x2 y0 y1 y2 z0 z1 z2 z3 HS1 HS2 ET EN
              go_cut [9] (fun v9 wc => ∃ b9 : Nat, v9 = .pointer (some ⟨b9, 0, none⟩) ∧ St w wc [(b9, box3 (x + p) (y + q) (s + K)), (b7, box2 (x + 2 * p) (y + 2 * q)), (b6, box2 (x + p) (y + q)), (b5, box3 u v t), (b4, box3 x y s), (b3, box4 a b c d)])
              case first =>
                obtain ⟨x0, x1, _⟩ := HS3.out.b2 1 rfl
                have y2 := (HS3.out.b3 3 rfl).2.2.1
                go_wp2_with fail
                go_meet
                case rel => exact ⟨_, rfl, by rw [W1.out]; exact HS3.out.alloc _⟩
              case rest =>
                obtain ⟨b9, rfl, hS⟩ := hcut
                have HS4 := Aside0.mk hS
                clear hS HS3
                go_upto_region 9 with fail
                go_cut [10] (fun v10 wc => ∃ b10 : Nat, v10 = .pointer (some ⟨b10, 0, none⟩) ∧ St w wc [(b10, box3 (x + 2 * p) (y + 2 * q) (s + 2 * K)), (b9, box3 (x + p) (y + q) (s + K)), (b7, box2 (x + 2 * p) (y + 2 * q)), (b6, box2 (x + p) (y + q)), (b5, box3 u v t), (b4, box3 x y s), (b3, box4 a b c d)])
                case first =>
                  obtain ⟨x0, x1, _⟩ := HS4.out.b2 1 rfl
                  have y2 := (HS4.out.b3 4 rfl).2.2.1
                  go_wp2_with fail
                  go_meet
                  case rel => exact ⟨_, rfl, by rw [W2.out, W3.out]; exact HS4.out.alloc _⟩
                case rest =>
                  obtain ⟨b10, rfl, hS⟩ := hcut
                  have HS5 := Aside0.mk hS.drew
                  clear HS4
                  obtain ⟨r, r1, r2, g1, g2, g3, g4, g5⟩ := cut_cross HP.out 0
                  have T0 := ten HS5.out
                  have G1 := Aside0.mk g1
                  have G2 := Aside0.mk g2
                  have G3 := Aside0.mk g3
                  have G4 := Aside0.mk g4
                  have G5 := Aside0.mk g5
                  clear g1 g2 g3 g4 g5
                  obtain ⟨z0, z1, z2, z3, _⟩ := hS.b4 6 rfl
                  obtain ⟨y0, y1, _⟩ := hS.b3 5 rfl
                  obtain ⟨m0, m1, _⟩ := hS.b2 3 rfl
                  obtain ⟨u0, u1, _⟩ := hS.b2 2 rfl
                  clear hS
                  go_upto_region 10 with fail
                  go_cut [94] (fun v94 wc => v94 = .bool false ∧ St w wc [(b10, box3 (x + 2 * p) (y + 2 * q) (s + 2 * K)), (b9, box3 (x + p) (y + q) (s + K)), (b7, box2 (x + 2 * p) (y + 2 * q)), (b6, box2 (x + p) (y + q)), (b5, box3 u v t), (b4, box3 x y s), (b3, box4 a b c d)])
                  case first =>
                    go_region_held3 (fun w' => w'.cell? ⟨b3, 0, none⟩ = some (.int .i64 a) ∧ w'.cell? ⟨b3, 1, none⟩ = some (.int .i64 b) ∧ w'.cell? ⟨b3, 2, none⟩ = some (.int .i64 c) ∧ w'.cell? ⟨b3, 3, none⟩ = some (.int .i64 d) ∧ w'.cell? ⟨b4, 0, none⟩ = some (.int .i64 x) ∧ w'.cell? ⟨b4, 1, none⟩ = some (.int .i64 y) ∧ w'.cell? ⟨b6, 0, none⟩ = some (.int .i64 (x + p)) ∧ w'.cell? ⟨b6, 1, none⟩ = some (.int .i64 (y + q)) ∧ w'.cell? ⟨b7, 0, none⟩ = some (.int .i64 (x + 2 * p)) ∧ w'.cell? ⟨b7, 1, none⟩ = some (.int .i64 (y + 2 * q))) (with_reducible exact T0.out) (first | (go_at_call 26; first | (with_reducible refine (impl_Crossing.calls 3 a b c d x y (x + 2 * p) (y + 2 * q) r _ G1.out).mono ?_; rintro e w6 ⟨rfl, hb⟩; have HS5 := Aside0.mk (HS5.out.call hb); have T0 := ten HS5.out; clear hb) | (with_reducible refine (impl_Crossing.calls 3 a b c d x y (x + p) (y + q) r1 _ G3.out).mono ?_; rintro e w6 ⟨rfl, hb⟩; have HS5 := Aside0.mk (HS5.out.call hb); have T0 := ten HS5.out; clear hb) | (with_reducible refine (impl_Crossing.calls 3 a b c d (x + p) (y + q) (x + 2 * p) (y + 2 * q) r2 _ G4.out).mono ?_; rintro e w6 ⟨rfl, hb⟩; have HS5 := Aside0.mk (HS5.out.call hb); have T0 := ten HS5.out; clear hb)) | (go_at_call 27; with_reducible refine (spec_Crossing.calls 3 a b c d x y (x + 2 * p) (y + 2 * q) r _ G2.out).mono ?_; rintro e w6 ⟨rfl, hb⟩; have HS5 := Aside0.mk (HS5.out.call hb); have T0 := ten HS5.out; clear hb))
                    go_wp2_with fail
                    go_meet
                    case rel => exact ⟨by rw [i64_w, G5.out]; simp, HS5.out⟩
                  case rest =>
                    obtain ⟨rfl, hS⟩ := hcut
                    have HS6 := Aside0.mk hS
                    clear hS HS5 G1 G2 G3 G4 G5
                    go_upto_region 12 with fail
                    go_cut [11] (fun v11 wc => ∃ A1, v11 = .slice (some A1) 2 2 ∧ Kd.C k44 wc (some A1) 2 [⟨⟨x, y⟩, s⟩, ⟨⟨x + 2 * p, y + 2 * q⟩, s + 2 * K⟩] ∧ St w wc [(b10, box3 (x + 2 * p) (y + 2 * q) (s + 2 * K)), (b9, box3 (x + p) (y + q) (s + K)), (b7, box2 (x + 2 * p) (y + 2 * q)), (b6, box2 (x + p) (y + q)), (b5, box3 u v t), (b4, box3 x y s), (b3, box4 a b c d)])
                    case first =>
                      obtain ⟨x0, x1, x2, _⟩ := HS6.out.b3 0 rfl
                      obtain ⟨y0, y1, y2, _⟩ := HS6.out.b3 5 rfl
                      go_wp2_with fail
                      go_meet
                      case rel => exact ⟨_, rfl, lit_reads _ _ [⟨⟨x, y⟩, s⟩, ⟨⟨x + 2 * p, y + 2 * q⟩, s + 2 * K⟩] _ rfl (by simp), HS6.out.call (below_alloc (Below.refl _ _) _)⟩
                    case rest =>
                      obtain ⟨A1, rfl, hc1, hS⟩ := hcut
                      have HS7 := Aside0.mk hS
                      have HC1 := Aside0.mk hc1
                      clear hS HS6 hc1
                      go_upto_region 13 with fail
                      go_cut [12] (fun v12 wc => ∃ A2, v12 = .slice (some A2) 3 3 ∧ Kd.C k44 wc (some A1) 2 [⟨⟨x, y⟩, s⟩, ⟨⟨x + 2 * p, y + 2 * q⟩, s + 2 * K⟩] ∧ Kd.C k44 wc (some A2) 3 [⟨⟨x, y⟩, s⟩, ⟨⟨x + p, y + q⟩, s + K⟩, ⟨⟨x + 2 * p, y + 2 * q⟩, s + 2 * K⟩] ∧ St w wc [(b10, box3 (x + 2 * p) (y + 2 * q) (s + 2 * K)), (b9, box3 (x + p) (y + q) (s + K)), (b7, box2 (x + 2 * p) (y + 2 * q)), (b6, box2 (x + p) (y + q)), (b5, box3 u v t), (b4, box3 x y s), (b3, box4 a b c d)])
                      case first =>
                        obtain ⟨x0, x1, x2, _⟩ := HS7.out.b3 0 rfl
                        obtain ⟨m0, m1, m2, _⟩ := HS7.out.b3 1 rfl
                        obtain ⟨y0, y1, y2, _⟩ := HS7.out.b3 5 rfl
                        go_wp2_with fail
                        go_meet
                        case rel => exact ⟨_, rfl, Kd.C_below HC1.out (below_alloc (Below.refl _ _) _), lit_reads _ _ [⟨⟨x, y⟩, s⟩, ⟨⟨x + p, y + q⟩, s + K⟩, ⟨⟨x + 2 * p, y + 2 * q⟩, s + 2 * K⟩] _ rfl (by simp), HS7.out.call (below_alloc (Below.refl _ _) _)⟩
                      case rest =>
                        obtain ⟨A2, rfl, hc1, hc2, hS⟩ := hcut
                        have HS8 := Aside0.mk hS
                        have HC2 := Aside0.mk hc1
                        have HC3 := Aside0.mk hc2
                        clear hS HS7 hc1 hc2 HC1
                        obtain ⟨n, r', g1, g2⟩ := cut_start HP.out
                        have G1 := Aside0.mk g1
                        have G2 := Aside0.mk g2
                        clear g1 g2
                        go_upto_region 14 with fail
                        go_cut [13, 14] (fun v13 v14 wc => v13 = .int .i64 n ∧ v14 = .bool r' ∧ Kd.C k44 wc (some A1) 2 [⟨⟨x, y⟩, s⟩, ⟨⟨x + 2 * p, y + 2 * q⟩, s + 2 * K⟩] ∧ Kd.C k44 wc (some A2) 3 [⟨⟨x, y⟩, s⟩, ⟨⟨x + p, y + q⟩, s + K⟩, ⟨⟨x + 2 * p, y + 2 * q⟩, s + 2 * K⟩] ∧ St w wc [(b10, box3 (x + 2 * p) (y + 2 * q) (s + 2 * K)), (b9, box3 (x + p) (y + q) (s + K)), (b7, box2 (x + 2 * p) (y + 2 * q)), (b6, box2 (x + p) (y + q)), (b5, box3 u v t), (b4, box3 x y s), (b3, box4 a b c d)])
                        case first =>
                          have y2 := (HS8.out.b3 5 rfl).2.2.1
                          obtain ⟨z0, z1, z2, z3, _⟩ := HS8.out.b4 6 rfl
                          go_wp2_with fail
                          refine (impl_StartTime.calls 9 a b c d (some A1) 2 [⟨⟨x, y⟩, s⟩, ⟨⟨x + 2 * p, y + 2 * q⟩, s + 2 * K⟩] s n r' _ HC2.out (by simp) G1.out).mono ?_
                          rintro e w7 ⟨rfl, hb⟩
                          have HB := Aside0.mk hb
                          clear hb y2 z0 z1 z2 z3
                          go_wp2_with fail
                          go_meet
                          case rel => exact ⟨rfl, rfl, Kd.C_below HC2.out HB.out, Kd.C_below HC3.out HB.out, HS8.out.call HB.out⟩
                        case rest =>
                          obtain ⟨rfl, rfl, hc1, hc2, hS⟩ := hcut
                          have HS9 := Aside0.mk hS
                          have HC4 := Aside0.mk hc1
                          have HC5 := Aside0.mk hc2
                          clear hS HS8 hc1 hc2 HC2 HC3
                          go_upto_region 15 with fail
                          go_cut [15, 16] (fun v15 v16 wc => v15 = .int .i64 n ∧ v16 = .bool r' ∧ Kd.C k44 wc (some A1) 2 [⟨⟨x, y⟩, s⟩, ⟨⟨x + 2 * p, y + 2 * q⟩, s + 2 * K⟩] ∧ St w wc [(b10, box3 (x + 2 * p) (y + 2 * q) (s + 2 * K)), (b9, box3 (x + p) (y + q) (s + K)), (b7, box2 (x + 2 * p) (y + 2 * q)), (b6, box2 (x + p) (y + q)), (b5, box3 u v t), (b4, box3 x y s), (b3, box4 a b c d)])
                          case first =>
                            have y2 := (HS9.out.b3 5 rfl).2.2.1
                            obtain ⟨z0, z1, z2, z3, _⟩ := HS9.out.b4 6 rfl
                            go_wp2_with fail
                            refine (impl_StartTime.calls 9 a b c d (some A2) 3 [⟨⟨x, y⟩, s⟩, ⟨⟨x + p, y + q⟩, s + K⟩, ⟨⟨x + 2 * p, y + 2 * q⟩, s + 2 * K⟩] s n r' _ HC5.out (by simp) G2.out).mono ?_
                            rintro e w8 ⟨rfl, hb⟩
                            have HB := Aside0.mk hb
                            clear hb y2 z0 z1 z2 z3
                            go_wp2_with fail
                            go_meet
                            case rel => exact ⟨rfl, rfl, Kd.C_below HC4.out HB.out, HS9.out.call HB.out⟩
                          case rest =>
                            obtain ⟨rfl, rfl, hc1, hS⟩ := hcut
                            have HS10 := Aside0.mk hS.drew
                            have HC6 := Aside0.mk (Kd.C_below hc1 (Below.refl _ _).drew)
                            obtain ⟨h', g1, g2⟩ := cut_early HP.out
                            have E1 := Aside0.mk g1
                            have E2 := Aside0.mk g2
                            have T1 := seven HS10.out
                            obtain ⟨z0, z1, z2, z3, _⟩ := hS.b4 6 rfl
                            obtain ⟨m0, m1, _⟩ := hS.b2 3 rfl
                            have m2 := (hS.b3 1 rfl).2.2.1
                            clear hS HS9 hc1 HC4 HC5 G1 G2 g1 g2
                            go_upto_region 16 with fail
                            go_region_held3 (fun w' => w'.cell? ⟨b3, 0, none⟩ = some (.int .i64 a) ∧ w'.cell? ⟨b3, 1, none⟩ = some (.int .i64 b) ∧ w'.cell? ⟨b3, 2, none⟩ = some (.int .i64 c) ∧ w'.cell? ⟨b3, 3, none⟩ = some (.int .i64 d) ∧ w'.cell? ⟨b6, 0, none⟩ = some (.int .i64 (x + p)) ∧ w'.cell? ⟨b6, 1, none⟩ = some (.int .i64 (y + q)) ∧ w'.cell? ⟨b9, 2, none⟩ = some (.int .i64 (s + K))) (with_reducible exact T1.out) (first | (go_at_call 23; refine (impl_EarlyAt.calls 9 a b c d (some A1) 2 [⟨⟨x, y⟩, s⟩, ⟨⟨x + 2 * p, y + 2 * q⟩, s + 2 * K⟩] (s + K) _ _ HC6.out (by simp) E1.out).mono ?_; rintro e w9 ⟨rfl, hb⟩; have HS10 := Aside0.mk (HS10.out.call hb); have T1 := seven HS10.out; clear hb) | (go_at_call 18; with_reducible refine (impl_SideOf.calls 9 a b c d (x + p) (y + q) h' _ E2.out).mono ?_; rintro e w9 ⟨rfl, hb⟩; have HS10 := Aside0.mk (HS10.out.call hb); have T1 := seven HS10.out; clear hb))
                            go_wp2_with fail
                            go_ret
                            exact ⟨by simp, HS10.out.below⟩
end Go.Proofs.Ytfllkcmmaibijaa.Cul
namespace Go.Proofs.Ytfllkcmmaibijaa.Pure
open Go.RowKit Go.Proofs.YtfllkcmmaibijaaW.PrintWords Go.Proofs.YtfllkcmmaibijaaW.PrintLast Go.Proofs.YtfllkcmmaibijaaW.PrintMore
theorem FnCutTrackWalk (a0 : Option Addr) (len0 cap0 : Nat) (z0 : List Int) (w : World) (w0 : (a0 = none ∧ len0 = 0 ∧ cap0 = 0 ∧ z0 = []) ∨ ∃ x, a0 = some x ∧ len0 ≤ cap0 ∧ cap0 ≤ maxLen ∧ z0.length = cap0 ∧ (∀ i, i < z0.length → w.cell? (x.add i) = some (.int .u8 (z0.getD i 0))) ∧ ∀ n ∈ z0, (Lit.int .u8 n).wf = true) (_ : len0 * 1 ≤ 140737488351232) :
    Calls Try.prog 7 #[.slice a0 len0 cap0] w fun e w' => e = .returned (.bool true) ∧ Below w.heap.size w w' := by
  obtain ⟨l0, rfl, hr0, _, _, hc0⟩ := ReadsInt.ofRowC w0
  exact Cul.law (Kd.C_of_reads (d := (0 : Int)) (h1 := fun _ => rfl) hr0) hc0
end Go.Proofs.Ytfllkcmmaibijaa.Pure
