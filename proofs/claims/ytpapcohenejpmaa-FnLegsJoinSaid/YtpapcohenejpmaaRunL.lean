/- Legs run in two parts end where they end when run in one: the drawn law walked. No condition. -/
import Derived.Test.YtpapcohenejpmaaLegD
import Derived.Test.YtpapcohenejpmaaAir
namespace Go.Proofs.Ytpapcohenejpmaa.Lj
open Go.RowKit Kit Fl Bd Dw Lg Ve Rl Ld Ljd Go.Proofs.YtpapcohenejpmaaW.PrintWords Go.Proofs.YtpapcohenejpmaaW.PrintLast Go.Proofs.YtpapcohenejpmaaW.PrintMore PFnLegsJoin
set_option maxRecDepth 100000 in
set_option maxHeartbeats 1000000 in
theorem some_k {w0 w : World} {g : Nat} {m : Int} (hm : m ≤ 1000) (hC : Cur2 w0 w0 w g m) :
    Calls Try.prog 63 #[.pointer (some ⟨g, 0, none⟩)] w fun e w' => ∃ (v : Value) (ls : List Leg), e = .returned v ∧ ls.length ≤ 51 ∧ legKd.R 80 w' w0.heap.size (fun _ => True) v ls ∧ Cur2 w0 w0 w' g 6000 := by
  have C1 := Lib.hid hC
  clear hC
  go_enter Try.func63, Try.ntmps63
  go_wp2_with ((with_reducible refine gate_dst (N := 5) rfl ?_); refine Kd.R_lit legKd (w0 := w0) w0.heap.size 80 ?hg (N := 5) ?hd (xs := ([] : List Leg)) (inner := []) (ok := fun _ => True) (okp := fun _ => True) ?hr ?hp (fun _ hk => hk) trivial C1.out.below C1.out.below.size (by simp) ?_; (case hd => rfl); (case hg => rfl); (case hr => first | (go_simp; done) | (go_simp; rfl)); (case hp => exact (Reps.none _ _)); intro v w2 hR hb hg hnew; have C2 := Lib.hid (C1.out.grown hg (by simp) (fun b e => by cases e) hb); have R2 := Lib.hid hR; clear hR hb hg hnew C1)
  refine (below_k 5 (by omega) (by omega) C2.out.here).mono ?_
  rintro e w3 ⟨n, rfl, n0, n1, hC3⟩
  have R3 := Lib.hid (R_cur R2.out C2.out legE hC3)
  have C3 := Lib.hid (C2.out.trans hC3)
  clear hC3 R2 C2
  go_wp2_with fail
  refine (once_k 40 (by omega) (by omega) C3.out.here).mono ?_
  rintro e w4 ⟨o, rfl, hC4⟩
  have R4 := Lib.hid (R_cur R3.out C3.out legE hC4)
  have C4 := Lib.hid (C3.out.trans hC4)
  clear hC4 R3 C3
  obtain ⟨n, rfl⟩ : ∃ k : Nat, n = (k : Int) := ⟨n.toNat, by omega⟩
  have hn : n < 5 := by have := n1 (by omega); omega
  clear n0 n1
  cases o
  · go_wp2_with fail
    go_loopw [3, 4] (fun u k wr => ∃ (zs : List Leg) (j : Nat), k = .int .i64 (j : Int) ∧ zs.length + j ≤ 51 ∧ legKd.R 80 wr w0.heap.size (fun _ => True) u zs ∧ Cur2 w0 w0 wr g (1200 + 60 * zs.length)) (fun _ k _ => (intOf k).toNat)
    case atStart => exact ⟨[], n, rfl, by simp; omega, R4.out, C4.out.mono (by simp; omega)⟩
    case round =>
      obtain ⟨zs, j, rfl, hj, hR, hC⟩ := hrel
      have R := Lib.hid hR
      have C := Lib.hid hC
      clear hR hC
      by_cases h0 : 0 < j
      · obtain ⟨j, rfl⟩ : ∃ m, j = m + 1 := ⟨j - 1, by omega⟩
        go_wp2_with fail
        refine (leg_k (by omega) C.out.here).mono ?_
        rintro e w5 ⟨a, rfl, hC5⟩
        have R5 := Lib.hid (R_cur R.out C.out legE hC5)
        have C5 := Lib.hid (C.out.trans hC5)
        clear hC5 R C
        go_wp2_with (at_builtin; refine Kd.R_append legKd (w0 := w0) w0.heap.size rfl (.tmp 17) (.tmp 20) 44 80 (.agg #[.int .i64 0, .float .f32 0, .int .i64 0]) 24 rfl Try.underlying44 leg_info rfl (by decide) (by omega) _ zs a (enc a) (fun _ => True) (fun _ => False) rfl rfl ?aP (fun _ hk => hk.elim) ?aF ?aO ?aB ?aS ?aL ?_; (case aP => exact rfl); (case aF => exact (fun _ _ => trivial)); (case aO => exact R5.out); (case aB => exact C5.out.below); (case aS => exact C5.out.below.size); (case aL => omega); intro v6 w6 hR hb hg hat; have C6 := Lib.hid (C5.out.grown hg (R_cur_ne R5.out C5.out (by decide)) (fun b e => own_base (Kd.R_own R5.out).choose_spec b e) hb); have R6 := Lib.hid hR; clear hR hb hg hat C5 R5)
        go_roundw
        case rel => exact ⟨zs ++ [a], j, by go_num, by simp; omega, R6.out, C6.out.mono (by simp; omega)⟩
        case measure => simp [intOf]
      · obtain rfl : j = 0 := by omega
        go_wp2_with fail
        go_ret
        exact ⟨_, zs, rfl, by omega, R.out, C.out.mono (by omega)⟩
  · go_wp2_with fail
    refine (below_k 2 (by omega) (by omega) C4.out.here).mono ?_
    rintro e w5 ⟨r, rfl, r0, r1, hC5⟩
    have R5 := Lib.hid (R_cur R4.out C4.out legE hC5)
    have C5 := Lib.hid (C4.out.trans hC5)
    clear hC5 R4 C4
    obtain ⟨r, rfl⟩ : ∃ k : Nat, r = (k : Int) := ⟨r.toNat, by omega⟩
    have hr : r < 2 := by have := r1 (by omega); omega
    clear r0 r1
    go_wp2_with fail
    go_loopw [3, 4] (fun u k wr => ∃ (zs : List Leg) (j : Nat), k = .int .i64 (j : Int) ∧ zs.length + j ≤ 51 ∧ legKd.R 80 wr w0.heap.size (fun _ => True) u zs ∧ Cur2 w0 w0 wr g (1200 + 60 * zs.length)) (fun _ k _ => (intOf k).toNat)
    case atStart => exact ⟨[], 50 + r, by simp, by simp; omega, R5.out, C5.out.mono (by simp; omega)⟩
    case round =>
      obtain ⟨zs, j, rfl, hj, hR, hC⟩ := hrel
      have R := Lib.hid hR
      have C := Lib.hid hC
      clear hR hC
      by_cases h0 : 0 < j
      · obtain ⟨j, rfl⟩ : ∃ m, j = m + 1 := ⟨j - 1, by omega⟩
        go_wp2_with fail
        refine (leg_k (by omega) C.out.here).mono ?_
        rintro e w5 ⟨a, rfl, hC5⟩
        have R5 := Lib.hid (R_cur R.out C.out legE hC5)
        have C5 := Lib.hid (C.out.trans hC5)
        clear hC5 R C
        go_wp2_with (at_builtin; refine Kd.R_append legKd (w0 := w0) w0.heap.size rfl (.tmp 17) (.tmp 20) 44 80 (.agg #[.int .i64 0, .float .f32 0, .int .i64 0]) 24 rfl Try.underlying44 leg_info rfl (by decide) (by omega) _ zs a (enc a) (fun _ => True) (fun _ => False) rfl rfl ?aP (fun _ hk => hk.elim) ?aF ?aO ?aB ?aS ?aL ?_; (case aP => exact rfl); (case aF => exact (fun _ _ => trivial)); (case aO => exact R5.out); (case aB => exact C5.out.below); (case aS => exact C5.out.below.size); (case aL => omega); intro v6 w6 hR hb hg hat; have C6 := Lib.hid (C5.out.grown hg (R_cur_ne R5.out C5.out (by decide)) (fun b e => own_base (Kd.R_own R5.out).choose_spec b e) hb); have R6 := Lib.hid hR; clear hR hb hg hat C5 R5)
        go_roundw
        case rel => exact ⟨zs ++ [a], j, by go_num, by simp; omega, R6.out, C6.out.mono (by simp; omega)⟩
        case measure => simp [intOf]
      · obtain rfl : j = 0 := by omega
        go_wp2_with fail
        go_ret
        exact ⟨_, zs, rfl, by omega, R.out, C.out.mono (by omega)⟩
theorem at_of {w : World} {e base : Nat} {ok : Nat → Prop} {v : Value} {ls : List Leg} (h : legKd.R e w base ok v ls) : ∃ A c, v = .slice A ls.length c ∧ ls.length ≤ c ∧ (ls.length = 0 ∨ ∃ b, A = some ⟨b, 0, none⟩ ∧ Lies w b 0 ls) := by
  obtain ⟨A, c, rfl, hc, hC⟩ := Kd.R_reads h
  refine ⟨A, c, rfl, hc, ?_⟩
  by_cases h0 : ls.length = 0
  · exact Or.inl h0
  · obtain ⟨ad, rfl, hcell⟩ := hC.2.2 (by omega)
    obtain ⟨b, rfl⟩ := Kd.R_head h
    refine Or.inr ⟨b, rfl, fun j hj => ?_⟩
    obtain ⟨cs, _, hK, hu⟩ := hcell j _ (List.getElem?_eq_getElem hj)
    have hK' : cs = enc ls[j] := hK
    subst hK'
    have u0 := hu 0 _ rfl
    have u1 := hu 1 _ rfl
    have u2 := hu 2 _ rfl
    rw [Addr.add_lit] at u0 u1 u2
    have e0 : 0 + (j * legKd.sz + 0) = 0 + j * 3 := by show 0 + (j * 3 + 0) = _; omega
    have e1 : 0 + (j * legKd.sz + 1) = 0 + j * 3 + 1 := by show 0 + (j * 3 + 1) = _; omega
    have e2 : 0 + (j * legKd.sz + 2) = 0 + j * 3 + 2 := by show 0 + (j * 3 + 2) = _; omega
    rw [e0] at u0
    rw [e1] at u1
    rw [e2] at u2
    rw [nth_get hj]
    exact ⟨u0, u1, u2⟩
set_option maxRecDepth 100000 in
set_option maxHeartbeats 1000000 in
theorem draw_run {w0 w : World} {A0 : Option Addr} {c0 : Nat} {l0 : List Int} (hB : Below w0.heap.size w0 w) (hr0 : Kd.C (Kd.int .u8) w0 A0 l0.length l0) (hc0 : l0.length ≤ c0) (hl : l0.length ≤ 1048576) :
    Calls Try.prog 22 #[.slice A0 l0.length c0] w fun e w' => ∃ (x y : Nat) (v : Value) (ls : List Leg) (c d : Nat), e = .returned (.tuple #[.complex .f64 x y, v, .complex .f32 c d]) ∧ ls.length ≤ 51 ∧ legKd.R 80 w' w0.heap.size (fun _ => True) v ls ∧ Below w0.heap.size w0 w' := by
  have HB := Lib.hid hB
  have HR := Lib.hid hr0
  clear hB hr0
  go_enter Try.func22, Try.ntmps22
  go_wp2_with fail
  refine (new_k HB.out HR.out hc0 hl).mono ?_
  rintro e w1 ⟨g, rfl, hC1, _⟩
  have C1 := Lib.hid hC1.root
  clear hC1
  go_wp2_with fail
  refine (vector_k 5000 (by omega) (by omega) (by omega) C1.out).mono ?_
  rintro e w2 ⟨a, b, rfl, hC2⟩
  have C2 := Lib.hid hC2
  clear hC2 C1
  go_wp2_with fail
  refine (some_k (by omega) C2.out).mono ?_
  rintro e w3 ⟨v, ls, rfl, hls, hR3, hC3⟩
  have R3 := Lib.hid hR3
  have C3 := Lib.hid hC3
  clear hR3 hC3 C2
  go_wp2_with fail
  refine (stream_k (by omega) C3.out.here).mono ?_
  rintro e w4 ⟨c, d, rfl, hC4⟩
  have R4 := Lib.hid (R_cur R3.out C3.out legE hC4)
  have C4 := Lib.hid (C3.out.trans hC4)
  clear hC4 R3 C3
  go_wp2_with fail
  exact bodyPost_ret (v := .tuple #[.complex .f64 a b, v, .complex .f32 c d]) (by simp [results, Try.results22, go_sem]) rfl ⟨a, b, v, ls, c, d, rfl, hls, R4.out, C4.out.below⟩
theorem same_pt {q : Nat × Nat} (h : vec q = true) (w : World) : Calls Try.prog 25 #[.complex .f64 q.1 q.2, .complex .f64 q.1 q.2] w fun e w' => e = .returned (.bool true) ∧ w = w' := by
  unfold vec at h
  rw [Bool.and_eq_true] at h
  exact Ai.laws_same _ _ (vOk_num h.1).1 (vOk_num h.2).1 w
theorem at_part1 {w : World} {A : Option Addr} {l : List Leg} (k : Nat) (h : At w A l) : At w A (l.take k) := by
  by_cases h0 : (l.take k).length = 0
  · exact Or.inl h0
  · rcases h with h | ⟨b, o, e, h⟩
    · rw [List.length_take] at h0; omega
    · refine Or.inr ⟨b, o, e, fun j hj => ?_⟩
      rw [List.length_take] at hj
      rw [nth_take (by omega)]
      exact h j (by omega)
theorem at_part2 {w : World} {A : Option Addr} {l : List Leg} (k : Nat) (h : At w A l) : At w (Option.map (fun x => x.add (k * 3)) A) (l.drop k) := by
  by_cases h0 : (l.drop k).length = 0
  · exact Or.inl h0
  · rw [List.length_drop] at h0
    rcases h with h | ⟨b, o, rfl, h⟩
    · omega
    · refine Or.inr ⟨b, o + k * 3, by rw [Option.map_some, Addr.add_lit], fun j hj => ?_⟩
      rw [List.length_drop] at hj
      rw [nth_drop]
      have e : o + k * 3 + j * 3 = o + (k + j) * 3 := by omega
      rw [e]
      exact h (k + j) (by omega)
theorem at_end {w : World} {A : Option Addr} {l : List Leg} (k : Nat) (h : l.length ≤ k) : At w A (l.drop k) := Or.inl (by rw [List.length_drop]; omega)
theorem run_drop {w : World} {A : Option Addr} {cap k : Nat} {l : List Leg} {c d : Nat} {z q : Nat × Nat} (hA : At w A (l.drop k)) (hm : l.length ≤ 1000) (h : runR c d (l.drop k) z = some q) : Calls Try.prog 23 #[.complex .f64 z.1 z.2, .slice A (l.length - k) cap, .complex .f32 c d] w fun e w' => e = .returned (.tuple #[.complex .f64 q.1 q.2, .bool true]) ∧ Below w.heap.size w w' := by
  have hp := impl_RunLegs (cap := cap) c d z hA (by rw [List.length_drop]; omega)
  rw [List.length_drop, h] at hp
  exact hp
theorem run_end {w : World} {A : Option Addr} {cap k : Nat} {l : List Leg} {c d : Nat} {z q : Nat × Nat} (hk : l.length ≤ k) (h : runR c d (l.drop k) z = some q) : Calls Try.prog 23 #[.complex .f64 z.1 z.2, .slice A 0 cap, .complex .f32 c d] w fun e w' => e = .returned (.tuple #[.complex .f64 q.1 q.2, .bool true]) ∧ Below w.heap.size w w' := by
  rw [List.drop_eq_nil_of_le hk] at h
  have hp := impl_RunLegs (l := []) (A := A) (w := w) (cap := cap) c d z (Or.inl rfl) (by simp)
  rw [h] at hp
  exact hp
theorem legsB_take {l : List Leg} (k : Nat) (h : legsB l = true) : legsB (l.take k) = true := by
  unfold legsB at h ⊢
  simp only [Bool.and_eq_true, decide_eq_true_eq, List.all_eq_true] at h ⊢
  exact ⟨fun x hx => h.1 x (List.mem_of_mem_take hx), by rw [List.length_take]; omega⟩
theorem legsB_drop {l : List Leg} (k : Nat) (h : legsB l = true) : legsB (l.drop k) = true := by
  unfold legsB at h ⊢
  simp only [Bool.and_eq_true, decide_eq_true_eq, List.all_eq_true] at h ⊢
  exact ⟨fun x hx => h.1 x (List.mem_of_mem_drop hx), by rw [List.length_drop]; omega⟩
/-- a run that ends, ends so by parts -/
theorem parts {c d : Nat} {l : List Leg} {p q : Nat × Nat} (k : Nat) (h : runR c d l p = some q) : vec q = true ∧ ∃ z, vec z = true ∧ runR c d (l.take k) p = some z ∧ runR c d (l.drop k) z = some q := by
  have h' := h
  unfold runR at h'
  split at h'
  · rename_i hc
    simp only [Bool.and_eq_true] at hc
    have hr := runL_app c d (l.take k) (l.drop k) p
    rw [List.take_append_drop, h'] at hr
    obtain ⟨z, h1, h2⟩ := Option.bind_eq_some_iff.1 hr.symm
    have hz := runL_vec _ hc.1.1 h1
    exact ⟨runL_vec _ hc.1.1 h', z, hz, (runR_some hc.1.1 (legsB_take k hc.1.2) hc.2).trans h1, (runR_some hz (legsB_drop k hc.1.2) hc.2).trans h2⟩
  · cases h'
set_option maxRecDepth 100000 in
set_option maxHeartbeats 1000000 in
theorem law {w : World} {A0 : Option Addr} {c0 : Nat} {l0 : List Int} (hr0 : Kd.C (Kd.int .u8) w A0 l0.length l0) (hc0 : l0.length ≤ c0) :
    Calls Try.prog 6 #[.slice A0 l0.length c0] w fun e w' => e = .returned (.bool true) ∧ Below w.heap.size w w' := by
  have HR := Lib.hid hr0
  go_enter Try.func6, Try.ntmps6
  go_wp2_with fail
  refine (laws_big.calls A0 c0 l0 (decide ((l0.length : Int) > 1048576)) w hr0 hc0 rfl).mono ?_
  rintro e w1 ⟨rfl, hd⟩
  have B1 := Lib.hid hd.below
  clear hr0 hd
  by_cases hl : (l0.length : Int) > 1048576
  · rw [decide_eq_true hl]
    go_wp2_with fail
    go_ret
    exact ⟨rfl, B1.out⟩
  · rw [decide_eq_false hl]
    go_wp2_with fail
    refine (draw_run B1.out HR.out hc0 (by omega)).mono ?_
    rintro e w2 ⟨x, y, v, ls, c, d, rfl, hz, hR, hB2⟩
    obtain ⟨A, cap, rfl, hc, hL⟩ := at_of hR
    have B2 := Lib.hid hB2
    have hA : At w2 A ls := by
      rcases hL with h | ⟨b, e, h⟩
      · exact Or.inl h
      · exact Or.inr ⟨b, 0, e, h⟩
    have HA := Lib.hid hA
    clear hB2 hR hA
    go_wp2_with fail
    refine (impl_RunLegs c d (x, y) HA.out (by omega)).mono ?_
    rintro e w3 ⟨rfl, hb⟩
    have A3 := Lib.hid (HA.out.below hb)
    have B3 := Lib.hid (B2.out.trans (hb.mono B2.out.size))
    clear hb
    cases ho : runR c d ls (x, y) with
    | none =>
      have HO := Lib.hid ho
      clear ho
      simp only [asR]
      go_wp2_with fail
      refine (spec_RunLegs c d (x, y) A3.out (by omega)).mono ?_
      rintro e w4 ⟨rfl, hb⟩
      have B4 := Lib.hid (B3.out.trans (hb.mono B3.out.size))
      clear hb
      rw [HO.out]
      simp only [asR]
      go_wp2_with fail
      go_ret
      exact ⟨rfl, B4.out⟩
    | some q =>
      have HO := Lib.hid ho
      clear ho
      simp only [asR]
      go_wp2_with fail
      refine (spec_RunLegs c d (x, y) A3.out (by omega)).mono ?_
      rintro e w4 ⟨rfl, hb⟩
      have A4 := Lib.hid (A3.out.below hb)
      have B4 := Lib.hid (B3.out.trans (hb.mono B3.out.size))
      clear hb
      rw [HO.out]
      simp only [asR]
      go_wp2_with fail
      go_loopw [10] (fun k wr => ∃ j : Nat, j ≤ ls.length + 1 ∧ j ≤ 6 ∧ k = .int .i64 (j : Int) ∧ At wr A ls ∧ Below w.heap.size w wr) (fun k _ => 7 - (intOf k).toNat)
      case atStart => exact ⟨0, by omega, by omega, rfl, A4.out, B4.out⟩
      case round =>
        obtain ⟨j, hj, hj6, rfl, hA, hB⟩ := hrel
        have A5 := Lib.hid hA
        have B5 := Lib.hid hB
        clear hA hB
        by_cases h : j ≤ ls.length ∧ j < 6
        · obtain ⟨h1, h2⟩ := h
          have P := Lib.hid (parts j HO.out)
          obtain ⟨p1, z, p2, p3, p4⟩ := P.out
          have PQ := Lib.hid p1
          have PZ := Lib.hid p2
          have P3 := Lib.hid p3
          have P4 := Lib.hid p4
          clear p1 p2 p3 p4 P
          go_wp2_with fail
          have hp := impl_RunLegs (l := ls.take j) (cap := cap) c d (x, y) (at_part1 j A5.out) (by rw [List.length_take]; omega)
          rw [List.length_take, Nat.min_eq_left h1, P3.out] at hp
          refine hp.mono ?_
          clear hp
          rintro e w6 ⟨rfl, hb⟩
          have A6 := Lib.hid (A5.out.below hb)
          have B6 := Lib.hid (B5.out.trans (hb.mono B5.out.size))
          clear hb A5 B5
          simp only [asR]
          by_cases hcj : j = cap
          · have hcj0 : cap - j = 0 := by omega
            go_wp2_with fail
            refine (run_end (k := j) (by omega) P4.out).mono ?_
            rintro e w7 ⟨rfl, hb⟩
            have A7 := Lib.hid (A6.out.below hb)
            have B7 := Lib.hid (B6.out.trans (hb.mono B6.out.size))
            clear hb A6 B6
            go_wp2_with (first | (go_at_call 25; refine (same_pt PQ.out _).mono ?_; rintro e w' ⟨rfl, rfl⟩))
            go_roundw
            case rel => exact ⟨j + 1, by omega, by omega, by go_num, A7.out, B7.out⟩
            case measure => simp [intOf]; omega
          · have hcj0 : ¬ cap - j = 0 := by omega
            go_wp2_with fail
            refine (run_drop (at_part2 j A6.out) (by omega) P4.out).mono ?_
            rintro e w7 ⟨rfl, hb⟩
            have A7 := Lib.hid (A6.out.below hb)
            have B7 := Lib.hid (B6.out.trans (hb.mono B6.out.size))
            clear hb A6 B6
            go_wp2_with (first | (go_at_call 25; refine (same_pt PQ.out _).mono ?_; rintro e w' ⟨rfl, rfl⟩))
            go_roundw
            case rel => exact ⟨j + 1, by omega, by omega, by go_num, A7.out, B7.out⟩
            case measure => simp [intOf]; omega
        · by_cases h1 : j ≤ ls.length
          · obtain rfl : j = 6 := by omega
            go_wp2_with fail
            go_ret
            exact ⟨rfl, B5.out⟩
          · have h1b : ¬ (j : Int) ≤ (ls.length : Int) := by omega
            go_wp2_with fail
            go_ret
            exact ⟨rfl, B5.out⟩
end Go.Proofs.Ytpapcohenejpmaa.Lj
namespace Go.Proofs.Ytpapcohenejpmaa.Pure
open Go.RowKit Go.Proofs.YtpapcohenejpmaaW.PrintWords Go.Proofs.YtpapcohenejpmaaW.PrintLast Go.Proofs.YtpapcohenejpmaaW.PrintMore
theorem FnLegsJoinWalk (a0 : Option Addr) (len0 cap0 : Nat) (z0 : List Int) (w : World) (w0 : (a0 = none ∧ len0 = 0 ∧ cap0 = 0 ∧ z0 = []) ∨ ∃ x, a0 = some x ∧ len0 ≤ cap0 ∧ cap0 ≤ maxLen ∧ z0.length = cap0 ∧ (∀ i, i < z0.length → w.cell? (x.add i) = some (.int .u8 (z0.getD i 0))) ∧ ∀ n ∈ z0, (Lit.int .u8 n).wf = true) (_ : len0 * 1 ≤ 140737488351232) :
    Calls Try.prog 6 #[.slice a0 len0 cap0] w fun e w' => e = .returned (.bool true) ∧ Below w.heap.size w w' := by
  obtain ⟨l0, rfl, hr0, _, _, hc0⟩ := ReadsInt.ofRowC w0
  exact Lj.law (Kd.C_of_reads (d := (0 : Int)) (h1 := fun _ => rfl) hr0) hc0
end Go.Proofs.Ytpapcohenejpmaa.Pure
