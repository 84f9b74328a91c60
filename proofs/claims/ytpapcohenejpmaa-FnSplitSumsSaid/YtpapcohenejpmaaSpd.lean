/- Speeds, streams and headings as they are drawn: floats may be any. -/
import Derived.Test.YtpapcohenejpmaaPaD
namespace Go.Proofs.Ytpapcohenejpmaa.Sp
open Go.RowKit Kit Fl Bd It Pad Go.Proofs.YtpapcohenejpmaaW.PrintWords Go.Proofs.YtpapcohenejpmaaW.PrintLast Go.Proofs.YtpapcohenejpmaaW.PrintMore PFnPassageAlong
theorem run_any_choose {P : Program} (q : Question) (w : World) : ∃ n w', (choose q).run P w = .ok n w' ∧ (w' = w ∨ w' = w.drew) := by
  rw [run_choose_drew]
  split
  · exact ⟨_, _, rfl, Or.inl rfl⟩
  · exact ⟨_, _, rfl, Or.inr rfl⟩
/-- a narrowing, whatever it comes to -/
theorem narrow_any (src dst : TypeId) (z : Nat) (hs : (Try.prog.underlying src).isSome = true) (hd : Try.prog.underlying dst = some (.float .f32)) (w : World) : ∃ y w', (convert src dst (.float .f64 z)).run Try.prog w = .ok (.float .f32 y) w' ∧ (w' = w ∨ w' = w.drew) := by
  by_cases hf : (floatToFloatBits .f64 z .f32).isSome = true
  · exact ⟨_, _, run_cv w src dst .f64 .f32 z hs hd hf, Or.inl rfl⟩
  · obtain ⟨u, hs'⟩ := Option.isSome_iff_exists.1 hs
    have key : ∃ y w', (Conv.floatToFloat .f64 z .f32).run Try.prog w = .ok (.float .f32 y) w' ∧ (w' = w ∨ w' = w.drew) := by
      unfold Conv.floatToFloat
      rw [if_neg (by decide)]
      cases hx : FloatKind.f64.decode z with
      | nan s t =>
        obtain ⟨n, w', h1, h2⟩ := run_any_choose (P := Try.prog) (.nanConv .f32 z) w
        exact ⟨n, w', by simp only [Sem.run_bind, h1, Result.andThen]; rfl, h2⟩
      | infinity s => exact ⟨_, _, rfl, Or.inl rfl⟩
      | number s m e =>
        dsimp only
        split
        · obtain ⟨n, w', h1, h2⟩ := run_any_choose (P := Try.prog) (.floatToFloat z) w
          exact ⟨n, w', by simp only [Sem.run_bind, h1, Result.andThen]; rfl, h2⟩
        · exact ⟨_, _, rfl, Or.inl rfl⟩
    obtain ⟨y, w', h1, h2⟩ := key
    refine ⟨y, w', ?_, h2⟩
    rw [← h1]
    cases u <;> simp [convert, run_underlying hs', run_underlying hd]
theorem cur_or {w0 w w' : World} {g : Nat} {m : Int} (h : Cur w0 w g m) (e : w' = w ∨ w' = w.drew) : Cur w0 w' g m := by
  rcases e with rfl | rfl
  · exact h
  · exact h.drew
set_option maxRecDepth 100000 in
theorem single_call {w0 w : World} {g : Nat} {m : Int} (n : Int) (hn0 : 0 ≤ n) (hn : n ≤ 100000) (hm : m ≤ 1800000) (hC : Cur w0 w g m) :
    Calls Try.prog 81 #[.pointer (some ⟨g, 0, none⟩), .int .i64 n] w fun e w' => ∃ z : Nat, e = .returned (.float .f32 z) ∧ Cur w0 w' g (m + 20) := by
  have C0 := Lib.hid hC
  clear hC
  go_enter Try.func81, Try.ntmps81
  go_wp2_with fail
  refine (real_call n hn0 hn hm C0.out).mono ?_
  rintro e w1 ⟨z, rfl, hC1⟩
  have C1 := Lib.hid hC1
  clear hC1
  go_wp2_with fail
  obtain ⟨y, w2, h1, h2⟩ := narrow_any 27 33 z (by kernel_rfl) Try.underlying33 w1
  rw [h1]
  dsimp only [Result.andThen]
  have C2 := Lib.hid (cur_or C1.out h2)
  clear h1 h2
  go_wp2_with fail
  go_ret
  exact ⟨_, rfl, C2.out⟩
theorem int_num32 (n : Int) (h1 : -1000 ≤ n) (h2 : n ≤ 1000) : Num FloatKind.f32.format (floatOfInt .f32 n) := (ofInt (k := .f32) (n := n) (e := 10) (by simp <;> omega) (by simp; omega) (by decide +kernel)).1.num
theorem quo16 {x : Nat} (hx : Num FloatKind.f32.format x) : (floatBits .quo .f32 x 1098907648).isSome = true := by
  have h : FloatKind.f32.format.read 1098907648 = .number false 8388608 (-19) := by decide +kernel
  exact Sm.isSome_quo hx ⟨_, _, _, h⟩ (Or.inl (by rw [ne_eq, V_zero h]; decide))
set_option maxRecDepth 100000 in
theorem speed_call {w0 w : World} {g : Nat} {m : Int} (hm : m ≤ 1700000) (hC : Cur w0 w g m) :
    Calls Try.prog 57 #[.pointer (some ⟨g, 0, none⟩)] w fun e w' => ∃ z : Nat, e = .returned (.float .f32 z) ∧ Cur w0 w' g (m + 24) := by
  have C0 := Lib.hid hC
  clear hC
  go_enter Try.func57, Try.ntmps57
  go_wp2_with fail
  refine (below_call 16 (by omega) (by omega) C0.out).mono ?_
  rintro e w1 ⟨r, rfl, _, _, hC1, _⟩
  have C1 := Lib.hid hC1
  clear hC1
  go_wp2_with fail
  all_goals first
    | (go_ret; exact ⟨_, rfl, C1.out.mono (by omega)⟩)
    | (refine (single_call 60 (by omega) (by omega) (by omega) C1.out).mono ?_
       rintro e w2 ⟨z, rfl, hC2⟩
       have C2 := Lib.hid hC2
       clear hC2
       go_wp2_with fail
       go_ret
       exact ⟨_, rfl, C2.out.mono (by omega)⟩)
    | (refine (below_call 161 (by omega) (by omega) C1.out).mono ?_
       rintro e w2 ⟨k, rfl, k0, k1, hC2, _⟩
       have q := quo16 (int_num32 k (by omega) (by omega))
       have C2 := Lib.hid hC2
       clear hC2
       go_wp2_with fail
       go_ret
       exact ⟨_, rfl, C2.out.mono (by omega)⟩)
theorem cur_alloc {w0 w : World} {g : Nat} {m : Int} (h : Cur w0 w g m) (o : Obj) : Cur w0 (w.alloc o) g m := by
  obtain ⟨⟨b, i, k, ⟨A0, c0, e1, e2, e3⟩, h2, h3⟩, h4⟩ := h
  exact ⟨⟨b, i, k, ⟨A0, c0, blk_alloc e1 _, e2, e3⟩, h2, h3⟩, h4.alloc h4.size _⟩
theorem cur_lt {w0 w : World} {g : Nat} {m : Int} (h : Cur w0 w g m) : g < w.heap.size := by
  obtain ⟨⟨b, i, k, ⟨A0, c0, e1, e2, e3⟩, h2, h3⟩, h4⟩ := h
  exact blk_lt e1
theorem pick_call {w0 w : World} {g : Nat} {m : Int} {A : Option Addr} {c : Nat} {l : List Int} (hm : m ≤ 1900000) (hC : Cur w0 w g m) (hr : Kd.C (Kd.int .i64) w A l.length l) (hc : l.length ≤ c) (hf : ∀ ad, A = some ad → 0 < l.length → ad.block ≠ g) (hl : 0 < l.length ∧ l.length ≤ 4294967296) :
    Calls Try.prog 34 #[.pointer (some ⟨g, 0, none⟩), .slice A l.length c] w fun e w' => ∃ r : Int, e = .returned (.int .i64 r) ∧ Cur w0 w' g (m + 4) := by
  obtain ⟨⟨b, i, h, h1, h2, h3⟩, hB⟩ := hC
  obtain ⟨i', h', j, hj, e, a, d⟩ := pick_some b i h l ⟨h2, by omega⟩ hl
  refine (spec_l01PickInt.calls g b i h A c l _ i' h' w0 w h1 hB hr hc hf e).mono ?_
  rintro e w' ⟨rfl, k1, k2, k3⟩
  exact ⟨_, rfl, ⟨⟨b, i', h', k1, a, by omega⟩, k2⟩⟩
theorem lit4 (w : World) (a b c d : Int) (q : TypeId) (ha : (Lit.int .i64 a).wf = true) (hb : (Lit.int .i64 b).wf = true) (hc : (Lit.int .i64 c).wf = true) (hd : (Lit.int .i64 d).wf = true) : ∃ l : List Int, l.length = 4 ∧ Kd.C (Kd.int .i64) (w.alloc (.cells #[.int .i64 a, .int .i64 b, .int .i64 c, .int .i64 d] q)) (some ⟨w.heap.size, 0, none⟩) l.length l := by
  obtain ⟨l, h1, h2, _, _, _⟩ := ReadsInt.ofRowC (k := .i64) (w := w.alloc (.cells #[.int .i64 a, .int .i64 b, .int .i64 c, .int .i64 d] q)) (a := some ⟨w.heap.size, 0, none⟩) (len := 4) (cap := 4) (zs := [a, b, c, d])
    (Or.inr ⟨⟨w.heap.size, 0, none⟩, rfl, by omega, by decide, rfl, fun i hi => by
      have hi : i < 4 := hi
      have : i = 0 ∨ i = 1 ∨ i = 2 ∨ i = 3 := by omega
      rcases this with rfl | rfl | rfl | rfl
      all_goals (refine Eq.trans (show World.cell? _ _ = World.cell? _ ⟨w.heap.size, _, none⟩ from rfl) ?_; rw [World.cell?_alloc_at _ _ _ _ rfl]; rfl), fun n hn => by
      simp only [List.mem_cons, List.not_mem_nil, or_false] at hn
      rcases hn with rfl | rfl | rfl | rfl <;> assumption⟩)
  exact ⟨l, h1.symm, Kd.C_of_reads (d := (0 : Int)) (h1 := fun _ => rfl) h2⟩
set_option maxRecDepth 100000 in
theorem air_call {w0 w : World} {g : Nat} {m : Int} (hm : m ≤ 1700000) (hC : Cur w0 w g m) :
    Calls Try.prog 82 #[.pointer (some ⟨g, 0, none⟩)] w fun e w' => ∃ a b : Nat, e = .returned (.complex .f32 a b) ∧ Cur w0 w' g (m + 60) := by
  have C0 := Lib.hid hC
  clear hC
  go_enter Try.func82, Try.ntmps82
  go_wp2_with fail
  refine (once_call 30 (by omega) (by omega) C0.out).mono ?_
  rintro e w1 ⟨r, rfl, hC1, _⟩
  have C1 := Lib.hid hC1
  clear hC1
  cases r
  · go_wp2_with fail
    refine (once_call 20 (by omega) (by omega) C1.out).mono ?_
    rintro e w2 ⟨r, rfl, hC2, _⟩
    have C2 := Lib.hid hC2
    clear hC2
    cases r
    · go_wp2_with fail
      refine (single_call 15 (by omega) (by omega) (by omega) C2.out).mono ?_
      rintro e w3 ⟨x, rfl, hC3⟩
      have C3 := Lib.hid hC3
      clear hC3
      go_wp2_with fail
      refine (single_call 15 (by omega) (by omega) (by omega) C3.out).mono ?_
      rintro e w4 ⟨y, rfl, hC4⟩
      have C4 := Lib.hid hC4
      clear hC4
      go_wp2_with fail
      go_ret
      exact ⟨_, _, rfl, C4.out.mono (by omega)⟩
    · go_wp2_with fail
      obtain ⟨l, hl4, hL⟩ := lit4 w2 100 (-100) 101 0 3 (by decide) (by decide) (by decide) (by decide)
      have hgl := cur_lt C2.out
      have hp := pick_call (by omega) (cur_alloc C2.out (.cells #[.int .i64 100, .int .i64 (-100), .int .i64 101, .int .i64 0] 3)) hL (c := 4) (by omega) (fun ad e _ => by cases e; exact Nat.ne_of_gt hgl) (by omega)
      rw [hl4] at hp
      refine hp.mono ?_
      clear hp hL hgl hl4
      rintro e w3 ⟨x, rfl, hC3⟩
      have C3 := Lib.hid hC3
      clear hC3
      go_wp2_with fail
      refine (single_call 100 (by omega) (by omega) (by omega) C3.out).mono ?_
      rintro e w4 ⟨y, rfl, hC4⟩
      have C4 := Lib.hid hC4
      clear hC4
      go_wp2_with fail
      go_ret
      exact ⟨_, _, rfl, C4.out.mono (by omega)⟩
  · go_wp2_with fail
    refine (odd_call (by omega) C1.out).mono ?_
    rintro e w2 ⟨z2, rfl, hC2⟩
    have C2 := Lib.hid hC2
    clear hC2
    go_wp2_with fail
    obtain ⟨y2, w2n, h1, h2⟩ := narrow_any 27 33 z2 (by kernel_rfl) Try.underlying33 w2
    rw [h1]
    dsimp only [Result.andThen]
    have D2 := Lib.hid (cur_or C2.out h2)
    clear h1 h2
    go_wp2_with fail
    refine (odd_call (by omega) D2.out).mono ?_
    rintro e w3 ⟨z3, rfl, hC3⟩
    have C3 := Lib.hid hC3
    clear hC3
    go_wp2_with fail
    obtain ⟨y3, w3n, h1, h2⟩ := narrow_any 27 33 z3 (by kernel_rfl) Try.underlying33 w3
    rw [h1]
    dsimp only [Result.andThen]
    have D3 := Lib.hid (cur_or C3.out h2)
    clear h1 h2
    go_wp2_with fail
    go_ret
    exact ⟨_, _, rfl, D3.out.mono (by omega)⟩
set_option maxRecDepth 100000 in
theorem stream_call {w0 w : World} {g : Nat} {m : Int} (hm : m ≤ 1600000) (hC : Cur w0 w g m) :
    Calls Try.prog 58 #[.pointer (some ⟨g, 0, none⟩)] w fun e w' => ∃ a b : Nat, e = .returned (.complex .f32 a b) ∧ Cur w0 w' g (m + 64) := by
  have C0 := Lib.hid hC
  clear hC
  go_enter Try.func58, Try.ntmps58
  go_wp2_with fail
  refine (below_call 12 (by omega) (by omega) C0.out).mono ?_
  rintro e w1 ⟨r, rfl, _, _, hC1, _⟩
  have C1 := Lib.hid hC1
  clear hC1
  go_wp2_with fail
  all_goals first
    | (go_ret; exact ⟨_, _, rfl, C1.out.mono (by omega)⟩)
    | (refine (air_call (by omega) C1.out).mono ?_
       rintro e w2 ⟨a, b, rfl, hC2⟩
       have C2 := Lib.hid hC2
       clear hC2
       go_wp2_with fail
       go_ret
       exact ⟨_, _, rfl, C2.out.mono (by omega)⟩)
    | (refine (below_call 65 (by omega) (by omega) C1.out).mono ?_
       rintro e w2 ⟨k, rfl, k0, k1, hC2, _⟩
       have q1 := quo16 (int_num32 (k - 32) (by omega) (by omega))
       have q1a := q1
       have q1b := q1
       rw [← (show wrap64 (k - 32) = k - 32 by unfold wrap64; omega)] at q1a
       rw [← (show IntKind.i64.wrap (k - 32) = k - 32 by rw [IntKind.wrap_i64]; omega)] at q1b
       have C2 := Lib.hid hC2
       clear hC2
       go_wp2_with fail
       refine (below_call 65 (by omega) (by omega) C2.out).mono ?_
       rintro e w3 ⟨n, rfl, n0, n1, hC3, _⟩
       have q2 := quo16 (int_num32 (n - 32) (by omega) (by omega))
       have q2a := q2
       have q2b := q2
       rw [← (show wrap64 (n - 32) = n - 32 by unfold wrap64; omega)] at q2a
       rw [← (show IntKind.i64.wrap (n - 32) = n - 32 by rw [IntKind.wrap_i64]; omega)] at q2b
       have C3 := Lib.hid hC3
       clear hC3
       go_wp2_with fail
       go_ret
       exact ⟨_, _, rfl, C3.out.mono (by omega)⟩)
theorem degrees_call {w0 w : World} {g : Nat} {m : Int} (hm : m ≤ 1700000) (hC : Cur w0 w g m) :
    Calls Try.prog 31 #[.pointer (some ⟨g, 0, none⟩)] w fun e w' => ∃ r : Int, e = .returned (.int .i64 r) ∧ Cur w0 w' g (m + 12) := by
  obtain ⟨⟨b, i, h, h1, h2, h3⟩, hB⟩ := hC
  obtain ⟨x, i', h', e, a, c⟩ := degrees_some b i h ⟨h2, by omega⟩
  refine (spec_l02Degrees.calls g b i h x i' h' w0 w h1 hB e).mono ?_
  rintro e w' ⟨rfl, k1, k2, k3⟩
  exact ⟨x, rfl, ⟨⟨b, i', h', k1, a, by omega⟩, k2⟩⟩
set_option maxRecDepth 100000 in
theorem draw_passage {w0 w : World} {A0 : Option Addr} {c0 : Nat} {l0 : List Int} (hB : Below w0.heap.size w0 w) (hr0 : Kd.C (Kd.int .u8) w0 A0 l0.length l0) (hc0 : l0.length ≤ c0) (hl : l0.length ≤ 1048576) :
    Calls Try.prog 26 #[.slice A0 l0.length c0] w fun e w' => ∃ (t : Int) (m s c d : Nat), e = .returned (.tuple #[.int .i64 t, .float .f64 m, .float .f32 s, .complex .f32 c d]) ∧ Below w0.heap.size w0 w' := by
  have HB := Lib.hid hB
  have HR := Lib.hid hr0
  clear hB hr0
  go_enter Try.func26, Try.ntmps26
  go_wp2_with fail
  refine (new_call HB.out HR.out hc0 hl).mono ?_
  rintro e w1 ⟨g, rfl, hC1, _⟩
  have C1 := Lib.hid hC1
  clear hC1
  go_wp2_with fail
  refine (degrees_call (by omega) C1.out).mono ?_
  rintro e w2 ⟨t, rfl, hC2⟩
  have C2 := Lib.hid hC2
  clear hC2
  go_wp2_with fail
  refine (real_call 20000 (by omega) (by omega) (by omega) C2.out).mono ?_
  rintro e w3 ⟨m, rfl, hC3⟩
  have C3 := Lib.hid hC3
  clear hC3
  go_wp2_with fail
  refine (speed_call (by omega) C3.out).mono ?_
  rintro e w4 ⟨s, rfl, hC4⟩
  have C4 := Lib.hid hC4
  clear hC4
  go_wp2_with fail
  refine (stream_call (by omega) C4.out).mono ?_
  rintro e w5 ⟨c, d, rfl, hC5⟩
  have C5 := Lib.hid hC5
  clear hC5
  go_wp2_with fail
  exact bodyPost_ret (v := .tuple #[.int .i64 t, .float .f64 m, .float .f32 s, .complex .f32 c d]) (by simp [results, Try.results26, go_sem]) rfl ⟨_, _, _, _, _, rfl, C5.out.below⟩
end Go.Proofs.Ytpapcohenejpmaa.Sp
