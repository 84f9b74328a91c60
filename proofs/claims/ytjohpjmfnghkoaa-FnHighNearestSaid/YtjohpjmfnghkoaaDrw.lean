/- What is drawn, told of calls: the cursor moves and nothing else that lay there does; floats may be any. -/
import Derived.Test.YtjohpjmfnghkoaaHnD
namespace Go.Proofs.Ytjohpjmfnghkoaa.Dw
open Go.RowKit Kit Fl Bd It Hnd Go.Proofs.YtjohpjmfnghkoaaW.PrintWords Go.Proofs.YtjohpjmfnghkoaaW.PrintLast Go.Proofs.YtjohpjmfnghkoaaW.PrintMore PFnHighNearest
/-- a cursor; beside it nothing that lay in the world ws has changed -/
structure Cur2 (w0 ws w : World) (g : Nat) (m : Int) : Prop where
  cur : Cur w0 w g m
  keep : KeepBut ws w g none
section
variable {w0 ws w w1 : World} {g : Nat} {m n : Int}
theorem Cur2.start (h : Cur w0 w g m) : Cur2 w0 w w g m := ⟨h, KeepBut.refl _ _ _⟩
theorem Cur2.root (h : Cur2 w0 ws w g m) : Cur2 w0 w0 w g m := ⟨h.cur, KeepBut.of_below h.cur.below g none⟩
theorem Cur2.here (h : Cur2 w0 ws w g m) : Cur2 w0 w w g m := ⟨h.cur, KeepBut.refl _ _ _⟩
theorem Cur2.below (h : Cur2 w0 ws w g m) : Below w0.heap.size w0 w := h.cur.below
theorem Cur2.mono (h : Cur2 w0 ws w g m) (hm : m ≤ n) : Cur2 w0 ws w g n := ⟨h.cur.mono hm, h.keep⟩
theorem Cur2.drew (h : Cur2 w0 ws w g m) : Cur2 w0 ws w.drew g m := ⟨h.cur.drew, keep_drew h.keep⟩
theorem Cur2.or (h : Cur2 w0 ws w g m) (e : w1 = w ∨ w1 = w.drew) : Cur2 w0 ws w1 g m := by
  rcases e with rfl | rfl
  · exact h
  · exact h.drew
theorem Cur2.trans (h : Cur2 w0 ws w g m) (k : Cur2 w0 w w1 g n) : Cur2 w0 ws w1 g n := ⟨k.cur, h.keep.trans k.keep (.inl rfl)⟩
theorem Cur2.alloc (h : Cur2 w0 ws w g m) (o : Obj) : Cur2 w0 ws (w.alloc o) g m := by
  obtain ⟨⟨⟨b, i, k, ⟨A0, c0, e1, e2, e3⟩, h2, h3⟩, h4⟩, h5⟩ := h
  exact ⟨⟨⟨b, i, k, ⟨A0, c0, blk_alloc e1 _, e2, e3⟩, h2, h3⟩, h4.alloc h4.size _⟩, keep_alloc h5 o⟩
theorem Cur2.blk (h : Cur2 w0 ws w g m) : ∃ cs, w.heap[g]? = some (.cells cs 86 (0, 0)) := by
  obtain ⟨⟨⟨b, i, k, ⟨A0, c0, e1, e2, e3⟩, h2, h3⟩, h4⟩, h5⟩ := h
  exact ⟨_, e1⟩
theorem Cur2.lt (h : Cur2 w0 ws w g m) : g < w.heap.size := by
  obtain ⟨cs, e⟩ := h.blk
  exact blk_lt e
theorem Cur2.ge (h : Cur2 w0 ws w g m) : w0.heap.size ≤ g := by
  obtain ⟨⟨⟨b, i, k, ⟨A0, c0, e1, e2, e3⟩, h2, h3⟩, h4⟩, h5⟩ := h
  exact e2
/-- a row of one's own is written -/
theorem Cur2.grown (h : Cur2 w0 ws w g m) {row : Option Nat} (hg : w.grownBy w1 row) (hne : some g ≠ row) (hr : ∀ b, row = some b → ws.heap.size ≤ b) (hb : Below w0.heap.size w0 w1) : Cur2 w0 ws w1 g m := by
  obtain ⟨⟨⟨b, i, k, ⟨A0, c0, e1, e2, e3⟩, h2, h3⟩, h4⟩, h5⟩ := h
  refine ⟨⟨⟨b, i, k, ⟨A0, c0, (hg.block g (blk_lt e1) hne).trans e1, e2, e3⟩, h2, h3⟩, hb⟩, ?_⟩
  refine ⟨Nat.le_trans h5.1 hg.size, fun j hj hjg _ => ?_⟩
  rw [hg.block j (Nat.lt_of_lt_of_le hj h5.1) (fun e => by have := hr j e.symm; omega)]
  exact h5.2 j hj hjg (by simp)
/-- rows of one's own stay as they were while the cursor moves -/
theorem R_cur {α : Type} {d : Kd α} {e base : Nat} {ok : Nat → Prop} {v : Value} {xs : List α} (h : d.R e w base ok v xs) (hC : Cur2 w0 ws w g m) (ht : ∀ q, q ∈ e :: d.E → q ≠ 86) (hk : Cur2 w0 w w1 g n) : d.R e w1 base ok v xs := by
  obtain ⟨cs, hb⟩ := hC.blk
  exact Kd.R_mono (Kd.R_keep (Kd.R_types h hb ht) hk.keep (fun _ hk => hk.2)) (fun _ hk => hk.1)
theorem R_cur_ne {α : Type} {d : Kd α} {e base : Nat} {ok : Nat → Prop} {v : Value} {xs : List α} (h : d.R e w base ok v xs) (hC : Cur2 w0 ws w g m) (ht : e ≠ 86) : some g ≠ v.ownBlock := by
  obtain ⟨cs, hb⟩ := hC.blk
  exact Kd.R_ne h hb ht
end
theorem new_k {w0 w : World} {A0 : Option Addr} {c0 : Nat} {l0 : List Int} (hB : Below w0.heap.size w0 w) (hr0 : Kd.C (Kd.int .u8) w0 A0 l0.length l0) (hc0 : l0.length ≤ c0) (hl : l0.length ≤ 1048576) :
    Calls Try.prog 30 #[.slice A0 l0.length c0] w fun e w' => ∃ g : Nat, e = .returned (.pointer (some ⟨g, 0, none⟩)) ∧ Cur2 w0 w w' g 0 ∧ Below w.heap.size w w' := by
  refine (new_call hB hr0 hc0 hl).mono ?_
  rintro e w' ⟨g, rfl, hC, hb⟩
  exact ⟨g, rfl, ⟨hC, KeepBut.of_below hb g none⟩, hb⟩
theorem below_k {w0 ws w : World} {g : Nat} {m : Int} (n : Int) (hn : n ≤ 4294967296) (hm : m ≤ 2000000) (hC : Cur2 w0 ws w g m) :
    Calls Try.prog 34 #[.pointer (some ⟨g, 0, none⟩), .int .i64 n] w fun e w' => ∃ r : Int, e = .returned (.int .i64 r) ∧ 0 ≤ r ∧ (0 < n → r < n) ∧ Cur2 w0 ws w' g (m + 4) := by
  refine (below_call n hn hm hC.cur).mono ?_
  rintro e w' ⟨r, rfl, h1, h2, h3, h4⟩
  exact ⟨r, rfl, h1, h2, h3, hC.keep.trans h4 (.inl rfl)⟩
theorem once_k {w0 ws w : World} {g : Nat} {m : Int} (n : Int) (hn : n ≤ 4294967296) (hm : m ≤ 2000000) (hC : Cur2 w0 ws w g m) :
    Calls Try.prog 32 #[.pointer (some ⟨g, 0, none⟩), .int .i64 n] w fun e w' => ∃ r : Bool, e = .returned (.bool r) ∧ Cur2 w0 ws w' g (m + 4) := by
  refine (once_call n hn hm hC.cur).mono ?_
  rintro e w' ⟨r, rfl, h3, h4⟩
  exact ⟨r, rfl, h3, hC.keep.trans h4 (.inl rfl)⟩
theorem number_k {w0 ws w : World} {g : Nat} {m : Int} (hm : m ≤ 1900000) (hC : Cur2 w0 ws w g m) :
    Calls Try.prog 35 #[.pointer (some ⟨g, 0, none⟩)] w fun e w' => ∃ r : Int, e = .returned (.int .i64 r) ∧ Cur2 w0 ws w' g (m + 8) := by
  obtain ⟨⟨⟨b, i, h, h1, h2, h3⟩, hB⟩, hK⟩ := hC
  obtain ⟨x, i', h', e, a, c⟩ := number_some b i h ⟨h2, by omega⟩
  refine (spec_l01Number.calls g b i h x i' h' w0 w h1 hB e).mono ?_
  rintro e w' ⟨rfl, k1, k2, k3⟩
  exact ⟨x, rfl, ⟨⟨b, i', h', k1, a, by omega⟩, k2⟩, hK.trans k3 (.inl rfl)⟩
theorem pick_k {w0 ws w : World} {g : Nat} {m : Int} {A : Option Addr} {c : Nat} {l : List Int} (hm : m ≤ 1900000) (hC : Cur2 w0 ws w g m) (hr : Kd.C (Kd.int .i64) w A l.length l) (hc : l.length ≤ c) (hf : ∀ ad, A = some ad → 0 < l.length → ad.block ≠ g) (hl : 0 < l.length ∧ l.length ≤ 4294967296) :
    Calls Try.prog 63 #[.pointer (some ⟨g, 0, none⟩), .slice A l.length c] w fun e w' => ∃ r : Int, e = .returned (.int .i64 r) ∧ r ∈ l ∧ Cur2 w0 ws w' g (m + 4) := by
  obtain ⟨⟨⟨b, i, h, h1, h2, h3⟩, hB⟩, hK⟩ := hC
  obtain ⟨i', h', j, hj, e, a, d⟩ := pick_some b i h l ⟨h2, by omega⟩ hl
  refine (spec_l01PickInt.calls g b i h A c l _ i' h' w0 w h1 hB hr hc hf e).mono ?_
  rintro e w' ⟨rfl, k1, k2, k3⟩
  exact ⟨_, rfl, List.getElem_mem hj, ⟨⟨b, i', h', k1, a, by omega⟩, k2⟩, hK.trans k3 (.inl rfl)⟩
theorem litN (w : World) (zs : List Int) (q : TypeId) (cs : Array Value) (hcs : cs = (zs.map (Value.int .i64)).toArray) (h0 : 0 < zs.length) (hm : zs.length ≤ 1000) (hwf : ∀ n ∈ zs, (Lit.int .i64 n).wf = true) : ∃ l : List Int, l.length = zs.length ∧ Kd.C (Kd.int .i64) (w.alloc (.cells cs q)) (some ⟨w.heap.size, 0, none⟩) l.length l := by
  obtain ⟨l, h1, h2, _, _, _⟩ := ReadsInt.ofRowC (k := .i64) (w := w.alloc (.cells cs q)) (a := some ⟨w.heap.size, 0, none⟩) (len := zs.length) (cap := zs.length) (zs := zs)
    (Or.inr ⟨⟨w.heap.size, 0, none⟩, rfl, Nat.le_refl _, by unfold maxLen; omega, rfl, fun i hi => by
      rw [Addr.add_lit]
      rw [World.cell?_alloc_at _ _ _ _ rfl, hcs, Nat.zero_add]
      simp [hi], hwf⟩)
  exact ⟨l, h1.symm, Kd.C_of_reads (d := (0 : Int)) (h1 := fun _ => rfl) h2⟩
theorem odd_k {w0 ws w : World} {g : Nat} {m : Int} (hm : m ≤ 1900000) (hC : Cur2 w0 ws w g m) :
    Calls Try.prog 57 #[.pointer (some ⟨g, 0, none⟩)] w fun e w' => ∃ z : Nat, e = .returned (.float .f64 z) ∧ Cur2 w0 ws w' g (m + 8) := by
  have C0 := Lib.hid hC
  obtain ⟨l1, l2, l3⟩ := lit_some
  have i0 := int0
  clear hC
  go_enter Try.func57, Try.ntmps57
  go_wp2_with fail
  refine (below_k 2 (by omega) (by omega) C0.out).mono ?_
  rintro e w1 ⟨r1, rfl, _, _, hC1⟩
  have C1 := Lib.hid hC1
  clear hC1
  go_wp2_with fail
  refine (below_k 8 (by omega) (by omega) C1.out).mono ?_
  rintro e w2 ⟨r2, rfl, _, _, hC2⟩
  have C2 := Lib.hid (hC2.mono (show m + 4 + 4 ≤ m + 8 by omega))
  clear hC2
  go_wp2_with fail
  all_goals go_ret
  all_goals exact ⟨_, rfl, by first | exact C2.out | exact C2.out.drew⟩
set_option maxRecDepth 100000 in
theorem real_k {w0 ws w : World} {g : Nat} {m : Int} (n : Int) (hn0 : 0 ≤ n) (hn : n ≤ 100000) (hm : m ≤ 1800000) (hC : Cur2 w0 ws w g m) :
    Calls Try.prog 56 #[.pointer (some ⟨g, 0, none⟩), .int .i64 n] w fun e w' => ∃ z : Nat, e = .returned (.float .f64 z) ∧ Cur2 w0 ws w' g (m + 20) := by
  have C0 := Lib.hid hC
  have w8 : wrap64 (wrap64 (n * 8) + 1) = n * 8 + 1 := by unfold wrap64; omega
  have w9 : wrap64 (wrap64 (n * 1000) + 1) = n * 1000 + 1 := by unfold wrap64; omega
  clear hC
  go_enter Try.func56, Try.ntmps56
  go_wp2_with fail
  refine (once_k 40 (by omega) (by omega) C0.out).mono ?_
  rintro e w1 ⟨r1, rfl, hC1⟩
  have C1 := Lib.hid hC1
  clear hC1
  cases r1
  · go_wp2_with fail
    try rw [w8]
    refine (below_k (n * 8 + 1) (by omega) (by omega) C1.out).mono ?_
    rintro e w2 ⟨r2, rfl, a2, b2, hC2⟩
    have q2 := quo_lit (int_num r2 (by omega) (by omega)) (y := 4620693217682128896) (by decide +kernel)
    have C2 := Lib.hid hC2
    clear hC2
    go_wp2_with fail
    refine (once_k 2 (by omega) (by omega) C2.out).mono ?_
    rintro e w3 ⟨r3, rfl, hC3⟩
    have C3 := Lib.hid hC3
    clear hC3
    cases r3
    · go_wp2_with fail
      refine (once_k 2 (by omega) (by omega) C3.out).mono ?_
      rintro e w4 ⟨r4, rfl, hC4⟩
      have C4 := Lib.hid hC4
      clear hC4
      go_wp2_with fail
      all_goals go_ret
      all_goals exact ⟨_, rfl, C4.out.mono (by omega)⟩
    · go_wp2_with fail
      try rw [w9]
      refine (below_k (n * 1000 + 1) (by omega) (by omega) C3.out).mono ?_
      rintro e w5 ⟨r5, rfl, a5, b5, hC5⟩
      have q5 := quo_lit (int_num r5 (by omega) (by omega)) (y := 4652007308841189376) (by decide +kernel)
      have C5 := Lib.hid hC5
      clear hC5
      go_wp2_with fail
      refine (once_k 2 (by omega) (by omega) C5.out).mono ?_
      rintro e w4 ⟨r4, rfl, hC4⟩
      have C4 := Lib.hid hC4
      clear hC4
      go_wp2_with fail
      all_goals go_ret
      all_goals exact ⟨_, rfl, C4.out.mono (by omega)⟩
  · go_wp2_with fail
    refine (odd_k (by omega) C1.out).mono ?_
    rintro e w2 ⟨z, rfl, hC2⟩
    have C2 := Lib.hid hC2
    clear hC2
    go_wp2_with fail
    go_ret
    exact ⟨_, rfl, C2.out.mono (by omega)⟩
set_option maxRecDepth 100000 in
theorem vector_k {w0 ws w : World} {g : Nat} {m : Int} (n : Int) (hn0 : 0 ≤ n) (hn : n ≤ 100000) (hm : m ≤ 1700000) (hC : Cur2 w0 ws w g m) :
    Calls Try.prog 49 #[.pointer (some ⟨g, 0, none⟩), .int .i64 n] w fun e w' => ∃ a b : Nat, e = .returned (.complex .f64 a b) ∧ Cur2 w0 ws w' g (m + 40) := by
  have C0 := Lib.hid hC
  clear hC
  go_enter Try.func49, Try.ntmps49
  go_wp2_with fail
  refine (real_k n hn0 hn (by omega) C0.out).mono ?_
  rintro e w1 ⟨z, rfl, hC1⟩
  have C1 := Lib.hid hC1
  clear hC1
  go_wp2_with fail
  refine (real_k n hn0 hn (by omega) C1.out).mono ?_
  rintro e w2 ⟨z2, rfl, hC2⟩
  have C2 := Lib.hid hC2
  clear hC2
  go_wp2_with fail
  go_ret
  exact ⟨_, _, rfl, C2.out.mono (by omega)⟩
theorem run_any_choose {P : Program} (q : Question) (w : World) : ∃ n w', (choose q).run P w = .ok n w' ∧ (w' = w ∨ w' = w.drew) := by
  rw [run_choose_drew]
  split
  · exact ⟨_, _, rfl, Or.inl rfl⟩
  · exact ⟨_, _, rfl, Or.inr rfl⟩
/-- a narrowing, whatever it comes to -/
theorem narrow_any (src dst : TypeId) (z : Nat) (hs : (Try.prog.underlying src).isSome = true) (hd : Try.prog.underlying dst = some (.float .f32)) (w : World) : ∃ y w', (convert src dst (.float .f64 z)).run Try.prog w = .ok (.float .f32 y) w' ∧ (w' = w ∨ w' = w.drew) := by
  by_cases hf : (floatToFloatBits .f64 z .f32).isSome = true
  · exact ⟨_, _, run_cv w src dst .f64 .f32 z hs hd hf, Or.inl rfl⟩
  · obtain ⟨u, hs'⟩ := Option.isSome_iff_exists.1 hs
    have key : ∃ y w', (Conv.floatToFloat .f64 z .f32).run Try.prog w = .ok (.float .f32 y) w' ∧ (w' = w ∨ w' = w.drew) := by
      unfold Conv.floatToFloat
      rw [if_neg (by decide)]
      cases hx : FloatKind.f64.decode z with
      | nan s t =>
        obtain ⟨n, w', h1, h2⟩ := run_any_choose (P := Try.prog) (.nanConv .f32 z) w
        exact ⟨n, w', by simp only [Sem.run_bind, h1, Result.andThen]; rfl, h2⟩
      | infinity s => exact ⟨_, _, rfl, Or.inl rfl⟩
      | number s m e =>
        dsimp only
        split
        · obtain ⟨n, w', h1, h2⟩ := run_any_choose (P := Try.prog) (.floatToFloat z) w
          exact ⟨n, w', by simp only [Sem.run_bind, h1, Result.andThen]; rfl, h2⟩
        · exact ⟨_, _, rfl, Or.inl rfl⟩
    obtain ⟨y, w', h1, h2⟩ := key
    refine ⟨y, w', ?_, h2⟩
    rw [← h1]
    cases u <;> simp [convert, run_underlying hs', run_underlying hd]
set_option maxRecDepth 100000 in
theorem single_k {w0 ws w : World} {g : Nat} {m : Int} (n : Int) (hn0 : 0 ≤ n) (hn : n ≤ 100000) (hm : m ≤ 1800000) (hC : Cur2 w0 ws w g m) :
    Calls Try.prog 64 #[.pointer (some ⟨g, 0, none⟩), .int .i64 n] w fun e w' => ∃ z : Nat, e = .returned (.float .f32 z) ∧ Cur2 w0 ws w' g (m + 20) := by
  have C0 := Lib.hid hC
  clear hC
  go_enter Try.func64, Try.ntmps64
  go_wp2_with fail
  refine (real_k n hn0 hn hm C0.out).mono ?_
  rintro e w1 ⟨z, rfl, hC1⟩
  have C1 := Lib.hid hC1
  clear hC1
  go_wp2_with fail
  obtain ⟨y, w2, h1, h2⟩ := narrow_any 22 54 z (by kernel_rfl) Try.underlying54 w1
  rw [h1]
  dsimp only [Result.andThen]
  have C2 := Lib.hid (Cur2.or C1.out h2)
  clear h1 h2
  go_wp2_with fail
  go_ret
  exact ⟨_, rfl, C2.out⟩
theorem int_num32 (n : Int) (h1 : -1000 ≤ n) (h2 : n ≤ 1000) : Num FloatKind.f32.format (floatOfInt .f32 n) := (ofInt (k := .f32) (n := n) (e := 10) (by simp <;> omega) (by simp; omega) (by decide +kernel)).1.num
theorem quo16 {x : Nat} (hx : Num FloatKind.f32.format x) : (floatBits .quo .f32 x 1098907648).isSome = true := by
  have h : FloatKind.f32.format.read 1098907648 = .number false 8388608 (-19) := by decide +kernel
  exact Sm.isSome_quo hx ⟨_, _, _, h⟩ (Or.inl (by rw [ne_eq, V_zero h]; decide))
set_option maxRecDepth 100000 in
theorem air_k {w0 ws w : World} {g : Nat} {m : Int} (hm : m ≤ 1700000) (hC : Cur2 w0 ws w g m) :
    Calls Try.prog 33 #[.pointer (some ⟨g, 0, none⟩)] w fun e w' => ∃ a b : Nat, e = .returned (.complex .f32 a b) ∧ Cur2 w0 ws w' g (m + 60) := by
  have C0 := Lib.hid hC
  clear hC
  go_enter Try.func33, Try.ntmps33
  go_wp2_with fail
  refine (once_k 30 (by omega) (by omega) C0.out).mono ?_
  rintro e w1 ⟨r, rfl, hC1⟩
  have C1 := Lib.hid hC1
  clear hC1
  cases r
  · go_wp2_with fail
    refine (once_k 20 (by omega) (by omega) C1.out).mono ?_
    rintro e w2 ⟨r, rfl, hC2⟩
    have C2 := Lib.hid hC2
    clear hC2
    cases r
    · go_wp2_with fail
      refine (single_k 15 (by omega) (by omega) (by omega) C2.out).mono ?_
      rintro e w3 ⟨x, rfl, hC3⟩
      have C3 := Lib.hid hC3
      clear hC3
      go_wp2_with fail
      refine (single_k 15 (by omega) (by omega) (by omega) C3.out).mono ?_
      rintro e w4 ⟨y, rfl, hC4⟩
      have C4 := Lib.hid hC4
      clear hC4
      go_wp2_with fail
      go_ret
      exact ⟨_, _, rfl, C4.out.mono (by omega)⟩
    · go_wp2_with fail
      obtain ⟨l, hl4, hL⟩ := litN w2 [100, -100, 101, 0] 3 #[.int .i64 100, .int .i64 (-100), .int .i64 101, .int .i64 0] rfl (by decide) (by decide) (by decide)
      have hgl := C2.out.lt
      have hp := pick_k (by omega) (C2.out.alloc (.cells #[.int .i64 100, .int .i64 (-100), .int .i64 101, .int .i64 0] 3)) hL (c := 4) (by rw [hl4]; decide) (fun ad e _ => by cases e; exact Nat.ne_of_gt hgl) (by rw [hl4]; decide)
      rw [hl4] at hp
      refine hp.mono ?_
      clear hp hL hgl hl4
      rintro e w3 ⟨x, rfl, _, hC3⟩
      have C3 := Lib.hid hC3
      clear hC3
      go_wp2_with fail
      refine (single_k 100 (by omega) (by omega) (by omega) C3.out).mono ?_
      rintro e w4 ⟨y, rfl, hC4⟩
      have C4 := Lib.hid hC4
      clear hC4
      go_wp2_with fail
      go_ret
      exact ⟨_, _, rfl, C4.out.mono (by omega)⟩
  · go_wp2_with fail
    refine (odd_k (by omega) C1.out).mono ?_
    rintro e w2 ⟨z2, rfl, hC2⟩
    have C2 := Lib.hid hC2
    clear hC2
    go_wp2_with fail
    obtain ⟨y2, w2n, h1, h2⟩ := narrow_any 22 54 z2 (by kernel_rfl) Try.underlying54 w2
    rw [h1]
    dsimp only [Result.andThen]
    have D2 := Lib.hid (Cur2.or C2.out h2)
    clear h1 h2
    go_wp2_with fail
    refine (odd_k (by omega) D2.out).mono ?_
    rintro e w3 ⟨z3, rfl, hC3⟩
    have C3 := Lib.hid hC3
    clear hC3
    go_wp2_with fail
    obtain ⟨y3, w3n, h1, h2⟩ := narrow_any 22 54 z3 (by kernel_rfl) Try.underlying54 w3
    rw [h1]
    dsimp only [Result.andThen]
    have D3 := Lib.hid (Cur2.or C3.out h2)
    clear h1 h2
    go_wp2_with fail
    go_ret
    exact ⟨_, _, rfl, D3.out.mono (by omega)⟩
end Go.Proofs.Ytjohpjmfnghkoaa.Dw
