/- What is drawn, told of calls: the cursor's place is bounded; floats may be any. -/
import Derived.Test.YtjohpjmfnghkoaaHn1
import Derived.Test.YtjohpjmfnghkoaaInt
namespace Go.Proofs.Ytjohpjmfnghkoaa.Hnd
open Go.RowKit Kit Fl Bd It Go.Proofs.YtjohpjmfnghkoaaW.PrintWords Go.Proofs.YtjohpjmfnghkoaaW.PrintLast Go.Proofs.YtjohpjmfnghkoaaW.PrintMore PFnHighNearest

theorem w64 {n : Int} (h1 : -9000000000000000000 ≤ n) (h2 : n ≤ 9000000000000000000) : wrap64 n = n := by unfold wrap64; omega

/-! ### what is drawn -/
theorem new_loop (l : List Int) (hl : l.length ≤ 1048576) : ∀ (d k i : Nat) (h : Int), i + d = l.length → d < k → ∃ h', spec_l01New.l0 k l h i = some (l, 0, h') := by
  intro d
  induction d with
  | zero =>
    intro k i h hi hk
    obtain ⟨k, rfl⟩ : ∃ m, k = m + 1 := ⟨k - 1, by omega⟩
    simp only [spec_l01New.l0]
    rw [if_neg (by omega)]
    exact ⟨_, rfl⟩
  | succ d ih =>
    intro k i h hi hk
    obtain ⟨k, rfl⟩ : ∃ m, k = m + 1 := ⟨k - 1, by omega⟩
    simp only [spec_l01New.l0]
    rw [if_pos (by omega)]
    split
    · rw [if_pos (by omega), w64 (n := (i : Int) + 1) (by omega) (by omega)]
      exact ih k (i + 1) _ (by omega) (by omega)
    · exact ⟨_, rfl⟩
theorem new_some (l : List Int) (hl : l.length ≤ 1048576) (k : Nat) (hk : l.length < k) : ∃ h, spec_l01New.f k l = some (l, 0, h) := by
  unfold spec_l01New.f
  exact new_loop l hl l.length k 0 _ (by omega) hk
theorem bits_and (x n : Int) (hn : 0 ≤ n) (hn2 : n ≤ 9223372036854775807) : 0 ≤ Go.bits .and .i64 x n ∧ Go.bits .and .i64 x n ≤ n := by
  obtain ⟨m, rfl⟩ := Int.eq_ofNat_of_zero_le hn
  have hm : m < 2 ^ 63 := by omega
  unfold Go.bits
  simp only []
  have hb : (BitVec.ofInt IntKind.i64.bits x &&& BitVec.ofInt IntKind.i64.bits (m : Int)).toNat ≤ m := by
    rw [BitVec.toNat_and]
    refine Nat.le_trans Nat.and_le_right ?_
    simp [IntKind.bits]
    omega
  generalize (BitVec.ofInt IntKind.i64.bits x &&& BitVec.ofInt IntKind.i64.bits (m : Int)) = v at *
  have hv : (v.toNat : Int) ≤ m := by exact_mod_cast hb
  rw [IntKind.wrap_i64]
  omega

/-- A cursor: the bytes, a place within them or behind. -/
theorem byte_some (l : List Int) (i h : Int) (hi : 0 ≤ i ∧ i ≤ 2097152) : ∃ x i' h', spec_l01Byte.f l i h = some (x, i', h') ∧ 0 ≤ i' ∧ i' ≤ i + 1 ∧ 0 ≤ x ∧ x ≤ 255 := by
  unfold spec_l01Byte.f
  split
  · rw [if_pos hi.1]
    exact ⟨_, _, _, rfl, by rw [w64 (by omega) (by omega)]; omega, by rw [w64 (by omega) (by omega)]; omega, bits_and _ _ (by omega) (by omega)⟩
  · exact ⟨_, _, _, rfl, hi.1, by omega, bits_and _ _ (by omega) (by omega)⟩
theorem below_some (l : List Int) (i h n : Int) (hi : 0 ≤ i ∧ i ≤ 2000000) (hn : n ≤ 4294967296) : ∃ x i' h', spec_l01Below.f l i h n = some (x, i', h') ∧ 0 ≤ i' ∧ i' ≤ i + 4 ∧ 0 ≤ x ∧ (0 < n → x < n) ∧ x ≤ 4294967295 := by
  unfold spec_l01Below.f
  split
  · exact ⟨_, _, _, rfl, hi.1, by omega, by omega, by omega, by omega⟩
  · split
    · obtain ⟨x, j, g, e, j0, j1, x0, x1⟩ := byte_some l i h (by omega)
      rw [e, Option.bind_some, if_neg (by omega)]
      refine ⟨_, _, _, rfl, j0, by simp only []; omega, ?_, ?_, ?_⟩
      · rw [Int.tmod_eq_emod_of_nonneg x0]; exact Int.emod_nonneg _ (by omega)
      · intro _; rw [Int.tmod_eq_emod_of_nonneg x0]; exact Int.emod_lt_of_pos _ (by omega)
      · rw [Int.tmod_eq_emod_of_nonneg x0]; have := Int.emod_lt_of_pos x (show 0 < n by omega); omega
    · obtain ⟨x1, j1, g1, e1, a1, b1, c1, d1⟩ := byte_some l i h (by omega)
      obtain ⟨x2, j2, g2, e2, a2, b2, c2, d2⟩ := byte_some l j1 g1 (by omega)
      obtain ⟨x3, j3, g3, e3, a3, b3, c3, d3⟩ := byte_some l j2 g2 (by omega)
      obtain ⟨x4, j4, g4, e4, a4, b4, c4, d4⟩ := byte_some l j3 g3 (by omega)
      rw [e1, Option.bind_some, e2, Option.bind_some, e3, Option.bind_some, e4, Option.bind_some, if_neg (by omega)]
      have hx : wrap64 (wrap64 (wrap64 (wrap64 (x1 * 16777216) + wrap64 (x2 * 65536)) + wrap64 (x3 * 256)) + x4) = x1 * 16777216 + x2 * 65536 + x3 * 256 + x4 := by
        rw [w64 (n := x1 * 16777216) (by omega) (by omega), w64 (n := x2 * 65536) (by omega) (by omega), w64 (n := x3 * 256) (by omega) (by omega), w64 (n := x1 * 16777216 + x2 * 65536) (by omega) (by omega), w64 (n := x1 * 16777216 + x2 * 65536 + x3 * 256) (by omega) (by omega), w64 (by omega) (by omega)]
      refine ⟨_, _, _, rfl, a4, by simp only []; omega, ?_, ?_, ?_⟩
      · simp only []
        rw [hx, Int.tmod_eq_emod_of_nonneg (by omega)]; exact Int.emod_nonneg _ (by omega)
      · intro _; simp only []; rw [hx, Int.tmod_eq_emod_of_nonneg (by omega)]; exact Int.emod_lt_of_pos _ (by omega)
      · simp only []; rw [hx, Int.tmod_eq_emod_of_nonneg (by omega)]
        have := Int.emod_lt_of_pos (x1 * 16777216 + x2 * 65536 + x3 * 256 + x4) (show 0 < n by omega); omega

theorem once_some (l : List Int) (i h n : Int) (hi : 0 ≤ i ∧ i ≤ 2000000) (hn : n ≤ 4294967296) : ∃ x i' h', spec_l01Once.f l i h n = some (x, i', h') ∧ 0 ≤ i' ∧ i' ≤ i + 4 := by
  obtain ⟨x, j, g, e, a, b, _⟩ := below_some l i h n hi hn
  unfold spec_l01Once.f
  rw [e, Option.bind_some]
  exact ⟨_, _, _, rfl, a, b⟩

theorem pick_some (l : List Int) (i h : Int) (q : List Int) (hi : 0 ≤ i ∧ i ≤ 2000000) (hq : 0 < q.length ∧ q.length ≤ 4294967296) : ∃ i' h', ∃ j : Nat, ∃ hj : j < q.length, spec_l01PickInt.f l i h q = some (q[j], i', h') ∧ 0 ≤ i' ∧ i' ≤ i + 4 := by
  obtain ⟨x, j, g, e, a, b, c, d, _⟩ := below_some l i h q.length hi (by omega)
  have d' := d (by omega)
  unfold spec_l01PickInt.f
  rw [e, Option.bind_some, if_pos c, if_pos d']
  have hx : x.toNat < q.length := by omega
  refine ⟨_, _, x.toNat, hx, by unfold rd; rw [List.getD_eq_getElem?_getD, List.getElem?_eq_getElem hx]; rfl, a, b⟩

theorem number_some (l : List Int) (i h : Int) (hi : 0 ≤ i ∧ i ≤ 1900000) : ∃ x i' h', spec_l01Number.f l i h = some (x, i', h') ∧ 0 ≤ i' ∧ i' ≤ i + 8 := by
  obtain ⟨x, j, g, e, a, b, _⟩ := below_some l i h 4 (by omega) (by omega)
  unfold spec_l01Number.f
  rw [e, Option.bind_some]
  split
  · obtain ⟨i', h', _, _, e2, a2, b2⟩ := pick_some l j g [-1, 0, 127, 128, 16383, 16384, 1000000000, 1000000001, 9223372036854775807, -9223372036854775808] (by omega) (by simp)
    rw [e2, Option.bind_some]; exact ⟨_, _, _, rfl, a2, by simp only []; omega⟩
  · split
    · obtain ⟨x2, i', h', e2, a2, b2, _⟩ := below_some l j g 1000000000 (by omega) (by omega)
      rw [e2, Option.bind_some]; exact ⟨_, _, _, rfl, a2, by simp only []; omega⟩
    · obtain ⟨x2, i', h', e2, a2, b2, _⟩ := below_some l j g 400 (by omega) (by omega)
      rw [e2, Option.bind_some]; exact ⟨_, _, _, rfl, a2, by simp only []; omega⟩


/-- a cursor at g in the world w (rooted in w0), whose place is m at most -/
def Cur (w0 w : World) (g : Nat) (m : Int) : Prop := (∃ b i h, IsS86 w0 w g b i h ∧ 0 ≤ i ∧ i ≤ m) ∧ Below w0.heap.size w0 w
theorem Cur.below {w0 w : World} {g : Nat} {m : Int} (h : Cur w0 w g m) : Below w0.heap.size w0 w := h.2
theorem Cur.mono {w0 w : World} {g : Nat} {m n : Int} (h : Cur w0 w g m) (hm : m ≤ n) : Cur w0 w g n := by
  obtain ⟨⟨b, i, k, h1, h2, h3⟩, h4⟩ := h
  exact ⟨⟨b, i, k, h1, h2, by omega⟩, h4⟩
theorem Cur.drew {w0 w : World} {g : Nat} {m : Int} (h : Cur w0 w g m) : Cur w0 w.drew g m := ⟨h.1, h.2.drew⟩
/-- an invalid operation gives a NaN, drawn -/
def nd (k : FloatKind) (x y : Nat) (w : World) : Nat := (Question.nanBits k x y).cut (w.tape w.drawn (.nanBits k x y))
theorem run_none_quo (t : TypeId) (k : FloatKind) (x y : Nat) (h : (floatBits .quo k x y).isSome = false) (w : World) : (binOp .quo t (.float k x) (.float k y)).run Try.prog w = .ok (.float k (nd k x y w)) w.drew := by
  have hn : k.format.div x y = none := by simpa [floatBits] using h
  simp [binOp, Op.floatArith, hn, nd]
  intro hf
  cases hf
theorem run_none_mul (t : TypeId) (k : FloatKind) (x y : Nat) (h : (floatBits .mul k x y).isSome = false) (w : World) : (binOp .mul t (.float k x) (.float k y)).run Try.prog w = .ok (.float k (nd k x y w)) w.drew := by
  have hn : k.format.mul x y = none := by simpa [floatBits] using h
  simp [binOp, Op.floatArith, hn, nd]
  intro hf
  cases hf
attribute [go_sem] run_none_quo run_none_mul
theorem below_call {w0 w : World} {g : Nat} {m : Int} (n : Int) (hn : n ≤ 4294967296) (hm : m ≤ 2000000) (hC : Cur w0 w g m) :
    Calls Try.prog 34 #[.pointer (some ⟨g, 0, none⟩), .int .i64 n] w fun e w' => ∃ r : Int, e = .returned (.int .i64 r) ∧ 0 ≤ r ∧ (0 < n → r < n) ∧ Cur w0 w' g (m + 4) ∧ KeepBut w w' g none := by
  obtain ⟨⟨b, i, h, h1, h2, h3⟩, hB⟩ := hC
  obtain ⟨x, i', h', e, a, c, d, f, _⟩ := below_some b i h n ⟨h2, by omega⟩ hn
  refine (spec_l01Below.calls g b i h n x i' h' w0 w h1 hB e).mono ?_
  rintro e w' ⟨rfl, k1, k2, k3⟩
  exact ⟨x, rfl, d, f, ⟨⟨b, i', h', k1, a, by omega⟩, k2⟩, k3⟩

theorem once_call {w0 w : World} {g : Nat} {m : Int} (n : Int) (hn : n ≤ 4294967296) (hm : m ≤ 2000000) (hC : Cur w0 w g m) :
    Calls Try.prog 32 #[.pointer (some ⟨g, 0, none⟩), .int .i64 n] w fun e w' => ∃ r : Bool, e = .returned (.bool r) ∧ Cur w0 w' g (m + 4) ∧ KeepBut w w' g none := by
  obtain ⟨⟨b, i, h, h1, h2, h3⟩, hB⟩ := hC
  obtain ⟨x, i', h', e, a, c⟩ := once_some b i h n ⟨h2, by omega⟩ hn
  refine (spec_l01Once.calls g b i h n x i' h' w0 w h1 hB e).mono ?_
  rintro e w' ⟨rfl, k1, k2, k3⟩
  exact ⟨x, rfl, ⟨⟨b, i', h', k1, a, by omega⟩, k2⟩, k3⟩
theorem new_call {w0 w : World} {A0 : Option Addr} {c0 : Nat} {l0 : List Int} (hB : Below w0.heap.size w0 w) (hr0 : Kd.C (Kd.int .u8) w0 A0 l0.length l0) (hc0 : l0.length ≤ c0) (hl : l0.length ≤ 1048576) :
    Calls Try.prog 30 #[.slice A0 l0.length c0] w fun e w' => ∃ g : Nat, e = .returned (.pointer (some ⟨g, 0, none⟩)) ∧ Cur w0 w' g 0 ∧ Below w.heap.size w w' := by
  obtain ⟨h, e⟩ := new_some l0 hl (l0.length + 1) (by omega)
  refine (spec_l01New.calls (l0.length + 1) A0 c0 l0 l0 0 h w0 w hB hr0 hc0 e).mono ?_
  rintro e w' ⟨g, rfl, k1, k2, k3⟩
  exact ⟨g, rfl, ⟨⟨_, _, _, k1, by omega, by omega⟩, k2⟩, k3⟩
theorem lit_some : (floatBits .quo .f64 4607182418800017408 0).isSome = true ∧ (floatBits .quo .f64 13830554455654793216 0).isSome = true ∧ (floatBits .quo .f64 0 0).isSome = false := by decide +kernel
theorem int0 : floatOfInt .f64 0 = 0 := by decide +kernel
theorem odd_call {w0 w : World} {g : Nat} {m : Int} (hm : m ≤ 1900000) (hC : Cur w0 w g m) :
    Calls Try.prog 57 #[.pointer (some ⟨g, 0, none⟩)] w fun e w' => ∃ z : Nat, e = .returned (.float .f64 z) ∧ Cur w0 w' g (m + 8) := by
  have C0 := Lib.hid hC
  obtain ⟨l1, l2, l3⟩ := lit_some
  have i0 := int0
  clear hC
  go_enter Try.func57, Try.ntmps57
  go_wp2_with fail
  refine (below_call 2 (by omega) (by omega) C0.out).mono ?_
  rintro e w1 ⟨r1, rfl, _, _, hC1, _⟩
  have C1 := Lib.hid hC1
  clear hC1
  go_wp2_with fail
  refine (below_call 8 (by omega) (by omega) C1.out).mono ?_
  rintro e w2 ⟨r2, rfl, _, _, hC2, _⟩
  have C2 := Lib.hid (hC2.mono (show m + 4 + 4 ≤ m + 8 by omega))
  clear hC2
  go_wp2_with fail
  all_goals go_ret
  all_goals exact ⟨_, rfl, by first | exact C2.out | exact C2.out.drew⟩
theorem int_num (n : Int) (h1 : -9007199254740992 ≤ n) (h2 : n ≤ 9007199254740992) : Num FloatKind.f64.format (floatOfInt .f64 n) := (ofInt (k := .f64) (n := n) (e := 53) (by simp <;> omega) (by simp; omega) (by decide +kernel)).1.num
theorem quo_lit {x y : Nat} (hx : Num FloatKind.f64.format x) (hy : (match FloatKind.f64.format.read y with | .number _ m _ => m != 0 | _ => false) = true) : (floatBits .quo .f64 x y).isSome = true := by
  cases h : FloatKind.f64.format.read y with
  | nan s t => rw [h] at hy; cases hy
  | infinity s => rw [h] at hy; cases hy
  | number s m e =>
    rw [h] at hy
    exact Sm.isSome_quo hx ⟨_, _, _, h⟩ (Or.inl (by rw [ne_eq, V_zero h]; simpa using hy))
theorem real_call {w0 w : World} {g : Nat} {m : Int} (n : Int) (hn0 : 0 ≤ n) (hn : n ≤ 100000) (hm : m ≤ 1800000) (hC : Cur w0 w g m) :
    Calls Try.prog 56 #[.pointer (some ⟨g, 0, none⟩), .int .i64 n] w fun e w' => ∃ z : Nat, e = .returned (.float .f64 z) ∧ Cur w0 w' g (m + 20) := by
  have C0 := Lib.hid hC
  have w8 : wrap64 (wrap64 (n * 8) + 1) = n * 8 + 1 := by unfold wrap64; omega
  have w9 : wrap64 (wrap64 (n * 1000) + 1) = n * 1000 + 1 := by unfold wrap64; omega
  clear hC
  go_enter Try.func56, Try.ntmps56
  go_wp2_with fail
  refine (once_call 40 (by omega) (by omega) C0.out).mono ?_
  rintro e w1 ⟨r1, rfl, hC1, _⟩
  have C1 := Lib.hid hC1
  clear hC1
  cases r1
  · go_wp2_with fail
    try rw [w8]
    refine (below_call (n * 8 + 1) (by omega) (by omega) C1.out).mono ?_
    rintro e w2 ⟨r2, rfl, a2, b2, hC2, _⟩
    have q2 := quo_lit (int_num r2 (by omega) (by omega)) (y := 4620693217682128896) (by decide +kernel)
    have C2 := Lib.hid hC2
    clear hC2
    go_wp2_with fail
    refine (once_call 2 (by omega) (by omega) C2.out).mono ?_
    rintro e w3 ⟨r3, rfl, hC3, _⟩
    have C3 := Lib.hid hC3
    clear hC3
    cases r3
    · go_wp2_with fail
      refine (once_call 2 (by omega) (by omega) C3.out).mono ?_
      rintro e w4 ⟨r4, rfl, hC4, _⟩
      have C4 := Lib.hid hC4
      clear hC4
      go_wp2_with fail
      all_goals go_ret
      all_goals exact ⟨_, rfl, C4.out.mono (by omega)⟩
    · go_wp2_with fail
      try rw [w9]
      refine (below_call (n * 1000 + 1) (by omega) (by omega) C3.out).mono ?_
      rintro e w5 ⟨r5, rfl, a5, b5, hC5, _⟩
      have q5 := quo_lit (int_num r5 (by omega) (by omega)) (y := 4652007308841189376) (by decide +kernel)
      have C5 := Lib.hid hC5
      clear hC5
      go_wp2_with fail
      refine (once_call 2 (by omega) (by omega) C5.out).mono ?_
      rintro e w4 ⟨r4, rfl, hC4, _⟩
      have C4 := Lib.hid hC4
      clear hC4
      go_wp2_with fail
      all_goals go_ret
      all_goals exact ⟨_, rfl, C4.out.mono (by omega)⟩
  · go_wp2_with fail
    refine (odd_call (by omega) C1.out).mono ?_
    rintro e w2 ⟨z, rfl, hC2⟩
    have C2 := Lib.hid hC2
    clear hC2
    go_wp2_with fail
    go_ret
    exact ⟨_, rfl, C2.out.mono (by omega)⟩
end Go.Proofs.Ytjohpjmfnghkoaa.Hnd
