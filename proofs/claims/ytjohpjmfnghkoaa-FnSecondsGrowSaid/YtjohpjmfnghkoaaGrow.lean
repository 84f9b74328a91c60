/- Half of a way takes no more time than all of it: the drawn law walked. -/
import Derived.Test.YtjohpjmfnghkoaaSgD
import Derived.Test.YtjohpjmfnghkoaaSec
import Derived.Test.YtjohpjmfnghkoaaMon
namespace Go.Proofs.Ytjohpjmfnghkoaa.Gw
open Go.RowKit Kit Fl Bd It Sc Mn Sgd Go.Proofs.YtjohpjmfnghkoaaW.PrintWords Go.Proofs.YtjohpjmfnghkoaaW.PrintLast Go.Proofs.YtjohpjmfnghkoaaW.PrintMore PFnSecondsGrow
theorem draw_call {w0 w : World} {A0 : Option Addr} {c0 : Nat} {l0 : List Int} (hB : Below w0.heap.size w0 w) (hr0 : Kd.C (Kd.int .u8) w0 A0 l0.length l0) (hc0 : l0.length ≤ c0) (hl : l0.length ≤ 1048576) :
    Calls Try.prog 23 #[.slice A0 l0.length c0] w fun e w' => ∃ x y : Nat, e = .returned (.tuple #[.float .f64 x, .float .f64 y]) ∧ Below w0.heap.size w0 w' := by
  have HB := Lib.hid hB
  have HR := Lib.hid hr0
  clear hB hr0
  go_enter Try.func23, Try.ntmps23
  go_wp2_with fail
  refine (new_call HB.out HR.out hc0 hl).mono ?_
  rintro e w1 ⟨g, rfl, hC1, _⟩
  have C1 := Lib.hid hC1
  clear hC1
  go_wp2_with fail
  refine (real_call 30000 (by omega) (by omega) (by omega) C1.out).mono ?_
  rintro e w2 ⟨x, rfl, hC2⟩
  have C2 := Lib.hid hC2
  clear hC2
  go_wp2_with fail
  refine (real_call 12 (by omega) (by omega) (by omega) C2.out).mono ?_
  rintro e w3 ⟨y, rfl, hC3⟩
  have C3 := Lib.hid hC3
  clear hC3
  go_wp2_with fail
  refine (below_call 8 (by omega) (by omega) C3.out).mono ?_
  rintro e w4 ⟨r, rfl, _, _, hC4, _⟩
  have C4 := Lib.hid hC4
  clear hC4
  have q : (floatBits .quo .f64 x 4711630319722168320).isSome = true ∨ (floatBits .quo .f64 x 4711630319722168320).isSome = false := by cases (floatBits .quo .f64 x 4711630319722168320).isSome <;> simp
  rcases q with q | q
  all_goals go_wp2_with (go_at_call 34; refine (below_call 1000 (by omega) (by omega) C4.out).mono ?_; rintro e w5 ⟨k, rfl, _, _, hC5, _⟩; have C5 := Lib.hid hC5; clear hC5; have p : (floatBits .mul .f64 y (floatOfInt .f64 k)).isSome = true ∨ (floatBits .mul .f64 y (floatOfInt .f64 k)).isSome = false := by (cases (floatBits .mul .f64 y (floatOfInt .f64 k)).isSome <;> simp))
  all_goals first
    | (go_ret2; exact ⟨_, _, rfl, by first | exact C4.out.below | exact C4.out.below.drew⟩)
    | (refine (odd_call (by omega) C4.out).mono ?_
       rintro e w5 ⟨z, rfl, hC5⟩
       have C5 := Lib.hid hC5.below
       clear hC5
       go_wp2_with fail
       go_ret2
       exact ⟨_, _, rfl, C5.out⟩)
    | (rcases p with p | p
       · rw [run_fl_mul _ _ _ _ _ p]
         dsimp only [Result.andThen]
         go_wp2_with fail
         go_ret2
         exact ⟨_, _, rfl, C5.out.below⟩
       · rw [run_none_mul _ _ _ _ p]
         dsimp only [Result.andThen]
         go_wp2_with fail
         go_ret2
         exact ⟨_, _, rfl, C5.out.below.drew⟩)
/-! ### half of a way -/
theorem read_range {x m : Nat} {s : Bool} {e : Int} (hr : FloatKind.f64.format.read x = .number s m e) : m < 9007199254740992 ∧ -1074 ≤ e := by
  unfold Ieee.Format.read at hr
  simp only [] at hr
  have hB : FloatKind.f64.format.binade = 4503599627370496 := by decide
  have hI : FloatKind.f64.format.infRung = 9218868437227405312 := by decide
  have hL : FloatKind.f64.format.leastPlace = -1074 := by decide
  rw [hB, hI, hL] at hr
  generalize x % FloatKind.f64.format.signWeight = r at hr
  by_cases h1 : r < 4503599627370496
  · rw [if_pos h1] at hr
    simp only [Ieee.Datum.number.injEq] at hr
    omega
  · rw [if_neg h1] at hr
    by_cases h2 : r < 9218868437227405312
    · rw [if_pos h2] at hr
      simp only [Ieee.Datum.number.injEq] at hr
      obtain ⟨_, a, b⟩ := hr
      omega
    · rw [if_neg h2] at hr
      split at hr <;> cases hr
theorem srd_self {x : Nat} (hx : Num FloatKind.f64.format x) : SRd FloatKind.f64.format (V FloatKind.f64.format x) (V FloatKind.f64.format x) := by
  obtain ⟨s, m, e, hr⟩ := hx
  obtain ⟨a, b⟩ := read_range hr
  rw [V_of hr]
  have hb : 9007199254740992 ≤ 2 * FloatKind.f64.format.binade := by decide +kernel
  have hL : FloatKind.f64.format.leastPlace = -1074 := by decide
  exact SRd.self _ s m e (by omega) (by omega)
theorem V2 : V FloatKind.f64.format 4611686018427387904 = 2 := by
  rw [V_of (show FloatKind.f64.format.read 4611686018427387904 = .number false 4503599627370496 (-51) by decide +kernel)]
  have : p2 (-51) * p2 ((51 : Nat) : Int) = 1 := by rw [← p2_add]; exact p2_zero
  rw [p2_nat] at this
  simp only [sval, Bool.false_eq_true, if_false]
  have h2 : ((2 ^ 51 : Nat) : Rat) = 2251799813685248 := by decide +kernel
  rw [h2] at this
  have h3 : ((4503599627370496 : Nat) : Rat) = 2 * 2251799813685248 := by decide +kernel
  rw [h3]
  grind
theorem V8 : V FloatKind.f64.format 4726483295884279808 = 100000000 := by
  rw [V_of (show FloatKind.f64.format.read 4726483295884279808 = .number false 6710886400000000 (-26) by decide +kernel)]
  have : p2 (-26) * p2 ((26 : Nat) : Int) = 1 := by rw [← p2_add]; exact p2_zero
  rw [p2_nat] at this
  simp only [sval, Bool.false_eq_true, if_false]
  have h2 : ((2 ^ 26 : Nat) : Rat) = 67108864 := by decide +kernel
  rw [h2] at this
  have h3 : ((6710886400000000 : Nat) : Rat) = 100000000 * 67108864 := by decide +kernel
  rw [h3]
  grind
theorem num8 : Num FloatKind.f64.format 4726483295884279808 := num_iff.2 (by decide +kernel)
theorem num2 : Num FloatKind.f64.format 4611686018427387904 := num_iff.2 (by decide +kernel)
theorem big27 : p2 ((40 : Nat) : Int) < p2 (reach FloatKind.f64.format) := p2_lt (by decide +kernel)
theorem c40 : p2 ((40 : Nat) : Int) = 1099511627776 := by rw [p2_nat]; decide +kernel
def half (x : Nat) : Nat := fl .quo .f64 x 4611686018427387904
theorem half_facts {x : Nat} (hx : Num FloatKind.f64.format x) (h0 : 0 ≤ V FloatKind.f64.format x) (h1 : V FloatKind.f64.format x ≤ 100000000) :
    (floatBits .quo .f64 x 4611686018427387904).isSome = true ∧ Num FloatKind.f64.format (half x) ∧ 0 ≤ V FloatKind.f64.format (half x) ∧ V FloatKind.f64.format (half x) ≤ V FloatKind.f64.format x := by
  have hb := big27
  rw [c40] at hb
  obtain ⟨z, e1, e2, e3⟩ := div_num (Sm.kx .f64) hx num2 (V FloatKind.f64.format x / 2) (by rw [V2]; grind) (by rw [V2]; decide) (by grind) (by grind)
  have e : half x = z := fl_eq e1
  rw [e]
  refine ⟨Sm.isSome_quo hx num2 (Or.inl (by rw [V2]; decide)), e2, e3.nonneg (by grind), SRd.mono e3 (srd_self hx) (by grind)⟩
theorem grow_facts {x y : Nat} (h : secB x y = true) : (floatBits .quo .f64 x 4611686018427387904).isSome = true ∧ (floatBits .quo .f64 x y).isSome = true ∧ secB (half x) y = true ∧ secN (half x) y ≤ secN x y ∧ 0 ≤ secN x y ∧ secN x y ≤ 10000000 ∧
    (FloatKind.f64.format.order (floatOfInt .f64 (secN x y)) (fl .quo .f64 x y) == some .gt || FloatKind.f64.format.order (floatOfInt .f64 (secN x y)) (fl .quo .f64 x y) == some .eq) = true ∧
    (FloatKind.f64.format.order (floatOfInt .f64 (secN x y - 1)) (fl .quo .f64 x y) == some .lt) = true := by
  have hsec := h
  unfold secB at h
  rw [Bool.and_eq_true, Bool.not_eq_true'] at h
  obtain ⟨hok, hgt⟩ := h
  obtain ⟨f1, f2⟩ := sec_facts hok
  obtain ⟨f3, n, f4, f5, f6, f7, f8, f9⟩ := f2 hgt
  have hz : Num FloatKind.f64.format (fl .quo .f64 x y) := num_iff.2 f3
  have hok' := hok
  simp only [okB, geB, leB, gtB, Bool.and_eq_true, Bool.or_eq_true, beq_iff_eq] at hok'
  obtain ⟨a, b, c, d⟩ := hok'
  have hx : Num FloatKind.f64.format x := num_between num0 num8 a b
  have hy : Num FloatKind.f64.format y := num_iff.2 d
  have vx : 0 ≤ V FloatKind.f64.format x := by
    rw [order_num hx num0, V0] at a
    by_cases h1 : V FloatKind.f64.format x < 0
    · rw [if_pos h1] at a; simp at a
    · grind
  have vx8 : V FloatKind.f64.format x ≤ 100000000 := by
    rw [order_num hx num8, V8] at b
    by_cases h1 : V FloatKind.f64.format x < 100000000
    · grind
    · rw [if_neg h1] at b
      by_cases h2 : V FloatKind.f64.format x = 100000000
      · grind
      · rw [if_neg h2] at b; simp at b
  have vy : 0 < V FloatKind.f64.format y := by
    have h1 := gtr_num hy num0
    rw [c, V0] at h1
    simpa using h1.symm
  have vz : V FloatKind.f64.format (fl .quo .f64 x y) ≤ 10000000 := by
    unfold gtB at hgt
    rw [gtr_num hz num7, V7] at hgt
    simpa [Rat.not_lt] using hgt
  obtain ⟨g1, g2, g3, g4⟩ := half_facts hx vx vx8
  have h24 : (10000000 : Rat) ≤ p2 ((24 : Nat) : Int) := by rw [p2_nat]; decide +kernel
  have hq := quo_small hx hy vx vy hz ((24 : Nat) : Int) (by decide +kernel) (by grind)
  have h27 : p2 (((24 : Nat) : Int) + 3) = 134217728 := by
    rw [show ((24 : Nat) : Int) + 3 = ((27 : Nat) : Int) by rfl, p2_nat]; decide +kernel
  rw [h27] at hq
  have hb := big27
  rw [c40] at hb
  have vy' : V FloatKind.f64.format y ≠ 0 := by grind
  -- the two quotients as numbers
  have q1 : V FloatKind.f64.format x / V FloatKind.f64.format y * V FloatKind.f64.format y = V FloatKind.f64.format x := Rat.div_mul_cancel vy'
  have q2 : V FloatKind.f64.format (half x) / V FloatKind.f64.format y * V FloatKind.f64.format y = V FloatKind.f64.format (half x) := Rat.div_mul_cancel vy'
  generalize V FloatKind.f64.format x / V FloatKind.f64.format y = A at q1
  generalize V FloatKind.f64.format (half x) / V FloatKind.f64.format y = B at q2
  have hAB : B ≤ A := le_of_mul vy (by rw [q1, q2]; exact g4)
  have hA : A ≤ 134217728 := le_of_mul vy (by rw [q1]; exact hq)
  have hB : 0 ≤ B := le_of_mul vy (by rw [q2]; grind)
  obtain ⟨z1, i1, i2, i3⟩ := div_num (Sm.kx .f64) hx hy A q1 vy' (by grind) (by grind)
  obtain ⟨z2, j1, j2, j3⟩ := div_num (Sm.kx .f64) g2 hy B q2 vy' (by grind) (by grind)
  have ez1 : fl .quo .f64 x y = z1 := fl_eq i1
  have ez2 : fl .quo .f64 (half x) y = z2 := fl_eq j1
  have hmono : V FloatKind.f64.format z2 ≤ V FloatKind.f64.format z1 := SRd.mono j3 i3 hAB
  rw [ez1] at vz
  have hok2 : okB (half x) y = true := by
    unfold okB geB leB gtB
    rw [Bool.and_eq_true, Bool.and_eq_true, Bool.and_eq_true, Bool.or_eq_true, Bool.or_eq_true]
    refine ⟨?_, ?_, by simpa using c, d⟩
    · rw [gtr_num g2 num0, eql_num g2 num0, V0]
      simp only [decide_eq_true_eq]
      grind
    · rw [lss_num g2 num8, eql_num g2 num8, V8]
      simp only [decide_eq_true_eq]
      grind
  have hgt2 : gtB (fl .quo .f64 (half x) y) 4711630319722168320 = false := by
    unfold gtB
    rw [ez2, gtr_num j2 num7, V7]
    simp [Rat.not_lt]
    grind
  have hsec2 : secB (half x) y = true := by
    unfold secB; rw [hok2, hgt2]; rfl
  obtain ⟨_, m, m4, m5, m6, m7, m8, m9⟩ := (sec_facts hok2).2 hgt2
  have hN : secN x y = if (n : Rat) < V FloatKind.f64.format (fl .quo .f64 x y) then (n : Int) + 1 else (n : Int) := by
    unfold secN; rw [if_pos hsec]; unfold ti; rw [f9]; rfl
  have hM : secN (half x) y = if (m : Rat) < V FloatKind.f64.format (fl .quo .f64 (half x) y) then (m : Int) + 1 else (m : Int) := by
    unfold secN; rw [if_pos hsec2]; unfold ti; rw [m9]; rfl
  rw [ez1] at f5 f6 hN ⊢
  rw [ez2] at m5 m6 hM
  have hn7 : n ≤ 10000000 := f4
  have hNb : secN x y ≤ 10000000 := by
    rw [hN]
    split
    · rename_i h
      have a : (n : Rat) < ((10000000 : Nat) : Rat) := by grind
      have b : n < 10000000 := by exact_mod_cast a
      omega
    · omega
  have hN0 : 0 ≤ secN x y := by rw [hN]; split <;> omega
  obtain ⟨K, hK⟩ := Int.eq_ofNat_of_zero_le hN0
  have hKb : K ≤ 10000000 := by omega
  have hK1 : V FloatKind.f64.format z1 ≤ (K : Rat) := by
    rw [hK] at hN
    split at hN
    · have : K = n + 1 := by omega
      rw [this]; push_cast; grind
    · have : K = n := by omega
      rw [this]; grind
  have hK2 : (K : Rat) - 1 < V FloatKind.f64.format z1 := by
    rw [hK] at hN
    split at hN
    · have : K = n + 1 := by omega
      rw [this]; push_cast; grind
    · have : K = n := by omega
      rw [this]; grind
  obtain ⟨o1, o2⟩ := ofNat_num K hKb
  refine ⟨g1, f1, hsec2, ?_, hN0, hNb, ?_, ?_⟩
  · have hmn : m ≤ n := by
      have a : (m : Rat) < (n : Rat) + 1 := by grind
      have b : m < n + 1 := by exact_mod_cast a
      omega
    rw [hM, hN]
    by_cases h1 : (m : Rat) < V FloatKind.f64.format z2
    · rw [if_pos h1]
      by_cases h2 : (n : Rat) < V FloatKind.f64.format z1
      · rw [if_pos h2]; omega
      · rw [if_neg h2]
        have : m ≠ n := by intro h; subst h; grind
        omega
    · rw [if_neg h1]
      split <;> omega
  · rw [hK, gtr_num o1 i2, eql_num o1 i2, o2]
    simp only [Bool.or_eq_true, decide_eq_true_eq]
    grind
  · rw [hK]
    cases K with
    | zero =>
      have e0 : floatOfInt .f64 (((0 : Nat) : Int) - 1) = 13830554455654793216 := by decide +kernel
      have hv : V FloatKind.f64.format 13830554455654793216 = -1 := by
        rw [V_of (show FloatKind.f64.format.read 13830554455654793216 = .number true 4503599627370496 (-52) by decide +kernel)]
        have : p2 (-52) * p2 ((52 : Nat) : Int) = 1 := by rw [← p2_add]; exact p2_zero
        rw [p2_nat] at this
        simp only [sval, if_true]
        have h2 : ((2 ^ 52 : Nat) : Rat) = 4503599627370496 := by decide +kernel
        rw [h2] at this
        have h3 : ((4503599627370496 : Nat) : Rat) = 4503599627370496 := by decide +kernel
        rw [h3]
        grind
      rw [e0, lss_num (num_iff.2 (by decide +kernel)) i2, hv]
      simp only [decide_eq_true_eq]
      have : ((0 : Nat) : Rat) = 0 := rfl
      grind
    | succ K =>
      obtain ⟨p1, p2'⟩ := ofNat_num K (by omega)
      rw [show (((K + 1 : Nat) : Int) - 1) = (K : Int) by omega, lss_num p1 i2, p2']
      simp only [decide_eq_true_eq]
      push_cast at hK2
      grind
theorem impl_at (x y : Nat) (n : Int) (b : Bool) (hn : secN x y = n) (hb : secB x y = b) (w : World) : Calls Try.prog 10 #[.float .f64 x, .float .f64 y] w fun e w' => e = .returned (.tuple #[.int .i64 n, .bool b]) ∧ w = w' := by
  subst hn; subst hb; exact impl_SecondsFor x y w
theorem spec_at (x y : Nat) (n : Int) (b : Bool) (hn : secN x y = n) (hb : secB x y = b) (w : World) : Calls Try.prog 9 #[.float .f64 x, .float .f64 y] w fun e w' => e = .returned (.tuple #[.int .i64 n, .bool b]) ∧ Below w.heap.size w w' := by
  subst hn; subst hb; exact spec_SecondsFor x y w
theorem law {w : World} {A0 : Option Addr} {c0 : Nat} {l0 : List Int} (hr0 : Kd.C (Kd.int .u8) w A0 l0.length l0) (hc0 : l0.length ≤ c0) :
    Calls Try.prog 7 #[.slice A0 l0.length c0] w fun e w' => e = .returned (.bool true) ∧ Below w.heap.size w w' := by
  have HR := Lib.hid hr0
  go_enter Try.func7, Try.ntmps7
  go_wp2_with fail
  refine (laws_big.calls A0 c0 l0 (decide ((l0.length : Int) > 1048576)) w hr0 hc0 rfl).mono ?_
  rintro e w1 ⟨rfl, hd⟩
  have B1 := Lib.hid hd.below
  clear hr0 hd
  by_cases hl : (l0.length : Int) > 1048576
  · rw [decide_eq_true hl]
    go_wp2_with fail
    go_ret
    exact ⟨rfl, B1.out⟩
  · rw [decide_eq_false hl]
    go_wp2_with fail
    refine (draw_call B1.out HR.out hc0 (by omega)).mono ?_
    rintro e w2 ⟨x, y, rfl, hB2⟩
    have B2 := Lib.hid hB2
    clear hB2
    cases hs : secB x y
    · have hn : secN x y = 0 := by unfold secN; rw [hs]; rfl
      have HN := Lib.hid (And.intro hn hs)
      clear hn hs
      cases q : (floatBits .quo .f64 x 4611686018427387904).isSome
      · go_wp2_with fail
        refine (impl_at _ _ _ _ HN.out.1 HN.out.2 _).mono ?_
        rintro e w' ⟨rfl, rfl⟩
        go_wp2_with fail
        refine (impl_SecondsFor _ _ _).mono ?_
        rintro e w' ⟨rfl, rfl⟩
        go_wp2_with fail
        refine (spec_at _ _ _ _ HN.out.1 HN.out.2 _).mono ?_
        rintro e w3 ⟨rfl, hb3⟩
        have B3 := Lib.hid (B2.out.drew.trans (hb3.mono B2.out.drew.size))
        clear hb3
        go_wp2_with fail
        go_ret
        exact ⟨rfl, B3.out⟩
      · go_wp2_with fail
        refine (impl_at _ _ _ _ HN.out.1 HN.out.2 _).mono ?_
        rintro e w' ⟨rfl, rfl⟩
        go_wp2_with fail
        refine (impl_SecondsFor _ _ _).mono ?_
        rintro e w' ⟨rfl, rfl⟩
        go_wp2_with fail
        refine (spec_at _ _ _ _ HN.out.1 HN.out.2 _).mono ?_
        rintro e w3 ⟨rfl, hb3⟩
        have B3 := Lib.hid (B2.out.trans (hb3.mono B2.out.size))
        clear hb3
        go_wp2_with fail
        go_ret
        exact ⟨rfl, B3.out⟩
    · obtain ⟨g1, g2, g3, g4, g5, g6, g7, g8⟩ := grow_facts hs
      have hw : wrap64 (secN x y - 1) = secN x y - 1 := by unfold wrap64; omega
      unfold half at g3 g4
      have HN := Lib.hid hs
      have H3 := Lib.hid g3
      clear hs g3 g5 g6
      go_wp2_with fail
      refine (impl_at _ _ _ _ rfl HN.out _).mono ?_
      rintro e w' ⟨rfl, rfl⟩
      go_wp2_with fail
      refine (impl_at _ _ _ _ rfl H3.out _).mono ?_
      rintro e w' ⟨rfl, rfl⟩
      go_wp2_with fail
      refine (spec_at _ _ _ _ rfl HN.out _).mono ?_
      rintro e w3 ⟨rfl, hb3⟩
      have B3 := Lib.hid (B2.out.trans (hb3.mono B2.out.size))
      clear hb3
      go_wp2_with fail
      go_ret
      exact ⟨rfl, B3.out⟩
end Go.Proofs.Ytjohpjmfnghkoaa.Gw
namespace Go.Proofs.Ytjohpjmfnghkoaa.Pure
open Go.RowKit Go.Proofs.YtjohpjmfnghkoaaW.PrintWords Go.Proofs.YtjohpjmfnghkoaaW.PrintLast Go.Proofs.YtjohpjmfnghkoaaW.PrintMore
theorem FnSecondsGrowWalk (a0 : Option Addr) (len0 cap0 : Nat) (z0 : List Int) (w : World) (w0 : (a0 = none ∧ len0 = 0 ∧ cap0 = 0 ∧ z0 = []) ∨ ∃ x, a0 = some x ∧ len0 ≤ cap0 ∧ cap0 ≤ maxLen ∧ z0.length = cap0 ∧ (∀ i, i < z0.length → w.cell? (x.add i) = some (.int .u8 (z0.getD i 0))) ∧ ∀ n ∈ z0, (Lit.int .u8 n).wf = true) (_ : len0 * 1 ≤ 140737488351232) :
    Calls Try.prog 7 #[.slice a0 len0 cap0] w fun e w' => e = .returned (.bool true) ∧ Below w.heap.size w w' := by
  obtain ⟨l0, rfl, hr0, _, _, hc0⟩ := ReadsInt.ofRowC w0
  exact Gw.law (Kd.C_of_reads (d := (0 : Int)) (h1 := fun _ => rfl) hr0) hc0
end Go.Proofs.Ytjohpjmfnghkoaa.Pure
