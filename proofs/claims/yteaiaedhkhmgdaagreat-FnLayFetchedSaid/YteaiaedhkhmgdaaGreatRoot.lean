/- Roots and lengths: firm for every vector, on both sides; what they come to. -/
import Derived.Test.YteaiaedhkhmgdaaGreatVec
namespace Go.Proofs.YteaiaedhkhmgdaaGreat.Ro
open Go.RowKit Kit Fl Bd Ve
/-! ### the greater of two floats -/
def mxF (k : FloatKind) (x y : Nat) : Nat := if (k.format.order x y == some .lt) = true then y else if (k.format.order x y == some .gt) = true then x else if (k.decode x).neg then y else x
@[go_sem] theorem run_max_float {P : Program} (w : World) (ts : Array TypeId) (t : TypeId) (k : FloatKind) (x y : Nat) (h : (k.format.order x y).isSome = true) : (Builtin.max_ ts t #[.float k x, .float k y]).run P w = .ok (.float k (mxF k x y)) w := by
  obtain ⟨o, ho⟩ := Option.isSome_iff_exists.1 h
  unfold mxF
  cases o <;> simp [Builtin.max_, Builtin.max2, ho]
theorem order_isSome {k : FloatKind} {x y : Nat} (hx : Num k.format x) (hy : Num k.format y) : (k.format.order x y).isSome = true := by rw [order_num hx hy]; rfl
/-! ### the reckoning -/
def inR (x : Nat) : Bool := (FloatKind.f64.format.order x 4427486594234968593 == some .gt || FloatKind.f64.format.order x 4427486594234968593 == some .eq) && (FloatKind.f64.format.order x 4861130398305394688 == some .lt || FloatKind.f64.format.order x 4861130398305394688 == some .eq)
def g0 (x : Nat) : Nat := if (FloatKind.f64.format.order x 4607182418800017408 == some .lt) = true then 4607182418800017408 else x
def nx (x g : Nat) : Nat := fl .quo .f64 (fl .add .f64 g (fl .quo .f64 x g)) 4611686018427387904
def gs (x : Nat) : Nat → Nat
  | 0 => g0 x
  | n + 1 => nx x (gs x n)
theorem gs_zero (x : Nat) : gs x 0 = g0 x := rfl
theorem gs_succ (x n : Nat) : gs x (n + 1) = nx x (gs x n) := rfl
attribute [irreducible] gs
def rootF (x : Nat) : Nat := if inR x = true then gs x 60 else 0
theorem nLo : Num FloatKind.f64.format 4427486594234968593 := num_iff.2 (by decide +kernel)
theorem nHi : Num FloatKind.f64.format 4861130398305394688 := num_iff.2 (by decide +kernel)
theorem n1 : Num FloatKind.f64.format 4607182418800017408 := num_iff.2 (by decide +kernel)
theorem n2 : Num FloatKind.f64.format 4611686018427387904 := num_iff.2 (by decide +kernel)
theorem v1 : V FloatKind.f64.format 4607182418800017408 = 1 := by
  rw [V_of (show FloatKind.f64.format.read 4607182418800017408 = .number false 4503599627370496 (-52) by decide +kernel)]
  have : p2 (-52) = 1 / 4503599627370496 := by decide +kernel
  simp only [sval, this, Bool.false_eq_true, if_false]; decide +kernel
theorem v2 : V FloatKind.f64.format 4611686018427387904 = 2 := by
  rw [V_of (show FloatKind.f64.format.read 4611686018427387904 = .number false 4503599627370496 (-51) by decide +kernel)]
  have : p2 (-51) = 1 / 2251799813685248 := by decide +kernel
  simp only [sval, this, Bool.false_eq_true, if_false]; decide +kernel
theorem vLo : p2 (-40) ≤ V FloatKind.f64.format 4427486594234968593 ∧ V FloatKind.f64.format 4427486594234968593 ≤ p2 (-39) := by
  rw [V_of (show FloatKind.f64.format.read 4427486594234968593 = .number false 4951760157141521 (-92) by decide +kernel)]
  simp only [sval, Bool.false_eq_true, if_false]; decide +kernel
theorem vHi : V FloatKind.f64.format 4861130398305394688 ≤ p2 57 ∧ p2 56 ≤ V FloatKind.f64.format 4861130398305394688 := by
  rw [V_of (show FloatKind.f64.format.read 4861130398305394688 = .number false 6250000000000000 4 by decide +kernel)]
  simp only [sval, Bool.false_eq_true, if_false]; decide +kernel
structure Rg (x : Nat) : Prop where
  num : Num FloatKind.f64.format x
  lo : p2 (-40) ≤ V FloatKind.f64.format x
  hi : V FloatKind.f64.format x ≤ p2 57
theorem rg {x : Nat} (h : inR x = true) : Rg x := by
  unfold inR at h
  rw [Bool.and_eq_true] at h
  have hx : Num FloatKind.f64.format x := num_between nLo nHi (by simpa using h.1) (by simpa using h.2)
  rw [gtr_num hx nLo, eql_num hx nLo, lss_num hx nHi, eql_num hx nHi] at h
  simp only [Bool.or_eq_true, decide_eq_true_eq] at h
  have := vLo
  have := vHi
  exact ⟨hx, by grind, by grind⟩
theorem out_of {x : Nat} (hx : Num FloatKind.f64.format x) (h : inR x = false) (h2 : V FloatKind.f64.format x ≤ p2 56) : V FloatKind.f64.format x ≤ p2 (-39) := by
  unfold inR at h
  rw [gtr_num hx nLo, eql_num hx nLo, lss_num hx nHi, eql_num hx nHi] at h
  have := vLo
  have := vHi
  by_cases q : V FloatKind.f64.format x < V FloatKind.f64.format 4427486594234968593
  · grind
  · exfalso
    have a : (decide (V FloatKind.f64.format 4427486594234968593 < V FloatKind.f64.format x) || decide (V FloatKind.f64.format x = V FloatKind.f64.format 4427486594234968593)) = true := by
      simp only [Bool.or_eq_true, decide_eq_true_eq]; grind
    have b : (decide (V FloatKind.f64.format x < V FloatKind.f64.format 4861130398305394688) || decide (V FloatKind.f64.format x = V FloatKind.f64.format 4861130398305394688)) = true := by
      simp only [Bool.or_eq_true, decide_eq_true_eq]; grind
    rw [a, b] at h
    cases h
structure GI (g : Nat) : Prop where
  num : Num FloatKind.f64.format g
  lo : p2 (-21) ≤ V FloatKind.f64.format g
  hi : V FloatKind.f64.format g ≤ p2 78
structure Nx (x g : Nat) : Prop where
  q1 : (floatBits .quo .f64 x g).isSome = true
  s1 : (floatBits .add .f64 g (fl .quo .f64 x g)).isSome = true
  h1 : (floatBits .quo .f64 (fl .add .f64 g (fl .quo .f64 x g)) 4611686018427387904).isSome = true
  gi : GI (nx x g)
  /-- half the sum is not lost by much -/
  low : ∃ q : Rat, q * V FloatKind.f64.format g = V FloatKind.f64.format x ∧ (V FloatKind.f64.format g + q) * (1 - 1 / 1000000000) ≤ 2 * V FloatKind.f64.format (nx x g)
theorem pm (a : Int) (b : Int) (h : a < b) : p2 a < p2 b := p2_lt h
theorem nx_ok {x g : Nat} (hx : Rg x) (hg : GI g) : Nx x g := by
  have hr : reach FloatKind.f64.format = 1023 := by decide
  have hl : FloatKind.f64.format.leastPlace = -1074 := by decide
  have hf : p2 (-(FloatKind.f64.format.fractionBits : Int)) = 1 / 4503599627370496 := by decide +kernel
  have hG0 : 0 < V FloatKind.f64.format g := by have := p2_pos (-21); have := hg.lo; grind
  have hX0 : 0 < V FloatKind.f64.format x := by have := p2_pos (-40); have := hx.lo; grind
  generalize hGV : V FloatKind.f64.format g = G at *
  generalize hXV : V FloatKind.f64.format x = X at *
  obtain ⟨q, hq⟩ : ∃ q : Rat, q * G = X := ⟨X / G, by rw [Rat.div_mul_cancel]; grind⟩
  have e21 := p2_pos (-21)
  have glo : p2 (-21) ≤ G := by rw [← hGV]; exact hg.lo
  have ghi : G ≤ p2 78 := by rw [← hGV]; exact hg.hi
  have xlo : p2 (-40) ≤ X := by rw [← hXV]; exact hx.lo
  have xhi : X ≤ p2 57 := by rw [← hXV]; exact hx.hi
  have q0 : 0 ≤ q := by refine le_of_mul hG0 ?_; grind
  have qhi : q ≤ p2 78 := by
    refine le_of_mul e21 ?_
    have a := Rat.mul_le_mul_of_nonneg_left glo q0
    rw [← p2_add]
    show q * p2 (-21) ≤ p2 57
    grind
  have qlo : p2 (-118) ≤ q := by
    refine le_of_mul (p2_pos 78) ?_
    have a := Rat.mul_le_mul_of_nonneg_left ghi q0
    rw [← p2_add]
    show p2 (-40) ≤ q * p2 78
    grind
  have qbig : G ≤ p2 (-20) → p2 (-20) ≤ q := fun h => by
    refine le_of_mul (p2_pos (-20)) ?_
    have a := Rat.mul_le_mul_of_nonneg_left h q0
    rw [← p2_add]
    show p2 (-40) ≤ q * p2 (-20)
    grind
  have P1 := pm 79 1023 (by omega)
  have P2 : p2 79 = 2 * p2 78 := p2_succ 78
  have P3 : p2 (-20) = 2 * p2 (-21) := by rw [show (-20 : Int) = -21 + 1 by rfl]; exact p2_succ _
  have P5 : p2 (-1074) ≤ p2 (-118) * (1 / 4503599627370496) := by decide +kernel
  have hne : V FloatKind.f64.format g ≠ 0 := by grind
  obtain ⟨z, a1, a2, a3⟩ := div_num (Sm.kx .f64) hx.num hg.num q (by rw [hGV, hXV]; exact hq) hne (by rw [hr]; grind) (by rw [hr]; grind)
  have ez : fl .quo .f64 x g = z := fl_eq a1
  have zhi := a3.le_p2 78 (by rw [hl]; omega) qhi
  have z0 := a3.nonneg q0
  have zbig : G ≤ p2 (-20) → p2 (-20) ≤ V FloatKind.f64.format z := fun h => by
    have := a3.ge 1 (-20) (by rw [hl]; omega) (by have := binade_pos FloatKind.f64.format; omega) (by have := qbig h; grind)
    grind
  have zerr := (a3.err q (Rat.le_refl) (by grind)).2
  rw [hf, hl] at zerr
  generalize hZV : V FloatKind.f64.format z = Z at *
  obtain ⟨y, b1, b2, b3⟩ := add_num (Sm.kx .f64) hg.num a2 (by rw [hGV, hZV, hr]; grind) (by rw [hGV, hZV, hr]; grind)
  have ey : fl .add .f64 g z = y := fl_eq b1
  rw [hGV, hZV] at b3
  have yhi := b3.le_p2 79 (by rw [hl]; omega) (by grind)
  have ylo : p2 (-20) ≤ V FloatKind.f64.format y := by
    have h : p2 (-20) ≤ G + Z := by
      by_cases c : G ≤ p2 (-20)
      · have := zbig c; grind
      · grind
    have := b3.ge 1 (-20) (by rw [hl]; omega) (by have := binade_pos FloatKind.f64.format; omega) (by grind)
    grind
  have yerr := (b3.err (G + Z) (Rat.le_refl) (by grind)).2
  rw [hf, hl] at yerr
  generalize hYV : V FloatKind.f64.format y = Y at *
  have P4 := p2_pos (-20)
  obtain ⟨u, c1, c2, c3⟩ := div_num (Sm.kx .f64) b2 n2 (Y / 2) (by rw [v2, hYV]; grind) (by rw [v2]; decide) (by rw [hr]; grind) (by rw [hr]; grind)
  have eu : fl .quo .f64 y 4611686018427387904 = u := fl_eq c1
  have uhi := c3.le_p2 78 (by rw [hl]; omega) (by grind)
  have ulo := c3.ge 1 (-21) (by rw [hl]; omega) (by have := binade_pos FloatKind.f64.format; omega) (by grind)
  have uerr := (c3.err (Y / 2) (Rat.le_refl) (by grind)).2
  rw [hf, hl] at uerr
  have en : nx x g = u := by unfold nx; rw [ez, ey, eu]
  refine ⟨by show (FloatKind.f64.format.div x g).isSome = true; rw [a1]; rfl, by rw [ez]; show (FloatKind.f64.format.add g z).isSome = true; rw [b1]; rfl, by rw [ez, ey]; show (FloatKind.f64.format.div y _).isSome = true; rw [c1]; rfl, ?_, ?_⟩
  · rw [en]; exact ⟨c2, by grind, uhi⟩
  · rw [en, hGV, hXV]
    refine ⟨q, hq, ?_⟩
    clear zbig qbig P1 hne a3 b3 c3
    have P6 := pm (-118) (-21) (by omega)
    grind
theorem gi_0 {x : Nat} (hx : Rg x) : GI (g0 x) := by
  have P1 := pm (-21) 0 (by omega)
  have P2 := pm 0 78 (by omega)
  have P3 := pm 57 78 (by omega)
  have P0 := p2_zero
  unfold g0
  rw [lss_num hx.num n1, v1]
  by_cases q : V FloatKind.f64.format x < 1
  · rw [if_pos (by simpa using q)]
    exact ⟨n1, by rw [v1]; grind, by rw [v1]; grind⟩
  · rw [if_neg (by simpa using q)]
    have := hx.hi
    exact ⟨hx.num, by grind, by grind⟩
theorem gi_s {x : Nat} (hx : Rg x) : ∀ n, GI (gs x n)
  | 0 => by rw [gs_zero]; exact gi_0 hx
  | n + 1 => by rw [gs_succ]; exact (nx_ok hx (gi_s hx n)).gi
theorem nx_s {x : Nat} (hx : Rg x) (n : Nat) : Nx x (gs x n) := nx_ok hx (gi_s hx n)
theorem root_num {x : Nat} : Num FloatKind.f64.format (rootF x) ∧ 0 ≤ V FloatKind.f64.format (rootF x) ∧ V FloatKind.f64.format (rootF x) ≤ p2 78 := by
  unfold rootF
  have := p2_pos 78
  cases h : inR x
  · rw [if_neg (by decide)]
    exact ⟨n0, by rw [v0]; exact Rat.le_refl, by rw [v0]; grind⟩
  · rw [if_pos rfl]
    have g := gi_s (rg h) 60
    have := p2_pos (-21)
    have := g.lo
    exact ⟨g.num, by grind, g.hi⟩
/-- a root is not far below the true one -/
theorem root_low {x : Nat} (h : inR x = true) : V FloatKind.f64.format x * (1 - 1 / 100000000) ≤ V FloatKind.f64.format (rootF x) * V FloatKind.f64.format (rootF x) := by
  unfold rootF
  rw [if_pos h, gs_succ]
  have hx := rg h
  have g := gi_s hx 59
  obtain ⟨q, h1, h2⟩ := (nx_s hx 59).low
  have G0 : 0 < V FloatKind.f64.format (gs x 59) := by have := p2_pos (-21); have := g.lo; grind
  have X0 : 0 < V FloatKind.f64.format x := by have := p2_pos (-40); have := hx.lo; grind
  have q0 : 0 ≤ q := by refine le_of_mul G0 ?_; grind
  generalize V FloatKind.f64.format (nx x (gs x 59)) = U at *
  generalize V FloatKind.f64.format (gs x 59) = G at *
  generalize V FloatKind.f64.format x = X at *
  have s0 : 0 ≤ (G + q) * (1 - 1 / 1000000000) := Rat.mul_nonneg (by grind) (by decide +kernel)
  have m1 := mul_le_of s0 h2
  have m2 := Rat.mul_le_mul_of_nonneg_left h2 (show 0 ≤ 2 * U by grind)
  have sq : 0 ≤ (G - q) * (G - q) := by
    by_cases c : 0 ≤ G - q
    · exact Rat.mul_nonneg c c
    · have := Rat.mul_nonneg (show 0 ≤ q - G by grind) (show 0 ≤ q - G by grind); grind
  have sq2 : 4 * X ≤ (G + q) * (G + q) := by grind
  have e1 : (G + q) * (1 - 1 / 1000000000) * ((G + q) * (1 - 1 / 1000000000)) = (G + q) * (G + q) * ((1 - 1 / 1000000000) * (1 - 1 / 1000000000)) := by grind
  have e2 : (1 - 1 / 100000000 : Rat) ≤ (1 - 1 / 1000000000) * (1 - 1 / 1000000000) := by decide +kernel
  have m3 := Rat.mul_le_mul_of_nonneg_left e2 (show 0 ≤ 4 * X by grind)
  have m4 := mul_le_of (show (0 : Rat) ≤ (1 - 1 / 1000000000) * (1 - 1 / 1000000000) by decide +kernel) sq2
  grind
theorem mx_one {x : Nat} (hx : Rg x) : mxF .f64 x 4607182418800017408 = g0 x := by
  unfold mxF g0
  rw [lss_num hx.num n1, gtr_num hx.num n1, v1]
  by_cases q : V FloatKind.f64.format x < 1
  · rw [if_pos (by simpa using q), if_pos (by simpa using q)]
  · simp only [decide_eq_false q, Bool.false_eq_true, if_false]
    by_cases q2 : 1 < V FloatKind.f64.format x
    · rw [if_pos (by simpa using q2)]
    · rw [if_neg (by simpa using q2)]
      obtain ⟨s, m, e, hr⟩ := hx.num
      have hs : (FloatKind.f64.decode x).neg = s := by
        have : FloatKind.f64.decode x = .number s m e := hr
        rw [this]; rfl
      rw [hs]
      rw [V_of hr] at q
      cases s
      · rfl
      · exfalso
        have := Rat.mul_nonneg (show (0 : Rat) ≤ (m : Rat) by exact_mod_cast Nat.zero_le m) (Rat.le_of_lt (p2_pos e))
        simp only [sval, if_true] at q
        grind
/-! ### the functions -/
theorem impl_Root (x : Nat) (w : World) : Calls Tryz.prog 42 #[.float .f64 x] w fun e w' => e = .returned (.float .f64 (rootF x)) ∧ w = w' := by
  cases h : inR x
  · have e1 : rootF x = 0 := by unfold rootF; rw [h]; rfl
    rw [e1]
    clear e1
    unfold inR at h
    rw [Bool.and_eq_false_iff] at h
    rcases h with h | h
    · go_enter Tryz.func42, Tryz.ntmps42
      go_wp2
      go_ret
      exact ⟨rfl, rfl⟩
    · cases h2 : (FloatKind.f64.format.order x 4427486594234968593 == some .gt || FloatKind.f64.format.order x 4427486594234968593 == some .eq)
      · go_enter Tryz.func42, Tryz.ntmps42
        go_wp2
        go_ret
        exact ⟨rfl, rfl⟩
      · go_enter Tryz.func42, Tryz.ntmps42
        go_wp2
        go_ret
        exact ⟨rfl, rfl⟩
  · have HX := Lib.hid (rg h)
    have HE := Lib.hid (show rootF x = gs x 60 by unfold rootF; rw [h]; rfl)
    have ho := order_isSome (k := .f64) (rg h).num n1
    have HM := Lib.hid (mx_one (rg h))
    unfold inR at h
    rw [Bool.and_eq_true] at h
    obtain ⟨h1, h2⟩ := h
    go_enter Tryz.func42, Tryz.ntmps42
    go_wp2_with fail
    rw [HM.out]
    go_loop [3, 4] (fun g n => ∃ j : Nat, j ≤ 60 ∧ n = .int .i64 (j : Int) ∧ g = .float .f64 (gs x j)) (fun _ n => 60 - (intOf n).toNat)
    case atStart => exact ⟨0, by omega, rfl, by rw [gs_zero]⟩
    case round =>
      obtain ⟨j, hj, rfl, rfl⟩ := hrel
      by_cases hl : j < 60
      · have N := nx_s HX.out j
        have q1 := N.q1
        have s1 := N.s1
        have k1 := N.h1
        clear N
        go_wp2_with fail
        go_round
        case rel => exact ⟨j + 1, by omega, by go_num, by rw [gs_succ]; rfl⟩
        case measure => simp [intOf]; omega
      · obtain rfl : j = 60 := by omega
        go_wp2_with fail
        go_ret
        exact ⟨by rw [HE.out]; rfl, rfl⟩
theorem spec_Root (x : Nat) (w : World) : Calls Tryz.prog 93 #[.float .f64 x] w fun e w' => e = .returned (.float .f64 (rootF x)) ∧ w = w' := by
  cases h : inR x
  · have e1 : rootF x = 0 := by unfold rootF; rw [h]; rfl
    rw [e1]
    clear e1
    unfold inR at h
    rw [Bool.and_eq_false_iff] at h
    rcases h with h | h
    · go_enter Tryz.func93, Tryz.ntmps93
      go_wp2
      go_ret
      exact ⟨rfl, rfl⟩
    · cases h2 : (FloatKind.f64.format.order x 4427486594234968593 == some .gt || FloatKind.f64.format.order x 4427486594234968593 == some .eq)
      · go_enter Tryz.func93, Tryz.ntmps93
        go_wp2
        go_ret
        exact ⟨rfl, rfl⟩
      · go_enter Tryz.func93, Tryz.ntmps93
        go_wp2
        go_ret
        exact ⟨rfl, rfl⟩
  · have HX := Lib.hid (rg h)
    have HE := Lib.hid (show rootF x = gs x 60 by unfold rootF; rw [h]; rfl)
    unfold inR at h
    rw [Bool.and_eq_true] at h
    obtain ⟨h1, h2⟩ := h
    cases h3 : (FloatKind.f64.format.order x 4607182418800017408 == some .lt)
    all_goals have HG := Lib.hid (show gs x 0 = g0 x from gs_zero x)
    all_goals unfold g0 at HG
    all_goals rw [h3] at HG
    all_goals go_enter Tryz.func93, Tryz.ntmps93
    all_goals go_wp2_with fail
    all_goals go_loop [3, 4] (fun g n => ∃ j : Nat, j ≤ 60 ∧ n = .int .i64 (j : Int) ∧ g = .float .f64 (gs x j)) (fun _ n => 60 - (intOf n).toNat)
    all_goals try (case atStart => exact ⟨0, by omega, rfl, by rw [HG.out]; rfl⟩)
    all_goals
      obtain ⟨j, hj, rfl, rfl⟩ := hrel
      by_cases hl : j < 60
      · have N := nx_s HX.out j
        have q1 := N.q1
        have s1 := N.s1
        have k1 := N.h1
        clear N
        go_wp2_with fail
        go_round
        case rel => exact ⟨j + 1, by omega, by go_num, by rw [gs_succ]; rfl⟩
        case measure => simp [intOf]; omega
      · obtain rfl : j = 60 := by omega
        go_wp2_with fail
        go_ret
        exact ⟨by rw [HE.out]; rfl, rfl⟩
/-! ### lengths -/
def dotF (a b c d : Nat) : Nat := fl .add .f64 (fl .mul .f64 a c) (fl .mul .f64 b d)
structure Dots (a b : Nat) : Prop where
  d1 : (floatBits .mul .f64 a a).isSome = true
  d2 : (floatBits .mul .f64 b b).isSome = true
  d3 : (floatBits .add .f64 (fl .mul .f64 a a) (fl .mul .f64 b b)).isSome = true
  num : Num FloatKind.f64.format (dotF a b a b)
  hi : V FloatKind.f64.format (dotF a b a b) ≤ p2 55
theorem bnd27 {a : Nat} (h : vOk a = true) : Bnd .f64 27 a := by
  obtain ⟨n, h1, h2⟩ := vOk_num h
  have : p2 (27 : Int) = 134217728 := by decide +kernel
  exact ⟨n, by grind, by grind⟩
theorem dots {a b : Nat} (ha : vOk a = true) (hb : vOk b = true) : Dots a b := by
  have A := bnd27 ha
  have B := bnd27 hb
  have m1 : Bnd .f64 54 (fl .mul .f64 a a) := A.mul A (by decide) (by decide)
  have m2 : Bnd .f64 54 (fl .mul .f64 b b) := B.mul B (by decide) (by decide)
  have s : Bnd .f64 55 (dotF a b a b) := m1.add m2 (by decide) (by decide)
  exact ⟨A.mulS A, B.mulS B, m1.addS m2, s.num, s.hi⟩
/-- the length of a vector -/
def lenF (a b : Nat) : Nat := if (vOk a && vOk b) = true then rootF (dotF a b a b) else 0
theorem len_num (a b : Nat) : Num FloatKind.f64.format (lenF a b) ∧ 0 ≤ V FloatKind.f64.format (lenF a b) ∧ V FloatKind.f64.format (lenF a b) ≤ p2 78 := by
  unfold lenF
  split
  · exact root_num
  · have := p2_pos 78
    exact ⟨n0, by rw [v0]; exact Rat.le_refl, by rw [v0]; grind⟩
theorem impl_DotS (a b c d : Nat) (h1 : (floatBits .mul .f64 a c).isSome = true) (h2 : (floatBits .mul .f64 b d).isSome = true) (h3 : (floatBits .add .f64 (fl .mul .f64 a c) (fl .mul .f64 b d)).isSome = true) (w : World) : Calls Tryz.prog 43 #[.complex .f64 a b, .complex .f64 c d] w fun e w' => e = .returned (.float .f64 (dotF a b c d)) ∧ w = w' := by
  go_enter Tryz.func43, Tryz.ntmps43
  go_wp2
  go_ret
  exact ⟨rfl, rfl⟩
theorem impl_Length (a b : Nat) (w : World) : Calls Tryz.prog 14 #[.complex .f64 a b] w fun e w' => e = .returned (.float .f64 (lenF a b)) ∧ w = w' := by
  unfold lenF
  cases h : (vOk a && vOk b)
  · have H := Lib.hid h
    clear h
    go_enter Tryz.func14, Tryz.ntmps14
    go_wp2_with (first | (go_at_call 41; refine (impl_VectorOk _ _ _).mono ?_; rintro e w' ⟨rfl, rfl⟩; rw [H.out]))
    go_ret
    exact ⟨rfl, rfl⟩
  · have H := Lib.hid h
    rw [Bool.and_eq_true] at h
    have D := Lib.hid (dots h.1 h.2)
    clear h
    go_enter Tryz.func14, Tryz.ntmps14
    go_wp2_with (first | (go_at_call 41; refine (impl_VectorOk _ _ _).mono ?_; rintro e w' ⟨rfl, rfl⟩; rw [H.out]) | (go_at_call 43; refine (impl_DotS _ _ _ _ D.out.d1 D.out.d2 D.out.d3 _).mono ?_; rintro e w' ⟨rfl, rfl⟩) | (go_at_call 42; refine (impl_Root _ _).mono ?_; rintro e w' ⟨rfl, rfl⟩))
    go_ret
    exact ⟨rfl, rfl⟩
theorem spec_DotS (a b c d : Nat) (h1 : (floatBits .mul .f64 a c).isSome = true) (h2 : (floatBits .mul .f64 b d).isSome = true) (h3 : (floatBits .add .f64 (fl .mul .f64 a c) (fl .mul .f64 b d)).isSome = true) (w : World) : Calls Tryz.prog 60 #[.complex .f64 a b, .complex .f64 c d] w fun e w' => e = .returned (.float .f64 (dotF a b c d)) ∧ w = w' := by
  go_enter Tryz.func60, Tryz.ntmps60
  go_wp2
  go_ret
  exact ⟨rfl, rfl⟩
theorem spec_Length (a b : Nat) (w : World) : Calls Tryz.prog 81 #[.complex .f64 a b] w fun e w' => e = .returned (.float .f64 (lenF a b)) ∧ w = w' := by
  unfold lenF
  cases h : (vOk a && vOk b)
  · have H := Lib.hid h
    clear h
    go_enter Tryz.func81, Tryz.ntmps81
    go_wp2_with (first | (go_at_call 59; refine (spec_VectorOk _ _ _).mono ?_; rintro e w' ⟨rfl, rfl⟩; rw [H.out]))
    go_ret
    exact ⟨rfl, rfl⟩
  · have H := Lib.hid h
    rw [Bool.and_eq_true] at h
    have D := Lib.hid (dots h.1 h.2)
    clear h
    go_enter Tryz.func81, Tryz.ntmps81
    go_wp2_with (first | (go_at_call 59; refine (spec_VectorOk _ _ _).mono ?_; rintro e w' ⟨rfl, rfl⟩; rw [H.out]) | (go_at_call 60; refine (spec_DotS _ _ _ _ D.out.d1 D.out.d2 D.out.d3 _).mono ?_; rintro e w' ⟨rfl, rfl⟩) | (go_at_call 93; refine (spec_Root _ _).mono ?_; rintro e w' ⟨rfl, rfl⟩))
    go_ret
    exact ⟨rfl, rfl⟩
/-- the parts of a vector whose length is not above L are not far above L -/
theorem len_part {a b : Nat} (ha : vOk a = true) (hb : vOk b = true) (h : V FloatKind.f64.format (lenF a b) ≤ 100000) : (-100001 ≤ V FloatKind.f64.format a ∧ V FloatKind.f64.format a ≤ 100001) ∧ (-100001 ≤ V FloatKind.f64.format b ∧ V FloatKind.f64.format b ≤ 100001) := by
  have hr : reach FloatKind.f64.format = 1023 := by decide
  have hl : FloatKind.f64.format.leastPlace = -1074 := by decide
  have hf : p2 (-(FloatKind.f64.format.fractionBits : Int)) = 1 / 4503599627370496 := by decide +kernel
  have P1 := pm 56 1023 (by omega)
  have P56 : p2 56 = 72057594037927936 := by decide +kernel
  have P39 : p2 (-39) ≤ 1 := by decide +kernel
  have PL : p2 (-1074) ≤ 1 := by decide +kernel
  have D := dots ha hb
  obtain ⟨na, a1, a2⟩ := vOk_num ha
  obtain ⟨nb, b1, b2⟩ := vOk_num hb
  have hle : V FloatKind.f64.format (dotF a b a b) ≤ 10000001000 := by
    have el : lenF a b = rootF (dotF a b a b) := by unfold lenF; simp [ha, hb]
    rw [el] at h
    cases q : inR (dotF a b a b)
    · have := out_of D.num q (by have := D.hi; have := pm 55 56 (by omega); grind)
      grind
    · have lo := root_low q
      have z := (root_num (x := dotF a b a b)).2.1
      have m := mul_within (x := V FloatKind.f64.format (rootF (dotF a b a b))) (y := V FloatKind.f64.format (rootF (dotF a b a b))) (A := 100000) (B := 100000) (by grind) h (by grind) h
      grind
  obtain ⟨x, e1, e2, e3⟩ := mul_num (Sm.kx .f64) na na (by have := mul_within a2 a1 a2 a1; grind) (by have := mul_within a2 a1 a2 a1; grind)
  obtain ⟨y, f1, f2, f3⟩ := mul_num (Sm.kx .f64) nb nb (by have := mul_within b2 b1 b2 b1; grind) (by have := mul_within b2 b1 b2 b1; grind)
  have ex : fl .mul .f64 a a = x := fl_eq e1
  have ey : fl .mul .f64 b b = y := fl_eq f1
  have sqa : 0 ≤ V FloatKind.f64.format a * V FloatKind.f64.format a := by
    by_cases c : 0 ≤ V FloatKind.f64.format a
    · exact Rat.mul_nonneg c c
    · have := Rat.mul_nonneg (show 0 ≤ -(V FloatKind.f64.format a) by grind) (show 0 ≤ -(V FloatKind.f64.format a) by grind); grind
  have sqb : 0 ≤ V FloatKind.f64.format b * V FloatKind.f64.format b := by
    by_cases c : 0 ≤ V FloatKind.f64.format b
    · exact Rat.mul_nonneg c c
    · have := Rat.mul_nonneg (show 0 ≤ -(V FloatKind.f64.format b) by grind) (show 0 ≤ -(V FloatKind.f64.format b) by grind); grind
  have x0 := e3.nonneg sqa
  have y0 := f3.nonneg sqb
  have xe := (e3.err _ (Rat.le_refl) (by grind)).2
  have ye := (f3.err _ (Rat.le_refl) (by grind)).2
  rw [hf, hl] at xe ye
  have xh := e3.le_p2 54 (by rw [hl]; omega) (by have := mul_within a2 a1 a2 a1; have : p2 54 = 18014398509481984 := by decide +kernel
                                                 grind)
  have yh := f3.le_p2 54 (by rw [hl]; omega) (by have := mul_within b2 b1 b2 b1; have : p2 54 = 18014398509481984 := by decide +kernel
                                                 grind)
  have P54 : p2 54 = 18014398509481984 := by decide +kernel
  obtain ⟨z, g1, g2, g3⟩ := add_num (Sm.kx .f64) e2 f2 (by rw [hr]; grind) (by rw [hr]; grind)
  have ez : dotF a b a b = z := by unfold dotF; rw [ex, ey]; exact fl_eq g1
  rw [ez] at hle
  have ze := (g3.err _ (Rat.le_refl) (by grind)).2
  rw [hf, hl] at ze
  have fin : ∀ t : Rat, t * t ≤ 10000200000 → -100001 ≤ t ∧ t ≤ 100001 := fun t ht => by
    refine ⟨?_, ?_⟩
    · by_cases c : -100001 ≤ t
      · exact c
      · have := Rat.mul_nonneg (show 0 ≤ -100001 - t by grind) (show 0 ≤ -100001 - t by grind); grind
    · by_cases c : t ≤ 100001
      · exact c
      · have := Rat.mul_nonneg (show 0 ≤ t - 100001 by grind) (show 0 ≤ t - 100001 by grind); grind
  exact ⟨fin _ (by grind), fin _ (by grind)⟩
end Go.Proofs.YteaiaedhkhmgdaaGreat.Ro
