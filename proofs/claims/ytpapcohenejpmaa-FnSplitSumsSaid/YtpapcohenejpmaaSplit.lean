/- The two parts of a way: firm, and in numbers; both sides' SplitWay. -/
import Derived.Test.YtpapcohenejpmaaRoot
import Derived.Test.YtpapcohenejpmaaTrig
import Derived.Test.YtpapcohenejpmaaAp
namespace Go.Proofs.Ytpapcohenejpmaa.Sp2
open Go.RowKit Kit Fl Bd Tn Ve Ro Tr Ap
def crossF (a b c d : Nat) : Nat := fl .sub .f64 (fl .mul .f64 a d) (fl .mul .f64 b c)
theorem g64 (b : Rat) (h : 0 ≤ b) : gap .f64 b ≤ b / 4000000000000000 + 1 / 1000000000000000000000 := by
  have e1 : p2 (-(FloatKind.f64.format.fractionBits : Int)) = 1 / 4503599627370496 := by decide +kernel
  have e2 : p2 FloatKind.f64.format.leastPlace ≤ 1 / 1000000000000000000000 := by decide +kernel
  unfold gap
  rw [e1]
  grind
theorem r64 : (1000000000000000 : Rat) < p2 (reach FloatKind.f64.format) := by
  have h1 : reach FloatKind.f64.format = 1023 := by decide
  have h2 : (1000000000000000 : Rat) < p2 (60 : Int) := by decide +kernel
  have h3 : p2 (60 : Int) < p2 1023 := p2_lt (by omega)
  rw [h1]; grind
theorem ap_turn {x : Nat} {r : Rat} (n : Num FloatKind.f64.format x) (e : V FloatKind.f64.format x = r) (h1 : r ≤ 1 + 1 / 1000000000) (h2 : -(1 + 1 / 1000000000) ≤ r) : Ap .f64 r 0 (11 / 10) x := ⟨n, by grind, by grind, by grind, by grind, by grind, by grind⟩
structure Tn4 (T K : Nat) : Prop where
  u1 : Ap .f64 (re T) 0 (11 / 10) (tb T).1
  u2 : Ap .f64 (im T) 0 (11 / 10) (tb T).2
  v1 : Ap .f64 (re K) 0 (11 / 10) (tb K).1
  v2 : Ap .f64 (im K) 0 (11 / 10) (tb K).2
theorem tn4 {T K : Nat} (hT : T < 360) (hK : K < 360) : Tn4 T K := by
  have s := size T hT
  have s' := size K hK
  obtain ⟨a1, a2, _, _⟩ := tab_at T hT
  obtain ⟨b1, b2, _, _⟩ := tab_at K hK
  exact ⟨ap_turn a1 rfl s.r1 s.r2, ap_turn a2 rfl s.i1 s.i2, ap_turn b1 rfl s'.r1 s'.r2, ap_turn b2 rfl s'.i1 s'.i2⟩
/-- a cross of bounded numbers -/
theorem ap_cross {a b c d A B p q : Nat} {P Q R S X Y : Rat} (hA : A = a) (hB : B = b) (hp : p = c) (hq : q = d) (h1 : Ap .f64 P 0 X a) (h2 : Ap .f64 Q 0 X b) (h3 : Ap .f64 R 0 Y c) (h4 : Ap .f64 S 0 Y d) (E1 B1 E2 B2 : Rat)
    (hr : X * Y < 1000000000000000) (e1 : gap .f64 (X * Y) ≤ 2 * E1) (b1 : 2 * (X * Y) + gap .f64 (X * Y) ≤ 2 * B1) (hr2 : B1 + B1 < 1000000000000000) (e2 : 2 * (E1 + E1) + gap .f64 (B1 + B1) ≤ 2 * E2) (b2 : 2 * (B1 + B1) + gap .f64 (B1 + B1) ≤ 2 * B2) : Ap .f64 (P * S - Q * R) E2 B2 (crossF A B p q) := by
  subst hA hB hp hq
  have R0 := r64
  have m1 := h1.mul h4 E1 B1 (by grind) (by grind) b1
  have m2 := h2.mul h3 E1 B1 (by grind) (by grind) b1
  exact m1.sub m2 E2 B2 (by grind) e2 b2
structure CF (a b c d : Nat) : Prop where
  c1 : (floatBits .mul .f64 a d).isSome = true
  c2 : (floatBits .mul .f64 b c).isSome = true
  c3 : (floatBits .sub .f64 (fl .mul .f64 a d) (fl .mul .f64 b c)).isSome = true
  num : Num FloatKind.f64.format (crossF a b c d)
theorem cf {a b c d : Nat} {e f : Int} (ha : Bnd .f64 e a) (hb : Bnd .f64 e b) (hc : Bnd .f64 f c) (hd : Bnd .f64 f d) (h1 : 0 ≤ e + f) (h2 : e + f < 1000) : CF a b c d := by
  have hr : reach FloatKind.f64.format = 1023 := by decide
  have hl : FloatKind.f64.format.leastPlace = -1074 := by decide
  have m1 := ha.mul hd (by omega) (by omega)
  have m2 := hb.mul hc (by omega) (by omega)
  exact ⟨ha.mulS hd, hb.mulS hc, m1.subS m2, (m1.sub m2 (by omega) (by omega)).num⟩
theorem bnd_turn {k : Nat} (h : k < 360) : Bnd .f64 1 (tb k).1 ∧ Bnd .f64 1 (tb k).2 := by
  have s := size k h
  obtain ⟨a1, a2, _, _⟩ := tab_at k h
  have : p2 (1 : Int) = 2 := by decide +kernel
  have e1 : re k = V FloatKind.f64.format (tb k).1 := rfl
  have e2 : im k = V FloatKind.f64.format (tb k).2 := rfl
  obtain ⟨r1, r2, i1, i2, _, _, _, _, _⟩ := s
  rw [e1] at r1 r2
  rw [e2] at i1 i2
  exact ⟨⟨a1, by grind, by grind⟩, ⟨a2, by grind, by grind⟩⟩
/-- two bearings that are 5 to 175 degrees apart -/
theorem wide_apart {ka kb : Int} (h1 : 5 ≤ betw ka kb) (h2 : betw ka kb ≤ 175) : 869 / 10000 ≤ re (deg ka) * im (deg kb) - im (deg ka) * re (deg kb) ∨ re (deg ka) * im (deg kb) - im (deg ka) * re (deg kb) ≤ -(869 / 10000) := by
  have l1 := deg_lt ka
  have l2 := deg_lt kb
  have c1 := deg_cast ka
  have c2 := deg_cast kb
  unfold betw at h1 h2
  rw [c1, c2] at h1 h2
  generalize deg ka = t at *
  generalize deg kb = k at *
  clear c1 c2
  by_cases hl : t ≤ k
  · obtain ⟨d, rfl⟩ : ∃ d, k = t + d := ⟨k - t, by omega⟩
    have := (diff t d l2).1
    rcases (size d (by omega)).md (by omega) (by omega) (by omega) with s | s
    · exact Or.inl (by grind)
    · exact Or.inr (by grind)
  · obtain ⟨d, rfl⟩ : ∃ d, t = k + d := ⟨t - k, by omega⟩
    have := (diff k d l1).1
    rcases (size d (by omega)).md (by omega) (by omega) (by omega) with s | s
    · exact Or.inr (by grind)
    · exact Or.inl (by grind)
/-- the cross of both turns -/
theorem ap_e {T K : Nat} (hT : T < 360) (hK : K < 360) : Ap .f64 (re T * im K - im T * re K) (1 / 100000000000000) 3 (crossF (tb T).1 (tb T).2 (tb K).1 (tb K).2) := by
  have t := tn4 hT hK
  have g1 := g64 (11 / 10 * (11 / 10)) (by decide +kernel)
  have g2 := g64 (13 / 10 + 13 / 10) (by decide +kernel)
  exact ap_cross rfl rfl rfl rfl t.u1 t.u2 t.v1 t.v2 (1 / 1000000000000000) (13 / 10) _ _ (by decide +kernel) (by grind) (by grind) (by decide +kernel) (by grind) (by grind)
/-- how far a way may be split -/
def okW (a b : Nat) (ka kb : Int) : Bool := (vOk a && vOk b) && (decide (5 ≤ betw ka kb) && decide (betw ka kb ≤ 175))
def eF (ka kb : Int) : Nat := crossF (tb (deg ka)).1 (tb (deg ka)).2 (tb (deg kb)).1 (tb (deg kb)).2
def mF (a b : Nat) (ka kb : Int) : Nat := fl .quo .f64 (crossF a b (tb (deg kb)).1 (tb (deg kb)).2) (eF ka kb)
def nF (a b : Nat) (ka kb : Int) : Nat := fl .quo .f64 (crossF (tb (deg ka)).1 (tb (deg ka)).2 a b) (eF ka kb)
structure Way (a b : Nat) (ka kb : Int) : Prop where
  e : CF (tb (deg ka)).1 (tb (deg ka)).2 (tb (deg kb)).1 (tb (deg kb)).2
  x : CF a b (tb (deg kb)).1 (tb (deg kb)).2
  y : CF (tb (deg ka)).1 (tb (deg ka)).2 a b
  q1 : (floatBits .quo .f64 (crossF a b (tb (deg kb)).1 (tb (deg kb)).2) (eF ka kb)).isSome = true
  q2 : (floatBits .quo .f64 (crossF (tb (deg ka)).1 (tb (deg ka)).2 a b) (eF ka kb)).isSome = true
theorem okW_parts {a b : Nat} {ka kb : Int} (h : okW a b ka kb = true) : vOk a = true ∧ vOk b = true ∧ 5 ≤ betw ka kb ∧ betw ka kb ≤ 175 := by
  unfold okW at h
  simp only [Bool.and_eq_true, decide_eq_true_eq] at h
  exact ⟨h.1.1, h.1.2, h.2.1, h.2.2⟩
theorem e_far {ka kb : Int} (h1 : 5 ≤ betw ka kb) (h2 : betw ka kb ≤ 175) : 868 / 10000 ≤ V FloatKind.f64.format (eF ka kb) ∨ V FloatKind.f64.format (eF ka kb) ≤ -(868 / 10000) := by
  have a := ap_e (deg_lt ka) (deg_lt kb)
  have lo : _ ≤ V FloatKind.f64.format (eF ka kb) := a.lo
  have hi : V FloatKind.f64.format (eF ka kb) ≤ _ := a.hi
  rcases wide_apart h1 h2 with h | h
  · exact Or.inl (by grind)
  · exact Or.inr (by grind)
theorem way {a b : Nat} {ka kb : Int} (h : okW a b ka kb = true) : Way a b ka kb := by
  obtain ⟨ha, hb, h1, h2⟩ := okW_parts h
  have t := bnd_turn (deg_lt ka)
  have k := bnd_turn (deg_lt kb)
  have E : CF (tb (deg ka)).1 (tb (deg ka)).2 (tb (deg kb)).1 (tb (deg kb)).2 := cf t.1 t.2 k.1 k.2 (by omega) (by omega)
  have X : CF a b (tb (deg kb)).1 (tb (deg kb)).2 := cf (bnd27 ha) (bnd27 hb) k.1 k.2 (by omega) (by omega)
  have Y : CF (tb (deg ka)).1 (tb (deg ka)).2 a b := cf t.1 t.2 (bnd27 ha) (bnd27 hb) (by omega) (by omega)
  have hE : V FloatKind.f64.format (eF ka kb) ≠ 0 := by
    have := e_far h1 h2
    grind
  exact ⟨E, X, Y, Sm.isSome_quo X.num E.num (Or.inl hE), Sm.isSome_quo Y.num E.num (Or.inl hE)⟩
/-! ### what is left of a way when both parts are taken off -/
def restF (w m u n v : Nat) : Nat := fl .sub .f64 (fl .sub .f64 w (fl .mul .f64 m u)) (fl .mul .f64 n v)
structure Rest (w m u n v : Nat) : Prop where
  m1 : (floatBits .mul .f64 m u).isSome = true
  s1 : (floatBits .sub .f64 w (fl .mul .f64 m u)).isSome = true
  m2 : (floatBits .mul .f64 n v).isSome = true
  s2 : (floatBits .sub .f64 (fl .sub .f64 w (fl .mul .f64 m u)) (fl .mul .f64 n v)).isSome = true
  few : (FloatKind.f64.format.order (a64 (restF w m u n v)) 4547007122018943789 == some .lt) = true
theorem nT : Num FloatKind.f64.format 4547007122018943789 := num_iff.2 (by decide +kernel)
theorem vT : 1 / 20000 ≤ V FloatKind.f64.format 4547007122018943789 := by
  rw [V_of (show FloatKind.f64.format.read 4547007122018943789 = .number false 7378697629483821 (-66) by decide +kernel)]
  simp only [sval, Bool.false_eq_true, if_false]; decide +kernel
theorem rest {w m u n v : Nat} {W M N U Z : Rat} (hw : Ap .f64 W 0 100001 w) (hm : Ap .f64 M (2 / 1000000) 4000000 m) (hn : Ap .f64 N (2 / 1000000) 4000000 n) (hu : Ap .f64 U 0 (11 / 10) u) (hv : Ap .f64 Z 0 (11 / 10) v) (h : W - M * U - N * Z = 0) : Rest w m u n v := by
  have R0 := r64
  have g1 := g64 (4000000 * (11 / 10)) (by decide +kernel)
  have x1 := hm.mul hu (3 / 1000000) 5000000 (by grind) (by grind) (by grind)
  have x2 := hn.mul hv (3 / 1000000) 5000000 (by grind) (by grind) (by grind)
  have g2 := g64 (100001 + 5000000) (by decide +kernel)
  have y1 := hw.sub x1 (4 / 1000000) 6000000 (by grind) (by grind) (by grind)
  have g3 := g64 (6000000 + 5000000) (by decide +kernel)
  have y2 : Ap .f64 (W - M * U - N * Z) (8 / 1000000) 12000000 (restF w m u n v) := y1.sub x2 _ _ (by grind) (by grind) (by grind)
  refine ⟨Sm.isSome_mul hm.num hu.num, Sm.isSome_sub hw.num x1.num, Sm.isSome_mul hn.num hv.num, Sm.isSome_sub y1.num x2.num, ?_⟩
  obtain ⟨a1, a2, a3, a4, a5, a6⟩ := abs_num y2.num
  have lo := y2.lo
  have hi := y2.hi
  have := vT
  rw [lss_num a2 nT, a3, decide_eq_true_eq]
  rcases a6 with q | q <;> grind
theorem rests {a b : Nat} {ka kb : Int} (h : okW a b ka kb = true) (hl : V FloatKind.f64.format (lenF a b) ≤ 100000) :
    Rest a (mF a b ka kb) (tb (deg ka)).1 (nF a b ka kb) (tb (deg kb)).1 ∧ Rest b (mF a b ka kb) (tb (deg ka)).2 (nF a b ka kb) (tb (deg kb)).2 := by
  obtain ⟨ha, hb, h1, h2⟩ := okW_parts h
  obtain ⟨⟨l1, l2⟩, l3, l4⟩ := len_part ha hb hl
  have far := e_far h1 h2
  have far2 := wide_apart h1 h2
  obtain ⟨tu1, tu2, tv1, tv2⟩ := tn4 (deg_lt ka) (deg_lt kb)
  have E : Ap .f64 (re (deg ka) * im (deg kb) - im (deg ka) * re (deg kb)) (1 / 100000000000000) 3 (eF ka kb) := ap_e (deg_lt ka) (deg_lt kb)
  have A : Ap .f64 (V FloatKind.f64.format a) 0 100001 a := Ap.exact (vOk_num ha).1 l1 l2
  have B : Ap .f64 (V FloatKind.f64.format b) 0 100001 b := Ap.exact (vOk_num hb).1 l3 l4
  have g1 := g64 (100001 * (11 / 10)) (by decide +kernel)
  have g1' := g64 (11 / 10 * 100001) (by decide +kernel)
  have g2 := g64 (120000 + 120000) (by decide +kernel)
  have X := ap_cross rfl rfl rfl rfl A B tv1 tv2 (1 / 10000000000) 120000 (1 / 1000000000) 250000 (by decide +kernel) (by grind) (by grind) (by decide +kernel) (by grind) (by grind)
  have Y := ap_cross rfl rfl rfl rfl tu1 tu2 A B (1 / 10000000000) 120000 (1 / 1000000000) 250000 (by decide +kernel) (by grind) (by grind) (by decide +kernel) (by grind) (by grind)
  have eU : re (deg ka) * im (deg kb) - im (deg ka) * re (deg kb) ≠ 0 := by grind
  generalize re (deg ka) = u1 at *
  generalize im (deg ka) = u2 at *
  generalize re (deg kb) = v1 at *
  generalize im (deg kb) = v2 at *
  generalize V FloatKind.f64.format a = p at *
  generalize V FloatKind.f64.format b = q at *
  obtain ⟨D, hD⟩ : ∃ D, u1 * v2 - u2 * v1 = D := ⟨_, rfl⟩
  obtain ⟨m, hm⟩ : ∃ m : Rat, m * D = p * v2 - q * v1 := ⟨(p * v2 - q * v1) / D, by rw [Rat.div_mul_cancel]; grind⟩
  obtain ⟨n, hn⟩ : ∃ n : Rat, n * D = u1 * q - u2 * p := ⟨(u1 * q - u2 * p) / D, by rw [Rat.div_mul_cancel]; grind⟩
  rw [hD] at E eU far2
  have small : ∀ z t : Rat, 0 ≤ t → -(t * (869 / 10000)) ≤ z * D → z * D ≤ t * (869 / 10000) → -t ≤ z ∧ z ≤ t := fun z t h0 k1 k2 => by
    rcases far2 with f | f
    · have hp : 0 < D := by grind
      have g := Rat.mul_le_mul_of_nonneg_left f h0
      exact ⟨le_of_mul hp (by grind), le_of_mul hp (by grind)⟩
    · have hp : 0 < -D := by grind
      have g := Rat.mul_le_mul_of_nonneg_left (show 869 / 10000 ≤ -D by grind) h0
      exact ⟨le_of_mul hp (by grind), le_of_mul hp (by grind)⟩
  have mb := small m 3000000 (by decide) (by have := X.vl; have := X.vh; grind) (by have := X.vl; have := X.vh; grind)
  have nb := small n 3000000 (by decide) (by have := Y.vl; have := Y.vh; grind) (by have := Y.vl; have := Y.vh; grind)
  have R0 := r64
  have g3 := g64 3000000 (by decide)
  have M : Ap .f64 m (2 / 1000000) 4000000 (mF a b ka kb) := X.quo E hm (868 / 10000) 3000000 3000000 _ _ (by decide +kernel) far mb (by decide +kernel) (by grind) (by grind) (by grind) (by decide +kernel)
  have N : Ap .f64 n (2 / 1000000) 4000000 (nF a b ka kb) := Y.quo E hn (868 / 10000) 3000000 3000000 _ _ (by decide +kernel) far nb (by decide +kernel) (by grind) (by grind) (by grind) (by decide +kernel)
  have z1 : p - m * u1 - n * v1 = 0 := by
    have : (p - m * u1 - n * v1) * D = 0 := by
      have : (p - m * u1 - n * v1) * D = p * D - (m * D) * u1 - (n * D) * v1 := by grind
      rw [this, hm, hn, ← hD]; grind
    rcases Rat.mul_eq_zero.1 this with h | h
    · exact h
    · exact absurd h eU
  have z2 : q - m * u2 - n * v2 = 0 := by
    have : (q - m * u2 - n * v2) * D = 0 := by
      have : (q - m * u2 - n * v2) * D = q * D - (m * D) * u2 - (n * D) * v2 := by grind
      rw [this, hm, hn, ← hD]; grind
    rcases Rat.mul_eq_zero.1 this with h | h
    · exact h
    · exact absurd h eU
  exact ⟨rest A M N tu1 tv1 z1, rest B M N tu2 tv2 z2⟩
/-! ### the functions -/
theorem impl_CrossS (a b c d : Nat) (h : CF a b c d) (w : World) : Calls Try.prog 38 #[.complex .f64 a b, .complex .f64 c d] w fun e w' => e = .returned (.float .f64 (crossF a b c d)) ∧ w = w' := by
  obtain ⟨h1, h2, h3, _⟩ := h
  go_enter Try.func38, Try.ntmps38
  go_wp2
  go_ret
  exact ⟨rfl, rfl⟩
theorem impl_Split_yes (a b : Nat) (ka kb : Int) (h : okW a b ka kb = true) (w : World) : Calls Try.prog 10 #[.complex .f64 a b, .int .i64 ka, .int .i64 kb] w fun e w' => e = .returned (.tuple #[.float .f64 (mF a b ka kb), .float .f64 (nF a b ka kb), .bool true]) ∧ w = w' := by
  have W := way h
  have HW := Lib.hid W
  unfold okW at h
  rw [Bool.and_eq_true] at h
  have H1 := Lib.hid h.1
  have H2 := Lib.hid h.2
  have q1 := W.q1
  have q2 := W.q2
  unfold eF at q1 q2
  clear h W
  go_enter Try.func10, Try.ntmps10
  go_wp2_with (first | (go_at_call 35; refine (impl_VectorOk _ _ _).mono ?_; rintro e w' ⟨rfl, rfl⟩; rw [H1.out]) | (go_at_call 37; refine (impl_Between _ _ _).mono ?_; rintro e w' ⟨rfl, rfl⟩) | (go_at_call 36; refine (impl_within _ _ _ _).mono ?_; rintro e w' ⟨rfl, rfl⟩; rw [H2.out]) | (go_at_call 13; refine (impl_Turn _ _).mono ?_; rintro e w' ⟨rfl, rfl⟩) | (go_at_call 38; refine (impl_CrossS _ _ _ _ (by first | exact HW.out.e | exact HW.out.x | exact HW.out.y) _).mono ?_; rintro e w' ⟨rfl, rfl⟩))
  go_ret3
  exact ⟨rfl, rfl⟩
theorem impl_Split_no (a b : Nat) (ka kb : Int) (h : okW a b ka kb = false) (w : World) : Calls Try.prog 10 #[.complex .f64 a b, .int .i64 ka, .int .i64 kb] w fun e w' => e = .returned (.tuple #[.float .f64 0, .float .f64 0, .bool false]) ∧ w = w' := by
  unfold okW at h
  cases h1 : (vOk a && vOk b)
  · have H1 := Lib.hid h1
    clear h h1
    go_enter Try.func10, Try.ntmps10
    go_wp2_with (first | (go_at_call 35; refine (impl_VectorOk _ _ _).mono ?_; rintro e w' ⟨rfl, rfl⟩; rw [H1.out]))
    go_ret3
    exact ⟨rfl, rfl⟩
  · rw [h1, Bool.true_and] at h
    have H1 := Lib.hid h1
    have H2 := Lib.hid h
    clear h h1
    go_enter Try.func10, Try.ntmps10
    go_wp2_with (first | (go_at_call 35; refine (impl_VectorOk _ _ _).mono ?_; rintro e w' ⟨rfl, rfl⟩; rw [H1.out]) | (go_at_call 37; refine (impl_Between _ _ _).mono ?_; rintro e w' ⟨rfl, rfl⟩) | (go_at_call 36; refine (impl_within _ _ _ _).mono ?_; rintro e w' ⟨rfl, rfl⟩; rw [H2.out]))
    go_ret3
    exact ⟨rfl, rfl⟩
theorem spec_CrossS (a b c d : Nat) (h : CF a b c d) (w : World) : Calls Try.prog 43 #[.complex .f64 a b, .complex .f64 c d] w fun e w' => e = .returned (.float .f64 (crossF a b c d)) ∧ w = w' := by
  obtain ⟨h1, h2, h3, _⟩ := h
  go_enter Try.func43, Try.ntmps43
  go_wp2
  go_ret
  exact ⟨rfl, rfl⟩
theorem spec_Split_yes (a b : Nat) (ka kb : Int) (h : okW a b ka kb = true) (w : World) : Calls Try.prog 11 #[.complex .f64 a b, .int .i64 ka, .int .i64 kb] w fun e w' => e = .returned (.tuple #[.float .f64 (mF a b ka kb), .float .f64 (nF a b ka kb), .bool true]) ∧ w = w' := by
  have W := way h
  have HW := Lib.hid W
  unfold okW at h
  rw [Bool.and_eq_true] at h
  have H1 := Lib.hid h.1
  have H2 := Lib.hid h.2
  have q1 := W.q1
  have q2 := W.q2
  unfold eF at q1 q2
  clear h W
  go_enter Try.func11, Try.ntmps11
  go_wp2_with (first | (go_at_call 39; refine (spec_VectorOk _ _ _).mono ?_; rintro e w' ⟨rfl, rfl⟩; rw [H1.out]) | (go_at_call 41; refine (spec_Between _ _ _).mono ?_; rintro e w' ⟨rfl, rfl⟩) | (go_at_call 40; refine (spec_l01In _ _ _ _).mono ?_; rintro e w' ⟨rfl, rfl⟩; rw [H2.out]) | (go_at_call 42; refine (spec_Turn _ _).mono ?_; rintro e w' ⟨rfl, rfl⟩) | (go_at_call 43; refine (spec_CrossS _ _ _ _ (by first | exact HW.out.e | exact HW.out.x | exact HW.out.y) _).mono ?_; rintro e w' ⟨rfl, rfl⟩))
  go_ret3
  exact ⟨rfl, rfl⟩
theorem spec_Split_no (a b : Nat) (ka kb : Int) (h : okW a b ka kb = false) (w : World) : Calls Try.prog 11 #[.complex .f64 a b, .int .i64 ka, .int .i64 kb] w fun e w' => e = .returned (.tuple #[.float .f64 0, .float .f64 0, .bool false]) ∧ w = w' := by
  unfold okW at h
  cases h1 : (vOk a && vOk b)
  · have H1 := Lib.hid h1
    clear h h1
    go_enter Try.func11, Try.ntmps11
    go_wp2_with (first | (go_at_call 39; refine (spec_VectorOk _ _ _).mono ?_; rintro e w' ⟨rfl, rfl⟩; rw [H1.out]))
    go_ret3
    exact ⟨rfl, rfl⟩
  · rw [h1, Bool.true_and] at h
    have H1 := Lib.hid h1
    have H2 := Lib.hid h
    clear h h1
    go_enter Try.func11, Try.ntmps11
    go_wp2_with (first | (go_at_call 39; refine (spec_VectorOk _ _ _).mono ?_; rintro e w' ⟨rfl, rfl⟩; rw [H1.out]) | (go_at_call 41; refine (spec_Between _ _ _).mono ?_; rintro e w' ⟨rfl, rfl⟩) | (go_at_call 40; refine (spec_l01In _ _ _ _).mono ?_; rintro e w' ⟨rfl, rfl⟩; rw [H2.out]))
    go_ret3
    exact ⟨rfl, rfl⟩
end Go.Proofs.Ytpapcohenejpmaa.Sp2
