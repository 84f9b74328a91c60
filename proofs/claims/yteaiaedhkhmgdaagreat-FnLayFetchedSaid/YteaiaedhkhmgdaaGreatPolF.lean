/- Polars as data: which are valid; the speed that one tells, in bits; all of it firm. Nothing of the program. -/
import Derived.Test.YteaiaedhkhmgdaaGreatBd
namespace Go.Proofs.YteaiaedhkhmgdaaGreat.Pf
open Go.RowKit Kit Fl Bd Ieee
/-! ### floats -/
theorem read_place {f : Format} {x : Nat} {s : Bool} {m : Nat} {e : Int} (h : f.read x = .number s m e) : ∃ k : Nat, e = f.leastPlace + k := by
  unfold Format.read at h
  simp only at h
  split at h
  · simp only [Datum.number.injEq] at h
    exact ⟨0, by omega⟩
  · split at h
    · simp only [Datum.number.injEq] at h
      exact ⟨_, h.2.2.symm⟩
    · split at h <;> cases h
theorem grid {f : Format} {x : Nat} (h : Num f x) : ∃ n : Int, V f x = (n : Rat) * p2 f.leastPlace := by
  obtain ⟨s, m, e, hr⟩ := h
  obtain ⟨k, rfl⟩ := read_place hr
  rw [V_of hr]
  unfold sval
  have e1 : (m : Rat) * p2 (f.leastPlace + k) = ((m * 2 ^ k : Nat) : Rat) * p2 f.leastPlace := by
    rw [p2_add, p2_nat]; push_cast; grind
  cases s
  · refine ⟨((m * 2 ^ k : Nat) : Int), ?_⟩
    rw [if_neg (by decide), e1, Rat.intCast_natCast]
  · refine ⟨-((m * 2 ^ k : Nat) : Int), ?_⟩
    rw [if_pos rfl, e1, Rat.intCast_neg, Rat.intCast_natCast]
    grind
theorem grid_gap {f : Format} {x y : Nat} (hx : Num f x) (hy : Num f y) (h : V f x < V f y) : p2 f.leastPlace ≤ V f y - V f x := by
  obtain ⟨n, hn⟩ := grid hx
  obtain ⟨m, hm⟩ := grid hy
  have hp := p2_pos f.leastPlace
  rw [hn, hm] at h
  have h1 := lt_of_mul hp h
  have h2 : n < m := by exact_mod_cast h1
  have h3 : (1 : Rat) ≤ ((m - n : Int) : Rat) := by exact_mod_cast (show (1 : Int) ≤ m - n by omega)
  have h4 := mul_le_of (Rat.le_of_lt hp) h3
  rw [hn, hm]
  push_cast at h4
  grind
theorem least32 : FloatKind.f32.format.leastPlace = -149 := by decide
theorem reach32 : reach FloatKind.f32.format = 127 := by decide
/-- a quotient of what is at most its divisor -/
theorem ratio {x y : Nat} (hx : Num FloatKind.f32.format x) (hy : Num FloatKind.f32.format y) (h0 : 0 ≤ V FloatKind.f32.format x) (h1 : V FloatKind.f32.format x ≤ V FloatKind.f32.format y) (h2 : 0 < V FloatKind.f32.format y) :
    (floatBits .quo .f32 x y).isSome = true ∧ Bnd .f32 0 (fl .quo .f32 x y) := by
  have P0 := p2_zero
  have P1 : p2 127 > 10 := by decide +kernel
  have hq : V FloatKind.f32.format x / V FloatKind.f32.format y * V FloatKind.f32.format y = V FloatKind.f32.format x := Rat.div_mul_cancel (by grind)
  have q0 : 0 ≤ V FloatKind.f32.format x / V FloatKind.f32.format y := by
    refine le_of_mul h2 ?_
    rw [hq]; grind
  have q1 : V FloatKind.f32.format x / V FloatKind.f32.format y ≤ 1 := by
    refine le_of_mul h2 ?_
    rw [hq]; grind
  obtain ⟨z, e1, e2, e3⟩ := div_num (Sm.kx .f32) hx hy _ hq (by grind) (by rw [reach32]; grind) (by rw [reach32]; grind)
  have e : fl .quo .f32 x y = z := fl_eq e1
  refine ⟨by show (FloatKind.f32.format.div _ _).isSome = true; rw [e1]; rfl, ?_⟩
  rw [e]
  exact ⟨e2, e3.ge_p2 _ (by rw [least32]; omega) (by grind), e3.le_p2 _ (by rw [least32]; omega) (by grind)⟩
/-- the share of a way from lo to hi -/
structure Share (lo hi x : Nat) : Prop where
  s1 : (floatBits .sub .f32 x lo).isSome = true
  s2 : (floatBits .sub .f32 hi lo).isSome = true
  q : (floatBits .quo .f32 (fl .sub .f32 x lo) (fl .sub .f32 hi lo)).isSome = true
  b : Bnd .f32 0 (fl .quo .f32 (fl .sub .f32 x lo) (fl .sub .f32 hi lo))
theorem share {lo hi x : Nat} (hl : Bnd .f32 7 lo) (hh : Bnd .f32 7 hi) (hx : Bnd .f32 7 x) (h1 : V FloatKind.f32.format lo ≤ V FloatKind.f32.format x) (h2 : V FloatKind.f32.format x ≤ V FloatKind.f32.format hi) (h3 : V FloatKind.f32.format lo < V FloatKind.f32.format hi) : Share lo hi x := by
  have P7 : p2 7 < 1000 := by decide +kernel
  have P1 : p2 127 > 10000 := by decide +kernel
  have := hl.lo; have := hl.hi; have := hh.lo; have := hh.hi; have := hx.lo; have := hx.hi
  obtain ⟨z1, e1, n1, r1⟩ := sub_num (Sm.kx .f32) hx.num hl.num (by rw [reach32]; grind) (by rw [reach32]; grind)
  obtain ⟨z2, e2, n2, r2⟩ := sub_num (Sm.kx .f32) hh.num hl.num (by rw [reach32]; grind) (by rw [reach32]; grind)
  have f1 : fl .sub .f32 x lo = z1 := fl_eq e1
  have f2 : fl .sub .f32 hi lo = z2 := fl_eq e2
  have a0 := r1.nonneg (by grind)
  have a1 := SRd.mono r1 r2 (by grind)
  have g := grid_gap hl.num hh.num h3
  have hb : FloatKind.f32.format.binade = 8388608 := by decide
  have a2 := r2.ge 1 FloatKind.f32.format.leastPlace (by omega) (by rw [hb]; omega) (by simpa using g)
  have hp := p2_pos FloatKind.f32.format.leastPlace
  have R := ratio n1 n2 a0 a1 (by simp at a2; grind)
  exact ⟨hx.subS hl, hh.subS hl, by rw [f1, f2]; exact R.1, by rw [f1, f2]; exact R.2⟩
def mixF (a b q : Nat) : Nat := fl .add .f32 a (fl .mul .f32 (fl .sub .f32 b a) q)
structure Mix (a b q : Nat) : Prop where
  s : (floatBits .sub .f32 b a).isSome = true
  m : (floatBits .mul .f32 (fl .sub .f32 b a) q).isSome = true
  d : (floatBits .add .f32 a (fl .mul .f32 (fl .sub .f32 b a) q)).isSome = true
theorem mix {e : Int} {a b q : Nat} (ha : Bnd .f32 e a) (hb : Bnd .f32 e b) (hq : Bnd .f32 0 q) (h0 : 0 ≤ e) (h1 : e ≤ 20) : Mix a b q ∧ Bnd .f32 (e + 2) (mixF a b q) := by
  have S := hb.sub ha (by rw [least32]; omega) (by rw [reach32]; omega)
  have M := S.mul hq (by rw [least32]; omega) (by rw [reach32]; omega)
  have A := (ha.mono (show e ≤ e + 1 + 0 by omega))
  have D := A.add M (by rw [least32]; omega) (by rw [reach32]; omega)
  exact ⟨⟨hb.subS ha, S.mulS hq, A.addS M⟩, D.mono (by omega)⟩
theorem int_val {n : Int} (h1 : -1000 ≤ n) (h2 : n ≤ 1000) : Num FloatKind.f32.format (floatOfInt .f32 n) ∧ V FloatKind.f32.format (floatOfInt .f32 n) = (n : Rat) := by
  obtain ⟨b, sr⟩ := ofInt (k := .f32) (n := n) (e := 10) (by simp <;> omega) (by simp; omega) (by decide +kernel)
  refine ⟨b.num, ?_⟩
  have e0 : sval (decide (n < 0)) n.natAbs 0 = (n : Rat) := by
    unfold sval
    rw [p2_zero]
    by_cases h : n < 0
    · rw [decide_eq_true h, if_pos rfl, Rat.mul_one]
      have : ((n.natAbs : Nat) : Rat) = ((-n : Int) : Rat) := by
        rw [← Rat.intCast_natCast]
        congr 1
        omega
      rw [this, Rat.intCast_neg]
      grind
    · rw [decide_eq_false h, if_neg (by decide), Rat.mul_one, ← Rat.intCast_natCast]
      congr 1
      omega
  rw [← e0] at sr
  have hb : FloatKind.f32.format.binade = 8388608 := by decide
  have := sr.exact (by rw [least32]; omega) (by rw [hb]; omega)
  rw [this, e0]
/-- the share of a way between whole numbers -/
theorem shareI {lo hi g : Int} (h0 : 0 ≤ lo) (h1 : lo ≤ g) (h2 : g ≤ hi) (h3 : lo < hi) (h4 : hi ≤ 180) : (floatBits .quo .f32 (floatOfInt .f32 (g - lo)) (floatOfInt .f32 (hi - lo))).isSome = true ∧ Bnd .f32 0 (fl .quo .f32 (floatOfInt .f32 (g - lo)) (floatOfInt .f32 (hi - lo))) := by
  obtain ⟨n1, v1⟩ := int_val (n := g - lo) (by omega) (by omega)
  obtain ⟨n2, v2⟩ := int_val (n := hi - lo) (by omega) (by omega)
  refine ratio n1 n2 ?_ ?_ ?_
  · rw [v1]; exact_mod_cast (show (0 : Int) ≤ g - lo by omega)
  · rw [v1, v2]; exact_mod_cast (show g - lo ≤ hi - lo by omega)
  · rw [v2]; exact_mod_cast (show (0 : Int) < hi - lo by omega)
/-! ### tests of singles -/
def leB (x y : Nat) : Bool := FloatKind.f32.format.order x y == some .lt || FloatKind.f32.format.order x y == some .eq
def geB (x y : Nat) : Bool := FloatKind.f32.format.order x y == some .gt || FloatKind.f32.format.order x y == some .eq
def gtB (x y : Nat) : Bool := FloatKind.f32.format.order x y == some .gt
def windB (x : Nat) : Bool := gtB x 0 && leB x 1120403456
def speedB (s : Nat) : Bool := geB s 0 && leB s 1112014848
def airB (x : Nat) : Bool := geB x 0 && leB x 1120403456
theorem n100 : Num FloatKind.f32.format 1120403456 := num_iff.2 (by decide +kernel)
theorem n50 : Num FloatKind.f32.format 1112014848 := num_iff.2 (by decide +kernel)
theorem n0 : Num FloatKind.f32.format 0 := num_iff.2 (by decide +kernel)
theorem v0 : V FloatKind.f32.format 0 = 0 := by
  rw [V_of (show FloatKind.f32.format.read 0 = .number false 0 (-149) by decide +kernel)]
  simp [sval]
theorem v100 : V FloatKind.f32.format 1120403456 ≤ p2 7 := (bnd_lit (k := .f32) (e := 7) (by decide +kernel)).hi
theorem v50 : V FloatKind.f32.format 1112014848 ≤ p2 6 := (bnd_lit (k := .f32) (e := 6) (by decide +kernel)).hi
theorem leB_num {x y : Nat} (hx : Num FloatKind.f32.format x) (hy : Num FloatKind.f32.format y) : leB x y = decide (V FloatKind.f32.format x ≤ V FloatKind.f32.format y) := by
  unfold leB
  rw [lss_num hx hy, eql_num hx hy, ← Bool.decide_or]
  congr 1
  exact propext ⟨fun h => by grind, fun h => by grind⟩
theorem geB_num {x y : Nat} (hx : Num FloatKind.f32.format x) (hy : Num FloatKind.f32.format y) : geB x y = decide (V FloatKind.f32.format y ≤ V FloatKind.f32.format x) := by
  unfold geB
  rw [gtr_num hx hy, eql_num hx hy, ← Bool.decide_or]
  congr 1
  exact propext ⟨fun h => by grind, fun h => by grind⟩
theorem gtB_num {x y : Nat} (hx : Num FloatKind.f32.format x) (hy : Num FloatKind.f32.format y) : gtB x y = decide (V FloatKind.f32.format y < V FloatKind.f32.format x) := gtr_num hx hy
theorem between_num {x lo hi : Nat} (hl : Num FloatKind.f32.format lo) (hh : Num FloatKind.f32.format hi) (h1 : geB x lo = true) (h2 : leB x hi = true) : Num FloatKind.f32.format x := by
  unfold geB at h1
  unfold leB at h2
  simp at h1 h2
  exact num_between hl hh h1 h2
theorem gt_ge {x y : Nat} (h : gtB x y = true) : geB x y = true := by
  unfold gtB at h
  unfold geB
  rw [h]; rfl
theorem wind_num {x : Nat} (h : windB x = true) : Num FloatKind.f32.format x := by
  unfold windB at h
  rw [Bool.and_eq_true] at h
  exact between_num n0 n100 (gt_ge h.1) h.2
theorem wind_bnd {x : Nat} (h : windB x = true) : Bnd .f32 7 x ∧ 0 < V FloatKind.f32.format x := by
  have hn := wind_num h
  unfold windB at h
  rw [gtB_num hn n0, leB_num hn n100, v0] at h
  simp only [Bool.and_eq_true, decide_eq_true_eq] at h
  have := v100
  have := p2_pos 7
  exact ⟨⟨hn, by grind, by grind⟩, h.1⟩
theorem air_bnd {x : Nat} (h : airB x = true) : Bnd .f32 7 x ∧ 0 ≤ V FloatKind.f32.format x := by
  unfold airB at h
  rw [Bool.and_eq_true] at h
  have hn := between_num n0 n100 h.1 h.2
  rw [geB_num hn n0, leB_num hn n100, v0] at h
  simp only [decide_eq_true_eq] at h
  have := v100
  have := p2_pos 7
  exact ⟨⟨hn, by grind, by grind⟩, h.1⟩
theorem speed_bnd {x : Nat} (h : speedB x = true) : Bnd .f32 6 x := by
  unfold speedB at h
  rw [Bool.and_eq_true] at h
  have hn := between_num n0 n50 h.1 h.2
  rw [geB_num hn n0, leB_num hn n50, v0] at h
  simp only [decide_eq_true_eq] at h
  have := v50
  have := p2_pos 6
  exact ⟨hn, by grind, by grind⟩
theorem le_not_gt {x y : Nat} (hx : Num FloatKind.f32.format x) (hy : Num FloatKind.f32.format y) : leB x y = !gtB x y := by
  rw [leB_num hx hy, gtB_num hx hy, ← decide_not]
  congr 1
  exact propext ⟨fun h => by grind, fun h => by grind⟩
/-! ### polars -/
structure Pol where
  ws : List Nat
  an : List Int
  rows : List (List Nat)
def fn (l : List Nat) (j : Nat) : Nat := l.getD j 0
def zn (l : List Int) (j : Nat) : Int := l.getD j 0
def rn (l : List (List Nat)) (j : Nat) : List Nat := l.getD j []
structure Okp (d : Pol) : Prop where
  nw : 1 ≤ d.ws.length ∧ d.ws.length ≤ 12
  na : 2 ≤ d.an.length ∧ d.an.length ≤ 24
  nr : d.rows.length = d.ws.length
  w1 : ∀ i, i < d.ws.length → windB (fn d.ws i) = true
  w2 : ∀ i, i + 1 < d.ws.length → gtB (fn d.ws (i + 1)) (fn d.ws i) = true
  a1 : ∀ i, i + 1 < d.an.length → zn d.an i < zn d.an (i + 1)
  a0 : zn d.an 0 = 0
  a9 : zn d.an (d.an.length - 1) = 180
  r1 : ∀ i, i < d.rows.length → (rn d.rows i).length = d.an.length
  r2 : ∀ i, i < d.rows.length → ∀ j, j < (rn d.rows i).length → speedB (fn (rn d.rows i) j) = true
noncomputable def okB (d : Pol) : Bool := @decide (Okp d) (Classical.propDecidable _)
theorem okB_iff {d : Pol} : okB d = true ↔ Okp d := by
  unfold okB
  exact @decide_eq_true_iff (Okp d) (Classical.propDecidable _)
theorem okB_no {d : Pol} (h : ¬ Okp d) : okB d = false := by
  cases e : okB d
  · rfl
  · exact absurd (okB_iff.1 e) h
theorem an_mono {d : Pol} (h : Okp d) : ∀ j i, i < j → j < d.an.length → zn d.an i < zn d.an j := by
  intro j
  induction j with
  | zero => intro i hi; omega
  | succ j ih =>
    intro i hi hj
    have := h.a1 j hj
    by_cases e : i = j
    · subst e; exact this
    · have := ih i (by omega) (by omega)
      omega
theorem an_range {d : Pol} (h : Okp d) {j : Nat} (hj : j < d.an.length) : 0 ≤ zn d.an j ∧ zn d.an j ≤ 180 := by
  have h0 := h.a0
  have h9 := h.a9
  constructor
  · by_cases e : j = 0
    · subst e; omega
    · have := an_mono h j 0 (by omega) hj
      omega
  · by_cases e : j = d.an.length - 1
    · subst e; omega
    · have := an_mono h (d.an.length - 1) j (by omega) (by omega)
      omega
/-- the first angle that is not below -/
def kOf (an : List Int) (g : Int) : Nat := an.findIdx (fun x => decide (g ≤ x))
theorem kOf_eq {an : List Int} {g : Int} {k : Nat} (hk : k < an.length) (h1 : ∀ i, i < k → zn an i < g) (h2 : g ≤ zn an k) : kOf an g = k := by
  unfold kOf
  rw [List.findIdx_eq hk]
  have e : ∀ i (hi : i < an.length), zn an i = an[i] := fun i hi => by unfold zn; rw [List.getD_eq_getElem?_getD, List.getElem?_eq_getElem hi]; rfl
  refine ⟨by rw [← e k hk]; simpa using h2, fun i hi => ?_⟩
  have := h1 i hi
  rw [e i (by omega)] at this
  simp; omega
def shareA (an : List Int) (g : Int) (k : Nat) : Nat := fl .quo .f32 (floatOfInt .f32 (g - zn an (k - 1))) (floatOfInt .f32 (zn an k - zn an (k - 1)))
def rowF (an : List Int) (row : List Nat) (g : Int) : Nat :=
  if zn an (kOf an g) = g then fn row (kOf an g) else mixF (fn row (kOf an g - 1)) (fn row (kOf an g)) (shareA an g (kOf an g))
structure Found (an : List Int) (row : List Nat) (g : Int) (k : Nat) : Prop where
  g0 : 0 ≤ g ∧ g ≤ 180
  r : ∀ i, i < an.length → 0 ≤ zn an i ∧ zn an i ≤ 180
  s : an.length ≤ 24
  lt : k < an.length
  lr : k < row.length
  lo : ∀ i, i < k → zn an i < g
  hi : g ≤ zn an k
  k0 : zn an k ≠ g → 0 < k
  q : zn an k ≠ g → (floatBits .quo .f32 (floatOfInt .f32 (g - zn an (k - 1))) (floatOfInt .f32 (zn an k - zn an (k - 1)))).isSome = true ∧ Mix (fn row (k - 1)) (fn row k) (shareA an g k)
theorem found {d : Pol} (h : Okp d) {g : Int} (g0 : 0 ≤ g) (g1 : g ≤ 180) {i : Nat} (hi : i < d.rows.length) : Found d.an (rn d.rows i) g (kOf d.an g) ∧ Bnd .f32 8 (rowF d.an (rn d.rows i) g) := by
  have hx : ∃ x ∈ d.an, decide (g ≤ x) = true := by
    refine ⟨zn d.an (d.an.length - 1), ?_, by rw [h.a9]; simpa using g1⟩
    have := h.na
    unfold zn
    rw [List.getD_eq_getElem?_getD, List.getElem?_eq_getElem (show d.an.length - 1 < d.an.length by omega)]
    exact List.getElem_mem _
  have hlt : kOf d.an g < d.an.length := List.findIdx_lt_length_of_exists hx
  have e : ∀ i (hi : i < d.an.length), zn d.an i = d.an[i] := fun i hi => by unfold zn; rw [List.getD_eq_getElem?_getD, List.getElem?_eq_getElem hi]; rfl
  have hk2 : g ≤ zn d.an (kOf d.an g) := by
    rw [e _ hlt]
    have := List.findIdx_getElem (p := fun x => decide (g ≤ x)) (xs := d.an) (w := hlt)
    exact of_decide_eq_true this
  have hk1 : ∀ i, i < kOf d.an g → zn d.an i < g := by
    intro i hi
    rw [e i (by omega)]
    have := List.not_of_lt_findIdx (p := fun x => decide (g ≤ x)) (xs := d.an) hi
    simp at this
    exact this
  have hr := h.r1 i hi
  have hs : ∀ j, j < d.an.length → Bnd .f32 6 (fn (rn d.rows i) j) := fun j hj => speed_bnd (h.r2 i hi j (by omega))
  have hk0 : zn d.an (kOf d.an g) ≠ g → 0 < kOf d.an g := by
    intro hne
    by_cases e0 : kOf d.an g = 0
    · rw [e0, h.a0] at hne hk2
      omega
    · omega
  have hq : zn d.an (kOf d.an g) ≠ g → (floatBits .quo .f32 (floatOfInt .f32 (g - zn d.an (kOf d.an g - 1))) (floatOfInt .f32 (zn d.an (kOf d.an g) - zn d.an (kOf d.an g - 1)))).isSome = true ∧ Bnd .f32 0 (shareA d.an g (kOf d.an g)) := by
    intro hne
    have k0 := hk0 hne
    have := hk1 (kOf d.an g - 1) (by omega)
    have := (an_range h (j := kOf d.an g - 1) (by omega)).1
    have := (an_range h hlt).2
    exact shareI (by omega) (by omega) hk2 (by omega) (by omega)
  refine ⟨⟨⟨g0, g1⟩, fun i hi => an_range h hi, h.na.2, hlt, by omega, hk1, hk2, hk0, fun hne => ⟨(hq hne).1, (mix (hs _ (by omega)) (hs _ hlt) (hq hne).2 (by omega) (by omega)).1⟩⟩, ?_⟩
  unfold rowF
  split
  · exact (hs _ hlt).mono (by omega)
  · rename_i hne
    exact (mix (hs _ (by omega)) (hs _ hlt) (hq hne).2 (by omega) (by omega)).2
/-- the last wind that is not above, ahead of the last of all -/
def jOf (ws : List Nat) (x : Nat) : Nat := ws.tail.findIdx (fun y => !leB y x)
theorem jOf_eq {ws : List Nat} {x j : Nat} (hj : j + 1 < ws.length) (h1 : ∀ i, i < j → leB (fn ws (i + 1)) x = true) (h2 : leB (fn ws (j + 1)) x = false) : jOf ws x = j := by
  unfold jOf
  have hl : ws.tail.length = ws.length - 1 := List.length_tail
  have e : ∀ i (hi : i < ws.tail.length), fn ws (i + 1) = ws.tail[i] := fun i hi => by
    unfold fn
    rw [List.getElem_tail, List.getD_eq_getElem?_getD, List.getElem?_eq_getElem (by omega)]; rfl
  rw [List.findIdx_eq (by omega)]
  refine ⟨by rw [← e j (by omega), h2]; rfl, fun i hi => ?_⟩
  rw [← e i (by omega), h1 i hi]; rfl
def shareW (ws : List Nat) (x j : Nat) : Nat := fl .quo .f32 (fl .sub .f32 x (fn ws j)) (fl .sub .f32 (fn ws (j + 1)) (fn ws j))
def speedF (d : Pol) (x : Nat) (g : Int) : Nat :=
  if leB x (fn d.ws 0) = true then fl .mul .f32 (fl .quo .f32 x (fn d.ws 0)) (rowF d.an (rn d.rows 0) g)
  else if geB x (fn d.ws (d.ws.length - 1)) = true then rowF d.an (rn d.rows (d.ws.length - 1)) g
  else mixF (rowF d.an (rn d.rows (jOf d.ws x)) g) (rowF d.an (rn d.rows (jOf d.ws x + 1)) g) (shareW d.ws x (jOf d.ws x))
theorem low {d : Pol} (h : Okp d) {x : Nat} (hx : airB x = true) (hc : leB x (fn d.ws 0) = true) {g : Int} (g0 : 0 ≤ g) (g1 : g ≤ 180) :
    (floatBits .quo .f32 x (fn d.ws 0)).isSome = true ∧ (floatBits .mul .f32 (fl .quo .f32 x (fn d.ws 0)) (rowF d.an (rn d.rows 0) g)).isSome = true ∧ Bnd .f32 10 (speedF d x g) := by
  have hw := h.nw
  have hr := h.nr
  obtain ⟨b, p⟩ := wind_bnd (h.w1 0 (by omega))
  obtain ⟨bx, px⟩ := air_bnd hx
  have hc' := hc
  rw [leB_num bx.num b.num] at hc'
  obtain ⟨q1, q2⟩ := ratio bx.num b.num px (of_decide_eq_true hc') p
  have F := (found h g0 g1 (i := 0) (by omega)).2
  refine ⟨q1, q2.mulS F, ?_⟩
  unfold speedF
  rw [if_pos hc]
  exact (q2.mul F (by rw [least32]; omega) (by rw [reach32]; omega)).mono (by omega)
theorem high {d : Pol} (h : Okp d) {x : Nat} (hc : leB x (fn d.ws 0) = false) (hd : geB x (fn d.ws (d.ws.length - 1)) = true) {g : Int} (g0 : 0 ≤ g) (g1 : g ≤ 180) : Bnd .f32 10 (speedF d x g) := by
  have hw := h.nw
  have hr := h.nr
  unfold speedF
  rw [if_neg (by rw [hc]; decide), if_pos hd]
  exact (found h g0 g1 (i := d.ws.length - 1) (by omega)).2.mono (by omega)
structure Mid (d : Pol) (x : Nat) (g : Int) (j : Nat) : Prop where
  lt : j + 1 < d.ws.length
  lo : ∀ i, i < j → leB (fn d.ws (i + 1)) x = true
  hi : leB (fn d.ws (j + 1)) x = false
  sh : Share (fn d.ws j) (fn d.ws (j + 1)) x
  mx : Mix (rowF d.an (rn d.rows j) g) (rowF d.an (rn d.rows (j + 1)) g) (shareW d.ws x j)
theorem mid {d : Pol} (h : Okp d) {x : Nat} (hx : airB x = true) (hc : leB x (fn d.ws 0) = false) (hd : geB x (fn d.ws (d.ws.length - 1)) = false) {g : Int} (g0 : 0 ≤ g) (g1 : g ≤ 180) : Mid d x g (jOf d.ws x) ∧ Bnd .f32 10 (speedF d x g) := by
  have hw := h.nw
  have hr := h.nr
  obtain ⟨bx, px⟩ := air_bnd hx
  have B : ∀ i, i < d.ws.length → Bnd .f32 7 (fn d.ws i) := fun i hi => (wind_bnd (h.w1 i hi)).1
  have c1 : V FloatKind.f32.format (fn d.ws 0) < V FloatKind.f32.format x := by
    rw [leB_num bx.num (B 0 (by omega)).num] at hc
    have := of_decide_eq_false hc
    grind
  have c2 : V FloatKind.f32.format x < V FloatKind.f32.format (fn d.ws (d.ws.length - 1)) := by
    rw [geB_num bx.num (B _ (by omega)).num] at hd
    have := of_decide_eq_false hd
    grind
  have l2 : 2 ≤ d.ws.length := by
    by_cases e : d.ws.length = 1
    · rw [e] at c2
      exact absurd c2 (by show ¬ V FloatKind.f32.format x < V FloatKind.f32.format (fn d.ws 0); grind)
    · omega
  have hl : d.ws.tail.length = d.ws.length - 1 := List.length_tail
  have e : ∀ i (hi : i < d.ws.tail.length), fn d.ws (i + 1) = d.ws.tail[i] := fun i hi => by
    unfold fn
    rw [List.getElem_tail, List.getD_eq_getElem?_getD, List.getElem?_eq_getElem (by omega)]; rfl
  have last : leB (fn d.ws (d.ws.length - 2 + 1)) x = false := by
    rw [show d.ws.length - 2 + 1 = d.ws.length - 1 by omega, leB_num (B _ (by omega)).num bx.num]
    exact decide_eq_false (by grind)
  have hex : ∃ y ∈ d.ws.tail, (!leB y x) = true := by
    refine ⟨fn d.ws (d.ws.length - 2 + 1), ?_, by rw [last]; rfl⟩
    rw [e _ (by omega)]
    exact List.getElem_mem _
  have hlt : jOf d.ws x < d.ws.tail.length := List.findIdx_lt_length_of_exists hex
  have hhi : leB (fn d.ws (jOf d.ws x + 1)) x = false := by
    rw [e _ hlt]
    have := List.findIdx_getElem (p := fun y => !leB y x) (xs := d.ws.tail) (w := hlt)
    exact (Bool.not_eq_true' _).mp this
  have hlo : ∀ i, i < jOf d.ws x → leB (fn d.ws (i + 1)) x = true := by
    intro i hi
    rw [e i (by omega)]
    have := List.not_of_lt_findIdx (p := fun y => !leB y x) (xs := d.ws.tail) hi
    simpa using this
  have j1 := B (jOf d.ws x) (by omega)
  have j2 := B (jOf d.ws x + 1) (by omega)
  have k1 : V FloatKind.f32.format (fn d.ws (jOf d.ws x)) ≤ V FloatKind.f32.format x := by
    by_cases e0 : jOf d.ws x = 0
    · rw [e0]; grind
    · have := hlo (jOf d.ws x - 1) (by omega)
      rw [show jOf d.ws x - 1 + 1 = jOf d.ws x by omega, leB_num j1.num bx.num] at this
      exact of_decide_eq_true this
  have k2 : V FloatKind.f32.format x ≤ V FloatKind.f32.format (fn d.ws (jOf d.ws x + 1)) := by
    rw [leB_num j2.num bx.num] at hhi
    have := of_decide_eq_false hhi
    grind
  have k3 : V FloatKind.f32.format (fn d.ws (jOf d.ws x)) < V FloatKind.f32.format (fn d.ws (jOf d.ws x + 1)) := by
    have := h.w2 (jOf d.ws x) (by omega)
    rw [gtB_num j2.num j1.num] at this
    exact of_decide_eq_true this
  have S := share j1 j2 bx k1 k2 k3
  have M := mix (found h g0 g1 (i := jOf d.ws x) (by omega)).2 (found h g0 g1 (i := jOf d.ws x + 1) (by omega)).2 S.b (by omega) (by omega)
  refine ⟨⟨by omega, hlo, hhi, S, M.1⟩, ?_⟩
  unfold speedF
  rw [if_neg (by rw [hc]; decide), if_neg (by rw [hd]; decide)]
  exact M.2
/-- every speed that is told is a number of no great amount -/
theorem speed_num {d : Pol} (h : Okp d) {x : Nat} (hx : airB x = true) {g : Int} (g0 : 0 ≤ g) (g1 : g ≤ 180) : Bnd .f32 10 (speedF d x g) := by
  cases hc : leB x (fn d.ws 0)
  · cases hd : geB x (fn d.ws (d.ws.length - 1))
    · exact (mid h hx hc hd g0 g1).2
    · exact high h hc hd g0 g1
  · exact (low h hx hc g0 g1).2.2
end Go.Proofs.YteaiaedhkhmgdaaGreat.Pf
