/- The middle of some positions and the farthest from it: firm, and in numbers; lists of vectors that lie in memory. -/
import Derived.Test.YtjohpjmfnghkoaaRoot
import Derived.Test.YtjohpjmfnghkoaaDrw
namespace Go.Proofs.Ytjohpjmfnghkoaa.Hh
open Go.RowKit Kit Fl Bd Ve Ro Dw Hnd Go.Proofs.YtjohpjmfnghkoaaW.PrintWords Go.Proofs.YtjohpjmfnghkoaaW.PrintLast Go.Proofs.YtjohpjmfnghkoaaW.PrintMore PFnHighNearest
/-! ### lists of vectors -/
def cplx : Kd (Nat × Nat) := Kd.scalar (fun z => Value.complex .f64 z.1 z.2) (fun _ => rfl)
def at0 (zs : List (Nat × Nat)) (j : Nat) : Nat × Nat := zs.getD j (0, 0)
def Lies (w : World) (b : Nat) (zs : List (Nat × Nat)) : Prop := ∀ j, j < zs.length → w.cell? ⟨b, j, none⟩ = some (.complex .f64 (at0 zs j).1 (at0 zs j).2)
theorem lies_of {w : World} {e base : Nat} {ok : Nat → Prop} {v : Value} {zs : List (Nat × Nat)} (h : cplx.R e w base ok v zs) : ∃ A c, v = .slice A zs.length c ∧ zs.length ≤ c ∧ (zs.length = 0 ∨ ∃ b, A = some ⟨b, 0, none⟩ ∧ Lies w b zs) := by
  obtain ⟨A, c, rfl, hc, hC⟩ := Kd.R_reads h
  refine ⟨A, c, rfl, hc, ?_⟩
  by_cases h0 : zs.length = 0
  · exact Or.inl h0
  · obtain ⟨ad, rfl, hcell⟩ := hC.2.2 (by omega)
    obtain ⟨b, rfl⟩ := Kd.R_head h
    refine Or.inr ⟨b, rfl, fun j hj => ?_⟩
    obtain ⟨cs, _, hK, hu⟩ := hcell j _ (List.getElem?_eq_getElem hj)
    have hK' : cs = [.complex .f64 zs[j].1 zs[j].2] := hK
    subst hK'
    have := hu 0 _ rfl
    rw [Addr.add_lit] at this
    have e1 : 0 + (j * cplx.sz + 0) = j := by show 0 + (j * 1 + 0) = j; omega
    rw [e1] at this
    rw [this]
    have e2 : at0 zs j = zs[j] := by unfold at0; rw [List.getD_eq_getElem?_getD, List.getElem?_eq_getElem hj]; rfl
    rw [e2]
theorem Lies.below {w w1 : World} {b : Nat} {zs : List (Nat × Nat)} (h : Lies w b zs) (hb : Below w.heap.size w w1) : Lies w1 b zs := fun j hj => pw_cell_below hb (h j hj)
/-! ### the sums and the middle -/
def sumF (f : Nat × Nat → Nat) (zs : List (Nat × Nat)) : Nat → Nat
  | 0 => 0
  | j + 1 => fl .add .f64 (sumF f zs j) (f (at0 zs j))
theorem sumF_zero (f : Nat × Nat → Nat) (zs : List (Nat × Nat)) : sumF f zs 0 = 0 := rfl
theorem sumF_succ (f : Nat × Nat → Nat) (zs : List (Nat × Nat)) (j : Nat) : sumF f zs (j + 1) = fl .add .f64 (sumF f zs j) (f (at0 zs j)) := rfl
attribute [irreducible] sumF
def vec (z : Nat × Nat) : Bool := vOk z.1 && vOk z.2
def allTo (zs : List (Nat × Nat)) (n : Nat) : Prop := ∀ j, j < n → vec (at0 zs j) = true
theorem bnd0 (e : Int) : Bnd .f64 e 0 := by
  have := p2_pos e
  have := v0
  exact ⟨n0, by grind, by grind⟩
theorem part {z : Nat × Nat} (h : vec z = true) : Bnd .f64 27 z.1 ∧ Bnd .f64 27 z.2 := by
  unfold vec at h
  rw [Bool.and_eq_true] at h
  exact ⟨bnd27 h.1, bnd27 h.2⟩
theorem sum_bnd (f : Nat × Nat → Nat) (hf : ∀ z, vec z = true → Bnd .f64 27 (f z)) (zs : List (Nat × Nat)) : ∀ n, n ≤ 60 → allTo zs n → Bnd .f64 (27 + (n : Int)) (sumF f zs n) := by
  intro n
  induction n with
  | zero => intro _ _; rw [sumF_zero]; exact bnd0 _
  | succ n ih =>
    intro hn ha
    have i := ih (by omega) (fun j hj => ha j (by omega))
    rw [sumF_succ]
    have hr : reach FloatKind.f64.format = 1023 := by decide
    have hl : FloatKind.f64.format.leastPlace = -1074 := by decide
    have := i.add ((hf _ (ha n (by omega))).mono (show (27 : Int) ≤ 27 + (n : Int) by omega)) (by omega) (by omega)
    rw [show (27 + ((n + 1 : Nat) : Int)) = 27 + (n : Int) + 1 by omega]
    exact this
theorem sum_firm (f : Nat × Nat → Nat) (hf : ∀ z, vec z = true → Bnd .f64 27 (f z)) (zs : List (Nat × Nat)) (n : Nat) (hn : n < 60) (ha : allTo zs (n + 1)) : (floatBits .add .f64 (sumF f zs n) (f (at0 zs n))).isSome = true :=
  Sm.isSome_add (sum_bnd f hf zs n (by omega) (fun j hj => ha j (by omega))).num (hf _ (ha n (by omega))).num
def midF (f : Nat × Nat → Nat) (zs : List (Nat × Nat)) : Nat := fl .quo .f64 (sumF f zs zs.length) (floatOfInt .f64 (zs.length : Int))
theorem mid_ok (f : Nat × Nat → Nat) (hf : ∀ z, vec z = true → Bnd .f64 27 (f z)) (zs : List (Nat × Nat)) (h1 : 1 ≤ zs.length) (h2 : zs.length ≤ 50) (ha : allTo zs zs.length) : (floatBits .quo .f64 (sumF f zs zs.length) (floatOfInt .f64 (zs.length : Int))).isSome = true ∧ Bnd .f64 87 (midF f zs) := by
  have hr : reach FloatKind.f64.format = 1023 := by decide
  have hl : FloatKind.f64.format.leastPlace = -1074 := by decide
  have S := (sum_bnd f hf zs _ (by omega) ha).mono (show (27 + (zs.length : Int)) ≤ 87 by omega)
  obtain ⟨N, v⟩ := It.ofNat_num zs.length (by omega)
  have hv : (1 : Rat) ≤ (zs.length : Rat) := by exact_mod_cast h1
  unfold midF
  generalize floatOfInt .f64 (zs.length : Int) = y at *
  generalize sumF f zs zs.length = x at *
  generalize (zs.length : Rat) = L at *
  have ne : V FloatKind.f64.format y ≠ 0 := by grind
  obtain ⟨q, hq⟩ : ∃ q : Rat, q * V FloatKind.f64.format y = V FloatKind.f64.format x := ⟨V FloatKind.f64.format x / V FloatKind.f64.format y, by rw [Rat.div_mul_cancel]; exact ne⟩
  have P := p2_pos 87
  have q1 : q ≤ p2 87 := by
    refine le_of_mul (show 0 < L by grind) ?_
    have := S.hi
    have := Rat.mul_le_mul_of_nonneg_left hv (Rat.le_of_lt P)
    rw [v] at hq
    grind
  have q2 : -(p2 87) ≤ q := by
    refine le_of_mul (show 0 < L by grind) ?_
    have := S.lo
    have := Rat.mul_le_mul_of_nonneg_left hv (Rat.le_of_lt P)
    rw [v] at hq
    grind
  have P2 := pm 88 1023 (by omega)
  have P3 : p2 88 = 2 * p2 87 := p2_succ 87
  obtain ⟨z, e1, e2, e3⟩ := div_num (Sm.kx .f64) S.num N q hq ne (by rw [hr]; grind) (by rw [hr]; grind)
  have e : fl .quo .f64 x y = z := fl_eq e1
  refine ⟨by show (FloatKind.f64.format.div x y).isSome = true; rw [e1]; rfl, ?_⟩
  rw [e]
  exact ⟨e2, e3.ge_p2 _ (by rw [hl]; omega) q2, e3.le_p2 _ (by rw [hl]; omega) q1⟩
/-! ### the farthest -/
def lessF (z m : Nat × Nat) : Nat × Nat := (fl .sub .f64 z.1 m.1, fl .sub .f64 z.2 m.2)
def awayF (z m : Nat × Nat) : Nat := lenF (lessF z m).1 (lessF z m).2
theorem less_firm {z m : Nat × Nat} (hz : vec z = true) (h1 : Bnd .f64 87 m.1) (h2 : Bnd .f64 87 m.2) : (floatBits .sub .f64 z.1 m.1).isSome = true ∧ (floatBits .sub .f64 z.2 m.2).isSome = true := by
  obtain ⟨a, b⟩ := part hz
  exact ⟨a.subS h1, b.subS h2⟩
def farF (zs : List (Nat × Nat)) (m : Nat × Nat) : Nat → Nat
  | 0 => 0
  | j + 1 => mxF .f64 (farF zs m j) (awayF (at0 zs j) m)
theorem farF_zero (zs : List (Nat × Nat)) (m : Nat × Nat) : farF zs m 0 = 0 := rfl
theorem farF_succ (zs : List (Nat × Nat)) (m : Nat × Nat) (j : Nat) : farF zs m (j + 1) = mxF .f64 (farF zs m j) (awayF (at0 zs j) m) := rfl
attribute [irreducible] farF
theorem away_num (z m : Nat × Nat) : Num FloatKind.f64.format (awayF z m) ∧ 0 ≤ V FloatKind.f64.format (awayF z m) := ⟨(len_num _ _).1, (len_num _ _).2.1⟩
theorem mx_val {x y : Nat} (hx : Num FloatKind.f64.format x) (hy : Num FloatKind.f64.format y) : Num FloatKind.f64.format (mxF .f64 x y) ∧ V FloatKind.f64.format x ≤ V FloatKind.f64.format (mxF .f64 x y) ∧ V FloatKind.f64.format y ≤ V FloatKind.f64.format (mxF .f64 x y) ∧ (V FloatKind.f64.format (mxF .f64 x y) = V FloatKind.f64.format x ∨ V FloatKind.f64.format (mxF .f64 x y) = V FloatKind.f64.format y) := by
  unfold mxF
  rw [lss_num hx hy, gtr_num hx hy]
  by_cases a : V FloatKind.f64.format x < V FloatKind.f64.format y
  · rw [if_pos (by simpa using a)]
    exact ⟨hy, by grind, by grind, Or.inr rfl⟩
  · rw [if_neg (by simpa using a)]
    by_cases b : V FloatKind.f64.format y < V FloatKind.f64.format x
    · rw [if_pos (by simpa using b)]
      exact ⟨hx, by grind, by grind, Or.inl rfl⟩
    · rw [if_neg (by simpa using b)]
      split
      · exact ⟨hy, by grind, by grind, Or.inr rfl⟩
      · exact ⟨hx, by grind, by grind, Or.inl rfl⟩
structure Far (zs : List (Nat × Nat)) (m : Nat × Nat) (n : Nat) : Prop where
  num : Num FloatKind.f64.format (farF zs m n)
  nn : 0 ≤ V FloatKind.f64.format (farF zs m n)
  all : ∀ j, j < n → V FloatKind.f64.format (awayF (at0 zs j) m) ≤ V FloatKind.f64.format (farF zs m n)
  one : 1 ≤ n → ∃ j, j < n ∧ V FloatKind.f64.format (awayF (at0 zs j) m) = V FloatKind.f64.format (farF zs m n)
theorem far (zs : List (Nat × Nat)) (m : Nat × Nat) : ∀ n, Far zs m n := by
  intro n
  induction n with
  | zero => exact ⟨by rw [farF_zero]; exact n0, by rw [farF_zero, v0]; exact Rat.le_refl, fun j hj => by omega, fun h => by omega⟩
  | succ n ih =>
    obtain ⟨a1, a2⟩ := away_num (at0 zs n) m
    obtain ⟨b1, b2, b3, b4⟩ := mx_val ih.num a1
    refine ⟨by rw [farF_succ]; exact b1, by rw [farF_succ]; have := ih.nn; grind, fun j hj => ?_, fun _ => ?_⟩
    · rw [farF_succ]
      by_cases e : j = n
      · subst e; exact b3
      · have := ih.all j (by omega); grind
    · rw [farF_succ]
      rcases b4 with h | h
      · by_cases z : n = 0
        · subst z
          refine ⟨0, by omega, ?_⟩
          have e0 : V FloatKind.f64.format (farF zs m 0) = 0 := by rw [farF_zero, v0]
          grind
        · obtain ⟨j, j1, j2⟩ := ih.one (by omega)
          exact ⟨j, by omega, by rw [j2, h]⟩
      · exact ⟨n, by omega, h.symm⟩
/-! ### what both Hats come to -/
def hatB (zs : List (Nat × Nat)) : Bool := decide (1 ≤ zs.length) && decide (zs.length ≤ 50) && zs.all vec
def midP (zs : List (Nat × Nat)) : Nat × Nat := (midF (fun z => z.1) zs, midF (fun z => z.2) zs)
theorem all_of {zs : List (Nat × Nat)} (h : allTo zs zs.length) : zs.all vec = true := by
  rw [List.all_eq_true]
  intro z hz
  obtain ⟨j, hj, rfl⟩ := List.mem_iff_getElem.1 hz
  have := h j hj
  have e2 : at0 zs j = zs[j] := by unfold at0; rw [List.getD_eq_getElem?_getD, List.getElem?_eq_getElem hj]; rfl
  rwa [e2] at this
theorem of_all {zs : List (Nat × Nat)} (h : zs.all vec = true) : allTo zs zs.length := by
  intro j hj
  rw [List.all_eq_true] at h
  have e2 : at0 zs j = zs[j] := by unfold at0; rw [List.getD_eq_getElem?_getD, List.getElem?_eq_getElem hj]; rfl
  rw [e2]
  exact h _ (List.getElem_mem hj)
theorem not_all {zs : List (Nat × Nat)} {j : Nat} (hj : j < zs.length) (h : vec (at0 zs j) = false) : zs.all vec = false := by
  cases e : zs.all vec
  · rfl
  · have := of_all e j hj
    rw [h] at this; cases this
structure Mid (zs : List (Nat × Nat)) : Prop where
  q1 : (floatBits .quo .f64 (sumF (fun z => z.1) zs zs.length) (floatOfInt .f64 (zs.length : Int))).isSome = true
  q2 : (floatBits .quo .f64 (sumF (fun z => z.2) zs zs.length) (floatOfInt .f64 (zs.length : Int))).isSome = true
  b1 : Bnd .f64 87 (midP zs).1
  b2 : Bnd .f64 87 (midP zs).2
theorem mid {zs : List (Nat × Nat)} (h : hatB zs = true) : Mid zs := by
  unfold hatB at h
  simp only [Bool.and_eq_true, decide_eq_true_eq] at h
  have a := of_all h.2
  have x := mid_ok (fun z => z.1) (fun z hz => (part hz).1) zs h.1.1 h.1.2 a
  have y := mid_ok (fun z => z.2) (fun z hz => (part hz).2) zs h.1.1 h.1.2 a
  exact ⟨x.1, y.1, x.2, y.2⟩
/-! ### the functions -/
theorem impl_less (a b c d : Nat) (h1 : (floatBits .sub .f64 a c).isSome = true) (h2 : (floatBits .sub .f64 b d).isSome = true) (w : World) : Calls Try.prog 50 #[.complex .f64 a b, .complex .f64 c d] w fun e w' => e = .returned (.complex .f64 (fl .sub .f64 a c) (fl .sub .f64 b d)) ∧ w = w' := by
  go_enter Try.func50, Try.ntmps50
  go_wp2
  go_ret
  exact ⟨rfl, rfl⟩
theorem tup3 {a b a' b' : Nat} {f f' : Nat} {o o' : Bool} (h1 : a = a') (h2 : b = b') (h3 : f = f') (h4 : o = o') : Ending.returned (.tuple #[.complex .f64 a b, .float .f64 f, .bool o]) = Ending.returned (.tuple #[.complex .f64 a' b', .float .f64 f', .bool o']) := by rw [h1, h2, h3, h4]
set_option maxRecDepth 100000 in
theorem impl_Hat_few {A : Option Addr} {c : Nat} {n : Nat} (h : n = 0 ∨ 50 < n) (w : World) : Calls Try.prog 20 #[.slice A n c] w fun e w' => e = .returned (.tuple #[.complex .f64 0 0, .float .f64 0, .bool false]) ∧ w = w' := by
  have H := Lib.hid (show (decide ((1 : Int) ≤ (n : Int)) && decide ((n : Int) ≤ 50)) = false by rcases h with h | h <;> simp <;> omega)
  clear h
  go_enter Try.func20, Try.ntmps20
  go_wp2_with (go_at_call 47; refine (impl_within _ _ _ _).mono ?_; rintro e w' ⟨rfl, rfl⟩; rw [H.out])
  go_ret3
  exact ⟨rfl, rfl⟩
theorem spec_Hat_few {A : Option Addr} {c : Nat} {n : Nat} (h : n = 0 ∨ 50 < n) (w : World) : Calls Try.prog 21 #[.slice A n c] w fun e w' => e = .returned (.tuple #[.complex .f64 0 0, .float .f64 0, .bool false]) ∧ w = w' := by
  have H := Lib.hid (show (decide ((1 : Int) ≤ (n : Int)) && decide ((n : Int) ≤ 50)) = false by rcases h with h | h <;> simp <;> omega)
  clear h
  go_enter Try.func21, Try.ntmps21
  go_wp2_with (go_at_call 51; refine (spec_l01In _ _ _ _).mono ?_; rintro e w' ⟨rfl, rfl⟩; rw [H.out])
  go_ret3
  exact ⟨rfl, rfl⟩
def HatTold (zs : List (Nat × Nat)) (w : World) (e : Ending) (w' : World) : Prop := e = .returned (.tuple (if hatB zs = true then #[.complex .f64 (midP zs).1 (midP zs).2, .float .f64 (farF zs (midP zs) zs.length), .bool true] else #[.complex .f64 0 0, .float .f64 0, .bool false])) ∧ w = w'
set_option maxRecDepth 100000 in
set_option maxHeartbeats 1000000 in
theorem impl_Hat {b c : Nat} {zs : List (Nat × Nat)} {w : World} (hl : Lies w b zs) (h1 : 1 ≤ zs.length) (h2 : zs.length ≤ 50) : Calls Try.prog 20 #[.slice (some ⟨b, 0, none⟩) zs.length c] w (HatTold zs w) := by
  have H := Lib.hid (show (decide ((1 : Int) ≤ (zs.length : Int)) && decide ((zs.length : Int) ≤ 50)) = true by simp; omega)
  have L := Lib.hid hl
  clear hl
  go_enter Try.func20, Try.ntmps20
  go_wp2_with (go_at_call 47; refine (impl_within _ _ _ _).mono ?_; rintro e w' ⟨rfl, rfl⟩; rw [H.out])
  go_loop [5, 6, 20] (fun x y n => ∃ j : Nat, j ≤ zs.length ∧ n = .int .i64 (j : Int) ∧ x = .float .f64 (sumF (fun z => z.1) zs j) ∧ y = .float .f64 (sumF (fun z => z.2) zs j) ∧ allTo zs j) (fun _ _ n => zs.length - (intOf n).toNat)
  case atStart => exact ⟨0, by omega, rfl, by rw [sumF_zero], by rw [sumF_zero], fun j hj => by omega⟩
  case round =>
    obtain ⟨j, hj, rfl, rfl, rfl, ha⟩ := hrel
    have HA := Lib.hid ha
    clear ha
    by_cases hlt : j < zs.length
    · have hc := L.out j hlt
      cases hv : vec (at0 zs j)
      · have HV := Lib.hid hv
        clear hv
        go_wp2_with (go_at_call 48; refine (impl_VectorOk _ _ _).mono ?_; rintro e w' ⟨rfl, rfl⟩; rw [show (vOk (at0 zs j).1 && vOk (at0 zs j).2) = false from HV.out])
        go_ret3
        have e : hatB zs = false := by unfold hatB; rw [not_all hlt HV.out, Bool.and_false]
        exact ⟨by rw [e]; rfl, rfl⟩
      · have HV := Lib.hid hv
        have ha1 : allTo zs (j + 1) := fun i hi => by
          by_cases e : i = j
          · rw [e]; exact HV.out
          · exact HA.out i (by omega)
        have s1 := sum_firm (fun z => z.1) (fun z hz => (part hz).1) zs j (by omega) ha1
        have s2 := sum_firm (fun z => z.2) (fun z hz => (part hz).2) zs j (by omega) ha1
        have HA1 := Lib.hid ha1
        clear ha1 hv
        go_wp2_with (go_at_call 48; refine (impl_VectorOk _ _ _).mono ?_; rintro e w' ⟨rfl, rfl⟩; rw [show (vOk (at0 zs j).1 && vOk (at0 zs j).2) = true from HV.out])
        go_round
        case rel => exact ⟨j + 1, by omega, by go_num, by rw [sumF_succ], by rw [sumF_succ], HA1.out⟩
        case measure => simp [intOf]; omega
    · obtain rfl : j = zs.length := by omega
      have hB : hatB zs = true := by
        unfold hatB
        rw [decide_eq_true h1, decide_eq_true h2, all_of HA.out]; rfl
      have M := mid hB
      have m1 := M.q1
      have m2 := M.q2
      have HM := Lib.hid M
      have HB := Lib.hid hB
      clear M hB
      go_wp2_with fail
      go_loop [11, 48] (fun x n => ∃ j : Nat, j ≤ zs.length ∧ n = .int .i64 (j : Int) ∧ x = .float .f64 (farF zs (midP zs) j)) (fun _ n => zs.length - (intOf n).toNat)
      case atStart => exact ⟨0, by omega, rfl, by rw [farF_zero]⟩
      case round =>
        obtain ⟨j, hj, rfl, rfl⟩ := hrel
        by_cases hlt : j < zs.length
        · have hc := L.out j hlt
          have F := Lib.hid (less_firm (HA.out j hlt) HM.out.b1 HM.out.b2)
          have o := order_isSome (k := .f64) (far zs (midP zs) j).num (away_num (at0 zs j) (midP zs)).1
          unfold awayF lessF at o
          dsimp only at o
          go_wp2_with (first | (go_at_call 50; refine (impl_less _ _ _ _ F.out.1 F.out.2 _).mono ?_; rintro e w' ⟨rfl, rfl⟩) | (go_at_call 22; refine (impl_Length _ _ _).mono ?_; rintro e w' ⟨rfl, rfl⟩))
          go_round
          case rel => exact ⟨j + 1, by omega, by go_num, by rw [farF_succ]; rfl⟩
          case measure => simp [intOf]; omega
        · obtain rfl : j = zs.length := by omega
          go_wp2_with fail
          go_ret3
          exact ⟨by rw [HB.out]; rfl, rfl⟩
def HatTold2 (zs : List (Nat × Nat)) (w : World) (e : Ending) (w' : World) : Prop := ∃ x y f : Nat, e = .returned (.tuple #[.complex .f64 x y, .float .f64 f, .bool (hatB zs)]) ∧ w = w'
def Some2 (l : Nat) (x n : Value) : Prop := ∃ (j F : Nat), j ≤ l ∧ n = .int .i64 (j : Int) ∧ x = .float .f64 F
set_option maxRecDepth 100000 in
set_option maxHeartbeats 1000000 in
theorem spec_Hat {b c : Nat} {zs : List (Nat × Nat)} {w : World} (hl : Lies w b zs) (h1 : 1 ≤ zs.length) (h2 : zs.length ≤ 50) : Calls Try.prog 21 #[.slice (some ⟨b, 0, none⟩) zs.length c] w (HatTold2 zs w) := by
  have H := Lib.hid (show (decide ((1 : Int) ≤ (zs.length : Int)) && decide ((zs.length : Int) ≤ 50)) = true by simp; omega)
  have L := Lib.hid hl
  clear hl
  go_enter Try.func21, Try.ntmps21
  go_wp2_with (go_at_call 51; refine (spec_l01In _ _ _ _).mono ?_; rintro e w' ⟨rfl, rfl⟩; rw [H.out])
  go_loop [5, 6, 7] (fun x y n => ∃ j : Nat, j ≤ zs.length ∧ n = .int .i64 (j : Int) ∧ x = .float .f64 (sumF (fun z => z.1) zs j) ∧ y = .float .f64 (sumF (fun z => z.2) zs j) ∧ allTo zs j) (fun _ _ n => zs.length - (intOf n).toNat)
  case atStart => exact ⟨0, by omega, rfl, by rw [sumF_zero], by rw [sumF_zero], fun j hj => by omega⟩
  case round =>
    obtain ⟨j, hj, rfl, rfl, rfl, ha⟩ := hrel
    have HA := Lib.hid ha
    clear ha
    by_cases hlt : j < zs.length
    · have hc := L.out j hlt
      cases hv : vec (at0 zs j)
      · have HV := Lib.hid hv
        clear hv
        go_wp2_with (go_at_call 52; refine (spec_VectorOk _ _ _).mono ?_; rintro e w' ⟨rfl, rfl⟩; rw [show (vOk (at0 zs j).1 && vOk (at0 zs j).2) = false from HV.out])
        go_ret3
        have e : hatB zs = false := by unfold hatB; rw [not_all hlt HV.out, Bool.and_false]
        exact ⟨0, 0, 0, by rw [e]; rfl, rfl⟩
      · have HV := Lib.hid hv
        have ha1 : allTo zs (j + 1) := fun i hi => by
          by_cases e : i = j
          · rw [e]; exact HV.out
          · exact HA.out i (by omega)
        have s1 := sum_firm (fun z => z.1) (fun z hz => (part hz).1) zs j (by omega) ha1
        have s2 := sum_firm (fun z => z.2) (fun z hz => (part hz).2) zs j (by omega) ha1
        have HA1 := Lib.hid ha1
        clear ha1 hv
        go_wp2_with (go_at_call 52; refine (spec_VectorOk _ _ _).mono ?_; rintro e w' ⟨rfl, rfl⟩; rw [show (vOk (at0 zs j).1 && vOk (at0 zs j).2) = true from HV.out])
        go_round
        case rel => exact ⟨j + 1, by omega, by go_num, by rw [sumF_succ], by rw [sumF_succ], HA1.out⟩
        case measure => simp [intOf]; omega
    · obtain rfl : j = zs.length := by omega
      have hB : hatB zs = true := by
        unfold hatB
        rw [decide_eq_true h1, decide_eq_true h2, all_of HA.out]; rfl
      have M := mid hB
      have m1 := M.q1
      have m2 := M.q2
      have HM := Lib.hid M
      have HB := Lib.hid hB
      clear M hB
      go_wp2_with fail
      go_loop [10, 11] (fun x n => Some2 zs.length x n) (fun _ n => zs.length - (intOf n).toNat)
      case atStart => exact ⟨0, 0, by omega, rfl, rfl⟩
      case round =>
        obtain ⟨j, F, hj, rfl, rfl⟩ := hrel
        by_cases hlt : j < zs.length
        · have hc := L.out j hlt
          obtain ⟨f1, f2⟩ := less_firm (HA.out j hlt) HM.out.b1 HM.out.b2
          unfold midP at f1 f2
          unfold midF at f1 f2
          dsimp only at f1 f2
          go_wp2_with (go_at_call 53; refine (spec_Length _ _ _).mono ?_; rintro e w' ⟨rfl, rfl⟩)
          all_goals
            go_round
            case rel => exact ⟨j + 1, _, by omega, by go_num, rfl⟩
            case measure => simp [intOf]; omega
        · obtain rfl : j = zs.length := by omega
          go_wp2_with fail
          go_ret3
          exact ⟨_, _, _, by rw [HB.out]; rfl, rfl⟩
end Go.Proofs.Ytjohpjmfnghkoaa.Hh
