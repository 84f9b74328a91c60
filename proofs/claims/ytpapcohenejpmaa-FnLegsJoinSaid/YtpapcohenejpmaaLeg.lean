/- Legs, run one after the other: both sides, in numbers; lists of legs that lie in memory. -/
import Derived.Test.YtpapcohenejpmaaAlong
import Derived.Test.YtpapcohenejpmaaRoot
import Derived.Deep.QuietTactic
import Derived.BigQuiet
namespace Go.Proofs.Ytpapcohenejpmaa.Lg
open Go.RowKit Kit Fl Bd Tn Vl Al Ve Ro
structure Leg where
  h : Int
  s : Nat
  n : Int
def Leg.cells (g : Leg) : List Value := [.int .i64 g.h, .float .f32 g.s, .int .i64 g.n]
def vec (z : Nat × Nat) : Bool := vOk z.1 && vOk z.2
def air (z : Nat × Nat) : Bool := within100 z.1 && within100 z.2
def legB (g : Leg) : Bool := speedB g.s && (decide (0 ≤ g.n) && decide (g.n ≤ 100000))
def legsB (l : List Leg) : Bool := l.all legB && decide (l.length ≤ 50)
/-- the position behind some seconds with a velocity -/
def stepF (p v : Nat × Nat) (n : Int) : Nat × Nat := (fl .add .f64 p.1 (fl .mul .f64 (cv .f32 v.1 .f64) (floatOfInt .f64 n)), fl .add .f64 p.2 (fl .mul .f64 (cv .f32 v.2 .f64) (floatOfInt .f64 n)))
def stepB (p v : Nat × Nat) (n : Int) : Bool := air v && vec (stepF p v n)
structure Step (p v : Nat × Nat) (n : Int) : Prop where
  w1 : (floatToFloatBits .f32 v.1 .f64).isSome = true
  w2 : (floatToFloatBits .f32 v.2 .f64).isSome = true
  m1 : (floatBits .mul .f64 (cv .f32 v.1 .f64) (floatOfInt .f64 n)).isSome = true
  m2 : (floatBits .mul .f64 (cv .f32 v.2 .f64) (floatOfInt .f64 n)).isSome = true
  a1 : (floatBits .add .f64 p.1 (fl .mul .f64 (cv .f32 v.1 .f64) (floatOfInt .f64 n))).isSome = true
  a2 : (floatBits .add .f64 p.2 (fl .mul .f64 (cv .f32 v.2 .f64) (floatOfInt .f64 n))).isSome = true
theorem step {p v : Nat × Nat} {n : Int} (hp : vec p = true) (hv : air v = true) (h0 : 0 ≤ n) (h1 : n ≤ 100000) : Step p v n := by
  unfold vec at hp
  unfold air at hv
  rw [Bool.and_eq_true] at hp hv
  have P1 := bnd27 hp.1
  have P2 := bnd27 hp.2
  obtain ⟨w1, u1⟩ := bnd_wide (e := 7) (bnd_100 hv.1) (by omega)
  obtain ⟨w2, u2⟩ := bnd_wide (e := 7) (bnd_100 hv.2) (by omega)
  have N := (ofInt (k := .f64) (n := n) (e := 17) (by simp <;> omega) (by simp; omega) (by decide +kernel)).1
  have M1 := u1.mul N (by decide) (by decide +kernel)
  have M2 := u2.mul N (by decide) (by decide +kernel)
  exact ⟨w1, w2, u1.mulS N, u2.mulS N, Sm.isSome_add P1.num M1.num, Sm.isSome_add P2.num M2.num⟩
/-- one leg -/
def legO (c d : Nat) (p : Nat × Nat) (g : Leg) : Option (Nat × Nat) := if stepB p (vk (tb (deg g.h)) g.s c d) g.n = true then some (stepF p (vk (tb (deg g.h)) g.s c d) g.n) else none
def runL (c d : Nat) : List Leg → Nat × Nat → Option (Nat × Nat)
  | [], p => some p
  | g :: r, p => (legO c d p g).bind (fun q => runL c d r q)
theorem runL_app (c d : Nat) : ∀ (l m : List Leg) (p : Nat × Nat), runL c d (l ++ m) p = (runL c d l p).bind (fun q => runL c d m q) := by
  intro l
  induction l with
  | nil => intro m p; rfl
  | cons g r ih =>
    intro m p
    show (legO c d p g).bind (fun q => runL c d (r ++ m) q) = ((legO c d p g).bind (fun q => runL c d r q)).bind _
    cases legO c d p g with
    | none => rfl
    | some q => exact ih m q
theorem runL_one (c d : Nat) (g : Leg) (p : Nat × Nat) : runL c d [g] p = legO c d p g := by
  show (legO c d p g).bind (fun q => some q) = _
  cases legO c d p g <;> rfl
theorem legO_vec {c d : Nat} {p q : Nat × Nat} {g : Leg} (h : legO c d p g = some q) : vec q = true := by
  unfold legO stepB at h
  split at h
  · rename_i hb
    rw [Bool.and_eq_true] at hb
    rw [← Option.some.inj h]; exact hb.2
  · cases h
theorem runL_vec {c d : Nat} : ∀ (l : List Leg) {p q : Nat × Nat}, vec p = true → runL c d l p = some q → vec q = true := by
  intro l
  induction l with
  | nil => intro p q hp h; rw [← Option.some.inj h]; exact hp
  | cons g r ih =>
    intro p q hp h
    have h' : (legO c d p g).bind (fun q => runL c d r q) = some q := h
    obtain ⟨z, h1, h2⟩ := Option.bind_eq_some_iff.1 h'
    exact ih (legO_vec h1) h2
/-- all of it -/
def runR (c d : Nat) (l : List Leg) (p : Nat × Nat) : Option (Nat × Nat) := if (vec p && legsB l && air (c, d)) = true then runL c d l p else none
def asR : Option (Nat × Nat) → Array Value
  | some q => #[.complex .f64 q.1 q.2, .bool true]
  | none => #[.complex .f64 0 0, .bool false]
/-! ### lists of legs in memory -/
def nth (l : List Leg) (j : Nat) : Leg := l.getD j ⟨0, 0, 0⟩
def Lies (w : World) (b o : Nat) (l : List Leg) : Prop := ∀ j, j < l.length → w.cell? ⟨b, o + j * 3, none⟩ = some (.int .i64 (nth l j).h) ∧ w.cell? ⟨b, o + j * 3 + 1, none⟩ = some (.float .f32 (nth l j).s) ∧ w.cell? ⟨b, o + j * 3 + 2, none⟩ = some (.int .i64 (nth l j).n)
def At (w : World) (A : Option Addr) (l : List Leg) : Prop := l.length = 0 ∨ ∃ b o, A = some ⟨b, o, none⟩ ∧ Lies w b o l
theorem At.below {w w1 : World} {A : Option Addr} {l : List Leg} (h : At w A l) (hb : Below w.heap.size w w1) : At w1 A l := by
  rcases h with h | ⟨b, o, e, h⟩
  · exact Or.inl h
  · refine Or.inr ⟨b, o, e, fun j hj => ?_⟩
    obtain ⟨h1, h2, h3⟩ := h j hj
    exact ⟨(hb.cell (World.block_lt_of_cell? w _ h1)).trans h1, (hb.cell (World.block_lt_of_cell? w _ h2)).trans h2, (hb.cell (World.block_lt_of_cell? w _ h3)).trans h3⟩
theorem nth_take {l : List Leg} {k j : Nat} (hj : j < k) : nth (l.take k) j = nth l j := by
  unfold nth
  rw [List.getD_eq_getElem?_getD, List.getD_eq_getElem?_getD, List.getElem?_take, if_pos hj]
theorem nth_drop {l : List Leg} {k j : Nat} : nth (l.drop k) j = nth l (k + j) := by
  unfold nth
  rw [List.getD_eq_getElem?_getD, List.getD_eq_getElem?_getD, List.getElem?_drop]
theorem nth_get {l : List Leg} {j : Nat} (hj : j < l.length) : nth l j = l[j] := by
  unfold nth
  rw [List.getD_eq_getElem?_getD, List.getElem?_eq_getElem hj]; rfl
theorem take_succ {l : List Leg} {j : Nat} (hj : j < l.length) : l.take (j + 1) = l.take j ++ [nth l j] := by
  rw [List.take_succ_eq_append_getElem hj, nth_get hj]
theorem all_nth {l : List Leg} (h : l.all legB = true) {j : Nat} (hj : j < l.length) : legB (nth l j) = true := by
  rw [List.all_eq_true] at h
  rw [nth_get hj]
  exact h _ (List.getElem_mem hj)
theorem all_of {l : List Leg} (h : ∀ j, j < l.length → legB (nth l j) = true) : l.all legB = true := by
  rw [List.all_eq_true]
  intro z hz
  obtain ⟨j, hj, rfl⟩ := List.mem_iff_getElem.1 hz
  have := h j hj
  rwa [nth_get hj] at this
theorem not_all {l : List Leg} {j : Nat} (hj : j < l.length) (h : legB (nth l j) = false) : legsB l = false := by
  unfold legsB
  cases e : l.all legB
  · rfl
  · have := all_nth e hj
    rw [h] at this; cases this
/-! ### is a leg valid? -/
theorem impl_LegOk (g : Leg) (w : World) : Calls Try.prog 87 #[.agg #[.int .i64 g.h, .float .f32 g.s, .int .i64 g.n]] w fun e w' => e = .returned (.bool (legB g)) ∧ Below w.heap.size w w' := by
  have HB := Lib.hid ((Below.refl w.heap.size w).alloc (Nat.le_refl _) (.cells #[.int .i64 g.h, .float .f32 g.s, .int .i64 g.n] 80))
  unfold legB
  cases h : speedB g.s
  all_goals go_enter Try.func87, Try.ntmps87
  all_goals have H := Lib.hid h
  all_goals clear h
  all_goals go_wp2_with (first | (go_at_call 49; refine (impl_boatOk _ _).mono ?_; rintro e w' ⟨rfl, rfl⟩; rw [H.out]) | (go_at_call 36; refine (impl_within _ _ _ _).mono ?_; rintro e w' ⟨rfl, rfl⟩))
  all_goals go_ret
  all_goals exact ⟨rfl, HB.out⟩
theorem spec_LegOk (g : Leg) (w : World) : Calls Try.prog 89 #[.agg #[.int .i64 g.h, .float .f32 g.s, .int .i64 g.n]] w fun e w' => e = .returned (.bool (legB g)) ∧ Below w.heap.size w w' := by
  have HB := Lib.hid ((Below.refl w.heap.size w).alloc (Nat.le_refl _) (.cells #[.int .i64 g.h, .float .f32 g.s, .int .i64 g.n] 80))
  unfold legB speedB
  cases h1 : (FloatKind.f32.format.order g.s 0 == some .gt || FloatKind.f32.format.order g.s 0 == some .eq)
  all_goals cases h2 : (FloatKind.f32.format.order g.s 1112014848 == some .lt || FloatKind.f32.format.order g.s 1112014848 == some .eq)
  all_goals go_enter Try.func89, Try.ntmps89
  all_goals go_wp2_with (first | (go_at_call 40; refine (spec_l01In _ _ _ _).mono ?_; rintro e w' ⟨rfl, rfl⟩))
  all_goals go_ret
  all_goals exact ⟨rfl, HB.out⟩
set_option maxRecDepth 100000 in
theorem impl_legsOk {w : World} {A : Option Addr} {c : Nat} {l : List Leg} (hA : At w A l) (hm : l.length ≤ 1000) : Calls Try.prog 64 #[.slice A l.length c] w fun e w' => e = .returned (.bool (legsB l)) ∧ Below w.heap.size w w' := by
  have HA := Lib.hid hA
  have HB0 := Lib.hid (Below.refl w.heap.size w)
  clear hA
  go_enter Try.func64, Try.ntmps64
  go_wp2_with fail
  go_loopw [7] (fun k wr => ∃ j : Nat, j ≤ l.length ∧ k = .int .i64 (j : Int) ∧ (∀ i, i < j → legB (nth l i) = true) ∧ Below w.heap.size w wr) (fun k _ => l.length - (intOf k).toNat)
  case atStart => exact ⟨0, by omega, rfl, fun i hi => by omega, HB0.out⟩
  case round =>
    obtain ⟨j, hj, rfl, ha, hB⟩ := hrel
    have HJ := Lib.hid ha
    have HB := Lib.hid hB
    clear ha hB
    by_cases hl : j < l.length
    · obtain ⟨b, o, rfl, hL⟩ := HA.out.resolve_left (by omega)
      obtain ⟨c1, c2, c3⟩ := hL j hl
      have hbw : b < w.heap.size := World.block_lt_of_cell? w _ c1
      have d1 := (HB.out.cell (p := ⟨b, o + j * 3, none⟩) hbw).trans c1
      have d2 := (HB.out.cell (p := ⟨b, o + j * 3 + 1, none⟩) hbw).trans c2
      have d3 := (HB.out.cell (p := ⟨b, o + j * 3 + 2, none⟩) hbw).trans c3
      clear hL c1 c2 c3
      have HB1 := Lib.hid (HB.out.alloc HB.out.size (.cells #[.int .i64 (nth l j).h, .float .f32 (nth l j).s, .int .i64 (nth l j).n] 80))
      go_wp2_with fail
      refine (impl_LegOk (nth l j) _).mono ?_
      rintro e w1 ⟨rfl, hb⟩
      have HB2 := Lib.hid (HB1.out.trans (hb.mono HB1.out.size))
      clear hb HB1
      cases hg : legB (nth l j)
      · have HG := Lib.hid hg
        clear hg
        go_wp2_with fail
        go_ret
        exact ⟨by rw [not_all hl HG.out]; rfl, HB2.out⟩
      · have HG := Lib.hid hg
        clear hg
        go_wp2_with fail
        go_roundw
        case rel => exact ⟨j + 1, by omega, by go_num, fun i hi => by
                      by_cases e : i = j
                      · rw [e]; exact HG.out
                      · exact HJ.out i (by omega), HB2.out⟩
        case measure => simp [intOf]; omega
    · obtain rfl : j = l.length := by omega
      have HE := Lib.hid (show legsB l = decide ((l.length : Int) ≤ 50) by
        unfold legsB
        rw [all_of HJ.out, Bool.true_and]
        by_cases h : l.length ≤ 50
        · rw [decide_eq_true h, decide_eq_true (by omega)]
        · rw [decide_eq_false h, decide_eq_false (by omega)])
      go_wp2_with fail
      go_ret
      exact ⟨by rw [HE.out]; simp, HB.out⟩
set_option maxRecDepth 100000 in
theorem spec_l07Legs {w : World} {A : Option Addr} {c : Nat} {l : List Leg} (hA : At w A l) (hm : l.length ≤ 1000) : Calls Try.prog 66 #[.slice A l.length c] w fun e w' => e = .returned (.bool (legsB l)) ∧ Below w.heap.size w w' := by
  have HA := Lib.hid hA
  have HB0 := Lib.hid (Below.refl w.heap.size w)
  clear hA
  go_enter Try.func66, Try.ntmps66
  go_wp2_with fail
  go_loopw [3] (fun k wr => ∃ j : Nat, j ≤ l.length ∧ k = .int .i64 (j : Int) ∧ (∀ i, i < j → legB (nth l i) = true) ∧ Below w.heap.size w wr) (fun k _ => l.length - (intOf k).toNat)
  case atStart => exact ⟨0, by omega, rfl, fun i hi => by omega, HB0.out⟩
  case round =>
    obtain ⟨j, hj, rfl, ha, hB⟩ := hrel
    have HJ := Lib.hid ha
    have HB := Lib.hid hB
    clear ha hB
    by_cases hl : j < l.length
    · obtain ⟨b, o, rfl, hL⟩ := HA.out.resolve_left (by omega)
      obtain ⟨c1, c2, c3⟩ := hL j hl
      have hbw : b < w.heap.size := World.block_lt_of_cell? w _ c1
      have d1 := (HB.out.cell (p := ⟨b, o + j * 3, none⟩) hbw).trans c1
      have d2 := (HB.out.cell (p := ⟨b, o + j * 3 + 1, none⟩) hbw).trans c2
      have d3 := (HB.out.cell (p := ⟨b, o + j * 3 + 2, none⟩) hbw).trans c3
      clear hL c1 c2 c3
      go_wp2_with fail
      refine (spec_LegOk (nth l j) _).mono ?_
      rintro e w1 ⟨rfl, hb⟩
      have HB2 := Lib.hid (HB.out.trans (hb.mono HB.out.size))
      clear hb
      cases hg : legB (nth l j)
      · have HG := Lib.hid hg
        clear hg
        go_wp2_with fail
        go_ret
        exact ⟨by rw [not_all hl HG.out]; rfl, HB2.out⟩
      · have HG := Lib.hid hg
        clear hg
        go_wp2_with fail
        go_roundw
        case rel => exact ⟨j + 1, by omega, by go_num, fun i hi => by
                      by_cases e : i = j
                      · rw [e]; exact HG.out
                      · exact HJ.out i (by omega), HB2.out⟩
        case measure => simp [intOf]; omega
    · obtain rfl : j = l.length := by omega
      have HE := Lib.hid (show legsB l = decide ((l.length : Int) ≤ 50) by
        unfold legsB
        rw [all_of HJ.out, Bool.true_and]
        by_cases h : l.length ≤ 50
        · rw [decide_eq_true h, decide_eq_true (by omega)]
        · rw [decide_eq_false h, decide_eq_false (by omega)])
      go_wp2_with fail
      go_ret
      exact ⟨by rw [HE.out]; simp, HB.out⟩
/-! ### a step -/
theorem impl_StepOn (p v : Nat × Nat) (n : Int) (hp : vec p = true) (h0 : 0 ≤ n) (h1 : n ≤ 100000) (w : World) : Calls Try.prog 88 #[.complex .f64 p.1 p.2, .complex .f32 v.1 v.2, .int .i64 n] w fun e w' => e = .returned (.tuple (asR (if stepB p v n = true then some (stepF p v n) else none))) ∧ w = w' := by
  have HP := Lib.hid hp
  have HW := Lib.hid (show (decide (0 ≤ n) && decide (n ≤ 100000)) = true by simp; omega)
  unfold stepB
  cases hv : air v
  · have HV := Lib.hid hv
    clear hp hv h0 h1
    go_enter Try.func88, Try.ntmps88
    go_wp2_with (first | (go_at_call 35; refine (Ve.impl_VectorOk _ _ _).mono ?_; rintro e w' ⟨rfl, rfl⟩; rw [show (vOk p.1 && vOk p.2) = true from HP.out]) | (go_at_call 50; refine (impl_VelocityOk _ _ _).mono ?_; rintro e w' ⟨rfl, rfl⟩; rw [show (within100 v.1 && within100 v.2) = false from HV.out]))
    go_ret2
    exact ⟨rfl, rfl⟩
  · have HV := Lib.hid hv
    have S := step hp hv h0 h1
    obtain ⟨s1, s2, s3, s4, s5, s6⟩ := S
    cases hq : vec (stepF p v n)
    · have HQ := Lib.hid hq
      clear hp hv h0 h1 hq
      go_enter Try.func88, Try.ntmps88
      go_wp2_with (first | (go_at_call 35; refine (Ve.impl_VectorOk _ _ _).mono ?_; rintro e w' ⟨rfl, rfl⟩; first | rw [show (vOk p.1 && vOk p.2) = true from HP.out] | rw [show (vOk (fl .add .f64 p.1 (fl .mul .f64 (cv .f32 v.1 .f64) (floatOfInt .f64 n))) && vOk (fl .add .f64 p.2 (fl .mul .f64 (cv .f32 v.2 .f64) (floatOfInt .f64 n)))) = false from HQ.out]) | (go_at_call 50; refine (impl_VelocityOk _ _ _).mono ?_; rintro e w' ⟨rfl, rfl⟩; rw [show (within100 v.1 && within100 v.2) = true from HV.out]) | (go_at_call 36; refine (impl_within _ _ _ _).mono ?_; rintro e w' ⟨rfl, rfl⟩; rw [HW.out]))
      go_ret2
      exact ⟨rfl, rfl⟩
    · have HQ := Lib.hid hq
      clear hp hv h0 h1 hq
      go_enter Try.func88, Try.ntmps88
      go_wp2_with (first | (go_at_call 35; refine (Ve.impl_VectorOk _ _ _).mono ?_; rintro e w' ⟨rfl, rfl⟩; first | rw [show (vOk p.1 && vOk p.2) = true from HP.out] | rw [show (vOk (fl .add .f64 p.1 (fl .mul .f64 (cv .f32 v.1 .f64) (floatOfInt .f64 n))) && vOk (fl .add .f64 p.2 (fl .mul .f64 (cv .f32 v.2 .f64) (floatOfInt .f64 n)))) = true from HQ.out]) | (go_at_call 50; refine (impl_VelocityOk _ _ _).mono ?_; rintro e w' ⟨rfl, rfl⟩; rw [show (within100 v.1 && within100 v.2) = true from HV.out]) | (go_at_call 36; refine (impl_within _ _ _ _).mono ?_; rintro e w' ⟨rfl, rfl⟩; rw [HW.out]))
      go_ret2
      exact ⟨rfl, rfl⟩
theorem spec_StepOn (p v : Nat × Nat) (n : Int) (hp : vec p = true) (h0 : 0 ≤ n) (h1 : n ≤ 100000) (w : World) : Calls Try.prog 69 #[.complex .f64 p.1 p.2, .complex .f32 v.1 v.2, .int .i64 n] w fun e w' => e = .returned (.tuple (asR (if stepB p v n = true then some (stepF p v n) else none))) ∧ w = w' := by
  have HP := Lib.hid hp
  have HW := Lib.hid (show (decide (0 ≤ n) && decide (n ≤ 100000)) = true by simp; omega)
  unfold stepB
  cases hv : air v
  · have HV := Lib.hid hv
    clear hp hv h0 h1
    go_enter Try.func69, Try.ntmps69
    go_wp2_with (first | (go_at_call 39; refine (Ve.spec_VectorOk _ _ _).mono ?_; rintro e w' ⟨rfl, rfl⟩; rw [show (vOk p.1 && vOk p.2) = true from HP.out]) | (go_at_call 67; refine (spec_VelocityOk _ _ _).mono ?_; rintro e w' ⟨rfl, rfl⟩; rw [show (within100 v.1 && within100 v.2) = false from HV.out]))
    go_ret2
    exact ⟨rfl, rfl⟩
  · have HV := Lib.hid hv
    have S := step hp hv h0 h1
    obtain ⟨s1, s2, s3, s4, s5, s6⟩ := S
    cases hq : vec (stepF p v n)
    · have HQ := Lib.hid hq
      clear hp hv h0 h1 hq
      go_enter Try.func69, Try.ntmps69
      go_wp2_with (first | (go_at_call 39; refine (Ve.spec_VectorOk _ _ _).mono ?_; rintro e w' ⟨rfl, rfl⟩; first | rw [show (vOk p.1 && vOk p.2) = true from HP.out] | rw [show (vOk (fl .add .f64 p.1 (fl .mul .f64 (cv .f32 v.1 .f64) (floatOfInt .f64 n))) && vOk (fl .add .f64 p.2 (fl .mul .f64 (cv .f32 v.2 .f64) (floatOfInt .f64 n)))) = false from HQ.out]) | (go_at_call 67; refine (spec_VelocityOk _ _ _).mono ?_; rintro e w' ⟨rfl, rfl⟩; rw [show (within100 v.1 && within100 v.2) = true from HV.out]) | (go_at_call 40; refine (spec_l01In _ _ _ _).mono ?_; rintro e w' ⟨rfl, rfl⟩; rw [HW.out]))
      go_ret2
      exact ⟨rfl, rfl⟩
    · have HQ := Lib.hid hq
      clear hp hv h0 h1 hq
      go_enter Try.func69, Try.ntmps69
      go_wp2_with (first | (go_at_call 39; refine (Ve.spec_VectorOk _ _ _).mono ?_; rintro e w' ⟨rfl, rfl⟩; first | rw [show (vOk p.1 && vOk p.2) = true from HP.out] | rw [show (vOk (fl .add .f64 p.1 (fl .mul .f64 (cv .f32 v.1 .f64) (floatOfInt .f64 n))) && vOk (fl .add .f64 p.2 (fl .mul .f64 (cv .f32 v.2 .f64) (floatOfInt .f64 n)))) = true from HQ.out]) | (go_at_call 67; refine (spec_VelocityOk _ _ _).mono ?_; rintro e w' ⟨rfl, rfl⟩; rw [show (within100 v.1 && within100 v.2) = true from HV.out]) | (go_at_call 40; refine (spec_l01In _ _ _ _).mono ?_; rintro e w' ⟨rfl, rfl⟩; rw [HW.out]))
      go_ret2
      exact ⟨rfl, rfl⟩
theorem impl_sailed (p : Nat × Nat) (g : Leg) (c d : Nat) (hp : vec p = true) (hg : legB g = true) (hs : air (c, d) = true) (w : World) : Calls Try.prog 65 #[.complex .f64 p.1 p.2, .agg #[.int .i64 g.h, .float .f32 g.s, .int .i64 g.n], .int .i64 g.n, .complex .f32 c d] w fun e w' => e = .returned (.tuple (asR (legO c d p g))) ∧ Below w.heap.size w w' := by
  have HB := Lib.hid ((Below.refl w.heap.size w).alloc (Nat.le_refl _) (.cells #[.int .i64 g.h, .float .f32 g.s, .int .i64 g.n] 80))
  have HG := Lib.hid hg
  have HP := Lib.hid hp
  unfold legB at hg
  simp only [Bool.and_eq_true, decide_eq_true_eq] at hg
  have HO := Lib.hid (show (speedB g.s && (within100 c && within100 d)) = true by rw [hg.1]; exact hs)
  have HN := Lib.hid hg.2
  clear hg hs hp
  go_enter Try.func65, Try.ntmps65
  go_wp2_with (go_at_call 59; refine (impl_OverGround _ _ _ _ _).mono ?_; rintro e w' ⟨rfl, rfl⟩; rw [HO.out, if_pos rfl])
  refine (impl_StepOn p (vk (tb (deg g.h)) g.s c d) g.n HP.out HN.out.1 HN.out.2 _).mono ?_
  rintro e w' ⟨rfl, rfl⟩
  have HL := Lib.hid (show legO c d p g = if stepB p (vk (tb (deg g.h)) g.s c d) g.n = true then some (stepF p (vk (tb (deg g.h)) g.s c d) g.n) else none from rfl)
  rw [← HL.out]
  cases ho : legO c d p g
  all_goals have HR := Lib.hid ho
  all_goals clear ho HL
  all_goals simp only [asR]
  all_goals go_wp2_with fail
  all_goals go_ret2
  all_goals exact ⟨by rw [HR.out]; rfl, HB.out⟩
end Go.Proofs.Ytpapcohenejpmaa.Lg
