/- The law FnExactHeightAt over whole numbers alone: what the call computes is true. -/
import Derived.Test.YtelbflefjllfiaaHe1
namespace Go.Proofs.Ytelbflefjllfiaa.Pure
open Go.RowKit Go.Proofs.Ytelbflefjllfiaa.PFnExactHeightAt Go.Proofs.YtelbflefjllfiaaW.PrintWords Go.Proofs.YtelbflefjllfiaaW.PrintLast
theorem w64 {n : Int} (h1 : -9000000000000000000 ≤ n) (h2 : n ≤ 9000000000000000000) : wrap64 n = n := by unfold wrap64; omega

def cl (v : Int) : Int := if v < 0 then 0 else if v > 60 then 60 else v
theorem clamp_is (k : Nat) (v : Int) : spec_Clamp.f (k + 1) v 0 60 = some (cl v) := by
  unfold spec_Clamp.f cl
  rw [if_neg (by omega)]
  simp only [spec_Clamp.j0]
  by_cases h : v < 0
  · rw [if_pos h]; simp [h]
  · rw [if_neg h]
    simp only [h, decide_false, Bool.false_eq_true, if_false]
    split <;> rfl
theorem cl_bd (v : Int) : 0 ≤ cl v ∧ cl v ≤ 60 := by unfold cl; repeat' split
                                                     all_goals omega
def L6 : List Int := [1, 2, 3, 3, 2, 1]
def L7 : List Int := [1, 2, 3, 3, 2, 1, 0]
def res (a b n : Int) : Option (Int × Bool) := some (wrap64 (a - (wrap64 (Int.tdiv (wrap64 ((wrap64 (a - b)) * n)) 720))), true)
theorem spec_step (a b m : Int) (hm : 0 ≤ m ∧ m ≤ 360) (i : Nat) (hi : i < L6.length) (s : Int) (hs : 0 ≤ s ∧ s ≤ 10000) (hL : 0 ≤ L6[i] ∧ L6[i] ≤ 3) (k : Nat) :
    spec_HeightAt.l0 (k + 2) a b m L6 s i = spec_HeightAt.l0 (k + 1) a b m L6 (s + L6[i] * cl (m - 60 * i)) ((i + 1 : Nat) : Int) := by
  have hi6 : i < 6 := hi
  conv => lhs; unfold spec_HeightAt.l0
  have e : rd L6 (i : Int) = L6[i] := by
    unfold rd
    rw [List.getD_eq_getElem?_getD, Int.toNat_natCast, List.getElem?_eq_getElem hi]; rfl
  rw [if_pos (by omega), if_pos (by omega), w64 (n := 60 * (i : Int)) (by omega) (by omega), w64 (n := m - 60 * (i : Int)) (by omega) (by omega), clamp_is, Option.bind_some, e]
  have hc := cl_bd (m - 60 * i)
  have hp : 0 ≤ L6[i] * cl (m - 60 * i) ∧ L6[i] * cl (m - 60 * i) ≤ 180 := by
    refine ⟨Int.mul_nonneg hL.1 hc.1, ?_⟩
    have h1 := Int.mul_le_mul hL.2 hc.2 hc.1 (by omega)
    omega
  generalize L6[i] * cl (m - 60 * i) = p at *
  rw [w64 (n := p) (by omega) (by omega), w64 (n := s + p) (by omega) (by omega), w64 (n := (i : Int) + 1) (by omega) (by omega)]
  rfl
def total (m : Int) : Int := 1 * cl (m - 0) + 2 * cl (m - 60) + 3 * cl (m - 120) + 3 * cl (m - 180) + 2 * cl (m - 240) + 1 * cl (m - 300)
theorem spec_all (a b m : Int) (hm : 0 ≤ m ∧ m ≤ 360) (k : Nat) : spec_HeightAt.l0 (k + 7) a b m L6 0 0 = res a b (total m) := by
  have c0 := cl_bd (m - 0)
  have c1 := cl_bd (m - 60)
  have c2 := cl_bd (m - 120)
  have c3 := cl_bd (m - 180)
  have c4 := cl_bd (m - 240)
  have c5 := cl_bd (m - 300)
  have s0 := spec_step a b m hm 0 (by decide) 0 (by omega) (by decide) (k + 5)
  have s1 := spec_step a b m hm 1 (by decide) (1 * cl (m - 0)) (by omega) (by decide) (k + 4)
  have s2 := spec_step a b m hm 2 (by decide) (1 * cl (m - 0) + 2 * cl (m - 60)) (by omega) (by decide) (k + 3)
  have s3 := spec_step a b m hm 3 (by decide) (1 * cl (m - 0) + 2 * cl (m - 60) + 3 * cl (m - 120)) (by omega) (by decide) (k + 2)
  have s4 := spec_step a b m hm 4 (by decide) (1 * cl (m - 0) + 2 * cl (m - 60) + 3 * cl (m - 120) + 3 * cl (m - 180)) (by omega) (by decide) (k + 1)
  have s5 := spec_step a b m hm 5 (by decide) (1 * cl (m - 0) + 2 * cl (m - 60) + 3 * cl (m - 120) + 3 * cl (m - 180) + 2 * cl (m - 240)) (by omega) (by decide) k
  have e0 : (0 : Int) + L6[0] * cl (m - 60 * (0 : Nat)) = 1 * cl (m - 0) := by
    rw [Int.zero_add]; rfl
  have h0 : spec_HeightAt.l0 (k + 7) a b m L6 0 0 = spec_HeightAt.l0 (k + 6) a b m L6 (1 * cl (m - 0)) ((1 : Nat) : Int) := by rw [← e0]; exact s0
  rw [h0]
  refine s1.trans (s2.trans (s3.trans (s4.trans (s5.trans ?_))))
  show spec_HeightAt.l0 (k + 1) a b m L6 (total m) 6 = _
  unfold spec_HeightAt.l0
  rw [if_neg (by decide)]
  rfl
theorem impl_loop (a b m : Int) (hm : 0 ≤ m ∧ m ≤ 360) (y : List Int) (hy : ∀ x ∈ y, 0 ≤ x ∧ x ≤ 3) (hl : y.length ≤ 7) : ∀ (n k i : Nat) (s : Int), i + n = y.length → n < k → 0 ≤ s → s ≤ 3 * i →
    impl_HeightAt.l0 k a b m L7 s y y.length i = res a b (60 * (s + (y.drop i).sum) + rd L7 (m / 60) * (m % 60)) := by
  have hq : wrap64 (m.tdiv 60) = m / 60 := by rw [Int.tdiv_eq_ediv_of_nonneg hm.1, w64 (by omega) (by omega)]
  have hr : m.tmod 60 = m % 60 := Int.tmod_eq_emod_of_nonneg hm.1
  have hsum : ∀ l : List Int, (∀ x ∈ l, 0 ≤ x ∧ x ≤ 3) → 0 ≤ l.sum ∧ l.sum ≤ 3 * l.length := by
    intro l
    induction l with
    | nil => intro _; simp
    | cons x l ih =>
      intro h
      have h1 := h x (by simp)
      have h2 := ih (fun z hz => h z (by simp [hz]))
      simp only [List.sum_cons, List.length_cons]
      omega
  intro n
  induction n with
  | zero =>
    intro k i s hi hk hs0 hs
    obtain ⟨k, rfl⟩ : ∃ j, k = j + 1 := ⟨k - 1, by omega⟩
    unfold impl_HeightAt.l0
    have h7 : (L7.length : Int) = 7 := rfl
    rw [if_neg (by omega), hq, hr, if_pos (by omega), if_pos (by omega)]
    have hd : y.drop i = [] := List.drop_of_length_le (by omega)
    rw [hd, List.sum_nil, Int.add_zero]
    have hrd : 0 ≤ rd L7 (m / 60) ∧ rd L7 (m / 60) ≤ 3 := by
      have : m / 60 = 0 ∨ m / 60 = 1 ∨ m / 60 = 2 ∨ m / 60 = 3 ∨ m / 60 = 4 ∨ m / 60 = 5 ∨ m / 60 = 6 := by omega
      rcases this with h | h | h | h | h | h | h <;> rw [h] <;> decide
    have hp : 0 ≤ rd L7 (m / 60) * (m % 60) ∧ rd L7 (m / 60) * (m % 60) ≤ 180 := by
      refine ⟨Int.mul_nonneg hrd.1 (by omega), ?_⟩
      have h1 := Int.mul_le_mul hrd.2 (show m % 60 ≤ 60 by omega) (by omega) (by omega)
      omega
    generalize rd L7 (m / 60) * (m % 60) = p at *
    rw [w64 (n := 60 * s) (by omega) (by omega), w64 (n := p) (by omega) (by omega), w64 (n := 60 * s + p) (by omega) (by omega)]
    rfl
  | succ n ih =>
    intro k i s hi hk hs0 hs
    obtain ⟨k, rfl⟩ : ∃ j, k = j + 1 := ⟨k - 1, by omega⟩
    have hil : i < y.length := by omega
    unfold impl_HeightAt.l0
    have e : rd y (i : Int) = y[i] := by
      unfold rd
      rw [List.getD_eq_getElem?_getD, Int.toNat_natCast, List.getElem?_eq_getElem hil]; rfl
    have hyi := hy y[i] (List.getElem_mem hil)
    rw [if_pos (by omega), if_pos (by omega), if_pos (by omega), e, w64 (n := s + y[i]) (by omega) (by omega), w64 (n := (i : Int) + 1) (by omega) (by omega)]
    have h := ih k (i + 1) (s + y[i]) (by omega) (by omega) (by omega) (by omega)
    have e2 : y.drop i = y[i] :: y.drop (i + 1) := List.drop_eq_getElem_cons hil
    rw [e2, List.sum_cons, ← Int.add_assoc]
    exact h
theorem cl_full {v : Int} (h : 60 ≤ v) : cl v = 60 := by unfold cl; split <;> (try split) <;> omega
theorem cl_none {v : Int} (h : v ≤ 0) : cl v = 0 := by unfold cl; split <;> (try split) <;> omega
theorem cl_mid {v : Int} (h : 0 ≤ v) (h2 : v ≤ 60) : cl v = v := by unfold cl; split <;> (try split) <;> omega
theorem total_is (m : Int) (hm : 0 ≤ m ∧ m ≤ 360) : 60 * (0 + (((L7.take (m / 60).toNat).drop 0).sum)) + rd L7 (m / 60) * (m % 60) = total m := by
  have hq : m / 60 = 0 ∨ m / 60 = 1 ∨ m / 60 = 2 ∨ m / 60 = 3 ∨ m / 60 = 4 ∨ m / 60 = 5 ∨ m / 60 = 6 := by omega
  unfold total
  rcases hq with h | h | h | h | h | h | h
  · rw [h, show (((L7.take (0 : Int).toNat).drop 0).sum) = 0 by decide, show rd L7 0 = 1 by decide, cl_mid (v := m - 0) (by omega) (by omega), cl_none (v := m - 60) (by omega), cl_none (v := m - 120) (by omega), cl_none (v := m - 180) (by omega), cl_none (v := m - 240) (by omega), cl_none (v := m - 300) (by omega)]; omega
  · rw [h, show (((L7.take (1 : Int).toNat).drop 0).sum) = 1 by decide, show rd L7 1 = 2 by decide, cl_full (v := m - 0) (by omega), cl_mid (v := m - 60) (by omega) (by omega), cl_none (v := m - 120) (by omega), cl_none (v := m - 180) (by omega), cl_none (v := m - 240) (by omega), cl_none (v := m - 300) (by omega)]; omega
  · rw [h, show (((L7.take (2 : Int).toNat).drop 0).sum) = 3 by decide, show rd L7 2 = 3 by decide, cl_full (v := m - 0) (by omega), cl_full (v := m - 60) (by omega), cl_mid (v := m - 120) (by omega) (by omega), cl_none (v := m - 180) (by omega), cl_none (v := m - 240) (by omega), cl_none (v := m - 300) (by omega)]; omega
  · rw [h, show (((L7.take (3 : Int).toNat).drop 0).sum) = 6 by decide, show rd L7 3 = 3 by decide, cl_full (v := m - 0) (by omega), cl_full (v := m - 60) (by omega), cl_full (v := m - 120) (by omega), cl_mid (v := m - 180) (by omega) (by omega), cl_none (v := m - 240) (by omega), cl_none (v := m - 300) (by omega)]; omega
  · rw [h, show (((L7.take (4 : Int).toNat).drop 0).sum) = 9 by decide, show rd L7 4 = 2 by decide, cl_full (v := m - 0) (by omega), cl_full (v := m - 60) (by omega), cl_full (v := m - 120) (by omega), cl_full (v := m - 180) (by omega), cl_mid (v := m - 240) (by omega) (by omega), cl_none (v := m - 300) (by omega)]; omega
  · rw [h, show (((L7.take (5 : Int).toNat).drop 0).sum) = 11 by decide, show rd L7 5 = 1 by decide, cl_full (v := m - 0) (by omega), cl_full (v := m - 60) (by omega), cl_full (v := m - 120) (by omega), cl_full (v := m - 180) (by omega), cl_full (v := m - 240) (by omega), cl_mid (v := m - 300) (by omega) (by omega)]; omega
  · rw [h, show (((L7.take (6 : Int).toNat).drop 0).sum) = 12 by decide, show rd L7 6 = 0 by decide, cl_full (v := m - 0) (by omega), cl_full (v := m - 60) (by omega), cl_full (v := m - 120) (by omega), cl_full (v := m - 180) (by omega), cl_full (v := m - 240) (by omega), cl_full (v := m - 300) (by omega)]; omega
theorem impl_all (a b m : Int) (hm : 0 ≤ m ∧ m ≤ 360) (k : Nat) : impl_HeightAt.j0 (k + 9) a b m false = res a b (total m) := by
  have hq : wrap64 (m.tdiv 60) = m / 60 := by rw [Int.tdiv_eq_ediv_of_nonneg hm.1, w64 (by omega) (by omega)]
  simp only [impl_HeightAt.j0, Bool.false_eq_true, if_false, Option.bind_some, hq]
  rw [if_pos (by omega), if_pos (by simp; omega)]
  have h7 : ∀ x ∈ L7, 0 ≤ x ∧ x ≤ 3 := by decide
  have h := impl_loop a b m hm (L7.take (m / 60).toNat) (fun x hx => h7 x (List.mem_of_mem_take hx)) (by simp [L7]; omega) (L7.take (m / 60).toNat).length (k + 8) 0 0 (by omega) (by simp [L7]; omega) (by omega) (by omega)
  rw [total_is m hm] at h
  exact h
def inB (x a b : Int) : Bool := decide (a ≤ x) && decide (x ≤ b)
theorem within_is (x a b : Int) : impl_within.f x a b = some (inB x a b) := by
  unfold impl_within.f inB
  by_cases h : x ≥ a
  · rw [if_pos h]; simp [show a ≤ x from h]
  · rw [if_neg h]; simp [show ¬ a ≤ x from h]
def okB (a b m : Int) : Bool := inB a (-1000000000) 1000000000 && (inB b (-1000000000) 1000000000 && inB m 0 360)
theorem impl_is (a b m : Int) (k : Nat) : impl_HeightAt.f (k + 9) a b m = if okB a b m = true then res a b (total m) else some (0, false) := by
  have ht : impl_HeightAt.j0 (k + 9) a b m true = some (0, false) := by simp only [impl_HeightAt.j0]; rfl
  unfold impl_HeightAt.f impl_fixedOk.f okB
  simp only [within_is, Option.bind_some]
  cases h1 : inB a (-1000000000) 1000000000
  · simp [ht]
  · cases h2 : inB b (-1000000000) 1000000000
    · simp [ht]
    · cases h3 : inB m 0 360
      · simp [ht]
      · have hm : 0 ≤ m ∧ m ≤ 360 := by unfold inB at h3; simpa using h3
        simp [impl_all a b m hm]
theorem spec_is (a b m : Int) (k : Nat) : spec_HeightAt.f (k + 9) a b m = if okB a b m = true then res a b (total m) else some (0, false) := by
  have e : spec_l01In.f = impl_within.f := rfl
  have ht : spec_HeightAt.j0 (k + 9) a b m true = some (0, false) := by simp only [spec_HeightAt.j0]; rfl
  unfold spec_HeightAt.f okB
  simp only [e, within_is, Option.bind_some]
  cases h1 : inB a (-1000000000) 1000000000
  · simp [ht]
  · cases h2 : inB b (-1000000000) 1000000000
    · simp [ht]
    · cases h3 : inB m 0 360
      · simp [ht]
      · have hm : 0 ≤ m ∧ m ≤ 360 := by unfold inB at h3; simpa using h3
        have : spec_HeightAt.j0 (k + 9) a b m false = res a b (total m) := by
          simp only [spec_HeightAt.j0, Bool.false_eq_true, if_false]
          exact spec_all a b m hm (k + 1)
        simp [this]

theorem FnExactHeightAt : laws_FnExactHeightAt.Pure := by
  intro a b m _ _ _
  refine ⟨9, ?_⟩
  unfold laws_FnExactHeightAt.f
  rw [spec_is a b m 0, impl_is a b m 0]
  unfold res
  split <;> simp
end Go.Proofs.Ytelbflefjllfiaa.Pure
