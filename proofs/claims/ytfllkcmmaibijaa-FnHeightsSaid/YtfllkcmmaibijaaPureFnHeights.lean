/- The law FnHeights over whole numbers alone: whatever is drawn, what the call computes is true. -/
import Derived.Test.YtfllkcmmaibijaaHs3
namespace Go.Proofs.Ytfllkcmmaibijaa.Pure
open Go.RowKit Go.Proofs.Ytfllkcmmaibijaa.PFnHeights Go.Proofs.YtfllkcmmaibijaaW.PrintWords Go.Proofs.YtfllkcmmaibijaaW.PrintLast

theorem w64 {n : Int} (h1 : -9000000000000000000 ≤ n) (h2 : n ≤ 9000000000000000000) : wrap64 n = n := by unfold wrap64; omega

/-! ### what is drawn -/
theorem new_loop (l : List Int) (hl : l.length ≤ 1048576) : ∀ (d k i : Nat) (h : Int), i + d = l.length → d < k → ∃ h', spec_l01New.l0 k l h i = some (l, 0, h') := by
  intro d
  induction d with
  | zero =>
    intro k i h hi hk
    obtain ⟨k, rfl⟩ : ∃ m, k = m + 1 := ⟨k - 1, by omega⟩
    simp only [spec_l01New.l0]
    rw [if_neg (by omega)]
    exact ⟨_, rfl⟩
  | succ d ih =>
    intro k i h hi hk
    obtain ⟨k, rfl⟩ : ∃ m, k = m + 1 := ⟨k - 1, by omega⟩
    simp only [spec_l01New.l0]
    rw [if_pos (by omega)]
    split
    · rw [if_pos (by omega), w64 (n := (i : Int) + 1) (by omega) (by omega)]
      exact ih k (i + 1) _ (by omega) (by omega)
    · exact ⟨_, rfl⟩
theorem new_some (l : List Int) (hl : l.length ≤ 1048576) (k : Nat) (hk : l.length < k) : ∃ h, spec_l01New.f k l = some (l, 0, h) := by
  unfold spec_l01New.f
  exact new_loop l hl l.length k 0 _ (by omega) hk
theorem bits_and (x n : Int) (hn : 0 ≤ n) (hn2 : n ≤ 9223372036854775807) : 0 ≤ Go.bits .and .i64 x n ∧ Go.bits .and .i64 x n ≤ n := by
  obtain ⟨m, rfl⟩ := Int.eq_ofNat_of_zero_le hn
  have hm : m < 2 ^ 63 := by omega
  unfold Go.bits
  simp only []
  have hb : (BitVec.ofInt IntKind.i64.bits x &&& BitVec.ofInt IntKind.i64.bits (m : Int)).toNat ≤ m := by
    rw [BitVec.toNat_and]
    refine Nat.le_trans Nat.and_le_right ?_
    simp [IntKind.bits]
    omega
  generalize (BitVec.ofInt IntKind.i64.bits x &&& BitVec.ofInt IntKind.i64.bits (m : Int)) = v at *
  have hv : (v.toNat : Int) ≤ m := by exact_mod_cast hb
  rw [IntKind.wrap_i64]
  omega

/-- A cursor: the bytes, a place within them or behind. -/
theorem byte_some (l : List Int) (i h : Int) (hi : 0 ≤ i ∧ i ≤ 2097152) : ∃ x i' h', spec_l01Byte.f l i h = some (x, i', h') ∧ 0 ≤ i' ∧ i' ≤ i + 1 ∧ 0 ≤ x ∧ x ≤ 255 := by
  unfold spec_l01Byte.f
  split
  · rw [if_pos hi.1]
    exact ⟨_, _, _, rfl, by rw [w64 (by omega) (by omega)]; omega, by rw [w64 (by omega) (by omega)]; omega, bits_and _ _ (by omega) (by omega)⟩
  · exact ⟨_, _, _, rfl, hi.1, by omega, bits_and _ _ (by omega) (by omega)⟩
theorem below_some (l : List Int) (i h n : Int) (hi : 0 ≤ i ∧ i ≤ 2000000) (hn : n ≤ 4294967296) : ∃ x i' h', spec_l01Below.f l i h n = some (x, i', h') ∧ 0 ≤ i' ∧ i' ≤ i + 4 ∧ 0 ≤ x ∧ (0 < n → x < n) ∧ x ≤ 4294967295 := by
  unfold spec_l01Below.f
  split
  · exact ⟨_, _, _, rfl, hi.1, by omega, by omega, by omega, by omega⟩
  · split
    · obtain ⟨x, j, g, e, j0, j1, x0, x1⟩ := byte_some l i h (by omega)
      rw [e, Option.bind_some, if_neg (by omega)]
      refine ⟨_, _, _, rfl, j0, by simp only []; omega, ?_, ?_, ?_⟩
      · rw [Int.tmod_eq_emod_of_nonneg x0]; exact Int.emod_nonneg _ (by omega)
      · intro _; rw [Int.tmod_eq_emod_of_nonneg x0]; exact Int.emod_lt_of_pos _ (by omega)
      · rw [Int.tmod_eq_emod_of_nonneg x0]; have := Int.emod_lt_of_pos x (show 0 < n by omega); omega
    · obtain ⟨x1, j1, g1, e1, a1, b1, c1, d1⟩ := byte_some l i h (by omega)
      obtain ⟨x2, j2, g2, e2, a2, b2, c2, d2⟩ := byte_some l j1 g1 (by omega)
      obtain ⟨x3, j3, g3, e3, a3, b3, c3, d3⟩ := byte_some l j2 g2 (by omega)
      obtain ⟨x4, j4, g4, e4, a4, b4, c4, d4⟩ := byte_some l j3 g3 (by omega)
      rw [e1, Option.bind_some, e2, Option.bind_some, e3, Option.bind_some, e4, Option.bind_some, if_neg (by omega)]
      have hx : wrap64 (wrap64 (wrap64 (wrap64 (x1 * 16777216) + wrap64 (x2 * 65536)) + wrap64 (x3 * 256)) + x4) = x1 * 16777216 + x2 * 65536 + x3 * 256 + x4 := by
        rw [w64 (n := x1 * 16777216) (by omega) (by omega), w64 (n := x2 * 65536) (by omega) (by omega), w64 (n := x3 * 256) (by omega) (by omega), w64 (n := x1 * 16777216 + x2 * 65536) (by omega) (by omega), w64 (n := x1 * 16777216 + x2 * 65536 + x3 * 256) (by omega) (by omega), w64 (by omega) (by omega)]
      refine ⟨_, _, _, rfl, a4, by simp only []; omega, ?_, ?_, ?_⟩
      · simp only []
        rw [hx, Int.tmod_eq_emod_of_nonneg (by omega)]; exact Int.emod_nonneg _ (by omega)
      · intro _; simp only []; rw [hx, Int.tmod_eq_emod_of_nonneg (by omega)]; exact Int.emod_lt_of_pos _ (by omega)
      · simp only []; rw [hx, Int.tmod_eq_emod_of_nonneg (by omega)]
        have := Int.emod_lt_of_pos (x1 * 16777216 + x2 * 65536 + x3 * 256 + x4) (show 0 < n by omega); omega

theorem once_some (l : List Int) (i h n : Int) (hi : 0 ≤ i ∧ i ≤ 2000000) (hn : n ≤ 4294967296) : ∃ x i' h', spec_l01Once.f l i h n = some (x, i', h') ∧ 0 ≤ i' ∧ i' ≤ i + 4 := by
  obtain ⟨x, j, g, e, a, b, _⟩ := below_some l i h n hi hn
  unfold spec_l01Once.f
  rw [e, Option.bind_some]
  exact ⟨_, _, _, rfl, a, b⟩

theorem pick_some (l : List Int) (i h : Int) (q : List Int) (hi : 0 ≤ i ∧ i ≤ 2000000) (hq : 0 < q.length ∧ q.length ≤ 4294967296) : ∃ i' h', ∃ j : Nat, ∃ hj : j < q.length, spec_l01PickInt.f l i h q = some (q[j], i', h') ∧ 0 ≤ i' ∧ i' ≤ i + 4 := by
  obtain ⟨x, j, g, e, a, b, c, d, _⟩ := below_some l i h q.length hi (by omega)
  have d' := d (by omega)
  unfold spec_l01PickInt.f
  rw [e, Option.bind_some, if_pos c, if_pos d']
  have hx : x.toNat < q.length := by omega
  refine ⟨_, _, x.toNat, hx, by unfold rd; rw [List.getD_eq_getElem?_getD, List.getElem?_eq_getElem hx]; rfl, a, b⟩

theorem number_some (l : List Int) (i h : Int) (hi : 0 ≤ i ∧ i ≤ 1900000) : ∃ x i' h', spec_l01Number.f l i h = some (x, i', h') ∧ 0 ≤ i' ∧ i' ≤ i + 8 := by
  obtain ⟨x, j, g, e, a, b, _⟩ := below_some l i h 4 (by omega) (by omega)
  unfold spec_l01Number.f
  rw [e, Option.bind_some]
  split
  · obtain ⟨i', h', _, _, e2, a2, b2⟩ := pick_some l j g [-1, 0, 127, 128, 16383, 16384, 1000000000, 1000000001, 9223372036854775807, -9223372036854775808] (by omega) (by simp)
    rw [e2, Option.bind_some]; exact ⟨_, _, _, rfl, a2, by simp only []; omega⟩
  · split
    · obtain ⟨x2, i', h', e2, a2, b2, _⟩ := below_some l j g 1000000000 (by omega) (by omega)
      rw [e2, Option.bind_some]; exact ⟨_, _, _, rfl, a2, by simp only []; omega⟩
    · obtain ⟨x2, i', h', e2, a2, b2, _⟩ := below_some l j g 400 (by omega) (by omega)
      rw [e2, Option.bind_some]; exact ⟨_, _, _, rfl, a2, by simp only []; omega⟩

def cl (v : Int) : Int := if v < 0 then 0 else if v > 60 then 60 else v
theorem clamp_is (k : Nat) (v : Int) : spec_Clamp.f (k + 1) v 0 60 = some (cl v) := by
  unfold spec_Clamp.f cl
  rw [if_neg (by omega)]
  simp only [spec_Clamp.j0]
  by_cases h : v < 0
  · rw [if_pos h]; simp [h]
  · rw [if_neg h]
    simp only [h, decide_false, Bool.false_eq_true, if_false]
    split <;> rfl
theorem cl_bd (v : Int) : 0 ≤ cl v ∧ cl v ≤ 60 := by unfold cl; repeat' split
                                                     all_goals omega
def L6 : List Int := [1, 2, 3, 3, 2, 1]
def L7 : List Int := [1, 2, 3, 3, 2, 1, 0]
def res (a b n : Int) : Option (Int × Bool) := some (wrap64 (a - (wrap64 (Int.tdiv (wrap64 ((wrap64 (a - b)) * n)) 720))), true)
theorem spec_step (a b m : Int) (hm : 0 ≤ m ∧ m ≤ 360) (i : Nat) (hi : i < L6.length) (s : Int) (hs : 0 ≤ s ∧ s ≤ 10000) (hL : 0 ≤ L6[i] ∧ L6[i] ≤ 3) (k : Nat) :
    spec_HeightAt.l0 (k + 2) a b m L6 s i = spec_HeightAt.l0 (k + 1) a b m L6 (s + L6[i] * cl (m - 60 * i)) ((i + 1 : Nat) : Int) := by
  have hi6 : i < 6 := hi
  conv => lhs; unfold spec_HeightAt.l0
  have e : rd L6 (i : Int) = L6[i] := by
    unfold rd
    rw [List.getD_eq_getElem?_getD, Int.toNat_natCast, List.getElem?_eq_getElem hi]; rfl
  rw [if_pos (by omega), if_pos (by omega), w64 (n := 60 * (i : Int)) (by omega) (by omega), w64 (n := m - 60 * (i : Int)) (by omega) (by omega), clamp_is, Option.bind_some, e]
  have hc := cl_bd (m - 60 * i)
  have hp : 0 ≤ L6[i] * cl (m - 60 * i) ∧ L6[i] * cl (m - 60 * i) ≤ 180 := by
    refine ⟨Int.mul_nonneg hL.1 hc.1, ?_⟩
    have h1 := Int.mul_le_mul hL.2 hc.2 hc.1 (by omega)
    omega
  generalize L6[i] * cl (m - 60 * i) = p at *
  rw [w64 (n := p) (by omega) (by omega), w64 (n := s + p) (by omega) (by omega), w64 (n := (i : Int) + 1) (by omega) (by omega)]
  rfl
def total (m : Int) : Int := 1 * cl (m - 0) + 2 * cl (m - 60) + 3 * cl (m - 120) + 3 * cl (m - 180) + 2 * cl (m - 240) + 1 * cl (m - 300)
theorem spec_all (a b m : Int) (hm : 0 ≤ m ∧ m ≤ 360) (k : Nat) : spec_HeightAt.l0 (k + 7) a b m L6 0 0 = res a b (total m) := by
  have c0 := cl_bd (m - 0)
  have c1 := cl_bd (m - 60)
  have c2 := cl_bd (m - 120)
  have c3 := cl_bd (m - 180)
  have c4 := cl_bd (m - 240)
  have c5 := cl_bd (m - 300)
  have s0 := spec_step a b m hm 0 (by decide) 0 (by omega) (by decide) (k + 5)
  have s1 := spec_step a b m hm 1 (by decide) (1 * cl (m - 0)) (by omega) (by decide) (k + 4)
  have s2 := spec_step a b m hm 2 (by decide) (1 * cl (m - 0) + 2 * cl (m - 60)) (by omega) (by decide) (k + 3)
  have s3 := spec_step a b m hm 3 (by decide) (1 * cl (m - 0) + 2 * cl (m - 60) + 3 * cl (m - 120)) (by omega) (by decide) (k + 2)
  have s4 := spec_step a b m hm 4 (by decide) (1 * cl (m - 0) + 2 * cl (m - 60) + 3 * cl (m - 120) + 3 * cl (m - 180)) (by omega) (by decide) (k + 1)
  have s5 := spec_step a b m hm 5 (by decide) (1 * cl (m - 0) + 2 * cl (m - 60) + 3 * cl (m - 120) + 3 * cl (m - 180) + 2 * cl (m - 240)) (by omega) (by decide) k
  have e0 : (0 : Int) + L6[0] * cl (m - 60 * (0 : Nat)) = 1 * cl (m - 0) := by
    rw [Int.zero_add]; rfl
  have h0 : spec_HeightAt.l0 (k + 7) a b m L6 0 0 = spec_HeightAt.l0 (k + 6) a b m L6 (1 * cl (m - 0)) ((1 : Nat) : Int) := by rw [← e0]; exact s0
  rw [h0]
  refine s1.trans (s2.trans (s3.trans (s4.trans (s5.trans ?_))))
  show spec_HeightAt.l0 (k + 1) a b m L6 (total m) 6 = _
  unfold spec_HeightAt.l0
  rw [if_neg (by decide)]
  rfl
theorem impl_loop (a b m : Int) (hm : 0 ≤ m ∧ m ≤ 360) (y : List Int) (hy : ∀ x ∈ y, 0 ≤ x ∧ x ≤ 3) (hl : y.length ≤ 7) : ∀ (n k i : Nat) (s : Int), i + n = y.length → n < k → 0 ≤ s → s ≤ 3 * i →
    impl_HeightAt.l0 k a b m L7 s y y.length i = res a b (60 * (s + (y.drop i).sum) + rd L7 (m / 60) * (m % 60)) := by
  have hq : wrap64 (m.tdiv 60) = m / 60 := by rw [Int.tdiv_eq_ediv_of_nonneg hm.1, w64 (by omega) (by omega)]
  have hr : m.tmod 60 = m % 60 := Int.tmod_eq_emod_of_nonneg hm.1
  have hsum : ∀ l : List Int, (∀ x ∈ l, 0 ≤ x ∧ x ≤ 3) → 0 ≤ l.sum ∧ l.sum ≤ 3 * l.length := by
    intro l
    induction l with
    | nil => intro _; simp
    | cons x l ih =>
      intro h
      have h1 := h x (by simp)
      have h2 := ih (fun z hz => h z (by simp [hz]))
      simp only [List.sum_cons, List.length_cons]
      omega
  intro n
  induction n with
  | zero =>
    intro k i s hi hk hs0 hs
    obtain ⟨k, rfl⟩ : ∃ j, k = j + 1 := ⟨k - 1, by omega⟩
    unfold impl_HeightAt.l0
    have h7 : (L7.length : Int) = 7 := rfl
    rw [if_neg (by omega), hq, hr, if_pos (by omega), if_pos (by omega)]
    have hd : y.drop i = [] := List.drop_of_length_le (by omega)
    rw [hd, List.sum_nil, Int.add_zero]
    have hrd : 0 ≤ rd L7 (m / 60) ∧ rd L7 (m / 60) ≤ 3 := by
      have : m / 60 = 0 ∨ m / 60 = 1 ∨ m / 60 = 2 ∨ m / 60 = 3 ∨ m / 60 = 4 ∨ m / 60 = 5 ∨ m / 60 = 6 := by omega
      rcases this with h | h | h | h | h | h | h <;> rw [h] <;> decide
    have hp : 0 ≤ rd L7 (m / 60) * (m % 60) ∧ rd L7 (m / 60) * (m % 60) ≤ 180 := by
      refine ⟨Int.mul_nonneg hrd.1 (by omega), ?_⟩
      have h1 := Int.mul_le_mul hrd.2 (show m % 60 ≤ 60 by omega) (by omega) (by omega)
      omega
    generalize rd L7 (m / 60) * (m % 60) = p at *
    rw [w64 (n := 60 * s) (by omega) (by omega), w64 (n := p) (by omega) (by omega), w64 (n := 60 * s + p) (by omega) (by omega)]
    rfl
  | succ n ih =>
    intro k i s hi hk hs0 hs
    obtain ⟨k, rfl⟩ : ∃ j, k = j + 1 := ⟨k - 1, by omega⟩
    have hil : i < y.length := by omega
    unfold impl_HeightAt.l0
    have e : rd y (i : Int) = y[i] := by
      unfold rd
      rw [List.getD_eq_getElem?_getD, Int.toNat_natCast, List.getElem?_eq_getElem hil]; rfl
    have hyi := hy y[i] (List.getElem_mem hil)
    rw [if_pos (by omega), if_pos (by omega), if_pos (by omega), e, w64 (n := s + y[i]) (by omega) (by omega), w64 (n := (i : Int) + 1) (by omega) (by omega)]
    have h := ih k (i + 1) (s + y[i]) (by omega) (by omega) (by omega) (by omega)
    have e2 : y.drop i = y[i] :: y.drop (i + 1) := List.drop_eq_getElem_cons hil
    rw [e2, List.sum_cons, ← Int.add_assoc]
    exact h
theorem cl_full {v : Int} (h : 60 ≤ v) : cl v = 60 := by unfold cl; split <;> (try split) <;> omega
theorem cl_none {v : Int} (h : v ≤ 0) : cl v = 0 := by unfold cl; split <;> (try split) <;> omega
theorem cl_mid {v : Int} (h : 0 ≤ v) (h2 : v ≤ 60) : cl v = v := by unfold cl; split <;> (try split) <;> omega
theorem total_is (m : Int) (hm : 0 ≤ m ∧ m ≤ 360) : 60 * (0 + (((L7.take (m / 60).toNat).drop 0).sum)) + rd L7 (m / 60) * (m % 60) = total m := by
  have hq : m / 60 = 0 ∨ m / 60 = 1 ∨ m / 60 = 2 ∨ m / 60 = 3 ∨ m / 60 = 4 ∨ m / 60 = 5 ∨ m / 60 = 6 := by omega
  unfold total
  rcases hq with h | h | h | h | h | h | h
  · rw [h, show (((L7.take (0 : Int).toNat).drop 0).sum) = 0 by decide, show rd L7 0 = 1 by decide, cl_mid (v := m - 0) (by omega) (by omega), cl_none (v := m - 60) (by omega), cl_none (v := m - 120) (by omega), cl_none (v := m - 180) (by omega), cl_none (v := m - 240) (by omega), cl_none (v := m - 300) (by omega)]; omega
  · rw [h, show (((L7.take (1 : Int).toNat).drop 0).sum) = 1 by decide, show rd L7 1 = 2 by decide, cl_full (v := m - 0) (by omega), cl_mid (v := m - 60) (by omega) (by omega), cl_none (v := m - 120) (by omega), cl_none (v := m - 180) (by omega), cl_none (v := m - 240) (by omega), cl_none (v := m - 300) (by omega)]; omega
  · rw [h, show (((L7.take (2 : Int).toNat).drop 0).sum) = 3 by decide, show rd L7 2 = 3 by decide, cl_full (v := m - 0) (by omega), cl_full (v := m - 60) (by omega), cl_mid (v := m - 120) (by omega) (by omega), cl_none (v := m - 180) (by omega), cl_none (v := m - 240) (by omega), cl_none (v := m - 300) (by omega)]; omega
  · rw [h, show (((L7.take (3 : Int).toNat).drop 0).sum) = 6 by decide, show rd L7 3 = 3 by decide, cl_full (v := m - 0) (by omega), cl_full (v := m - 60) (by omega), cl_full (v := m - 120) (by omega), cl_mid (v := m - 180) (by omega) (by omega), cl_none (v := m - 240) (by omega), cl_none (v := m - 300) (by omega)]; omega
  · rw [h, show (((L7.take (4 : Int).toNat).drop 0).sum) = 9 by decide, show rd L7 4 = 2 by decide, cl_full (v := m - 0) (by omega), cl_full (v := m - 60) (by omega), cl_full (v := m - 120) (by omega), cl_full (v := m - 180) (by omega), cl_mid (v := m - 240) (by omega) (by omega), cl_none (v := m - 300) (by omega)]; omega
  · rw [h, show (((L7.take (5 : Int).toNat).drop 0).sum) = 11 by decide, show rd L7 5 = 1 by decide, cl_full (v := m - 0) (by omega), cl_full (v := m - 60) (by omega), cl_full (v := m - 120) (by omega), cl_full (v := m - 180) (by omega), cl_full (v := m - 240) (by omega), cl_mid (v := m - 300) (by omega) (by omega)]; omega
  · rw [h, show (((L7.take (6 : Int).toNat).drop 0).sum) = 12 by decide, show rd L7 6 = 0 by decide, cl_full (v := m - 0) (by omega), cl_full (v := m - 60) (by omega), cl_full (v := m - 120) (by omega), cl_full (v := m - 180) (by omega), cl_full (v := m - 240) (by omega), cl_full (v := m - 300) (by omega)]; omega
theorem impl_all (a b m : Int) (hm : 0 ≤ m ∧ m ≤ 360) (k : Nat) : impl_HeightAt.j0 (k + 9) a b m false = res a b (total m) := by
  have hq : wrap64 (m.tdiv 60) = m / 60 := by rw [Int.tdiv_eq_ediv_of_nonneg hm.1, w64 (by omega) (by omega)]
  simp only [impl_HeightAt.j0, Bool.false_eq_true, if_false, Option.bind_some, hq]
  rw [if_pos (by omega), if_pos (by simp; omega)]
  have h7 : ∀ x ∈ L7, 0 ≤ x ∧ x ≤ 3 := by decide
  have h := impl_loop a b m hm (L7.take (m / 60).toNat) (fun x hx => h7 x (List.mem_of_mem_take hx)) (by simp [L7]; omega) (L7.take (m / 60).toNat).length (k + 8) 0 0 (by omega) (by simp [L7]; omega) (by omega) (by omega)
  rw [total_is m hm] at h
  exact h
def inB (x a b : Int) : Bool := decide (a ≤ x) && decide (x ≤ b)
theorem within_is (x a b : Int) : impl_within.f x a b = some (inB x a b) := by
  unfold impl_within.f inB
  by_cases h : x ≥ a
  · rw [if_pos h]; simp [show a ≤ x from h]
  · rw [if_neg h]; simp [show ¬ a ≤ x from h]
def okB (a b m : Int) : Bool := inB a (-1000000000) 1000000000 && (inB b (-1000000000) 1000000000 && inB m 0 360)
theorem impl_is (a b m : Int) (k : Nat) : impl_HeightAt.f (k + 9) a b m = if okB a b m = true then res a b (total m) else some (0, false) := by
  have ht : impl_HeightAt.j0 (k + 9) a b m true = some (0, false) := by simp only [impl_HeightAt.j0]; rfl
  unfold impl_HeightAt.f impl_fixedOk.f okB
  simp only [within_is, Option.bind_some]
  cases h1 : inB a (-1000000000) 1000000000
  · simp [ht]
  · cases h2 : inB b (-1000000000) 1000000000
    · simp [ht]
    · cases h3 : inB m 0 360
      · simp [ht]
      · have hm : 0 ≤ m ∧ m ≤ 360 := by unfold inB at h3; simpa using h3
        simp [impl_all a b m hm]
theorem spec_is (a b m : Int) (k : Nat) : spec_HeightAt.f (k + 9) a b m = if okB a b m = true then res a b (total m) else some (0, false) := by
  have e : spec_l01In.f = impl_within.f := rfl
  have ht : spec_HeightAt.j0 (k + 9) a b m true = some (0, false) := by simp only [spec_HeightAt.j0]; rfl
  unfold spec_HeightAt.f okB
  simp only [e, within_is, Option.bind_some]
  cases h1 : inB a (-1000000000) 1000000000
  · simp [ht]
  · cases h2 : inB b (-1000000000) 1000000000
    · simp [ht]
    · cases h3 : inB m 0 360
      · simp [ht]
      · have hm : 0 ≤ m ∧ m ≤ 360 := by unfold inB at h3; simpa using h3
        have : spec_HeightAt.j0 (k + 9) a b m false = res a b (total m) := by
          simp only [spec_HeightAt.j0, Bool.false_eq_true, if_false]
          exact spec_all a b m hm (k + 1)
        simp [this]

theorem draw_some (l : List Int) (hl : l.length ≤ 1048576) (k : Nat) (hk : l.length < k) : ∃ a b m, spec_DrawHeightAt.f k l = some (a, b, m) := by
  obtain ⟨h0, e0⟩ := new_some l hl k hk
  obtain ⟨x1, i1, g1, e1, a1, b1, _⟩ := below_some l 0 h0 12000 (by omega) (by omega)
  obtain ⟨x2, i2, g2, e2, a2, b2, _⟩ := below_some l i1 g1 12000 (by omega) (by omega)
  obtain ⟨x3, i3, g3, e3, a3, b3⟩ := once_some l i2 g2 10 (by omega) (by omega)
  obtain ⟨k, rfl⟩ : ∃ m, k = m + 1 := ⟨k - 1, by omega⟩
  have hj : ∀ p q i h, 0 ≤ i → i ≤ 1000 → ∃ a b m, spec_DrawHeightAt.j0 (k + 1) p q l i h = some (a, b, m) := by
    intro p q i h u v
    obtain ⟨x4, i4, g4, e4, a4, b4, _⟩ := below_some l i h 5 (by omega) (by omega)
    simp only [spec_DrawHeightAt.j0]
    rw [e4, Option.bind_some]
    split
    · obtain ⟨x5, i5, g5, e5, a5, b5, _⟩ := below_some l i4 g4 8 (by omega) (by omega)
      rw [e5, Option.bind_some]; exact ⟨_, _, _, rfl⟩
    · split
      · obtain ⟨x5, i5, g5, e5, a5, b5⟩ := number_some l i4 g4 (by omega)
        rw [e5, Option.bind_some]; exact ⟨_, _, _, rfl⟩
      · obtain ⟨x5, i5, g5, e5, a5, b5, _⟩ := below_some l i4 g4 361 (by omega) (by omega)
        rw [e5, Option.bind_some]; exact ⟨_, _, _, rfl⟩
  unfold spec_DrawHeightAt.f
  rw [e0, Option.bind_some, e1, Option.bind_some, e2, Option.bind_some, e3, Option.bind_some]
  split
  · obtain ⟨x5, i5, g5, e5, a5, b5⟩ := number_some l i3 g3 (by omega)
    rw [e5, Option.bind_some]; exact hj _ _ i5 g5 a5 (by omega)
  · exact hj _ _ i3 g3 a3 (by omega)
theorem total_bd (m : Int) : 0 ≤ total m ∧ total m ≤ 720 := by
  have c0 := cl_bd (m - 0)
  have c1 := cl_bd (m - 60)
  have c2 := cl_bd (m - 120)
  have c3 := cl_bd (m - 180)
  have c4 := cl_bd (m - 240)
  have c5 := cl_bd (m - 300)
  unfold total
  omega
/-- the fall -/
def fall (a b n : Int) : Int := Int.tdiv ((a - b) * n) 720
theorem fall_bd {a b n : Int} (hn : 0 ≤ n ∧ n ≤ 720) : (a ≤ b → a - b ≤ fall a b n ∧ fall a b n ≤ 0) ∧ (b ≤ a → 0 ≤ fall a b n ∧ fall a b n ≤ a - b) := by
  unfold fall
  constructor
  · intro h
    have e : (a - b) * n = -((b - a) * n) := by grind
    rw [e, Int.neg_tdiv]
    have h1 : 0 ≤ (b - a) * n := Int.mul_nonneg (by omega) hn.1
    have h2 := Int.mul_le_mul_of_nonneg_left hn.2 (show 0 ≤ b - a by omega)
    rw [Int.tdiv_eq_ediv_of_nonneg h1]
    omega
  · intro h
    have h1 : 0 ≤ (a - b) * n := Int.mul_nonneg (by omega) hn.1
    have h2 := Int.mul_le_mul_of_nonneg_left hn.2 (show 0 ≤ a - b by omega)
    rw [Int.tdiv_eq_ediv_of_nonneg h1]
    omega
theorem fall_turn (a b n : Int) : fall b a n = -fall a b n := by
  unfold fall
  rw [show (b - a) * n = -((a - b) * n) by grind, Int.neg_tdiv]
theorem res_is {a b n : Int} (ha : -1000000000 ≤ a ∧ a ≤ 1000000000) (hb : -1000000000 ≤ b ∧ b ≤ 1000000000) (hn : 0 ≤ n ∧ n ≤ 720) : res a b n = some (a - fall a b n, true) := by
  have hf := fall_bd (a := a) (b := b) hn
  have hp : -1440000000000 ≤ (a - b) * n ∧ (a - b) * n ≤ 1440000000000 := by
    by_cases h : b ≤ a
    · have h1 : 0 ≤ (a - b) * n := Int.mul_nonneg (by omega) hn.1
      have h2 := Int.mul_le_mul_of_nonneg_left hn.2 (show 0 ≤ a - b by omega)
      omega
    · have h1 : 0 ≤ (b - a) * n := Int.mul_nonneg (by omega) hn.1
      have h2 := Int.mul_le_mul_of_nonneg_left hn.2 (show 0 ≤ b - a by omega)
      have e : (a - b) * n = -((b - a) * n) := by grind
      omega
  have hfb : -2000000000 ≤ fall a b n ∧ fall a b n ≤ 2000000000 := by
    by_cases h : b ≤ a
    · have := hf.2 h; omega
    · have := hf.1 (by omega); omega
  unfold res
  unfold fall at hfb ⊢
  rw [w64 (n := a - b) (by omega) (by omega), w64 (n := (a - b) * n) (by omega) (by omega), w64 (n := ((a - b) * n).tdiv 720) (by omega) (by omega), w64 (by omega) (by omega)]
theorem law_is (a b m : Int) (k : Nat) (l : List Int) (hd : spec_DrawHeightAt.f (k + 9) l = some (a, b, m)) (hb : laws_big.f l = some false) : laws_FnHeights.f (k + 9) l = some true := by
  unfold laws_FnHeights.f
  rw [hb, Option.bind_some, if_neg (by simp), hd, Option.bind_some]
  dsimp only
  have hsw : okB b a m = okB a b m := by unfold okB; cases inB a (-1000000000) 1000000000 <;> cases inB b (-1000000000) 1000000000 <;> rfl
  rw [impl_is, impl_is, spec_is, hsw]
  cases hk : okB a b m
  · simp
  · have hr : (-1000000000 ≤ a ∧ a ≤ 1000000000) ∧ (-1000000000 ≤ b ∧ b ≤ 1000000000) ∧ (0 ≤ m ∧ m ≤ 360) := by
      unfold okB inB at hk; simpa using hk
    obtain ⟨ha, hbb, hm⟩ := hr
    have h0 : okB a b 0 = true := by unfold okB inB; simp; omega
    have h360 : okB a b 360 = true := by unfold okB inB; simp; omega
    have t0 : total 0 = 0 := by decide
    have t1 : total 360 = 720 := by decide
    have f0 : fall a b 0 = 0 := by unfold fall; rw [Int.mul_zero]; rfl
    have f1 : fall a b 720 = a - b := by unfold fall; exact Int.mul_tdiv_cancel _ (by decide)
    have hT := total_bd m
    have hf := fall_bd (a := a) (b := b) hT
    rw [if_pos rfl, if_pos rfl, res_is ha hbb hT, res_is hbb ha hT, Option.bind_some, Option.bind_some, Option.bind_some]
    dsimp only
    rw [if_neg (by simp), if_pos rfl, impl_is, impl_is, if_pos h0, if_pos h360, t0, t1, res_is ha hbb (by omega), res_is ha hbb (by omega), f0, f1, fall_turn, Option.bind_some, Option.bind_some]
    dsimp only
    have hfb : -2000000000 ≤ fall a b (total m) ∧ fall a b (total m) ≤ 2000000000 := by
      by_cases h : b ≤ a
      · have := hf.2 h; omega
      · have := hf.1 (by omega); omega
    rw [w64 (n := a - fall a b (total m) + (b - -fall a b (total m))) (by omega) (by omega), w64 (n := a + b) (by omega) (by omega)]
    by_cases h : a > b
    · have := hf.2 (by omega)
      rw [if_pos h, if_pos rfl, if_pos (by omega), if_pos (by omega), if_pos (by omega), if_pos (by omega)]
      simp; omega
    · have := hf.1 (by omega)
      rw [if_neg h, if_pos rfl, if_pos (by omega), if_pos (by omega), if_pos (by omega), if_pos (by omega)]
      simp; omega
theorem FnHeights : laws_FnHeights.Pure := by
  intro l h1 _ _
  by_cases hl : l.length ≤ 1048576
  · obtain ⟨a, b, m, hd⟩ := draw_some l hl (l.length + 9) (by omega)
    refine ⟨l.length + 9, law_is a b m _ l hd ?_⟩
    unfold laws_big.f
    simp; omega
  · refine ⟨0, ?_⟩
    unfold laws_FnHeights.f laws_big.f
    have : decide ((l.length : Int) > 1048576) = true := by simp; omega
    rw [this]; rfl
end Go.Proofs.Ytfllkcmmaibijaa.Pure
