/- The law FnLeeward over whole numbers alone: whatever is drawn, what the call computes is true. -/
import Derived.Test.YtfllkcmmaibijaaLe2
namespace Go.Proofs.Ytfllkcmmaibijaa.Pure
open Go.RowKit Go.Proofs.Ytfllkcmmaibijaa.PFnLeeward Go.Proofs.YtfllkcmmaibijaaW.PrintWords Go.Proofs.YtfllkcmmaibijaaW.PrintLast

theorem w64 {n : Int} (h1 : -9000000000000000000 ≤ n) (h2 : n ≤ 9000000000000000000) : wrap64 n = n := by unfold wrap64; omega

/-! ### what is drawn -/
theorem new_loop (l : List Int) (hl : l.length ≤ 1048576) : ∀ (d k i : Nat) (h : Int), i + d = l.length → d < k → ∃ h', spec_l01New.l0 k l h i = some (l, 0, h') := by
  intro d
  induction d with
  | zero =>
    intro k i h hi hk
    obtain ⟨k, rfl⟩ : ∃ m, k = m + 1 := ⟨k - 1, by omega⟩
    simp only [spec_l01New.l0]
    rw [if_neg (by omega)]
    exact ⟨_, rfl⟩
  | succ d ih =>
    intro k i h hi hk
    obtain ⟨k, rfl⟩ : ∃ m, k = m + 1 := ⟨k - 1, by omega⟩
    simp only [spec_l01New.l0]
    rw [if_pos (by omega)]
    split
    · rw [if_pos (by omega), w64 (n := (i : Int) + 1) (by omega) (by omega)]
      exact ih k (i + 1) _ (by omega) (by omega)
    · exact ⟨_, rfl⟩
theorem new_some (l : List Int) (hl : l.length ≤ 1048576) (k : Nat) (hk : l.length < k) : ∃ h, spec_l01New.f k l = some (l, 0, h) := by
  unfold spec_l01New.f
  exact new_loop l hl l.length k 0 _ (by omega) hk
theorem bits_and (x n : Int) (hn : 0 ≤ n) (hn2 : n ≤ 9223372036854775807) : 0 ≤ Go.bits .and .i64 x n ∧ Go.bits .and .i64 x n ≤ n := by
  obtain ⟨m, rfl⟩ := Int.eq_ofNat_of_zero_le hn
  have hm : m < 2 ^ 63 := by omega
  unfold Go.bits
  simp only []
  have hb : (BitVec.ofInt IntKind.i64.bits x &&& BitVec.ofInt IntKind.i64.bits (m : Int)).toNat ≤ m := by
    rw [BitVec.toNat_and]
    refine Nat.le_trans Nat.and_le_right ?_
    simp [IntKind.bits]
    omega
  generalize (BitVec.ofInt IntKind.i64.bits x &&& BitVec.ofInt IntKind.i64.bits (m : Int)) = v at *
  have hv : (v.toNat : Int) ≤ m := by exact_mod_cast hb
  rw [IntKind.wrap_i64]
  omega

/-- A cursor: the bytes, a place within them or behind. -/
theorem byte_some (l : List Int) (i h : Int) (hi : 0 ≤ i ∧ i ≤ 2097152) : ∃ x i' h', spec_l01Byte.f l i h = some (x, i', h') ∧ 0 ≤ i' ∧ i' ≤ i + 1 ∧ 0 ≤ x ∧ x ≤ 255 := by
  unfold spec_l01Byte.f
  split
  · rw [if_pos hi.1]
    exact ⟨_, _, _, rfl, by rw [w64 (by omega) (by omega)]; omega, by rw [w64 (by omega) (by omega)]; omega, bits_and _ _ (by omega) (by omega)⟩
  · exact ⟨_, _, _, rfl, hi.1, by omega, bits_and _ _ (by omega) (by omega)⟩
theorem below_some (l : List Int) (i h n : Int) (hi : 0 ≤ i ∧ i ≤ 2000000) (hn : n ≤ 4294967296) : ∃ x i' h', spec_l01Below.f l i h n = some (x, i', h') ∧ 0 ≤ i' ∧ i' ≤ i + 4 ∧ 0 ≤ x ∧ (0 < n → x < n) ∧ x ≤ 4294967295 := by
  unfold spec_l01Below.f
  split
  · exact ⟨_, _, _, rfl, hi.1, by omega, by omega, by omega, by omega⟩
  · split
    · obtain ⟨x, j, g, e, j0, j1, x0, x1⟩ := byte_some l i h (by omega)
      rw [e, Option.bind_some, if_neg (by omega)]
      refine ⟨_, _, _, rfl, j0, by simp only []; omega, ?_, ?_, ?_⟩
      · rw [Int.tmod_eq_emod_of_nonneg x0]; exact Int.emod_nonneg _ (by omega)
      · intro _; rw [Int.tmod_eq_emod_of_nonneg x0]; exact Int.emod_lt_of_pos _ (by omega)
      · rw [Int.tmod_eq_emod_of_nonneg x0]; have := Int.emod_lt_of_pos x (show 0 < n by omega); omega
    · obtain ⟨x1, j1, g1, e1, a1, b1, c1, d1⟩ := byte_some l i h (by omega)
      obtain ⟨x2, j2, g2, e2, a2, b2, c2, d2⟩ := byte_some l j1 g1 (by omega)
      obtain ⟨x3, j3, g3, e3, a3, b3, c3, d3⟩ := byte_some l j2 g2 (by omega)
      obtain ⟨x4, j4, g4, e4, a4, b4, c4, d4⟩ := byte_some l j3 g3 (by omega)
      rw [e1, Option.bind_some, e2, Option.bind_some, e3, Option.bind_some, e4, Option.bind_some, if_neg (by omega)]
      have hx : wrap64 (wrap64 (wrap64 (wrap64 (x1 * 16777216) + wrap64 (x2 * 65536)) + wrap64 (x3 * 256)) + x4) = x1 * 16777216 + x2 * 65536 + x3 * 256 + x4 := by
        rw [w64 (n := x1 * 16777216) (by omega) (by omega), w64 (n := x2 * 65536) (by omega) (by omega), w64 (n := x3 * 256) (by omega) (by omega), w64 (n := x1 * 16777216 + x2 * 65536) (by omega) (by omega), w64 (n := x1 * 16777216 + x2 * 65536 + x3 * 256) (by omega) (by omega), w64 (by omega) (by omega)]
      refine ⟨_, _, _, rfl, a4, by simp only []; omega, ?_, ?_, ?_⟩
      · simp only []
        rw [hx, Int.tmod_eq_emod_of_nonneg (by omega)]; exact Int.emod_nonneg _ (by omega)
      · intro _; simp only []; rw [hx, Int.tmod_eq_emod_of_nonneg (by omega)]; exact Int.emod_lt_of_pos _ (by omega)
      · simp only []; rw [hx, Int.tmod_eq_emod_of_nonneg (by omega)]
        have := Int.emod_lt_of_pos (x1 * 16777216 + x2 * 65536 + x3 * 256 + x4) (show 0 < n by omega); omega

theorem once_some (l : List Int) (i h n : Int) (hi : 0 ≤ i ∧ i ≤ 2000000) (hn : n ≤ 4294967296) : ∃ x i' h', spec_l01Once.f l i h n = some (x, i', h') ∧ 0 ≤ i' ∧ i' ≤ i + 4 := by
  obtain ⟨x, j, g, e, a, b, _⟩ := below_some l i h n hi hn
  unfold spec_l01Once.f
  rw [e, Option.bind_some]
  exact ⟨_, _, _, rfl, a, b⟩

theorem pick_some (l : List Int) (i h : Int) (q : List Int) (hi : 0 ≤ i ∧ i ≤ 2000000) (hq : 0 < q.length ∧ q.length ≤ 4294967296) : ∃ i' h', ∃ j : Nat, ∃ hj : j < q.length, spec_l01PickInt.f l i h q = some (q[j], i', h') ∧ 0 ≤ i' ∧ i' ≤ i + 4 := by
  obtain ⟨x, j, g, e, a, b, c, d, _⟩ := below_some l i h q.length hi (by omega)
  have d' := d (by omega)
  unfold spec_l01PickInt.f
  rw [e, Option.bind_some, if_pos c, if_pos d']
  have hx : x.toNat < q.length := by omega
  refine ⟨_, _, x.toNat, hx, by unfold rd; rw [List.getD_eq_getElem?_getD, List.getElem?_eq_getElem hx]; rfl, a, b⟩

theorem number_some (l : List Int) (i h : Int) (hi : 0 ≤ i ∧ i ≤ 1900000) : ∃ x i' h', spec_l01Number.f l i h = some (x, i', h') ∧ 0 ≤ i' ∧ i' ≤ i + 8 := by
  obtain ⟨x, j, g, e, a, b, _⟩ := below_some l i h 4 (by omega) (by omega)
  unfold spec_l01Number.f
  rw [e, Option.bind_some]
  split
  · obtain ⟨i', h', _, _, e2, a2, b2⟩ := pick_some l j g [-1, 0, 127, 128, 16383, 16384, 1000000000, 1000000001, 9223372036854775807, -9223372036854775808] (by omega) (by simp)
    rw [e2, Option.bind_some]; exact ⟨_, _, _, rfl, a2, by simp only []; omega⟩
  · split
    · obtain ⟨x2, i', h', e2, a2, b2, _⟩ := below_some l j g 1000000000 (by omega) (by omega)
      rw [e2, Option.bind_some]; exact ⟨_, _, _, rfl, a2, by simp only []; omega⟩
    · obtain ⟨x2, i', h', e2, a2, b2, _⟩ := below_some l j g 400 (by omega) (by omega)
      rw [e2, Option.bind_some]; exact ⟨_, _, _, rfl, a2, by simp only []; omega⟩

theorem degrees_some (l : List Int) (i h : Int) (hi : 0 ≤ i ∧ i ≤ 1800000) : ∃ x i' h', spec_l02Degrees.f l i h = some (x, i', h') ∧ 0 ≤ i' ∧ i' ≤ i + 12 := by
  obtain ⟨x, j, g, e, a, b⟩ := once_some l i h 12 (by omega) (by omega)
  unfold spec_l02Degrees.f
  rw [e, Option.bind_some]
  split
  · obtain ⟨x2, i', h', e2, a2, b2⟩ := number_some l j g (by omega)
    rw [e2, Option.bind_some]; exact ⟨_, _, _, rfl, a2, by simp only []; omega⟩
  · obtain ⟨x2, i', h', e2, a2, b2, _⟩ := below_some l j g 360 (by omega) (by omega)
    rw [e2, Option.bind_some]; exact ⟨_, _, _, rfl, a2, by simp only []; omega⟩

/-- Go's 'n % 360 + 360' modulo 360 is the number from 0 to 359. -/
theorem mod_is (a : Int) : Int.tmod (wrap64 ((Int.tmod a 360) + 360)) 360 = a % 360 := by
  have h1 : -360 < Int.tmod a 360 := by have := Int.lt_tmod_of_pos a (show (0 : Int) < 360 by decide); omega
  have h2 : Int.tmod a 360 < 360 := Int.tmod_lt_of_pos a (by decide)
  rw [w64 (by omega) (by omega), Int.tmod_eq_emod_of_nonneg (by omega)]
  have h3 := Int.mul_tdiv_add_tmod a 360
  omega

theorem draw_some (l : List Int) (hl : l.length ≤ 1048576) (k : Nat) (hk : l.length < k) : ∃ h from_ drift, spec_DrawLeeway.f k l = some (h, from_, drift) := by
  obtain ⟨h0, e0⟩ := new_some l hl k hk
  obtain ⟨x1, i1, g1, e1, a1, b1⟩ := degrees_some l 0 h0 (by omega)
  obtain ⟨x2, i2, g2, e2, a2, b2⟩ := degrees_some l i1 g1 (by omega)
  obtain ⟨x3, i3, g3, e3, a3, b3⟩ := once_some l i2 g2 6 (by omega) (by omega)
  obtain ⟨k, rfl⟩ : ∃ m, k = m + 1 := ⟨k - 1, by omega⟩
  have hj : ∀ a b, ∃ h from_ drift, spec_DrawLeeway.j0 (k + 1) a b l i3 g3 = some (h, from_, drift) := by
    intro a b
    obtain ⟨x4, i4, g4, e4, a4, b4⟩ := once_some l i3 g3 8 (by omega) (by omega)
    simp only [spec_DrawLeeway.j0]
    rw [e4, Option.bind_some]
    split
    · obtain ⟨x5, i5, g5, e5, a5, b5⟩ := number_some l i4 g4 (by omega)
      rw [e5, Option.bind_some]; exact ⟨_, _, _, rfl⟩
    · obtain ⟨x5, i5, g5, e5, a5, b5, _⟩ := below_some l i4 g4 32 (by omega) (by omega)
      rw [e5, Option.bind_some]; exact ⟨_, _, _, rfl⟩
  unfold spec_DrawLeeway.f
  rw [e0, Option.bind_some, e1, Option.bind_some, e2, Option.bind_some, e3, Option.bind_some]
  split <;> exact hj _ _

/-! ### the law of whole degrees -/
def side (T : Int) : Int := if 1 ≤ T ∧ T ≤ 179 then 1 else if 180 < T then -1 else 0
theorem side_is (a b : Int) : impl_WindSide.f a b = some (side ((b % 360 - a % 360) % 360)) := by
  unfold impl_WindSide.f impl_Aside.f impl_mod.f impl_within.f side
  simp only [Option.bind_some, mod_is]
  rw [w64 (n := b % 360 - a % 360) (by omega) (by omega)]
  generalize hT : (b % 360 - a % 360) % 360 = T
  have hT1 : 0 ≤ T ∧ T < 360 := by omega
  by_cases h : T > 180
  · rw [if_pos h, w64 (by omega) (by omega), Option.bind_some, if_neg (by omega), Option.bind_some, if_neg (by simp), if_pos (by omega), if_neg (by omega), if_pos (by omega)]
  · rw [if_neg h, Option.bind_some]
    by_cases h1 : T ≥ 1
    · rw [if_pos h1, Option.bind_some]
      by_cases h2 : T ≤ 179
      · rw [if_pos (by simpa using h2), if_pos (by omega)]
      · rw [if_neg (by simpa using h2), if_neg (by omega), if_neg (by omega), if_neg (by omega)]
    · rw [if_neg h1, Option.bind_some, if_neg (by simp), if_neg (by omega), if_neg (by omega), if_neg (by omega)]
def betw (T : Int) : Int := if T ≤ 180 then T else 360 - T
theorem betw_is (a b : Int) : impl_Between.f a b = some (betw ((b % 360 - a % 360) % 360)) := by
  unfold impl_Between.f impl_mod.f betw
  simp only [Option.bind_some, mod_is]
  rw [w64 (n := b % 360 - a % 360) (by omega) (by omega)]
  generalize hT : (b % 360 - a % 360) % 360 = T
  have hT1 : 0 ≤ T ∧ T < 360 := by omega
  rw [w64 (n := -T) (by omega) (by omega)]
  unfold mn
  congr 1
  repeat' split
  all_goals omega
theorem way_is (a b c : Int) : impl_Leeway.f a b c = if 0 ≤ c ∧ c ≤ 30 then some ((a % 360 - c * side ((b % 360 - a % 360) % 360)) % 360, true) else some (0, false) := by
  unfold impl_Leeway.f impl_mod.f impl_within.f
  by_cases h1 : c ≥ 0
  · rw [if_pos h1, Option.bind_some]
    by_cases h2 : c ≤ 30
    · rw [if_pos (by simpa using h2), if_pos (by omega), Option.bind_some, side_is, Option.bind_some, Option.bind_some, mod_is, mod_is]
      have hs : side ((b % 360 - a % 360) % 360) = 1 ∨ side ((b % 360 - a % 360) % 360) = -1 ∨ side ((b % 360 - a % 360) % 360) = 0 := by
        unfold side; repeat' split
        all_goals omega
      rcases hs with h | h | h <;> rw [h] <;> rw [w64 (n := c * _) (by omega) (by omega), w64 (by omega) (by omega)]
    · rw [if_neg (by simpa using h2), if_neg (by omega)]
  · rw [if_neg h1, Option.bind_some, if_neg (by simp), if_neg (by omega)]
theorem law_is (h f c : Int) (k : Nat) (l : List Int) (hd : spec_DrawLeeway.f k l = some (h, f, c)) (hb : laws_big.f l = some false) : laws_FnLeeward.f k l = some true := by
  unfold laws_FnLeeward.f laws_mod.f
  rw [hb, Option.bind_some, if_neg (by simp), hd, Option.bind_some]
  simp only [way_is, betw_is, side_is, mod_is, Option.bind_some]
  by_cases hc : 0 ≤ c ∧ c ≤ 30
  · rw [if_pos hc, Option.bind_some, if_pos rfl]
    dsimp only
    have hT1 : 0 ≤ (f % 360 - h % 360) % 360 ∧ (f % 360 - h % 360) % 360 < 360 := by omega
    generalize hT : (f % 360 - h % 360) % 360 = T at *
    by_cases h0 : side T = 0
    · rw [if_pos h0, if_pos (by rw [h0]; omega)]
      have : T = 0 ∨ T = 180 := by
        unfold side at h0
        split at h0
        · omega
        · split at h0 <;> omega
      unfold betw
      rcases this with e | e <;> subst e <;> simp
    · rw [if_neg h0]
      have hs : (side T = 1 ∧ 1 ≤ T ∧ T ≤ 179) ∨ (side T = -1 ∧ 181 ≤ T) := by
        unfold side at h0 ⊢
        split
        · rename_i hh; exact Or.inl ⟨rfl, hh.1, hh.2⟩
        · rename_i hh
          split
          · rename_i hg; exact Or.inr ⟨rfl, by omega⟩
          · rename_i hg; rw [if_neg hh, if_neg hg] at h0; omega
      have hbT : betw T = if T ≤ 180 then T else 360 - T := rfl
      rw [w64 (n := betw T + c) (by rw [hbT]; split <;> omega) (by rw [hbT]; split <;> omega)]
      rcases hs with ⟨e, hT2, hT3⟩ | ⟨e, hT2⟩
      · rw [e]
        have hk : (f % 360 - (h % 360 - c * 1) % 360 % 360) % 360 = (T + c) % 360 := by omega
        have hb1 : betw T = T := by unfold betw; rw [if_pos (by omega)]
        rw [hk, hb1]
        by_cases g : T + c > 180
        · rw [if_pos g, w64 (by omega) (by omega)]
          have hb2 : betw ((T + c) % 360) = 360 - (T + c) := by unfold betw; split <;> omega
          rw [if_pos hb2, if_pos (by omega)]; simp; omega
        · rw [if_neg g]
          have hb2 : betw ((T + c) % 360) = T + c := by unfold betw; split <;> omega
          rw [if_pos hb2, if_pos (by omega)]; simp; omega
      · rw [e]
        have hk : (f % 360 - (h % 360 - c * -1) % 360 % 360) % 360 = (T - c) % 360 := by omega
        have hb1 : betw T = 360 - T := by unfold betw; rw [if_neg (by omega)]
        rw [hk, hb1]
        by_cases g : 360 - T + c > 180
        · rw [if_pos g, w64 (by omega) (by omega)]
          have hb2 : betw ((T - c) % 360) = 360 - (360 - T + c) := by unfold betw; split <;> omega
          rw [if_pos hb2, if_pos (by omega)]; simp; omega
        · rw [if_neg g]
          have hb2 : betw ((T - c) % 360) = 360 - T + c := by unfold betw; split <;> omega
          rw [if_pos hb2, if_pos (by omega)]; simp; omega
  · rw [if_neg hc, Option.bind_some, if_neg (by simp), if_pos rfl]
    split
    · rfl
    · simp; omega
theorem FnLeeward : laws_FnLeeward.Pure := by
  intro l h1 _ _
  by_cases hl : l.length ≤ 1048576
  · obtain ⟨h, f, c, hd⟩ := draw_some l hl (l.length + 1) (by omega)
    refine ⟨l.length + 1, law_is h f c _ l hd ?_⟩
    unfold laws_big.f
    simp; omega
  · refine ⟨0, ?_⟩
    unfold laws_FnLeeward.f laws_big.f
    have : decide ((l.length : Int) > 1048576) = true := by simp; omega
    rw [this]; rfl
end Go.Proofs.Ytfllkcmmaibijaa.Pure
