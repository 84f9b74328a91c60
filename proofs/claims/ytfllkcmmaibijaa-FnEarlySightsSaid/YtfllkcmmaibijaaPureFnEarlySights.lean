/- The law FnEarlySights over whole numbers alone: whatever is drawn, what the call computes is true. -/
import Derived.Test.YtfllkcmmaibijaaEs8
namespace Go.Proofs.Ytfllkcmmaibijaa.Pure
open Go.RowKit Go.Proofs.Ytfllkcmmaibijaa.PFnEarlySights Go.Proofs.YtfllkcmmaibijaaW.PrintWords Go.Proofs.YtfllkcmmaibijaaW.PrintLast

theorem w64 {n : Int} (h1 : -9000000000000000000 ≤ n) (h2 : n ≤ 9000000000000000000) : wrap64 n = n := by unfold wrap64; omega

/-! ### what is drawn -/
theorem new_loop (l : List Int) (hl : l.length ≤ 1048576) : ∀ (d k i : Nat) (h : Int), i + d = l.length → d < k → ∃ h', spec_l01New.l0 k l h i = some (l, 0, h') := by
  intro d
  induction d with
  | zero =>
    intro k i h hi hk
    obtain ⟨k, rfl⟩ : ∃ m, k = m + 1 := ⟨k - 1, by omega⟩
    simp only [spec_l01New.l0]
    rw [if_neg (by omega)]
    exact ⟨_, rfl⟩
  | succ d ih =>
    intro k i h hi hk
    obtain ⟨k, rfl⟩ : ∃ m, k = m + 1 := ⟨k - 1, by omega⟩
    simp only [spec_l01New.l0]
    rw [if_pos (by omega)]
    split
    · rw [if_pos (by omega), w64 (n := (i : Int) + 1) (by omega) (by omega)]
      exact ih k (i + 1) _ (by omega) (by omega)
    · exact ⟨_, rfl⟩
theorem new_some (l : List Int) (hl : l.length ≤ 1048576) (k : Nat) (hk : l.length < k) : ∃ h, spec_l01New.f k l = some (l, 0, h) := by
  unfold spec_l01New.f
  exact new_loop l hl l.length k 0 _ (by omega) hk
theorem bits_and (x n : Int) (hn : 0 ≤ n) (hn2 : n ≤ 9223372036854775807) : 0 ≤ Go.bits .and .i64 x n ∧ Go.bits .and .i64 x n ≤ n := by
  obtain ⟨m, rfl⟩ := Int.eq_ofNat_of_zero_le hn
  have hm : m < 2 ^ 63 := by omega
  unfold Go.bits
  simp only []
  have hb : (BitVec.ofInt IntKind.i64.bits x &&& BitVec.ofInt IntKind.i64.bits (m : Int)).toNat ≤ m := by
    rw [BitVec.toNat_and]
    refine Nat.le_trans Nat.and_le_right ?_
    simp [IntKind.bits]
    omega
  generalize (BitVec.ofInt IntKind.i64.bits x &&& BitVec.ofInt IntKind.i64.bits (m : Int)) = v at *
  have hv : (v.toNat : Int) ≤ m := by exact_mod_cast hb
  rw [IntKind.wrap_i64]
  omega

/-- A cursor: the bytes, a place within them or behind. -/
theorem byte_some (l : List Int) (i h : Int) (hi : 0 ≤ i ∧ i ≤ 2097152) : ∃ x i' h', spec_l01Byte.f l i h = some (x, i', h') ∧ 0 ≤ i' ∧ i' ≤ i + 1 ∧ 0 ≤ x ∧ x ≤ 255 := by
  unfold spec_l01Byte.f
  split
  · rw [if_pos hi.1]
    exact ⟨_, _, _, rfl, by rw [w64 (by omega) (by omega)]; omega, by rw [w64 (by omega) (by omega)]; omega, bits_and _ _ (by omega) (by omega)⟩
  · exact ⟨_, _, _, rfl, hi.1, by omega, bits_and _ _ (by omega) (by omega)⟩
theorem below_some (l : List Int) (i h n : Int) (hi : 0 ≤ i ∧ i ≤ 2000000) (hn : n ≤ 4294967296) : ∃ x i' h', spec_l01Below.f l i h n = some (x, i', h') ∧ 0 ≤ i' ∧ i' ≤ i + 4 ∧ 0 ≤ x ∧ (0 < n → x < n) ∧ x ≤ 4294967295 := by
  unfold spec_l01Below.f
  split
  · exact ⟨_, _, _, rfl, hi.1, by omega, by omega, by omega, by omega⟩
  · split
    · obtain ⟨x, j, g, e, j0, j1, x0, x1⟩ := byte_some l i h (by omega)
      rw [e, Option.bind_some, if_neg (by omega)]
      refine ⟨_, _, _, rfl, j0, by simp only []; omega, ?_, ?_, ?_⟩
      · rw [Int.tmod_eq_emod_of_nonneg x0]; exact Int.emod_nonneg _ (by omega)
      · intro _; rw [Int.tmod_eq_emod_of_nonneg x0]; exact Int.emod_lt_of_pos _ (by omega)
      · rw [Int.tmod_eq_emod_of_nonneg x0]; have := Int.emod_lt_of_pos x (show 0 < n by omega); omega
    · obtain ⟨x1, j1, g1, e1, a1, b1, c1, d1⟩ := byte_some l i h (by omega)
      obtain ⟨x2, j2, g2, e2, a2, b2, c2, d2⟩ := byte_some l j1 g1 (by omega)
      obtain ⟨x3, j3, g3, e3, a3, b3, c3, d3⟩ := byte_some l j2 g2 (by omega)
      obtain ⟨x4, j4, g4, e4, a4, b4, c4, d4⟩ := byte_some l j3 g3 (by omega)
      rw [e1, Option.bind_some, e2, Option.bind_some, e3, Option.bind_some, e4, Option.bind_some, if_neg (by omega)]
      have hx : wrap64 (wrap64 (wrap64 (wrap64 (x1 * 16777216) + wrap64 (x2 * 65536)) + wrap64 (x3 * 256)) + x4) = x1 * 16777216 + x2 * 65536 + x3 * 256 + x4 := by
        rw [w64 (n := x1 * 16777216) (by omega) (by omega), w64 (n := x2 * 65536) (by omega) (by omega), w64 (n := x3 * 256) (by omega) (by omega), w64 (n := x1 * 16777216 + x2 * 65536) (by omega) (by omega), w64 (n := x1 * 16777216 + x2 * 65536 + x3 * 256) (by omega) (by omega), w64 (by omega) (by omega)]
      refine ⟨_, _, _, rfl, a4, by simp only []; omega, ?_, ?_, ?_⟩
      · simp only []
        rw [hx, Int.tmod_eq_emod_of_nonneg (by omega)]; exact Int.emod_nonneg _ (by omega)
      · intro _; simp only []; rw [hx, Int.tmod_eq_emod_of_nonneg (by omega)]; exact Int.emod_lt_of_pos _ (by omega)
      · simp only []; rw [hx, Int.tmod_eq_emod_of_nonneg (by omega)]
        have := Int.emod_lt_of_pos (x1 * 16777216 + x2 * 65536 + x3 * 256 + x4) (show 0 < n by omega); omega

theorem once_some (l : List Int) (i h n : Int) (hi : 0 ≤ i ∧ i ≤ 2000000) (hn : n ≤ 4294967296) : ∃ x i' h', spec_l01Once.f l i h n = some (x, i', h') ∧ 0 ≤ i' ∧ i' ≤ i + 4 := by
  obtain ⟨x, j, g, e, a, b, _⟩ := below_some l i h n hi hn
  unfold spec_l01Once.f
  rw [e, Option.bind_some]
  exact ⟨_, _, _, rfl, a, b⟩

theorem pick_some (l : List Int) (i h : Int) (q : List Int) (hi : 0 ≤ i ∧ i ≤ 2000000) (hq : 0 < q.length ∧ q.length ≤ 4294967296) : ∃ i' h', ∃ j : Nat, ∃ hj : j < q.length, spec_l01PickInt.f l i h q = some (q[j], i', h') ∧ 0 ≤ i' ∧ i' ≤ i + 4 := by
  obtain ⟨x, j, g, e, a, b, c, d, _⟩ := below_some l i h q.length hi (by omega)
  have d' := d (by omega)
  unfold spec_l01PickInt.f
  rw [e, Option.bind_some, if_pos c, if_pos d']
  have hx : x.toNat < q.length := by omega
  refine ⟨_, _, x.toNat, hx, by unfold rd; rw [List.getD_eq_getElem?_getD, List.getElem?_eq_getElem hx]; rfl, a, b⟩

theorem number_some (l : List Int) (i h : Int) (hi : 0 ≤ i ∧ i ≤ 1900000) : ∃ x i' h', spec_l01Number.f l i h = some (x, i', h') ∧ 0 ≤ i' ∧ i' ≤ i + 8 := by
  obtain ⟨x, j, g, e, a, b, _⟩ := below_some l i h 4 (by omega) (by omega)
  unfold spec_l01Number.f
  rw [e, Option.bind_some]
  split
  · obtain ⟨i', h', _, _, e2, a2, b2⟩ := pick_some l j g [-1, 0, 127, 128, 16383, 16384, 1000000000, 1000000001, 9223372036854775807, -9223372036854775808] (by omega) (by simp)
    rw [e2, Option.bind_some]; exact ⟨_, _, _, rfl, a2, by simp only []; omega⟩
  · split
    · obtain ⟨x2, i', h', e2, a2, b2, _⟩ := below_some l j g 1000000000 (by omega) (by omega)
      rw [e2, Option.bind_some]; exact ⟨_, _, _, rfl, a2, by simp only []; omega⟩
    · obtain ⟨x2, i', h', e2, a2, b2, _⟩ := below_some l j g 400 (by omega) (by omega)
      rw [e2, Option.bind_some]; exact ⟨_, _, _, rfl, a2, by simp only []; omega⟩

theorem place_draw (l : List Int) (i h : Int) (hi : 0 ≤ i ∧ i ≤ 1900000) : ∃ x y i' h', spec_l09Place.f l i h = some (x, y, i', h') ∧ 0 ≤ i' ∧ i' ≤ i + 16 := by
  obtain ⟨b, i1, g1, e1, a1, b1⟩ := once_some l i h 40 (by omega) (by omega)
  unfold spec_l09Place.f
  rw [e1, Option.bind_some]
  split
  · obtain ⟨i2, g2, _, _, e2, a2, b2⟩ := pick_some l i1 g1 [10000, -10000, 10001, 9223372036854775807] (by omega) (by simp)
    obtain ⟨i3, g3, _, _, e3, a3, b3⟩ := pick_some l i2 g2 [10000, 0, -10001] (by omega) (by simp)
    rw [e2, Option.bind_some, e3, Option.bind_some]
    exact ⟨_, _, _, _, rfl, a3, by simp only []; omega⟩
  · obtain ⟨i2, g2, j, hj, e2, a2, b2⟩ := pick_some l i1 g1 [4, 20, 400] (by omega) (by simp)
    have hv : 4 ≤ [(4 : Int), 20, 400][j] ∧ [(4 : Int), 20, 400][j] ≤ 400 := by
      simp at hj
      match j, hj with
      | 0, _ => simp
      | 1, _ => simp
      | 2, _ => simp
    generalize [(4 : Int), 20, 400][j] = n at *
    have hw : wrap64 (wrap64 (2 * n) + 1) = 2 * n + 1 := by rw [w64 (n := 2 * n) (by omega) (by omega), w64 (by omega) (by omega)]
    obtain ⟨x3, i3, g3, e3, a3, b3, _⟩ := below_some l i2 g2 (2 * n + 1) (by omega) (by omega)
    obtain ⟨x4, i4, g4, e4, a4, b4, _⟩ := below_some l i3 g3 (2 * n + 1) (by omega) (by omega)
    rw [e2, Option.bind_some, hw, e3, Option.bind_some, e4, Option.bind_some]
    exact ⟨_, _, _, _, rfl, a4, by simp only []; omega⟩

theorem line_draw (l : List Int) (i h : Int) (hi : 0 ≤ i ∧ i ≤ 1800000) : ∃ a b c d i' h', spec_l09Line.f l i h = some (a, b, c, d, i', h') ∧ 0 ≤ i' ∧ i' ≤ i + 32 := by
  obtain ⟨x1, y1, i1, g1, e1, a1, b1⟩ := place_draw l i h (by omega)
  obtain ⟨x2, y2, i2, g2, e2, a2, b2⟩ := place_draw l i1 g1 (by omega)
  unfold spec_l09Line.f
  rw [e1, Option.bind_some, e2, Option.bind_some]
  exact ⟨_, _, _, _, _, _, rfl, a2, by simp only []; omega⟩

theorem track_loop (l : List Int) : ∀ (n k : Nat) (acc : List S44) (t i h : Int), n + 1 < k → n ≤ 300 → acc.length + n ≤ 300 → 0 ≤ i → i + 32 * n ≤ 1800000 →
    ∃ out i' h', spec_l09Track.l0 k acc n t l i h = some (out, i', h') ∧ out.length = acc.length + n ∧ 0 ≤ i' ∧ i' ≤ i + 32 * n := by
  intro n
  induction n with
  | zero =>
    intro k acc t i h hk _ _ hi hb
    obtain ⟨k, rfl⟩ : ∃ m, k = m + 1 := ⟨k - 1, by omega⟩
    simp only [spec_l09Track.l0]
    rw [if_neg (by omega)]
    exact ⟨_, _, _, rfl, by omega, hi, by omega⟩
  | succ n ih =>
    intro k acc t i h hk hn ha hi hb
    obtain ⟨k, rfl⟩ : ∃ m, k = m + 1 := ⟨k - 1, by omega⟩
    obtain ⟨x, y, i1, g1, e1, a1, b1⟩ := place_draw l i h (by omega)
    obtain ⟨s, i2, g2, e2, a2, b2, _⟩ := below_some l i1 g1 40 (by omega) (by omega)
    obtain ⟨b, i3, g3, e3, a3, b3⟩ := once_some l i2 g2 60 (by omega) (by omega)
    simp only [spec_l09Track.l0]
    rw [if_pos (by omega), e1, Option.bind_some, if_pos (by omega), Option.bind_some, e2, Option.bind_some, e3, Option.bind_some, w64 (n := ((n + 1 : Nat) : Int) - 1) (by omega) (by omega), show ((n + 1 : Nat) : Int) - 1 = (n : Int) by omega]
    split
    · obtain ⟨u, i4, g4, e4, a4, b4⟩ := number_some l i3 g3 (by omega)
      rw [e4, Option.bind_some]
      obtain ⟨out, i', h', f1, f2, f3, f4⟩ := ih k (acc ++ [⟨⟨x, y⟩, t⟩]) u i4 g4 (by omega) (by omega) (by simp; omega) a4 (by omega)
      refine ⟨out, i', h', f1, by rw [f2]; simp; omega, f3, by omega⟩
    · obtain ⟨out, i', h', f1, f2, f3, f4⟩ := ih k (acc ++ [⟨⟨x, y⟩, t⟩]) (wrap64 (wrap64 (t + 1) + s)) i3 g3 (by omega) (by omega) (by simp; omega) a3 (by omega)
      refine ⟨out, i', h', f1, by rw [f2]; simp; omega, f3, by omega⟩
theorem track_draw (l : List Int) (k : Nat) (i h : Int) (hk : 400 < k) (hi : 0 ≤ i ∧ i ≤ 1000000) : ∃ out i' h', spec_l09Track.f k l i h = some (out, i', h') ∧ out.length ≤ 300 ∧ 0 ≤ i' ∧ i' ≤ i + 20000 := by
  obtain ⟨n, i1, g1, e1, a1, b1, c1, d1, _⟩ := below_some l i h 9 (by omega) (by omega)
  obtain ⟨b, i2, g2, e2, a2, b2⟩ := once_some l i1 g1 40 (by omega) (by omega)
  have hj : ∀ (n : Nat) i h, n ≤ 300 → 0 ≤ i → i ≤ 1000100 → ∃ out i' h', spec_l09Track.j0 k [] n l i h = some (out, i', h') ∧ out.length ≤ 300 ∧ 0 ≤ i' ∧ i' ≤ i + 9604 := by
    intro n i h hn h0 h1
    obtain ⟨k, rfl⟩ : ∃ m, k = m + 1 := ⟨k - 1, by omega⟩
    obtain ⟨t, i1, g1, e1, a1, b1, _⟩ := below_some l i h 300 (by omega) (by omega)
    obtain ⟨out, i', h', f1, f2, f3, f4⟩ := track_loop l n k [] t i1 g1 (by omega) hn (by simp; omega) a1 (by omega)
    simp only [spec_l09Track.j0]
    rw [e1, Option.bind_some]
    exact ⟨out, i', h', f1, by rw [f2]; simp; omega, f3, by omega⟩
  unfold spec_l09Track.f
  rw [Option.bind_some, e1, Option.bind_some, e2, Option.bind_some]
  split
  · obtain ⟨m, i3, g3, e3, a3, b3, c3, d3, _⟩ := below_some l i2 g2 2 (by omega) (by omega)
    have hm : wrap64 (200 + m) = ((200 + m).toNat : Int) := by rw [w64 (by omega) (by omega)]; omega
    rw [e3, Option.bind_some, hm]
    obtain ⟨out, i', h', f1, f2, f3, f4⟩ := hj (200 + m).toNat i3 g3 (by omega) a3 (by omega)
    exact ⟨out, i', h', f1, f2, f3, by omega⟩
  · have hm : n = (n.toNat : Int) := by omega
    simp only []
    rw [hm]
    obtain ⟨out, i', h', f1, f2, f3, f4⟩ := hj n.toNat i2 g2 (by omega) a2 (by omega)
    exact ⟨out, i', h', f1, f2, f3, by omega⟩

theorem within_some (a b c : Int) : ∃ r, impl_within.f a b c = some r := by
  unfold impl_within.f; split <;> exact ⟨_, rfl⟩
theorem place_some (x y : Int) : ∃ r, impl_PlaceOk.f x y = some r := by
  obtain ⟨r1, h1⟩ := within_some x (-10000) 10000
  obtain ⟨r2, h2⟩ := within_some y (-10000) 10000
  unfold impl_PlaceOk.f
  rw [h1, h2]
  cases r1 <;> exact ⟨_, rfl⟩
theorem line_some (x y z t : Int) : ∃ r, impl_LineOk.f x y z t = some r := by
  obtain ⟨r1, h1⟩ := place_some x y
  obtain ⟨r2, h2⟩ := place_some z t
  unfold impl_LineOk.f
  rw [h1, h2]
  cases r1 <;> cases r2 <;> exact ⟨_, rfl⟩
theorem height_same (a b c d x y : Int) : spec_l09Height.f a b c d x y = impl_height.f a b c d x y := by
  unfold spec_l09Height.f spec_l09Cross.f impl_height.f impl_Place_less.f impl_Place_cross.f
  rfl

theorem time_some (x : Int) : ∃ r, impl_timeOk.f x = some r := by
  obtain ⟨r, h⟩ := within_some x 0 10000000
  unfold impl_timeOk.f
  rw [h]; exact ⟨_, rfl⟩
theorem wrap_in {n : Int} (h0 : 0 ≤ n) (h : n ≤ 11728124029610) : wrap64 n = n := by unfold wrap64; omega
theorem rd_at (l : List S44) (i : Nat) (h : i < l.length) : rd_T44 l (i : Int) = l[i] := by
  unfold rd_T44
  rw [List.getD_eq_getElem?_getD, Int.toNat_natCast, List.getElem?_eq_getElem h]
  rfl
/-- What both of them tell of a track from some sight on. -/
def good (l : List S44) (i : Nat) : Bool :=
  match l[i]? with
  | none => true
  | some s => (impl_PlaceOk.f s.f0.f0 s.f0.f1 == some true) && (impl_timeOk.f s.f1 == some true) && (i == 0 || (match l[i - 1]? with | some q => decide (q.f1 < s.f1) | none => true))
def goods (l : List S44) : Nat → Nat → Bool
  | 0, _ => true
  | d + 1, i => good l i && goods l d (i + 1)
theorem spec_loop (l : List S44) (hl : l.length ≤ 1048576) : ∀ (d k i : Nat), i + d = l.length → d < k → spec_TrackOk.l0 k l i = some (goods l d i && decide ((l.length : Int) ≤ 200)) := by
  intro d
  induction d with
  | zero =>
    intro k i hi hk
    obtain ⟨k, rfl⟩ : ∃ m, k = m + 1 := ⟨k - 1, by omega⟩
    simp only [spec_TrackOk.l0]
    rw [if_neg (by omega)]
    simp [goods]
  | succ d ih =>
    intro k i hi hk
    obtain ⟨k, rfl⟩ : ∃ m, k = m + 1 := ⟨k - 1, by omega⟩
    have hil : i < l.length := by omega
    have e1 : spec_PlaceOk.f = impl_PlaceOk.f := rfl
    have e2 : ∀ x, spec_l01In.f x 0 10000000 = impl_timeOk.f x := by intro x; unfold impl_timeOk.f; show impl_within.f _ _ _ = _; cases impl_within.f x 0 10000000 <;> rfl
    simp only [spec_TrackOk.l0, e1, e2]
    rw [if_pos (by omega), if_pos (by omega), rd_at l i hil]
    obtain ⟨b, hb⟩ := place_some l[i].f0.f0 l[i].f0.f1
    obtain ⟨c, hc⟩ := time_some l[i].f1
    rw [hb, hc, Option.bind_some]
    have hih := ih k (i + 1) (by omega) (by omega)
    have hw : wrap64 ((i : Int) + 1) = ((i + 1 : Nat) : Int) := by rw [wrap_in (by omega) (by omega)]; omega
    rw [hw, hih]
    simp only [goods, good, List.getElem?_eq_getElem hil, hb, hc]
    cases b
    · simp
    · cases c
      · simp
      · simp only [if_true, Option.bind_some]
        by_cases h0 : i = 0
        · subst h0; simp
        · have hw2 : wrap64 ((i : Int) - 1) = ((i - 1 : Nat) : Int) := by rw [wrap_in (by omega) (by omega)]; omega
          rw [if_pos (by omega), hw2, if_pos (by omega), if_pos (by omega), rd_at l (i - 1) (by omega)]
          simp only [List.getElem?_eq_getElem (show i - 1 < l.length by omega)]
          by_cases hlt : l[i].f1 ≤ l[i - 1].f1
          · rw [if_pos hlt]; simp [h0, Int.not_lt.2 hlt]
          · rw [if_neg hlt]; simp [Int.lt_of_not_ge hlt]
theorem impl_loop (l : List S44) (hl : l.length ≤ 1048576) : ∀ (d k i : Nat), i + d = l.length → d < k → impl_TrackOk.l0 k l l l.length i = some (goods l d i) := by
  intro d
  induction d with
  | zero =>
    intro k i hi hk
    obtain ⟨k, rfl⟩ : ∃ m, k = m + 1 := ⟨k - 1, by omega⟩
    simp only [impl_TrackOk.l0]
    rw [if_neg (by omega)]
    simp [goods]
  | succ d ih =>
    intro k i hi hk
    obtain ⟨k, rfl⟩ : ∃ m, k = m + 1 := ⟨k - 1, by omega⟩
    have hil : i < l.length := by omega
    simp only [impl_TrackOk.l0]
    rw [if_pos (by omega), if_pos (by omega), if_pos (by omega), rd_at l i hil]
    obtain ⟨b, hb⟩ := place_some l[i].f0.f0 l[i].f0.f1
    obtain ⟨c, hc⟩ := time_some l[i].f1
    rw [hb, hc, Option.bind_some]
    have hih := ih k (i + 1) (by omega) (by omega)
    have hw : wrap64 ((i : Int) + 1) = ((i + 1 : Nat) : Int) := by rw [wrap_in (by omega) (by omega)]; omega
    rw [hw, hih]
    simp only [goods, good, List.getElem?_eq_getElem hil, hb, hc]
    cases b
    · simp
    · cases c
      · simp
      · simp only [if_true, Option.bind_some]
        by_cases h0 : i = 0
        · subst h0; simp
        · have hw2 : wrap64 ((i : Int) - 1) = ((i - 1 : Nat) : Int) := by rw [wrap_in (by omega) (by omega)]; omega
          rw [if_pos (by omega), hw2, if_pos (by omega), if_pos (by omega), rd_at l (i - 1) (by omega)]
          simp only [List.getElem?_eq_getElem (show i - 1 < l.length by omega)]
          by_cases hlt : l[i].f1 ≤ l[i - 1].f1
          · rw [if_pos hlt]; simp [h0, Int.not_lt.2 hlt]
          · rw [if_neg hlt]; simp [Int.lt_of_not_ge hlt]
def trackOk (l : List S44) : Bool := goods l l.length 0 && decide ((l.length : Int) ≤ 200)
theorem spec_track (l : List S44) (hl : l.length ≤ 1048576) (k : Nat) (hk : l.length < k) : spec_TrackOk.f k l = some (trackOk l) := by
  unfold spec_TrackOk.f
  exact spec_loop l hl l.length k 0 (by omega) hk
theorem impl_track (l : List S44) (hl : l.length ≤ 1048576) (k : Nat) (hk : l.length < k) : impl_TrackOk.f k l = some (trackOk l) := by
  unfold impl_TrackOk.f trackOk
  by_cases h : (l.length : Int) > 200
  · rw [if_pos h, show decide ((l.length : Int) ≤ 200) = false by simp; omega]; simp
  · rw [if_neg h, show decide ((l.length : Int) ≤ 200) = true by simp; omega, Bool.and_true]
    exact impl_loop l hl l.length k 0 (by omega) hk

def placeB (x y : Int) : Bool := decide (-10000 ≤ x) && decide (x ≤ 10000) && decide (-10000 ≤ y) && decide (y ≤ 10000)
theorem place_is (x y : Int) : impl_PlaceOk.f x y = some (placeB x y) := by
  unfold impl_PlaceOk.f impl_within.f placeB
  by_cases h1 : x ≥ -10000
  · rw [if_pos h1, Option.bind_some]
    by_cases h2 : x ≤ 10000
    · rw [if_pos (by simpa using h2)]
      by_cases h3 : y ≥ -10000
      · rw [if_pos h3, Option.bind_some]; simp [h2, show (-10000 : Int) ≤ x from h1, show (-10000 : Int) ≤ y from h3]
      · rw [if_neg h3, Option.bind_some]; simp [h2, show (-10000 : Int) ≤ x from h1, show ¬ (-10000 : Int) ≤ y from h3]
    · rw [if_neg (by simpa using h2)]; simp [h2]
  · rw [if_neg h1, Option.bind_some]
    simp [show ¬ (-10000 : Int) ≤ x from h1]
theorem placeB_iff {x y : Int} : placeB x y = true ↔ -10000 ≤ x ∧ x ≤ 10000 ∧ -10000 ≤ y ∧ y ≤ 10000 := by
  unfold placeB; simp; omega
def lineB (a b c d : Int) : Bool := placeB a b && (placeB c d && (!(a == c) || !(b == d)))
theorem line_is (a b c d : Int) : impl_LineOk.f a b c d = some (lineB a b c d) := by
  unfold impl_LineOk.f lineB
  rw [place_is, place_is, Option.bind_some, Option.bind_some]
  cases placeB a b <;> cases placeB c d <;> simp
/-- the height of a place over a line -/
def ht (a b c d x y : Int) : Int := (c - a) * (y - b) - (d - b) * (x - a)
theorem mul_bound {p q M : Int} (h1 : -M ≤ p) (h2 : p ≤ M) (h3 : -M ≤ q) (h4 : q ≤ M) : -(M * M) ≤ p * q ∧ p * q ≤ M * M := by
  have a : p.natAbs ≤ M.natAbs := by omega
  have b : q.natAbs ≤ M.natAbs := by omega
  have c := Nat.mul_le_mul a b
  rw [← Int.natAbs_mul, ← Int.natAbs_mul] at c
  have d : 0 ≤ M * M := Int.mul_nonneg (by omega) (by omega)
  omega
theorem ht_bound {a b c d x y : Int} (h1 : placeB a b = true) (h2 : placeB c d = true) (h3 : placeB x y = true) : -800000000 ≤ ht a b c d x y ∧ ht a b c d x y ≤ 800000000 := by
  rw [placeB_iff] at h1 h2 h3
  unfold ht
  have e1 := mul_bound (M := 20000) (p := c - a) (q := y - b) (by omega) (by omega) (by omega) (by omega)
  have e2 := mul_bound (M := 20000) (p := d - b) (q := x - a) (by omega) (by omega) (by omega) (by omega)
  omega
theorem height_is {a b c d x y : Int} (h1 : placeB a b = true) (h2 : placeB c d = true) (h3 : placeB x y = true) : impl_height.f a b c d x y = some (ht a b c d x y) := by
  have hb := ht_bound h1 h2 h3
  rw [placeB_iff] at h1 h2 h3
  unfold impl_height.f impl_Place_less.f impl_Place_cross.f
  simp only [Option.bind_some]
  rw [w64 (n := c - a) (by omega) (by omega), w64 (n := d - b) (by omega) (by omega), w64 (n := x - a) (by omega) (by omega), w64 (n := y - b) (by omega) (by omega)]
  have e1 := mul_bound (M := 20000) (p := c - a) (q := y - b) (by omega) (by omega) (by omega) (by omega)
  have e2 := mul_bound (M := 20000) (p := d - b) (q := x - a) (by omega) (by omega) (by omega) (by omega)
  rw [w64 (n := (c - a) * (y - b)) (by omega) (by omega), w64 (n := (d - b) * (x - a)) (by omega) (by omega)]
  unfold ht at *
  rw [w64 (by omega) (by omega)]

theorem draw_some (l : List Int) (hl : l.length ≤ 1048576) (k : Nat) (hk : l.length + 400 < k) : ∃ a b c d tr g, spec_DrawEarlyAt.f k l = some (a, b, c, d, tr, g) ∧ tr.length ≤ 300 := by
  obtain ⟨h0, e0⟩ := new_some l hl k (by omega)
  obtain ⟨a, b, c, d, i1, g1, e1, a1, b1⟩ := line_draw l 0 h0 (by omega)
  obtain ⟨tr, i2, g2, e2, l2, a2, b2⟩ := track_draw l k i1 g1 (by omega) (by omega)
  obtain ⟨f, i3, g3, e3, a3, b3⟩ := once_some l i2 g2 15 (by omega) (by omega)
  have hs : ∃ g, spec_DrawStartTime.f k l = some (a, b, c, d, tr, g) := by
    unfold spec_DrawStartTime.f
    rw [e0, Option.bind_some, e1, Option.bind_some, e2, Option.bind_some, e3, Option.bind_some]
    split
    · obtain ⟨u, i4, g4, e4, a4, b4⟩ := number_some l i3 g3 (by omega)
      rw [e4, Option.bind_some]; exact ⟨_, rfl⟩
    · obtain ⟨u, i4, g4, e4, a4, b4, _⟩ := below_some l i3 g3 500 (by omega) (by omega)
      rw [e4, Option.bind_some]; exact ⟨_, rfl⟩
  obtain ⟨g, hg⟩ := hs
  unfold spec_DrawEarlyAt.f
  rw [hg, Option.bind_some]
  dsimp only
  by_cases h1 : (tr.length : Int) > 0
  · rw [if_pos h1]
    split
    · rw [w64 (n := (tr.length : Int) / 2) (by omega) (by omega), if_pos (by omega), if_pos (by omega)]
      exact ⟨_, _, _, _, _, _, rfl, l2⟩
    · exact ⟨_, _, _, _, _, _, rfl, l2⟩
  · rw [if_neg h1]; exact ⟨_, _, _, _, _, _, rfl, l2⟩

/-! ### a track that is right -/
theorem goods_each (l : List S44) : ∀ (d i : Nat), goods l d i = true → ∀ j, i ≤ j → j < i + d → good l j = true := by
  intro d
  induction d with
  | zero => intro i _ j h1 h2; omega
  | succ d ih =>
    intro i h j h1 h2
    simp only [goods, Bool.and_eq_true] at h
    by_cases e : j = i
    · subst e; exact h.1
    · exact ih (i + 1) h.2 j (by omega) (by omega)
theorem time_is (x : Int) : impl_timeOk.f x = some (decide (0 ≤ x) && decide (x ≤ 10000000)) := by
  unfold impl_timeOk.f impl_within.f
  by_cases h : x ≥ 0
  · rw [if_pos h]; simp [show 0 ≤ x from h]
  · rw [if_neg h]; simp [show ¬ 0 ≤ x from h]
structure Right (l : List S44) : Prop where
  place : ∀ i (h : i < l.length), placeB l[i].f0.f0 l[i].f0.f1 = true
  time : ∀ i (h : i < l.length), 0 ≤ l[i].f1 ∧ l[i].f1 ≤ 10000000
  up : ∀ i j (_ : i < j) (h : j < l.length), l[i].f1 < l[j].f1
theorem right_of (l : List S44) (h : trackOk l = true) : Right l := by
  unfold trackOk at h
  simp only [Bool.and_eq_true] at h
  have hg := goods_each l l.length 0 h.1
  have each : ∀ i (hi : i < l.length), placeB l[i].f0.f0 l[i].f0.f1 = true ∧ (0 ≤ l[i].f1 ∧ l[i].f1 ≤ 10000000) ∧ (∀ h0 : 0 < i, l[i - 1].f1 < l[i].f1) := by
    intro i hi
    have := hg i (by omega) (by omega)
    simp only [good, List.getElem?_eq_getElem hi, place_is, time_is] at this
    simp only [Bool.and_eq_true] at this
    obtain ⟨⟨p1, p2⟩, p3⟩ := this
    refine ⟨by simpa using p1, by simpa using p2, fun h0 => ?_⟩
    rw [List.getElem?_eq_getElem (show i - 1 < l.length by omega)] at p3
    have : i ≠ 0 := by omega
    simpa [this] using p3
  refine ⟨fun i hi => (each i hi).1, fun i hi => (each i hi).2.1, ?_⟩
  intro i j hij hj
  induction j with
  | zero => omega
  | succ j ih =>
    have h1 := (each (j + 1) hj).2.2 (by omega)
    have h2 : l[j + 1 - 1].f1 = l[j].f1 := rfl
    by_cases e : i = j
    · subst e; exact h1
    · have := ih (by omega) (by omega)
      omega
def hh (a b c d : Int) (l : List S44) (i : Nat) (h : i < l.length) : Int := ht a b c d l[i].f0.f0 l[i].f0.f1
/-- what the search tells from a step on, at the time of sight i -/
def tells (l : List S44) (i j : Nat) (neg : Bool) : Bool := neg && (decide (j ≤ i ∧ i + 1 < l.length) || decide (j + 1 ≤ i ∧ i < l.length))
theorem early_loop (a b c d : Int) (l : List S44) (hl : l.length ≤ 1048576) (R : Right l) (ha : placeB a b = true) (hc : placeB c d = true) (i : Nat) (hi : i < l.length) :
    ∀ (n k j : Nat), j + n = l.length → n < k → impl_EarlyAt.l0 k l l[i].f1 j a b c d = some (tells l i j (decide (hh a b c d l i hi < 0))) := by
  intro n
  induction n with
  | zero =>
    intro k j hj hk
    obtain ⟨k, rfl⟩ : ∃ m, k = m + 1 := ⟨k - 1, by omega⟩
    simp only [impl_EarlyAt.l0]
    rw [w64 (n := (j : Int) + 1) (by omega) (by omega), if_neg (by omega)]
    unfold tells
    rw [show decide (j ≤ i ∧ i + 1 < l.length) = false by simp; omega, show decide (j + 1 ≤ i ∧ i < l.length) = false by simp; omega]
    simp
  | succ n ih =>
    intro k j hj hk
    obtain ⟨k, rfl⟩ : ∃ m, k = m + 1 := ⟨k - 1, by omega⟩
    have hw : wrap64 ((j : Int) + 1) = ((j + 1 : Nat) : Int) := by rw [w64 (by omega) (by omega)]; omega
    simp only [impl_EarlyAt.l0]
    rw [hw]
    by_cases hlt : j + 1 < l.length
    · have hih := ih k (j + 1) (by omega) (by omega)
      rw [if_pos (by omega), if_pos (by omega), if_pos (by omega), if_pos (by omega), rd_at l j (by omega), rd_at l (j + 1) hlt, hih]
      have t0 := R.time i hi
      have t1 := R.time j (by omega)
      have t2 := R.time (j + 1) hlt
      have hin : impl_within.f l[i].f1 l[j].f1 l[j + 1].f1 = some (decide (i = j ∨ i = j + 1)) := by
        unfold impl_within.f
        by_cases h1 : i < j
        · have := R.up i j h1 (by omega)
          rw [if_neg (by omega)]; congr 1; symm; simp; omega
        · by_cases h2 : i = j
          · subst h2
            have := R.up i (i + 1) (by omega) hlt
            rw [if_pos (by omega)]; congr 1; simp; omega
          · by_cases h3 : i = j + 1
            · subst h3
              have := R.up j (j + 1) (by omega) hlt
              rw [if_pos (by omega)]; simp
            · have h4 := R.up (j + 1) i (by omega) hi
              have h5 := R.up j i (by omega) hi
              rw [if_pos (by omega)]; congr 1; rw [Bool.eq_iff_iff]; simp; omega
      rw [hin, Option.bind_some]
      by_cases hij : i = j ∨ i = j + 1
      · rw [if_pos (by simpa using hij), height_is ha hc (R.place j (by omega)), height_is ha hc (R.place (j + 1) hlt), Option.bind_some, Option.bind_some]
        have b1 := ht_bound ha hc (R.place j (by omega))
        have b2 := ht_bound ha hc (R.place (j + 1) hlt)
        have up := R.up j (j + 1) (by omega) hlt
        rcases hij with e | e
        · subst e
          have z : l[i].f1 - l[i].f1 = 0 := by omega
          have hp : 0 < l[i + 1].f1 - l[i].f1 ∧ l[i + 1].f1 - l[i].f1 ≤ 10000000 := by omega
          generalize hu : ht a b c d l[i].f0.f0 l[i].f0.f1 = u at *
          generalize hv : ht a b c d l[i + 1].f0.f0 l[i + 1].f0.f1 = v at *
          rw [z, w64 (n := (0 : Int)) (by omega) (by omega), Int.mul_zero, w64 (n := (0 : Int)) (by omega) (by omega), Int.add_zero, w64 (n := l[i + 1].f1 - l[i].f1) (by omega) (by omega)]
          generalize l[i + 1].f1 - l[i].f1 = q at *
          have mb := mul_bound (M := 800000000) (p := u) (q := q) (by omega) (by omega) (by omega) (by omega)
          rw [w64 (n := u * q) (by omega) (by omega), w64 (n := u * q) (by omega) (by omega)]
          have hs : u * q < 0 ↔ u < 0 := by
            constructor
            · intro h
              by_cases hu0 : u < 0
              · exact hu0
              · have := Int.mul_nonneg (show 0 ≤ u by omega) (show 0 ≤ q by omega); omega
            · intro h; exact Int.mul_neg_of_neg_of_pos h hp.1
          unfold tells hh
          rw [hu]
          by_cases hn : u < 0
          · rw [if_pos (hs.2 hn)]; congr 1; symm; simp; omega
          · rw [if_neg (fun h => hn (hs.1 h))]; simp [hn]
        · subst e
          have z : l[j + 1].f1 - l[j + 1].f1 = 0 := by omega
          have hp : 0 < l[j + 1].f1 - l[j].f1 ∧ l[j + 1].f1 - l[j].f1 ≤ 10000000 := by omega
          generalize hu : ht a b c d l[j].f0.f0 l[j].f0.f1 = u at *
          generalize hv : ht a b c d l[j + 1].f0.f0 l[j + 1].f0.f1 = v at *
          rw [z, w64 (n := (0 : Int)) (by omega) (by omega), Int.mul_zero, w64 (n := (0 : Int)) (by omega) (by omega), Int.zero_add, w64 (n := l[j + 1].f1 - l[j].f1) (by omega) (by omega)]
          generalize l[j + 1].f1 - l[j].f1 = q at *
          have mb := mul_bound (M := 800000000) (p := v) (q := q) (by omega) (by omega) (by omega) (by omega)
          rw [w64 (n := v * q) (by omega) (by omega), w64 (n := v * q) (by omega) (by omega)]
          have hs : v * q < 0 ↔ v < 0 := by
            constructor
            · intro h
              by_cases hu0 : v < 0
              · exact hu0
              · have := Int.mul_nonneg (show 0 ≤ v by omega) (show 0 ≤ q by omega); omega
            · intro h; exact Int.mul_neg_of_neg_of_pos h hp.1
          unfold tells hh
          rw [hv]
          by_cases hn : v < 0
          · rw [if_pos (hs.2 hn)]; congr 1; symm; simp; omega
          · rw [if_neg (fun h => hn (hs.1 h))]; simp [hn]
      · rw [if_neg (by simpa using hij)]
        congr 1
        unfold tells
        congr 1
        rw [Bool.eq_iff_iff]; simp; omega
    · rw [if_neg (by omega)]
      unfold tells
      rw [show decide (j ≤ i ∧ i + 1 < l.length) = false by simp; omega, show decide (j + 1 ≤ i ∧ i < l.length) = false by simp; omega]
      simp
theorem lineB_of {a b c d : Int} (h : lineB a b c d = true) : placeB a b = true ∧ placeB c d = true := by
  unfold lineB at h; simp at h; exact ⟨h.1, h.2.1⟩
theorem early_at (a b c d : Int) (l : List S44) (hl : l.length ≤ 1048576) (hL : lineB a b c d = true) (hT : trackOk l = true) (h2 : 2 ≤ l.length) (i : Nat) (hi : i < l.length) (k : Nat) (hk : l.length + 1 < k) :
    impl_EarlyAt.f k a b c d l l[i].f1 = some (decide (hh a b c d l i hi < 0)) := by
  obtain ⟨k, rfl⟩ : ∃ m, k = m + 1 := ⟨k - 1, by omega⟩
  unfold impl_EarlyAt.f
  rw [line_is, hL, impl_track l hl _ (by omega), hT]
  simp only [Option.bind_some, if_true, Bool.not_true, impl_EarlyAt.j0, Bool.false_eq_true, if_false]
  have := early_loop a b c d l hl (right_of l hT) (lineB_of hL).1 (lineB_of hL).2 i hi l.length k 0 (by omega) (by omega)
  have e : impl_EarlyAt.l0 k l l[i].f1 0 a b c d = _ := this
  rw [e]
  unfold tells
  have : (decide (0 ≤ i ∧ i + 1 < l.length) || decide (0 + 1 ≤ i ∧ i < l.length)) = true := by simp; omega
  rw [this, Bool.and_true]
theorem spec_side (a b c d x y : Int) (hL : lineB a b c d = true) (hp : placeB x y = true) (k : Nat) : spec_SideOf.f (k + 1) a b c d x y = some (if ht a b c d x y < 0 then 1 else if ht a b c d x y > 0 then -1 else 0) := by
  have e1 : spec_LineOk.f = impl_LineOk.f := rfl
  have e2 : spec_PlaceOk.f = impl_PlaceOk.f := rfl
  unfold spec_SideOf.f
  rw [e1, e2, line_is, place_is, hL, hp]
  simp only [Option.bind_some, if_true, Bool.not_true, spec_SideOf.j0, Bool.false_eq_true, if_false]
  rw [height_same, height_is (lineB_of hL).1 (lineB_of hL).2 hp, Option.bind_some]
  repeat' split
  all_goals rfl
theorem rounds (a b c d : Int) (l : List S44) (hl : l.length ≤ 1048576) (hL : lineB a b c d = true) (hT : trackOk l = true) (h2 : 2 ≤ l.length) :
    ∀ (n k i : Nat), i + n = l.length → l.length + 2 * n + 8 < k → laws_FnEarlySights.l0 k l i a b c d = some true := by
  intro n
  induction n with
  | zero =>
    intro k i hi hk
    obtain ⟨k, rfl⟩ : ∃ m, k = m + 2 := ⟨k - 2, by omega⟩
    simp only [laws_FnEarlySights.l0, laws_FnEarlySights.j2]
    rw [if_neg (by omega)]
    simp
  | succ n ih =>
    intro k i hi hk
    obtain ⟨k, rfl⟩ : ∃ m, k = m + 1 := ⟨k - 1, by omega⟩
    simp only [laws_FnEarlySights.l0]
    rw [if_pos (by omega)]
    obtain ⟨k, rfl⟩ : ∃ m, k = m + 1 := ⟨k - 1, by omega⟩
    simp only [laws_FnEarlySights.j2]
    by_cases h12 : i < 12
    · have hil : i < l.length := by omega
      rw [if_pos (by simp; omega), if_pos (by omega), if_pos (by omega), rd_at l i hil, early_at a b c d l hl hL hT h2 i hil k (by omega), Option.bind_some]
      obtain ⟨k, rfl⟩ : ∃ m, k = m + 1 := ⟨k - 1, by omega⟩
      rw [spec_side a b c d _ _ hL ((right_of l hT).place i hil), Option.bind_some]
      have : decide (hh a b c d l i hil < 0) = ((if ht a b c d l[i].f0.f0 l[i].f0.f1 < 0 then (1 : Int) else if ht a b c d l[i].f0.f0 l[i].f0.f1 > 0 then -1 else 0) == 1) := by
        unfold hh
        by_cases h : ht a b c d l[i].f0.f0 l[i].f0.f1 < 0
        · simp [h]
        · rw [if_neg h]
          simp only [h, decide_false]
          split <;> simp
      rw [this, w64 (n := (i : Int) + 1) (by omega) (by omega)]
      simp only [bne_self_eq_false, Bool.false_eq_true, if_false]
      exact ih (k + 1) (i + 1) (by omega) (by omega)
    · rw [if_neg (by simp; omega)]
theorem FnEarlySights : laws_FnEarlySights.Pure := by
  intro l h1 _ _
  by_cases hl : l.length ≤ 1048576
  · obtain ⟨a, b, c, d, tr, g, hd, hlen⟩ := draw_some l hl (l.length + 2000) (by omega)
    refine ⟨l.length + 2000, ?_⟩
    have hb : laws_big.f l = some false := by unfold laws_big.f; simp; omega
    have e1 : spec_LineOk.f = impl_LineOk.f := rfl
    unfold laws_FnEarlySights.f
    rw [hb, Option.bind_some, if_neg (by simp), hd, Option.bind_some]
    have hj : laws_FnEarlySights.j0 (l.length + 2000) tr true a b c d = some true := by simp only [laws_FnEarlySights.j0]; rfl
    simp only [e1, line_is, Option.bind_some]
    rw [spec_track tr (by omega) _ (by omega), Option.bind_some]
    by_cases hT : trackOk tr = true
    · rw [if_pos hT]
      by_cases hL : lineB a b c d = true
      · rw [if_pos hL]
        by_cases h2 : 2 ≤ tr.length
        · rw [show decide ((tr.length : Int) < 2) = false by simp; omega]
          obtain ⟨q, hq⟩ : ∃ q, l.length + 2000 = q + 1 := ⟨l.length + 1999, by omega⟩
          rw [hq]
          simp only [laws_FnEarlySights.j0, Bool.false_eq_true, if_false]
          exact rounds a b c d tr (by omega) hL hT h2 tr.length q 0 (by omega) (by omega)
        · rw [show decide ((tr.length : Int) < 2) = true by simp; omega]; exact hj
      · rw [if_neg hL]; exact hj
    · rw [if_neg hT]; exact hj
  · refine ⟨0, ?_⟩
    unfold laws_FnEarlySights.f laws_big.f
    have : decide ((l.length : Int) > 1048576) = true := by simp; omega
    rw [this]; rfl
end Go.Proofs.Ytfllkcmmaibijaa.Pure
