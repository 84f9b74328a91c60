/- What DrawCrossTime draws: a line and two sights, any; nothing that was there before is changed. No condition. -/
import Derived.Test.YtfllkcmmaibijaaCu6
import Derived.Test.YtfllkcmmaibijaaCuS
namespace Go.Proofs.Ytfllkcmmaibijaa.Cud
open Go.RowKit Cus Go.Proofs.Ytfllkcmmaibijaa.PFnCutTrack Go.Proofs.YtfllkcmmaibijaaW.PrintWords Go.Proofs.YtfllkcmmaibijaaW.PrintLast Go.Proofs.YtfllkcmmaibijaaW.PrintMore
theorem w64 {n : Int} (h1 : -9000000000000000000 ≤ n) (h2 : n ≤ 9000000000000000000) : wrap64 n = n := by unfold wrap64; omega

/-! ### what is drawn -/
theorem new_loop (l : List Int) (hl : l.length ≤ 1048576) : ∀ (d k i : Nat) (h : Int), i + d = l.length → d < k → ∃ h', spec_l01New.l0 k l h i = some (l, 0, h') := by
  intro d
  induction d with
  | zero =>
    intro k i h hi hk
    obtain ⟨k, rfl⟩ : ∃ m, k = m + 1 := ⟨k - 1, by omega⟩
    simp only [spec_l01New.l0]
    rw [if_neg (by omega)]
    exact ⟨_, rfl⟩
  | succ d ih =>
    intro k i h hi hk
    obtain ⟨k, rfl⟩ : ∃ m, k = m + 1 := ⟨k - 1, by omega⟩
    simp only [spec_l01New.l0]
    rw [if_pos (by omega)]
    split
    · rw [if_pos (by omega), w64 (n := (i : Int) + 1) (by omega) (by omega)]
      exact ih k (i + 1) _ (by omega) (by omega)
    · exact ⟨_, rfl⟩
theorem new_some (l : List Int) (hl : l.length ≤ 1048576) (k : Nat) (hk : l.length < k) : ∃ h, spec_l01New.f k l = some (l, 0, h) := by
  unfold spec_l01New.f
  exact new_loop l hl l.length k 0 _ (by omega) hk
theorem bits_and (x n : Int) (hn : 0 ≤ n) (hn2 : n ≤ 9223372036854775807) : 0 ≤ Go.bits .and .i64 x n ∧ Go.bits .and .i64 x n ≤ n := by
  obtain ⟨m, rfl⟩ := Int.eq_ofNat_of_zero_le hn
  have hm : m < 2 ^ 63 := by omega
  unfold Go.bits
  simp only []
  have hb : (BitVec.ofInt IntKind.i64.bits x &&& BitVec.ofInt IntKind.i64.bits (m : Int)).toNat ≤ m := by
    rw [BitVec.toNat_and]
    refine Nat.le_trans Nat.and_le_right ?_
    simp [IntKind.bits]
    omega
  generalize (BitVec.ofInt IntKind.i64.bits x &&& BitVec.ofInt IntKind.i64.bits (m : Int)) = v at *
  have hv : (v.toNat : Int) ≤ m := by exact_mod_cast hb
  rw [IntKind.wrap_i64]
  omega

/-- A cursor: the bytes, a place within them or behind. -/
theorem byte_some (l : List Int) (i h : Int) (hi : 0 ≤ i ∧ i ≤ 2097152) : ∃ x i' h', spec_l01Byte.f l i h = some (x, i', h') ∧ 0 ≤ i' ∧ i' ≤ i + 1 ∧ 0 ≤ x ∧ x ≤ 255 := by
  unfold spec_l01Byte.f
  split
  · rw [if_pos hi.1]
    exact ⟨_, _, _, rfl, by rw [w64 (by omega) (by omega)]; omega, by rw [w64 (by omega) (by omega)]; omega, bits_and _ _ (by omega) (by omega)⟩
  · exact ⟨_, _, _, rfl, hi.1, by omega, bits_and _ _ (by omega) (by omega)⟩
theorem below_some (l : List Int) (i h n : Int) (hi : 0 ≤ i ∧ i ≤ 2000000) (hn : n ≤ 4294967296) : ∃ x i' h', spec_l01Below.f l i h n = some (x, i', h') ∧ 0 ≤ i' ∧ i' ≤ i + 4 ∧ 0 ≤ x ∧ (0 < n → x < n) ∧ x ≤ 4294967295 := by
  unfold spec_l01Below.f
  split
  · exact ⟨_, _, _, rfl, hi.1, by omega, by omega, by omega, by omega⟩
  · split
    · obtain ⟨x, j, g, e, j0, j1, x0, x1⟩ := byte_some l i h (by omega)
      rw [e, Option.bind_some, if_neg (by omega)]
      refine ⟨_, _, _, rfl, j0, by simp only []; omega, ?_, ?_, ?_⟩
      · rw [Int.tmod_eq_emod_of_nonneg x0]; exact Int.emod_nonneg _ (by omega)
      · intro _; rw [Int.tmod_eq_emod_of_nonneg x0]; exact Int.emod_lt_of_pos _ (by omega)
      · rw [Int.tmod_eq_emod_of_nonneg x0]; have := Int.emod_lt_of_pos x (show 0 < n by omega); omega
    · obtain ⟨x1, j1, g1, e1, a1, b1, c1, d1⟩ := byte_some l i h (by omega)
      obtain ⟨x2, j2, g2, e2, a2, b2, c2, d2⟩ := byte_some l j1 g1 (by omega)
      obtain ⟨x3, j3, g3, e3, a3, b3, c3, d3⟩ := byte_some l j2 g2 (by omega)
      obtain ⟨x4, j4, g4, e4, a4, b4, c4, d4⟩ := byte_some l j3 g3 (by omega)
      rw [e1, Option.bind_some, e2, Option.bind_some, e3, Option.bind_some, e4, Option.bind_some, if_neg (by omega)]
      have hx : wrap64 (wrap64 (wrap64 (wrap64 (x1 * 16777216) + wrap64 (x2 * 65536)) + wrap64 (x3 * 256)) + x4) = x1 * 16777216 + x2 * 65536 + x3 * 256 + x4 := by
        rw [w64 (n := x1 * 16777216) (by omega) (by omega), w64 (n := x2 * 65536) (by omega) (by omega), w64 (n := x3 * 256) (by omega) (by omega), w64 (n := x1 * 16777216 + x2 * 65536) (by omega) (by omega), w64 (n := x1 * 16777216 + x2 * 65536 + x3 * 256) (by omega) (by omega), w64 (by omega) (by omega)]
      refine ⟨_, _, _, rfl, a4, by simp only []; omega, ?_, ?_, ?_⟩
      · simp only []
        rw [hx, Int.tmod_eq_emod_of_nonneg (by omega)]; exact Int.emod_nonneg _ (by omega)
      · intro _; simp only []; rw [hx, Int.tmod_eq_emod_of_nonneg (by omega)]; exact Int.emod_lt_of_pos _ (by omega)
      · simp only []; rw [hx, Int.tmod_eq_emod_of_nonneg (by omega)]
        have := Int.emod_lt_of_pos (x1 * 16777216 + x2 * 65536 + x3 * 256 + x4) (show 0 < n by omega); omega

theorem once_some (l : List Int) (i h n : Int) (hi : 0 ≤ i ∧ i ≤ 2000000) (hn : n ≤ 4294967296) : ∃ x i' h', spec_l01Once.f l i h n = some (x, i', h') ∧ 0 ≤ i' ∧ i' ≤ i + 4 := by
  obtain ⟨x, j, g, e, a, b, _⟩ := below_some l i h n hi hn
  unfold spec_l01Once.f
  rw [e, Option.bind_some]
  exact ⟨_, _, _, rfl, a, b⟩

theorem pick_some (l : List Int) (i h : Int) (q : List Int) (hi : 0 ≤ i ∧ i ≤ 2000000) (hq : 0 < q.length ∧ q.length ≤ 4294967296) : ∃ i' h', ∃ j : Nat, ∃ hj : j < q.length, spec_l01PickInt.f l i h q = some (q[j], i', h') ∧ 0 ≤ i' ∧ i' ≤ i + 4 := by
  obtain ⟨x, j, g, e, a, b, c, d, _⟩ := below_some l i h q.length hi (by omega)
  have d' := d (by omega)
  unfold spec_l01PickInt.f
  rw [e, Option.bind_some, if_pos c, if_pos d']
  have hx : x.toNat < q.length := by omega
  refine ⟨_, _, x.toNat, hx, by unfold rd; rw [List.getD_eq_getElem?_getD, List.getElem?_eq_getElem hx]; rfl, a, b⟩

theorem place_draw (l : List Int) (i h : Int) (hi : 0 ≤ i ∧ i ≤ 1900000) : ∃ x y i' h', spec_l09Place.f l i h = some (x, y, i', h') ∧ 0 ≤ i' ∧ i' ≤ i + 16 := by
  obtain ⟨b, i1, g1, e1, a1, b1⟩ := once_some l i h 40 (by omega) (by omega)
  unfold spec_l09Place.f
  rw [e1, Option.bind_some]
  split
  · obtain ⟨i2, g2, _, _, e2, a2, b2⟩ := pick_some l i1 g1 [10000, -10000, 10001, 9223372036854775807] (by omega) (by simp)
    obtain ⟨i3, g3, _, _, e3, a3, b3⟩ := pick_some l i2 g2 [10000, 0, -10001] (by omega) (by simp)
    rw [e2, Option.bind_some, e3, Option.bind_some]
    exact ⟨_, _, _, _, rfl, a3, by simp only []; omega⟩
  · obtain ⟨i2, g2, j, hj, e2, a2, b2⟩ := pick_some l i1 g1 [4, 20, 400] (by omega) (by simp)
    have hv : 4 ≤ [(4 : Int), 20, 400][j] ∧ [(4 : Int), 20, 400][j] ≤ 400 := by
      simp at hj
      match j, hj with
      | 0, _ => simp
      | 1, _ => simp
      | 2, _ => simp
    generalize [(4 : Int), 20, 400][j] = n at *
    have hw : wrap64 (wrap64 (2 * n) + 1) = 2 * n + 1 := by rw [w64 (n := 2 * n) (by omega) (by omega), w64 (by omega) (by omega)]
    obtain ⟨x3, i3, g3, e3, a3, b3, _⟩ := below_some l i2 g2 (2 * n + 1) (by omega) (by omega)
    obtain ⟨x4, i4, g4, e4, a4, b4, _⟩ := below_some l i3 g3 (2 * n + 1) (by omega) (by omega)
    rw [e2, Option.bind_some, hw, e3, Option.bind_some, e4, Option.bind_some]
    exact ⟨_, _, _, _, rfl, a4, by simp only []; omega⟩

theorem line_draw (l : List Int) (i h : Int) (hi : 0 ≤ i ∧ i ≤ 1800000) : ∃ a b c d i' h', spec_l09Line.f l i h = some (a, b, c, d, i', h') ∧ 0 ≤ i' ∧ i' ≤ i + 32 := by
  obtain ⟨x1, y1, i1, g1, e1, a1, b1⟩ := place_draw l i h (by omega)
  obtain ⟨x2, y2, i2, g2, e2, a2, b2⟩ := place_draw l i1 g1 (by omega)
  unfold spec_l09Line.f
  rw [e1, Option.bind_some, e2, Option.bind_some]
  exact ⟨_, _, _, _, _, _, rfl, a2, by simp only []; omega⟩


/-! ### the cursor, its place bounded -/
/-- a cursor at g in the world w (rooted in w0), whose place is m at most -/
def Cur (w0 w : World) (g : Nat) (m : Int) : Prop := (∃ b i h, IsS70 w0 w g b i h ∧ 0 ≤ i ∧ i ≤ m) ∧ Below w0.heap.size w0 w
theorem Cur.mono {w0 w : World} {g : Nat} {m n : Int} (h : Cur w0 w g m) (hm : m ≤ n) : Cur w0 w g n := by
  obtain ⟨⟨b, i, k, h1, h2, h3⟩, h4⟩ := h
  exact ⟨⟨b, i, k, h1, h2, by omega⟩, h4⟩
theorem Cur.drew {w0 w : World} {g : Nat} {m : Int} (h : Cur w0 w g m) : Cur w0 w.drew g m := ⟨h.1, h.2.drew⟩
theorem Cur.alloc {w0 w : World} {g : Nat} {m : Int} (h : Cur w0 w g m) (o : Obj) : Cur w0 (w.alloc o) g m := by
  obtain ⟨⟨b, i, k, h1, h2, h3⟩, h4⟩ := h
  exact ⟨⟨b, i, k, h1.alloc o, h2, h3⟩, below_alloc h4 o⟩
theorem Cur.lt {w0 w : World} {g : Nat} {m : Int} (h : Cur w0 w g m) : g < w.heap.size := by
  obtain ⟨⟨b, i, k, h1, h2, h3⟩, h4⟩ := h
  exact h1.lt
theorem Cur.far {w0 w : World} {g : Nat} {m : Int} (h : Cur w0 w g m) {q i : Nat} (hne : g ≠ q) (hp : w0.heap.size ≤ q) (u : Value) : Cur w0 (w.setCell ⟨q, i, none⟩ u) g m := by
  obtain ⟨⟨b, i, k, h1, h2, h3⟩, h4⟩ := h
  exact ⟨⟨b, i, k, h1.far hne u, h2, h3⟩, below_set h4 hp⟩
def isBox : Obj → Bool
  | .cells _ t (0, 0) => t != 70
  | _ => false
theorem Cur.ne {w0 w : World} {g : Nat} {m : Int} (h : Cur w0 w g m) {a : Nat} {o : Obj} (ha : w.heap[a]? = some o) (ho : isBox o = true) : g ≠ a := by
  obtain ⟨⟨b, i, k, h1, h2, h3⟩, h4⟩ := h
  unfold isBox at ho
  split at ho
  · exact h1.ne_blk ha (by simpa using ho)
  · cases ho
theorem St.cur {w0 w w1 : World} {L : List (Nat × Obj)} {g : Nat} {m n : Int} (h : St w0 w L) (hC : Cur w0 w g m) (hk : KeepBut w w1 g none) (hC1 : Cur w0 w1 g n) (hL : L.all (fun p => isBox p.2) = true) : St w0 w1 L :=
  h.keep hk (fun p hp => (hC.ne (h.has p hp) (List.all_eq_true.1 hL p hp)).symm) hC1.2
theorem both_put {w0 w : World} {L : List (Nat × Obj)} {g q : Nat} {m : Int} {cs : Array Value} {t : TypeId} (h : St w0 w L ∧ Cur w0 w g m) (k i : Nat) (hk : L[k]? = some (q, .cells cs t (0, 0))) (ht : isBox (.cells cs t (0, 0)) = true) (u : Value) :
    St w0 (w.setCell ⟨q, i, none⟩ u) (L.set k (q, .cells (cs.setIfInBounds i u) t (0, 0))) ∧ Cur w0 (w.setCell ⟨q, i, none⟩ u) g m :=
  ⟨h.1.put k i hk u, h.2.far (h.2.ne (h.1.at_ k hk) ht) (h.1.ge _ (List.mem_of_getElem? hk)) u⟩
theorem below_k {w0 w : World} {g : Nat} {m : Int} (n : Int) (hn : n ≤ 4294967296) (hm : m ≤ 2000000) (hC : Cur w0 w g m) :
    Calls Try.prog 30 #[.pointer (some ⟨g, 0, none⟩), .int .i64 n] w fun e w' => ∃ r : Int, e = .returned (.int .i64 r) ∧ Cur w0 w' g (m + 4) ∧ KeepBut w w' g none := by
  obtain ⟨⟨b, i, h, h1, h2, h3⟩, hB⟩ := hC
  obtain ⟨x, i', h', e, a, c, _, _, _⟩ := below_some b i h n ⟨h2, by omega⟩ hn
  refine (spec_l01Below.calls g b i h n x i' h' w0 w h1 hB e).mono ?_
  rintro e w' ⟨rfl, k1, k2, k3⟩
  exact ⟨x, rfl, ⟨⟨b, i', h', k1, a, by omega⟩, k2⟩, k3⟩
theorem once_k {w0 w : World} {g : Nat} {m : Int} (n : Int) (hn : n ≤ 4294967296) (hm : m ≤ 2000000) (hC : Cur w0 w g m) :
    Calls Try.prog 31 #[.pointer (some ⟨g, 0, none⟩), .int .i64 n] w fun e w' => ∃ r : Bool, e = .returned (.bool r) ∧ Cur w0 w' g (m + 4) ∧ KeepBut w w' g none := by
  obtain ⟨⟨b, i, h, h1, h2, h3⟩, hB⟩ := hC
  obtain ⟨x, i', h', e, a, c⟩ := once_some b i h n ⟨h2, by omega⟩ hn
  refine (spec_l01Once.calls g b i h n x i' h' w0 w h1 hB e).mono ?_
  rintro e w' ⟨rfl, k1, k2, k3⟩
  exact ⟨x, rfl, ⟨⟨b, i', h', k1, a, by omega⟩, k2⟩, k3⟩
theorem place_k {w0 w : World} {g : Nat} {m : Int} (hm : m ≤ 1800000) (hC : Cur w0 w g m) :
    Calls Try.prog 41 #[.pointer (some ⟨g, 0, none⟩)] w fun e w' => ∃ x y : Int, e = .returned (.agg #[.int .i64 x, .int .i64 y]) ∧ Cur w0 w' g (m + 16) ∧ KeepBut w w' g none := by
  obtain ⟨⟨b, i, h, h1, h2, h3⟩, hB⟩ := hC
  obtain ⟨x, y, i', h', e, a, c⟩ := place_draw b i h ⟨h2, by omega⟩
  refine (spec_l09Place.calls g b i h x y i' h' w0 w h1 hB e).mono ?_
  rintro e w' ⟨rfl, k1, k2, k3⟩
  exact ⟨x, y, rfl, ⟨⟨b, i', h', k1, a, by omega⟩, k2⟩, k3⟩
theorem line_k {w0 w : World} {g : Nat} {m : Int} (hm : m ≤ 1700000) (hC : Cur w0 w g m) :
    Calls Try.prog 40 #[.pointer (some ⟨g, 0, none⟩)] w fun e w' => ∃ p q x y : Int, e = .returned (.agg #[.int .i64 p, .int .i64 q, .int .i64 x, .int .i64 y]) ∧ Cur w0 w' g (m + 32) ∧ KeepBut w w' g none := by
  obtain ⟨⟨b, i, h, h1, h2, h3⟩, hB⟩ := hC
  obtain ⟨p, q, x, y, i', h', e, a, c⟩ := line_draw b i h ⟨h2, by omega⟩
  refine (spec_l09Line.calls g b i h p q x y i' h' w0 w h1 hB e).mono ?_
  rintro e w' ⟨rfl, k1, k2, k3⟩
  exact ⟨p, q, x, y, rfl, ⟨⟨b, i', h', k1, a, by omega⟩, k2⟩, k3⟩
theorem new_k {w0 w : World} {A0 : Option Addr} {c0 : Nat} {l0 : List Int} (hB : Below w0.heap.size w0 w) (hr0 : Kd.C (Kd.int .u8) w0 A0 l0.length l0) (hc0 : l0.length ≤ c0) (hl : l0.length ≤ 1048576) :
    Calls Try.prog 29 #[.slice A0 l0.length c0] w fun e w' => ∃ g : Nat, e = .returned (.pointer (some ⟨g, 0, none⟩)) ∧ Cur w0 w' g 0 ∧ Below w.heap.size w w' := by
  obtain ⟨h, e⟩ := new_some l0 hl (l0.length + 1) (by omega)
  refine (spec_l01New.calls (l0.length + 1) A0 c0 l0 l0 0 h w0 w hB hr0 hc0 e).mono ?_
  rintro e w' ⟨g, rfl, k1, k2, k3⟩
  exact ⟨g, rfl, ⟨⟨_, _, _, k1, by omega, by omega⟩, k2⟩, k3⟩
theorem lit_ints (w : World) (e : Nat) (xs : List Int) (cs : Array Value) (hcs : cs = (xs.map (Value.int .i64)).toArray) (hn : xs.length ≤ 1000) :
    Kd.C (Kd.int .i64) (w.alloc (.cells cs e)) (some ⟨w.heap.size, 0, none⟩) xs.length xs :=
  Kd.C_of_reads (d := (0 : Int)) (h1 := fun _ => rfl) ⟨rfl, by omega, fun _ => ⟨_, rfl, fun j hj => by
    rw [Addr.add_lit, World.cell?_alloc_at _ _ _ _ rfl, Nat.zero_add, hcs]
    simp [hj]⟩⟩
theorem pick_k {w0 w : World} {g : Nat} {m : Int} {ad : Addr} {c : Nat} {xs : List Int} (hm : m ≤ 2000000) (hC : Cur w0 w g m) (hr : Kd.C (Kd.int .i64) w (some ad) xs.length xs) (hc : xs.length ≤ c) (hx : 0 < xs.length ∧ xs.length ≤ 1000) (hg : ad.block ≠ g) :
    Calls Try.prog 49 #[.pointer (some ⟨g, 0, none⟩), .slice (some ad) xs.length c] w fun e w' => ∃ r : Int, e = .returned (.int .i64 r) ∧ Cur w0 w' g (m + 4) ∧ KeepBut w w' g none := by
  obtain ⟨⟨b, i, h, h1, h2, h3⟩, hB⟩ := hC
  obtain ⟨i', h', j, hj, e, a, c'⟩ := pick_some b i h xs ⟨h2, by omega⟩ ⟨hx.1, by omega⟩
  refine (spec_l01PickInt.calls g b i h (some ad) c xs _ i' h' w0 w h1 hB hr hc (fun ad' e' _ => by cases e'; exact hg) e).mono ?_
  rintro e w' ⟨rfl, k1, k2, k3⟩
  exact ⟨_, rfl, ⟨⟨b, i', h', k1, a, by omega⟩, k2⟩, k3⟩
abbrev box2 (x y : Int) : Obj := .cells #[.int .i64 x, .int .i64 y] 31 (0, 0)
abbrev box3 (x y s : Int) : Obj := .cells #[.int .i64 x, .int .i64 y, .int .i64 s] 44 (0, 0)
abbrev box4 (a b c d : Int) : Obj := .cells #[.int .i64 a, .int .i64 b, .int .i64 c, .int .i64 d] 33 (0, 0)
abbrev Ten (b6 b7 b8 : Nat) (a b c d x y s u v t' : Int) (w' : World) : Prop := w'.cell? ⟨b6,0,none⟩ = some (.int .i64 a) ∧ w'.cell? ⟨b6,1,none⟩ = some (.int .i64 b) ∧ w'.cell? ⟨b6,2,none⟩ = some (.int .i64 c) ∧ w'.cell? ⟨b6,3,none⟩ = some (.int .i64 d) ∧ w'.cell? ⟨b7,0,none⟩ = some (.int .i64 x) ∧ w'.cell? ⟨b7,1,none⟩ = some (.int .i64 y) ∧ w'.cell? ⟨b7,2,none⟩ = some (.int .i64 s) ∧ w'.cell? ⟨b8,0,none⟩ = some (.int .i64 u) ∧ w'.cell? ⟨b8,1,none⟩ = some (.int .i64 v) ∧ w'.cell? ⟨b8,2,none⟩ = some (.int .i64 t')
theorem Ten.drew {b6 b7 b8 : Nat} {a b c d x y s u v t' : Int} {w' : World} (h : Ten b6 b7 b8 a b c d x y s u v t' w') : Ten b6 b7 b8 a b c d x y s u v t' w'.drew := h
theorem Ten.set {b6 b7 b8 q i : Nat} {a b c d x y s u v t' : Int} {w' : World} (h : Ten b6 b7 b8 a b c d x y s u v t' w') (hq : b6 ≠ q ∧ b7 ≠ q ∧ b8 ≠ q) (z : Value) : Ten b6 b7 b8 a b c d x y s u v t' (w'.setCell ⟨q, i, none⟩ z) := by
  have e : ∀ g j, g ≠ q → (w'.setCell ⟨q, i, none⟩ z).cell? ⟨g, j, none⟩ = w'.cell? ⟨g, j, none⟩ := fun g j hg => by
    unfold World.cell?
    rw [Below.heap_setCell w' ⟨q, i, none⟩ z g hg]
  obtain ⟨e1, e2, e3⟩ := hq
  unfold Ten
  rw [e _ _ e1, e _ _ e1, e _ _ e1, e _ _ e1, e _ _ e2, e _ _ e2, e _ _ e2, e _ _ e3, e _ _ e3, e _ _ e3]
  exact h
set_option maxRecDepth 100000 in
set_option maxHeartbeats 4000000 in
theorem draw_k {w : World} {A0 : Option Addr} {c0 : Nat} {l0 : List Int} (hr0 : Kd.C (Kd.int .u8) w A0 l0.length l0) (hc0 : l0.length ≤ c0) (hl : l0.length ≤ 1048576) :
    Calls Try.prog 24 #[.slice A0 l0.length c0] w fun e w' => ∃ a b c d x y s u v t : Int, e = .returned (.tuple #[.agg #[.int .i64 a, .int .i64 b, .int .i64 c, .int .i64 d], .agg #[.int .i64 x, .int .i64 y, .int .i64 s], .agg #[.int .i64 u, .int .i64 v, .int .i64 t]]) ∧ Below w.heap.size w w' := by
  have HR := Aside0.mk hr0
  clear hr0
  go_enter Try.func24, Try.ntmps24
  go_upto_region 0 with fail
  go_cut [2, 3, 4] (fun v2 v3 v4 wc => ∃ b2 b3 b4 : Nat, v2 = .pointer (some ⟨b2, 0, none⟩) ∧ v3 = .pointer (some ⟨b3, 0, none⟩) ∧ v4 = .pointer (some ⟨b4, 0, none⟩) ∧ St w wc [(b4, box3 0 0 0), (b3, box3 0 0 0), (b2, box4 0 0 0 0)])
  case first =>
    go_wp2_with fail
    go_meet
    case rel => exact ⟨_, _, _, rfl, rfl, rfl, (St.nil (Below.refl _ _)).alloc3 _ _ _⟩
  case rest =>
    obtain ⟨b2, b3, b4, rfl, rfl, rfl, hS⟩ := hcut
    have HS := Aside0.mk hS
    clear hS
    go_wp2_with fail
    refine (new_k HS.out.below HR.out hc0 hl).mono ?_
    rintro e w1 ⟨g, rfl, hC, hb⟩
    have HS1 := Aside0.mk (HS.out.call hb)
    have HC1 := Aside0.mk hC
    clear hC hb HS
    go_upto_region 2 with fail
    go_cut [6] (fun v6 wc => ∃ (b6 : Nat) (a b c d : Int), v6 = .pointer (some ⟨b6, 0, none⟩) ∧ St w wc [(b6, box4 a b c d), (b4, box3 0 0 0), (b3, box3 0 0 0), (b2, box4 0 0 0 0)] ∧ Cur w wc g 32)
    case first =>
      go_wp2_with fail
      refine (line_k (by omega) HC1.out).mono ?_
      rintro e w2 ⟨a, b, c, d, rfl, hC, hk⟩
      have HS2 := Aside0.mk (St.cur HS1.out HC1.out hk hC rfl)
      have HC2 := Aside0.mk hC
      clear hC hk
      go_wp2_with fail
      go_meet
      case rel => exact ⟨_, a, b, c, d, rfl, HS2.out.alloc _, HC2.out.alloc _⟩
    case rest =>
      obtain ⟨b6, a, b, c, d, rfl, hS, hC⟩ := hcut
      have HS2 := Aside0.mk hS
      have HC2 := Aside0.mk hC
      clear hS hC HS1 HC1
      go_upto_region 3 with fail
      go_cut [7] (fun v7 wc => ∃ (b7 : Nat) (x y s : Int), v7 = .pointer (some ⟨b7, 0, none⟩) ∧ St w wc [(b7, box3 x y s), (b6, box4 a b c d), (b4, box3 0 0 0), (b3, box3 0 0 0), (b2, box4 0 0 0 0)] ∧ Cur w wc g 52)
      case first =>
        go_wp2_with fail
        refine (place_k (by omega) HC2.out).mono ?_
        rintro e w3 ⟨x, y, rfl, hC, hk⟩
        have HS3 := Aside0.mk (St.cur HS2.out HC2.out hk hC rfl)
        have HC3 := Aside0.mk hC
        clear hC hk
        go_wp2_with fail
        refine (below_k 500 (by omega) (by omega) HC3.out).mono ?_
        rintro e w4 ⟨s, rfl, hC, hk⟩
        have HS4 := Aside0.mk (St.cur HS3.out HC3.out hk hC rfl)
        have HC4 := Aside0.mk hC
        clear hC hk
        go_wp2_with fail
        go_meet
        case rel => exact ⟨_, x, y, s, rfl, HS4.out.alloc _, HC4.out.alloc _⟩
      case rest =>
        obtain ⟨b7, x, y, s, rfl, hS, hC⟩ := hcut
        have HS3 := Aside0.mk hS
        have HC3 := Aside0.mk hC
        clear hS hC HS2 HC2
        go_upto_region 4 with fail
        go_cut [8] (fun v8 wc => ∃ (b8 : Nat) (u v t : Int), v8 = .pointer (some ⟨b8, 0, none⟩) ∧ St w wc [(b8, box3 u v t), (b7, box3 x y s), (b6, box4 a b c d), (b4, box3 0 0 0), (b3, box3 0 0 0), (b2, box4 0 0 0 0)] ∧ Cur w wc g 72)
        case first =>
          have c7 : wc.cell? ⟨b7, 2, none⟩ = some (.int .i64 s) := HS3.out.cell 0 2 rfl
          go_region_held3 (fun w' => w'.cell? ⟨b7, 2, none⟩ = some (.int .i64 s))
            (first | exact c7 | exact k7 | exact m7 | go_keep)
            (first | (go_at_call 41; first | (refine (place_k (by omega) HC3.out.drew).mono ?_; rintro e w5 ⟨u, v, rfl, hC, hk⟩; have HS5 := Aside0.mk (St.cur HS3.out.drew HC3.out.drew hk hC rfl); have HC5 := Aside0.mk hC; have k7 : w5.cell? ⟨b7, 2, none⟩ = some (.int .i64 s) := HS5.out.cell 0 2 rfl; have k7n := World.new_ne w5 _ k7; clear hC hk) | (refine (place_k (by omega) (HC3.out.drew.alloc _)).mono ?_; rintro e w5 ⟨u, v, rfl, hC, hk⟩; have HS5 := Aside0.mk (St.cur (show St w (wc.drew.alloc (box3 0 0 0)) [(wc.heap.size, box3 0 0 0), (b7, box3 x y s), (b6, box4 a b c d), (b4, box3 0 0 0), (b3, box3 0 0 0), (b2, box4 0 0 0 0)] from HS3.out.drew.alloc _) (HC3.out.drew.alloc _) hk hC rfl); have HC5 := Aside0.mk hC; have k7 : w5.cell? ⟨b7, 2, none⟩ = some (.int .i64 s) := HS5.out.cell 1 2 rfl; have k7n := World.new_ne w5 _ k7; have z0 : w5.cell? ⟨_, 0, none⟩ = some (.int .i64 0) := HS5.out.is 0 0 rfl rfl; have z1 : w5.cell? ⟨_, 1, none⟩ = some (.int .i64 0) := HS5.out.is 0 1 rfl rfl; have z2 : w5.cell? ⟨_, 2, none⟩ = some (.int .i64 0) := HS5.out.is 0 2 rfl rfl; have f0 : w5.frozen? ⟨_, 0, none⟩ = false := HS5.out.frozen 0 0 rfl; have f1 : w5.frozen? ⟨_, 1, none⟩ = false := HS5.out.frozen 0 1 rfl; have f2 : w5.frozen? ⟨_, 2, none⟩ = false := HS5.out.frozen 0 2 rfl; have bn := HS5.out.ne 0 1 rfl rfl (by omega); clear hC hk)) | (go_at_call 30; first | (refine (below_k 300 (by omega) (by omega) HC5.out).mono ?_; rintro e w6 ⟨t, rfl, hC, hk⟩; have HS6 := Aside0.mk (St.cur HS5.out HC5.out hk hC rfl); have HC6 := Aside0.mk hC; have m7 : w6.cell? ⟨b7, 2, none⟩ = some (.int .i64 s) := HS6.out.cell 0 2 rfl; have m7n := World.new_ne w6 _ m7; clear hC hk) | (refine (below_k 300 (by omega) (by omega) (HC5.out.alloc _)).mono ?_; rintro e w6 ⟨t, rfl, hC, hk⟩; have HS6 := Aside0.mk (St.cur (HS5.out.alloc _) (HC5.out.alloc _) hk hC rfl); have HC6 := Aside0.mk hC; have m7 : w6.cell? ⟨b7, 2, none⟩ = some (.int .i64 s) := HS6.out.cell 1 2 rfl; have m7n := World.new_ne w6 _ m7; have z0 : w6.cell? ⟨_, 0, none⟩ = some (.int .i64 0) := HS6.out.is 0 0 rfl rfl; have z1 : w6.cell? ⟨_, 1, none⟩ = some (.int .i64 0) := HS6.out.is 0 1 rfl rfl; have z2 : w6.cell? ⟨_, 2, none⟩ = some (.int .i64 0) := HS6.out.is 0 2 rfl rfl; have f0 : w6.frozen? ⟨_, 0, none⟩ = false := HS6.out.frozen 0 0 rfl; have f1 : w6.frozen? ⟨_, 1, none⟩ = false := HS6.out.frozen 0 1 rfl; have f2 : w6.frozen? ⟨_, 2, none⟩ = false := HS6.out.frozen 0 2 rfl; have bn := HS6.out.ne 0 1 rfl rfl (by omega); clear hC hk) | (refine (below_k 300 (by omega) (by omega) HC5.out).mono ?_; rintro e w6 ⟨t, rfl, hC, hk⟩; have HS6 := Aside0.mk (St.cur HS5.out HC5.out hk hC rfl); have HC6 := Aside0.mk hC; have m7 : w6.cell? ⟨b7, 2, none⟩ = some (.int .i64 s) := HS6.out.cell 1 2 rfl; have m7n := World.new_ne w6 _ m7; have z0 : w6.cell? ⟨_, 0, none⟩ = some (.int .i64 0) := HS6.out.is 0 0 rfl rfl; have z1 : w6.cell? ⟨_, 1, none⟩ = some (.int .i64 0) := HS6.out.is 0 1 rfl rfl; have z2 : w6.cell? ⟨_, 2, none⟩ = some (.int .i64 0) := HS6.out.is 0 2 rfl rfl; have f0 : w6.frozen? ⟨_, 0, none⟩ = false := HS6.out.frozen 0 0 rfl; have f1 : w6.frozen? ⟨_, 1, none⟩ = false := HS6.out.frozen 0 1 rfl; have f2 : w6.frozen? ⟨_, 2, none⟩ = false := HS6.out.frozen 0 2 rfl; have bn := HS6.out.ne 0 1 rfl rfl (by omega); clear hC hk)))
          all_goals go_wp2_with fail
          all_goals go_meet
          all_goals first | exact ⟨_, _, _, _, rfl, HS6.out.alloc _, HC6.out.alloc _⟩ | exact ⟨_, _, _, _, rfl, both_put (both_put (both_put ⟨HS6.out, HC6.out⟩ 0 0 rfl rfl _) 0 1 rfl rfl _) 0 2 rfl rfl _⟩
        case rest =>
          obtain ⟨b8, u, v, t, rfl, hS, hC⟩ := hcut
          have HS4 := Aside0.mk hS
          have HC4 := Aside0.mk hC
          clear hS hC HS3 HC3
          go_upto_if 27 with (first | (go_at_call 31; refine (once_k 20 (by omega) (by omega) HC4.out).mono ?_; rintro e w5 ⟨r, rfl, hC, hk⟩; have HS5 := Aside0.mk (St.cur HS4.out HC4.out hk hC rfl); have HC5 := Aside0.mk hC; clear hC hk HS4 HC4))
          go_cut [] (fun wc => ∃ t' : Int, St w wc [(b8, box3 u v t'), (b7, box3 x y s), (b6, box4 a b c d), (b4, box3 0 0 0), (b3, box3 0 0 0), (b2, box4 0 0 0 0)])
          case first =>
            cases r
            · go_wp2_with fail
              go_meet
              case rel => exact ⟨_, HS5.out⟩
            · obtain ⟨x0, x1, x2, x3, x4, x5⟩ := HS5.out.b3 0 rfl
              clear x0 x1 x2 x3 x4 x5
              go_wp2_with fail
              refine (pick_k (xs := [10000000, 10000001, 9223372036854775807, -1]) (c := 4) (by omega) (HC5.out.alloc _) (lit_ints _ _ _ _ rfl (by decide)) (by decide) (by decide) (Nat.ne_of_gt HC5.out.lt)).mono ?_
              rintro e w6 ⟨z, rfl, hC, hk⟩
              have HS6 := Aside0.mk (St.cur (HS5.out.call (below_alloc (Below.refl _ _) _)) (HC5.out.alloc _) hk hC rfl)
              clear hC hk
              obtain ⟨x0, x1, x2, x3, x4, x5⟩ := HS6.out.b3 0 rfl
              go_wp2_with fail
              go_meet
              case rel => exact ⟨_, HS6.out.put 0 2 rfl _⟩
          case rest =>
            obtain ⟨t', hS⟩ := hcut
            have HS5 := Aside0.mk hS
            clear hS
            obtain ⟨x0, x1, x2, _⟩ := HS5.out.b3 0 rfl
            obtain ⟨y0, y1, y2, _⟩ := HS5.out.b3 1 rfl
            obtain ⟨l0, l1, l2, l3, _⟩ := HS5.out.b4 2 rfl
            obtain ⟨p0, p1, p2, p3, p4, p5⟩ := HS5.out.b3 3 rfl
            obtain ⟨q0, q1, q2, q3, q4, q5⟩ := HS5.out.b3 4 rfl
            obtain ⟨r0, r1, r2, r3, r4, r5, r6, r7⟩ := HS5.out.b4 5 rfl
            have n1 : b8 ≠ b4 := HS5.out.ne 0 3 rfl rfl (by decide)
            have m1 := n1.symm
            have n2 : b8 ≠ b3 := HS5.out.ne 0 4 rfl rfl (by decide)
            have m2 := n2.symm
            have n3 : b8 ≠ b2 := HS5.out.ne 0 5 rfl rfl (by decide)
            have m3 := n3.symm
            have n4 : b7 ≠ b4 := HS5.out.ne 1 3 rfl rfl (by decide)
            have m4 := n4.symm
            have n5 : b7 ≠ b3 := HS5.out.ne 1 4 rfl rfl (by decide)
            have m5 := n5.symm
            have n6 : b7 ≠ b2 := HS5.out.ne 1 5 rfl rfl (by decide)
            have m6 := n6.symm
            have n7 : b6 ≠ b4 := HS5.out.ne 2 3 rfl rfl (by decide)
            have m7 := n7.symm
            have n8 : b6 ≠ b3 := HS5.out.ne 2 4 rfl rfl (by decide)
            have m8 := n8.symm
            have n9 : b6 ≠ b2 := HS5.out.ne 2 5 rfl rfl (by decide)
            have m9 := n9.symm
            have n10 : b4 ≠ b3 := HS5.out.ne 3 4 rfl rfl (by decide)
            have m10 := n10.symm
            have n11 : b4 ≠ b2 := HS5.out.ne 3 5 rfl rfl (by decide)
            have m11 := n11.symm
            have n12 : b3 ≠ b2 := HS5.out.ne 4 5 rfl rfl (by decide)
            have m12 := n12.symm
            have hT : Ten b6 b7 b8 a b c d x y s u v t' wc := ⟨l0, l1, l2, l3, y0, y1, y2, x0, x1, x2⟩
            have hT1 := fun z0 z1 z2 z3 => (((Ten.set (i := 0) hT ⟨n9, n6, n3⟩ z0).set (i := 1) ⟨n9, n6, n3⟩ z1).set (i := 2) ⟨n9, n6, n3⟩ z2).set (i := 3) ⟨n9, n6, n3⟩ z3
            have hT2 := fun z0 z1 z2 z3 y0 y1 y2 => (((hT1 z0 z1 z2 z3).set (i := 0) ⟨n8, n5, n2⟩ y0).set (i := 1) ⟨n8, n5, n2⟩ y1).set (i := 2) ⟨n8, n5, n2⟩ y2
            have hT3 := fun z0 z1 z2 z3 y0 y1 y2 x0 x1 x2 => (((hT2 z0 z1 z2 z3 y0 y1 y2).set (i := 0) ⟨n7, n4, n1⟩ x0).set (i := 1) ⟨n7, n4, n1⟩ x1).set (i := 2) ⟨n7, n4, n1⟩ x2
            have h1 := Aside0.mk hT.drew
            have h2 := Aside0.mk (fun z0 z1 z2 z3 => (hT1 z0 z1 z2 z3).drew)
            have h3 := Aside0.mk (fun z0 z1 z2 z3 y0 y1 y2 => (hT2 z0 z1 z2 z3 y0 y1 y2).drew)
            have h4 := Aside0.mk (fun z0 z1 z2 z3 y0 y1 y2 x0 x1 x2 => (hT3 z0 z1 z2 z3 y0 y1 y2 x0 x1 x2).drew)
            clear hT hT1 hT2 hT3
            go_wp2_with fail
            go_region_held3 (fun w' => w'.cell? ⟨b6,0,none⟩ = some (.int .i64 a) ∧ w'.cell? ⟨b6,1,none⟩ = some (.int .i64 b) ∧ w'.cell? ⟨b6,2,none⟩ = some (.int .i64 c) ∧ w'.cell? ⟨b6,3,none⟩ = some (.int .i64 d) ∧ w'.cell? ⟨b7,0,none⟩ = some (.int .i64 x) ∧ w'.cell? ⟨b7,1,none⟩ = some (.int .i64 y) ∧ w'.cell? ⟨b7,2,none⟩ = some (.int .i64 s) ∧ w'.cell? ⟨b8,0,none⟩ = some (.int .i64 u) ∧ w'.cell? ⟨b8,1,none⟩ = some (.int .i64 v) ∧ w'.cell? ⟨b8,2,none⟩ = some (.int .i64 t')) (with_reducible first | exact h1.out | exact h2.out _ _ _ _ | exact h3.out _ _ _ _ _ _ _ | exact h4.out _ _ _ _ _ _ _ _ _ _) (fail)
            have HF := (((HS5.out.fill4 5 rfl (.int .i64 a) (.int .i64 b) (.int .i64 c) (.int .i64 d)).fill3 4 rfl (.int .i64 x) (.int .i64 y) (.int .i64 s)).fill3 3 rfl (.int .i64 u) (.int .i64 v) (.int .i64 t')).drew
            have E5 := HF.box 5 (g := b2) (o := box4 a b c d) rfl
            have E4 := HF.box 4 (g := b3) (o := box3 x y s) rfl
            have E3 := HF.box 3 (g := b4) (o := box3 u v t') rfl
            have BL := HF.below
            clear HF
            go_wp2_with fail
            refine bodyPost_ret (results_list (rs := [.cell 2 33, .cell 3 44, .cell 4 44]) rfl (by simp) (.cell b2 33 #[.int .i64 a, .int .i64 b, .int .i64 c, .int .i64 d] (0, 0) _ rfl E5 Try.underlying33 rfl (by kernel_rfl) (.cell b3 44 #[.int .i64 x, .int .i64 y, .int .i64 s] (0, 0) _ rfl E4 Try.underlying44 rfl (by kernel_rfl) (.cell b4 44 #[.int .i64 u, .int .i64 v, .int .i64 t'] (0, 0) _ rfl E3 Try.underlying44 rfl (by kernel_rfl) .nil)))) rfl ?_
            exact ⟨_, _, _, _, _, _, _, _, _, _, rfl, BL⟩
end Go.Proofs.Ytfllkcmmaibijaa.Cud
