/- The speed made up a wind: both sides. -/
import Derived.Test.YteaiaedhkhmgdaaGreatPolB
namespace Go.Proofs.YteaiaedhkhmgdaaGreat.Mu
open Go.RowKit Kit Fl Bd Tn Pf Pw
/-- the first part of a turn can be narrowed, and is small -/
def okU (z : Nat × Nat) : Bool := (floatToFloatBits .f64 z.1 .f32).isSome && bndB .f32 1 (cv .f64 z.1 .f32)
def chkU : Nat → Nat × Nat → Bool
  | 0, _ => true
  | n + 1, z => okU z && chkU n (st z)
theorem chkU_all : chkU 360 (tb 0) = true := by decide +kernel
theorem chkU_get : ∀ (n i k : Nat), chkU n (tb k) = true → i < n → okU (tb (k + i)) = true := by
  intro n
  induction n with
  | zero => intro i k _ h; omega
  | succ n ih =>
    intro i k h hi
    simp only [chkU, Bool.and_eq_true] at h
    cases i with
    | zero => exact h.1
    | succ i =>
      have := ih i (k + 1) h.2 (by omega)
      rw [show k + (i + 1) = k + 1 + i by omega]; exact this
theorem okU_tb (i : Nat) (h : i < 360) : okU (tb i) = true := by
  have := chkU_get 360 i 0 chkU_all h
  rwa [Nat.zero_add] at this
def upZ (d : Pol) (x : Nat) (g : Int) (z : Nat × Nat) : Nat := fl .mul .f32 (speedF d x g) (cv .f64 z.1 .f32)
structure UpOk (d : Pol) (x : Nat) (g : Int) (z : Nat × Nat) : Prop where
  c : (floatToFloatBits .f64 z.1 .f32).isSome = true
  m : (floatBits .mul .f32 (speedF d x g) (cv .f64 z.1 .f32)).isSome = true
  n : Num FloatKind.f32.format (upZ d x g z)
theorem upOk {d : Pol} (h : Okp d) {x : Nat} (hx : airB x = true) {g : Int} (g0 : 0 ≤ g) (g1 : g ≤ 180) {z : Nat × Nat} (hz : okU z = true) : UpOk d x g z := by
  unfold okU at hz
  rw [Bool.and_eq_true] at hz
  have S := speed_num h hx g0 g1
  have T := bnd_lit hz.2
  exact ⟨hz.1, S.mulS T, (S.mul T (by rw [least32]; omega) (by rw [reach32]; omega)).num⟩
set_option maxRecDepth 100000 in
theorem impl_up {w : World} {A0 A1 A2 : Option Addr} {c0 c1 c2 : Nat} {d : Pol} {x : Nat} {g : Int} {z : Nat × Nat} (hP : PolAt w A0 A1 A2 d) (ok : Okp d) (hx : airB x = true) (g0 : 0 ≤ g) (g1 : g ≤ 180) (hz : okU z = true) :
    Calls Tryz.prog 25 #[.agg #[.slice A0 d.ws.length c0, .slice A1 d.an.length c1, .slice A2 d.rows.length c2], .float .f32 x, .int .i64 g, .complex .f64 z.1 z.2] w fun e w' => e = .returned (.float .f32 (upZ d x g z)) ∧ Below w.heap.size w w' := by
  obtain ⟨W, hW, hX⟩ := boxed (c0 := c0) (c1 := c1) (c2 := c2) hP
  have HX := Lib.hid hX
  obtain ⟨u1, u2, _⟩ := upOk ok hx g0 g1 hz
  have HO := Lib.hid ok
  have HA := Lib.hid hx
  clear hP hX ok hx
  go_enter Tryz.func25, Tryz.ntmps25
  go_upto_region 1 with fail
  rw [← hW]
  clear hW
  obtain ⟨x0, x1, x2⟩ := HX.out.of
  go_wp2_with fail
  refine (impl_speedAt HX.out.p HO.out HA.out g0 g1).mono ?_
  rintro e w1 ⟨rfl, hb⟩
  have HY := Lib.hid (HX.out.to hb)
  clear hb
  go_wp2_with fail
  go_ret
  exact ⟨rfl, HY.out.b⟩
def upF (d : Pol) (x : Nat) (g : Int) : Nat := upZ d x g (tb (deg g))
noncomputable def made (d : Pol) (x : Nat) (g : Int) : Array Value := if okS d x g = true then #[.float .f32 (upF d x g), .bool true] else #[.float .f32 0, .bool false]
theorem made_no {d : Pol} {x : Nat} {g : Int} (h : okS d x g = false) : made d x g = #[.float .f32 0, .bool false] := by unfold made; rw [h]; rfl
theorem made_yes {d : Pol} {x : Nat} {g : Int} (h : okS d x g = true) : made d x g = #[.float .f32 (upF d x g), .bool true] := by unfold made; rw [if_pos h]
theorem okS_get {d : Pol} {x : Nat} {g : Int} (h : okS d x g = true) : Okp d ∧ airB x = true ∧ 0 ≤ g ∧ g ≤ 180 := by
  unfold Pw.okS at h
  simp only [Bool.and_eq_true, decide_eq_true_eq] at h
  exact ⟨okB_iff.1 h.1, h.2.1, h.2.2⟩
theorem okS_at {d : Pol} {x : Nat} {g k : Int} (h : okS d x g = true) (k0 : 0 ≤ k) (k1 : k ≤ 180) : okS d x k = true := by
  obtain ⟨h1, h2, _⟩ := okS_get h
  unfold Pw.okS
  rw [okB_iff.2 h1, h2, decide_eq_true k0, decide_eq_true k1]; rfl
theorem okS_any {d : Pol} {x : Nat} {g k : Int} (h : okS d x g = false) (g0 : 0 ≤ g) (g1 : g ≤ 180) : okS d x k = false := by
  cases e : okS d x k
  · rfl
  · rw [okS_at e g0 g1] at h; cases h
set_option maxRecDepth 100000 in
set_option maxHeartbeats 1000000 in
theorem spec_MadeUp {w : World} {A0 A1 A2 : Option Addr} {c0 c1 c2 : Nat} {d : Pol} (x : Nat) (g : Int) (hP : PolAt w A0 A1 A2 d) :
    Calls Tryz.prog 80 #[.agg #[.slice A0 d.ws.length c0, .slice A1 d.an.length c1, .slice A2 d.rows.length c2], .float .f32 x, .int .i64 g] w fun e w' => e = .returned (.tuple (made d x g)) ∧ Below w.heap.size w w' := by
  obtain ⟨W, hW, hX⟩ := boxed (c0 := c0) (c1 := c1) (c2 := c2) hP
  have HX := Lib.hid hX
  clear hP hX
  cases ho : okS d x g
  · have HT := Lib.hid (told_no ho)
    have HN := Lib.hid (made_no ho)
    clear ho
    go_enter Tryz.func80, Tryz.ntmps80
    go_upto_region 1 with fail
    rw [← hW]
    clear hW
    obtain ⟨x0, x1, x2⟩ := HX.out.of
    go_wp2_with fail
    refine (spec_SpeedAt x g HX.out.p).mono ?_
    rintro e w1 ⟨rfl, hb⟩
    have HY := Lib.hid (HX.out.to hb)
    clear hb
    rw [HT.out]
    go_wp2_with fail
    go_ret2
    exact ⟨by rw [HN.out]; rfl, HY.out.b⟩
  · have HT := Lib.hid (told_yes ho)
    have HN := Lib.hid (made_yes ho)
    obtain ⟨o1, o2, o3, o4⟩ := okS_get ho
    obtain ⟨u1, u2, _⟩ := upOk o1 o2 o3 o4 (okU_tb (deg g) (deg_lt g))
    clear ho o1 o2
    go_enter Tryz.func80, Tryz.ntmps80
    go_upto_region 1 with fail
    rw [← hW]
    clear hW
    obtain ⟨x0, x1, x2⟩ := HX.out.of
    go_wp2_with fail
    refine (spec_SpeedAt x g HX.out.p).mono ?_
    rintro e w1 ⟨rfl, hb⟩
    have HY := Lib.hid (HX.out.to hb)
    clear hb
    rw [HT.out]
    go_wp2_with (go_at_call 20; refine (spec_Turn _ _).mono ?_; rintro e w' ⟨rfl, rfl⟩)
    go_ret2
    exact ⟨by rw [HN.out]; rfl, HY.out.b⟩
set_option maxRecDepth 100000 in
set_option maxHeartbeats 1000000 in
theorem impl_MadeUp {w : World} {A0 A1 A2 : Option Addr} {c0 c1 c2 : Nat} {d : Pol} (x : Nat) (g : Int) (hP : PolAt w A0 A1 A2 d) :
    Calls Tryz.prog 22 #[.agg #[.slice A0 d.ws.length c0, .slice A1 d.an.length c1, .slice A2 d.rows.length c2], .float .f32 x, .int .i64 g] w fun e w' => e = .returned (.tuple (made d x g)) ∧ Below w.heap.size w w' := by
  obtain ⟨W, hW, hX⟩ := boxed (c0 := c0) (c1 := c1) (c2 := c2) hP
  have HX := Lib.hid hX
  clear hP hX
  cases ho : okS d x g
  · have HT := Lib.hid (told_no ho)
    have HN := Lib.hid (made_no ho)
    clear ho
    go_enter Tryz.func22, Tryz.ntmps22
    go_upto_region 1 with fail
    rw [← hW]
    clear hW
    obtain ⟨x0, x1, x2⟩ := HX.out.of
    go_wp2_with fail
    refine (impl_SpeedAt x g HX.out.p).mono ?_
    rintro e w1 ⟨rfl, hb⟩
    have HY := Lib.hid (HX.out.to hb)
    clear hb
    rw [HT.out]
    go_wp2_with fail
    go_ret2
    exact ⟨by rw [HN.out]; rfl, HY.out.b⟩
  · have HT := Lib.hid (told_yes ho)
    have HN := Lib.hid (made_yes ho)
    have HO := Lib.hid (okS_get ho)
    have HU := Lib.hid (okU_tb (deg g) (deg_lt g))
    clear ho
    go_enter Tryz.func22, Tryz.ntmps22
    go_upto_region 1 with fail
    rw [← hW]
    clear hW
    obtain ⟨x0, x1, x2⟩ := HX.out.of
    go_wp2_with fail
    refine (impl_SpeedAt x g HX.out.p).mono ?_
    rintro e w1 ⟨rfl, hb⟩
    have HY := Lib.hid (HX.out.to hb)
    clear hb x0 x1 x2 HX
    rw [HT.out]
    go_wp2_with fail
    obtain ⟨x0, x1, x2⟩ := HY.out.of
    go_region_held3 (fun v => v.cell? ⟨w.heap.size, 0, none⟩ = some (.slice A0 d.ws.length c0) ∧ v.cell? ⟨w.heap.size, 1, none⟩ = some (.slice A1 d.an.length c1) ∧ v.cell? ⟨w.heap.size, 2, none⟩ = some (.slice A2 d.rows.length c2) ∧ Boxed w v A0 A1 A2 c0 c1 c2 d)
      (first | exact ⟨x0, x1, x2, HY.out⟩ | exact ⟨x0, x1, x2, HY.out.drewN 1⟩ | assumption | (go_split_ands; exact ⟨kc hb (by assumption), kc hb (by assumption), kc hb (by assumption), Boxed.to (by assumption) hb⟩))
      (first | (go_at_call 54; refine (impl_Turn _ _).mono ?_; rintro e w1 ⟨rfl, rfl⟩) | (go_at_call 25; refine (impl_up (Boxed.p (by first | exact HY.out | exact HY.out.drewN 1 | (go_split_ands; assumption))) HO.out.1 HO.out.2.1 HO.out.2.2.1 HO.out.2.2.2 HU.out).mono ?_; rintro e w1 ⟨rfl, hb⟩))
    all_goals (rename_i hH; have HZ := Lib.hid hH.2.2.2; clear hH)
    all_goals go_wp2_with fail
    all_goals go_ret2
    all_goals exact ⟨by rw [HN.out]; rfl, HZ.out.b⟩
theorem neg_read (x : Nat) : FloatKind.f32.format.read (Op.negFloat .f32 x) = match FloatKind.f32.format.read x with | .number s m e => .number (!s) m e | .infinity s => .infinity (!s) | .nan s t => .nan (!s) t := by
  have hn : Op.negFloat .f32 x = x ^^^ 2 ^ 31 := rfl
  have hS : FloatKind.f32.format.signWeight = 2 ^ 31 := by decide
  have e1 : (x ^^^ 2 ^ 31) % 2 ^ 31 = x % 2 ^ 31 := by
    rw [Nat.xor_mod_two_pow, Nat.mod_self, Nat.xor_zero]
  have e2 : (x ^^^ 2 ^ 31) / 2 ^ 31 % 2 = 1 - x / 2 ^ 31 % 2 := by
    rw [Nat.xor_div_two_pow, Nat.div_self (by decide)]
    have h1 := Nat.xor_mod_two_pow (a := x / 2 ^ 31) (b := 1) (n := 1)
    rw [Nat.pow_one] at h1
    rw [h1]
    have : x / 2 ^ 31 % 2 < 2 := Nat.mod_lt _ (by decide)
    generalize x / 2 ^ 31 % 2 = t at *
    have : t = 0 ∨ t = 1 := by omega
    rcases this with rfl | rfl <;> decide
  rw [hn]
  unfold Ieee.Format.read
  rw [hS, e1, e2]
  dsimp only
  have hs : (1 - x / 2 ^ 31 % 2 == 1) = !(x / 2 ^ 31 % 2 == 1) := by
    have : x / 2 ^ 31 % 2 < 2 := Nat.mod_lt _ (by decide)
    generalize x / 2 ^ 31 % 2 = t at *
    have : t = 0 ∨ t = 1 := by omega
    rcases this with rfl | rfl <;> decide
  rw [hs]
  generalize x % 2 ^ 31 = r
  split
  · rfl
  · split
    · rfl
    · split <;> rfl
theorem neg_num {x : Nat} (h : Num FloatKind.f32.format x) : Num FloatKind.f32.format (Op.negFloat .f32 x) ∧ V FloatKind.f32.format (Op.negFloat .f32 x) = -V FloatKind.f32.format x := by
  obtain ⟨s, m, e, hx⟩ := h
  have hn := neg_read x
  rw [hx] at hn
  exact ⟨⟨_, _, _, hn⟩, by rw [V_of hn, V_of hx, sval_opp]⟩
end Go.Proofs.YteaiaedhkhmgdaaGreat.Mu
