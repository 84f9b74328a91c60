/- Without a stream the heading that makes a track good is the track: in numbers, for every speed from a half to fifty. -/
import Derived.Test.YtpapcohenejpmaaTrig
import Derived.Test.YtpapcohenejpmaaAp
import Derived.Test.YtpapcohenejpmaaLeast
namespace Go.Proofs.Ytpapcohenejpmaa.St
open Go.RowKit Kit Fl Bd Tn Vl Sc Al Ss Le Tr Ap
theorem g32 (b : Rat) (h : 0 ≤ b) : gap .f32 b ≤ b / 4194304 + 1 / 1000000000000000 := by
  have e1 : p2 (-(FloatKind.f32.format.fractionBits : Int)) = 1 / 8388608 := by decide +kernel
  have e2 : p2 FloatKind.f32.format.leastPlace ≤ 1 / 1000000000000000 := by decide +kernel
  unfold gap
  rw [e1]
  grind
theorem g64 (b : Rat) (h : 0 ≤ b) : gap .f64 b ≤ b / 4194304 + 1 / 1000000000000000 := by
  have e1 : p2 (-(FloatKind.f64.format.fractionBits : Int)) = 1 / 4503599627370496 := by decide +kernel
  have e2 : p2 FloatKind.f64.format.leastPlace ≤ 1 / 1000000000000000 := by decide +kernel
  unfold gap
  rw [e1]
  grind
theorem r32 : (1000 : Rat) < p2 (reach FloatKind.f32.format) := by
  have h1 : reach FloatKind.f32.format = 127 := by decide
  have h2 : p2 (10 : Int) = 1024 := by decide +kernel
  have h3 : p2 (10 : Int) < p2 127 := p2_lt (by omega)
  rw [h1]; grind
theorem r64 : (1000 : Rat) < p2 (reach FloatKind.f64.format) := by
  have h1 : reach FloatKind.f64.format = 1023 := by decide
  have h2 : p2 (10 : Int) = 1024 := by decide +kernel
  have h3 : p2 (10 : Int) < p2 1023 := p2_lt (by omega)
  rw [h1]; grind
theorem v32_0 : V FloatKind.f32.format 0 = 0 := by
  rw [V_of (show FloatKind.f32.format.read 0 = .number false 0 (-149) by decide +kernel)]
  simp [sval]
theorem zero32 : Ap .f32 0 0 0 0 := by
  have := v32_0
  exact ⟨num_iff.2 (by decide), by grind, by grind, by grind, by grind, by grind, by grind⟩
/-- the velocity's part, from the turn's -/
theorem part {x s : Nat} {r S : Rat} (hx : Num FloatKind.f32.format x) (h1 : r - 1 / 33554432 ≤ V FloatKind.f32.format x) (h2 : V FloatKind.f32.format x ≤ r + 1 / 33554432) (h3 : -(1 + 1 / 1000000000) ≤ r) (h4 : r ≤ 1 + 1 / 1000000000)
    (hs : Num FloatKind.f32.format s) (hS : V FloatKind.f32.format s = S) (l1 : 1 / 2 ≤ S) (l2 : S ≤ 64) : Ap .f64 (r * S) (S / 2000000) (13 / 10 * S) (cv .f32 (fl .add .f32 (fl .mul .f32 x s) 0) .f64) := by
  have a1 : Ap .f32 r (1 / 33554432) (11 / 10) x := ⟨hx, h1, h2, by grind, by grind, by grind, by grind⟩
  have a2 : Ap .f32 S 0 S s := by rw [← hS]; exact Ap.exact hs (by grind) (by grind)
  have R := r32
  have g1 := g32 (11 / 10 * S) (by grind)
  have a3 := a1.mul a2 (S / 4000000) (12 / 10 * S) (by grind) (by grind) (by grind)
  have g2 := g32 (12 / 10 * S + 0) (by grind)
  have a4 := a3.add zero32 (S / 2000000) (13 / 10 * S) (by grind) (by grind) (by grind)
  exact (a4.to (Rat.add_zero _)).wide
theorem dots {t : Nat × Nat} {u v : Nat} {a b r i S : Rat} (h1 : Num FloatKind.f64.format t.1) (h2 : Num FloatKind.f64.format t.2) (e1 : V FloatKind.f64.format t.1 = a) (e2 : V FloatKind.f64.format t.2 = b)
    (a1 : -(1 + 1 / 1000000000) ≤ a) (a2 : a ≤ 1 + 1 / 1000000000) (b1 : -(1 + 1 / 1000000000) ≤ b) (b2 : b ≤ 1 + 1 / 1000000000)
    (hu : Ap .f64 (r * S) (S / 2000000) (13 / 10 * S) u) (hv : Ap .f64 (i * S) (S / 2000000) (13 / 10 * S) v) (l1 : 1 / 2 ≤ S) (l2 : S ≤ 64) :
    Ap .f64 (a * (i * S) - b * (r * S)) (S / 200000) (4 * S) (crossP t (u, v)) ∧ Ap .f64 (a * (r * S) + b * (i * S)) (S / 200000) (4 * S) (dotP t (u, v)) := by
  have R := r64
  have A : Ap .f64 a 0 (11 / 10) t.1 := ⟨h1, by grind, by grind, by grind, by grind, by grind, by grind⟩
  have B : Ap .f64 b 0 (11 / 10) t.2 := ⟨h2, by grind, by grind, by grind, by grind, by grind, by grind⟩
  have g1 := g64 (11 / 10 * (13 / 10 * S)) (by grind)
  have m1 := A.mul hv (S / 1000000) (15 / 10 * S) (by grind) (by grind) (by grind)
  have m2 := B.mul hu (S / 1000000) (15 / 10 * S) (by grind) (by grind) (by grind)
  have m3 := A.mul hu (S / 1000000) (15 / 10 * S) (by grind) (by grind) (by grind)
  have m4 := B.mul hv (S / 1000000) (15 / 10 * S) (by grind) (by grind) (by grind)
  have g2 := g64 (15 / 10 * S + 15 / 10 * S) (by grind)
  exact ⟨m1.sub m2 _ _ (by grind) (by grind) (by grind), m3.add m4 _ _ (by grind) (by grind) (by grind)⟩
theorem both {T k s : Nat} {S : Rat} (hT : T < 360) (hk : k < 360) (hs : Num FloatKind.f32.format s) (hS : V FloatKind.f32.format s = S) (l1 : 1 / 2 ≤ S) (l2 : S ≤ 64) :
    Ap .f64 (re T * (im k * S) - im T * (re k * S)) (S / 200000) (4 * S) (crossP (tb T) (wk (tb k) s 0 0)) ∧ Ap .f64 (re T * (re k * S) + im T * (im k * S)) (S / 200000) (4 * S) (dotP (tb T) (wk (tb k) s 0 0)) := by
  obtain ⟨⟨n1, n2, n3⟩, n4, n5, n6⟩ := narrow_at k hk
  have z := size k hk
  have zT := size T hT
  have p1 := part n1 n2 n3 z.r2 z.r1 hs hS l1 l2
  have p2 := part n4 n5 n6 z.i2 z.i1 hs hS l1 l2
  obtain ⟨t1, t2, _, _⟩ := tab_at T hT
  exact dots t1 t2 rfl rfl zT.r2 zT.r1 zT.i2 zT.i1 p1 p2 l1 l2
theorem abs_val {x : Nat} (h : Num FloatKind.f64.format x) : V FloatKind.f64.format x ≤ V FloatKind.f64.format (x % 2 ^ 63) ∧ -(V FloatKind.f64.format x) ≤ V FloatKind.f64.format (x % 2 ^ 63) ∧ (V FloatKind.f64.format (x % 2 ^ 63) = V FloatKind.f64.format x ∨ V FloatKind.f64.format (x % 2 ^ 63) = -(V FloatKind.f64.format x)) := by
  obtain ⟨s, m, e, hr⟩ := h
  have ha := read_abs x
  rw [hr] at ha
  have hm : 0 ≤ (m : Rat) * p2 e := Rat.mul_nonneg (by exact_mod_cast Nat.zero_le m) (Rat.le_of_lt (p2_pos e))
  rw [V_of ha, V_of hr]
  unfold sval
  cases s <;> simp only [Bool.false_eq_true, if_false, if_true] <;> refine ⟨?_, ?_, ?_⟩ <;> grind
/-- a speed from a half to fifty -/
theorem speed_of {s : Nat} (h1 : (FloatKind.f32.format.order s 1056964608 == some .gt || FloatKind.f32.format.order s 1056964608 == some .eq) = true) (h2 : (FloatKind.f32.format.order s 1112014848 == some .lt || FloatKind.f32.format.order s 1112014848 == some .eq) = true) : speedB s = true ∧ 1 / 2 ≤ V FloatKind.f32.format s ∧ V FloatKind.f32.format s ≤ 64 := by
  have h0 : Num FloatKind.f32.format 0 := num_iff.2 (by decide +kernel)
  have hh : Num FloatKind.f32.format 1056964608 := num_iff.2 (by decide +kernel)
  have h50 : Num FloatKind.f32.format 1112014848 := num_iff.2 (by decide +kernel)
  have vh : V FloatKind.f32.format 1056964608 = 1 / 2 := by
    rw [V_of (show FloatKind.f32.format.read 1056964608 = .number false 8388608 (-24) by decide +kernel)]
    have : p2 (-24) = 1 / 16777216 := by decide +kernel
    simp [sval, this]; decide +kernel
  have hs : Num FloatKind.f32.format s := num_between hh h50 (by simpa using h1) (by simpa using h2)
  rw [gtr_num hs hh, eql_num hs hh, vh] at h1
  simp only [Bool.or_eq_true, decide_eq_true_eq] at h1
  have l1 : 1 / 2 ≤ V FloatKind.f32.format s := by grind
  have sp : speedB s = true := by
    unfold speedB
    rw [h2, gtr_num hs h0, v32_0, decide_eq_true (show (0 : Rat) < V FloatKind.f32.format s by grind)]
    rfl
  refine ⟨sp, l1, ?_⟩
  have := (bnd_speed sp).hi
  have : p2 (6 : Int) = 64 := by decide +kernel
  grind
theorem w100_0 : within100 0 = true := by decide +kernel
theorem still {t : Int} {s : Nat} (h1 : (FloatKind.f32.format.order s 1056964608 == some .gt || FloatKind.f32.format.order s 1056964608 == some .eq) = true) (h2 : (FloatKind.f32.format.order s 1112014848 == some .lt || FloatKind.f32.format.order s 1112014848 == some .eq) = true) : headB t s 0 0 = true ∧ headN t s 0 0 = (deg t : Int) := by
  obtain ⟨sp, l1, l2⟩ := speed_of h1 h2
  have hT := deg_lt t
  have hok : okR s 0 0 = true := by unfold okR; rw [sp, w100_0]; rfl
  have F : ∀ k, k < 360 → Sure (tb (deg t)) (tb k) s 0 0 := fun k hk => sure (bt_tb _ hT) (bt_tb k hk) sp w100_0 w100_0
  have hs := speed_num sp
  unfold headB headN
  rw [hok, if_pos rfl, Bool.true_and]
  generalize deg t = T at *
  generalize hS : V FloatKind.f32.format s = S at *
  have N := fun k (hk : k < 360) => both (T := T) (k := k) hT hk hs hS l1 l2
  have n0 : Num FloatKind.f64.format 0 := num_iff.2 (by decide)
  have v0 : V FloatKind.f64.format 0 = 0 := by
    rw [V_of (show FloatKind.f64.format.read 0 = .number false 0 (-1074) by decide +kernel)]
    simp [sval]
  have gt_of : ∀ k, k < 360 → (gtD (tb T) s 0 0 k = true ↔ 0 < V FloatKind.f64.format (dotP (tb T) (wk (tb k) s 0 0))) := fun k hk => by
    unfold gtD
    rw [gtr_num (N k hk).2.num n0, v0, decide_eq_true_eq]
  have hself : gtD (tb T) s 0 0 T = true := by
    rw [gt_of T hT]
    have a := (N T hT).2.lo
    have b := alike hT
    have c := mul_le_of (show 0 ≤ S by grind) b
    grind
  have hsome : someB (tb T) s 0 0 360 = true := by
    cases q : someB (tb T) s 0 0 360
    · have := some_false 360 q T hT
      rw [hself] at this; cases this
    · rfl
  refine ⟨hsome, ?_⟩
  have hr := run_some (tb T) s 0 0 360
  rw [hsome] at hr
  have h0 := of_decide_eq_true hr
  obtain ⟨b, b1, b2, b3, _, b5⟩ := best_run (tb T) s 0 0 F 360 (Nat.le_refl _) h0
  have hb := b5 T hT hself
  have hle : A (tb T) s 0 0 b ≤ A (tb T) s 0 0 T := by rcases hb with h | h <;> grind
  have eb : b = T := by
    by_cases e : T = b
    · exact e.symm
    · exfalso
      by_cases o : T = b + 180 ∨ b = T + 180
      · have op := opposite hT b2 o
        have g := (gt_of b b2).1 b3
        have c := mul_le_of (show 0 ≤ S by grind) op
        have a := (N b b2).2.hi
        grind
      · have ap := apart hT b2 e (by omega) (by omega)
        have a1 := abs_val (N b b2).1.num
        have a2 := abs_val (N T hT).1.num
        have eA : A (tb T) s 0 0 b = V FloatKind.f64.format (crossP (tb T) (wk (tb b) s 0 0) % 2 ^ 63) := rfl
        have eT : A (tb T) s 0 0 T = V FloatKind.f64.format (crossP (tb T) (wk (tb T) s 0 0) % 2 ^ 63) := rfl
        rw [eA, eT] at hle
        have c1 := (N b b2).1
        have c2 := (N T hT).1
        have d1 := c1.lo
        have d2 := c1.hi
        have d3 := c2.lo
        have d4 := c2.hi
        clear c1 c2 N gt_of F b5
        rcases ap with ap | ap
        · have c := mul_le_of (show 0 ≤ S by grind) ap
          grind
        · have c := mul_le_of (show 0 ≤ S by grind) ap
          grind
  rw [b1, eb]
  omega
end Go.Proofs.Ytpapcohenejpmaa.St
