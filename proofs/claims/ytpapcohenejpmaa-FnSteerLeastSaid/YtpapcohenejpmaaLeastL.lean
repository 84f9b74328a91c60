/- Of all headings that come on along a track none leaves it less than the one that is told: the drawn law walked. -/
import Derived.Test.YtpapcohenejpmaaLeast
import Derived.Test.YtpapcohenejpmaaPass
import Derived.Test.YtpapcohenejpmaaSpd
namespace Go.Proofs.Ytpapcohenejpmaa.Ll
open Go.RowKit Kit Fl Bd Tn Vl Sc Al Ss Ps Sp Le Pad Go.Proofs.YtpapcohenejpmaaW.PrintWords Go.Proofs.YtpapcohenejpmaaW.PrintLast Go.Proofs.YtpapcohenejpmaaW.PrintMore PFnPassageAlong
set_option maxRecDepth 100000 in
theorem draw_along {w0 w : World} {A0 : Option Addr} {c0 : Nat} {l0 : List Int} (hB : Below w0.heap.size w0 w) (hr0 : Kd.C (Kd.int .u8) w0 A0 l0.length l0) (hc0 : l0.length ≤ c0) (hl : l0.length ≤ 1048576) :
    Calls Try.prog 18 #[.slice A0 l0.length c0] w fun e w' => ∃ (t h : Int) (s c d : Nat), e = .returned (.tuple #[.int .i64 t, .int .i64 h, .float .f32 s, .complex .f32 c d]) ∧ Below w0.heap.size w0 w' := by
  have HB := Lib.hid hB
  have HR := Lib.hid hr0
  clear hB hr0
  go_enter Try.func18, Try.ntmps18
  go_wp2_with fail
  refine (new_call HB.out HR.out hc0 hl).mono ?_
  rintro e w1 ⟨g, rfl, hC1, _⟩
  have C1 := Lib.hid hC1
  clear hC1
  go_wp2_with fail
  refine (degrees_call (by omega) C1.out).mono ?_
  rintro e w2 ⟨t, rfl, hC2⟩
  have C2 := Lib.hid hC2
  clear hC2
  go_wp2_with fail
  refine (degrees_call (by omega) C2.out).mono ?_
  rintro e w3 ⟨h, rfl, hC3⟩
  have C3 := Lib.hid hC3
  clear hC3
  go_wp2_with fail
  refine (speed_call (by omega) C3.out).mono ?_
  rintro e w4 ⟨s, rfl, hC4⟩
  have C4 := Lib.hid hC4
  clear hC4
  go_wp2_with fail
  refine (stream_call (by omega) C4.out).mono ?_
  rintro e w5 ⟨c, d, rfl, hC5⟩
  have C5 := Lib.hid hC5
  clear hC5
  go_wp2_with fail
  exact bodyPost_ret (v := .tuple #[.int .i64 t, .int .i64 h, .float .f32 s, .complex .f32 c d]) (by simp [results, Try.results18, go_sem]) rfl ⟨_, _, _, _, _, rfl, C5.out.below⟩
/-- how far off the track a heading is -/
def offF (t h : Int) (s c d : Nat) : Nat := if okR s c d = true then crossP (tb (deg t)) (wk (tb (deg h)) s c d) else 0
theorem impl_Off (t h : Int) (s c d : Nat) (w : World) : Calls Try.prog 20 #[.int .i64 t, .int .i64 h, .float .f32 s, .complex .f32 c d] w fun e w' => e = .returned (.tuple #[.float .f64 (offF t h s c d), .bool (okR s c d)]) ∧ w = w' := by
  refine (impl_OffTrack t h s c d w).mono fun e w' ⟨he, hw⟩ => ⟨?_, hw⟩
  rw [he]
  unfold offF
  cases h' : okR s c d
  · unfold okR at h'; rw [h']; rfl
  · unfold okR at h'; rw [h']; rfl
theorem laws_amount (x : Nat) (w : World) : Calls Try.prog 14 #[.float .f64 x] w fun e w' => e = .returned (.float .f64 (am64 x)) ∧ w = w' := by
  unfold am64
  cases h : (FloatKind.f64.format.order x 0 == some .lt)
  all_goals go_enter Try.func14, Try.ntmps14
  all_goals go_wp2
  all_goals go_ret
  all_goals exact ⟨rfl, rfl⟩
theorem neg_read64 (x : Nat) : FloatKind.f64.format.read (Op.negFloat .f64 x) = match FloatKind.f64.format.read x with | .number s m e => .number (!s) m e | .infinity s => .infinity (!s) | .nan s t => .nan (!s) t := by
  have hn : Op.negFloat .f64 x = x ^^^ 2 ^ 63 := rfl
  have hS : FloatKind.f64.format.signWeight = 2 ^ 63 := by decide
  have e1 : (x ^^^ 2 ^ 63) % 2 ^ 63 = x % 2 ^ 63 := by
    rw [Nat.xor_mod_two_pow, Nat.mod_self, Nat.xor_zero]
  have e2 : (x ^^^ 2 ^ 63) / 2 ^ 63 % 2 = 1 - x / 2 ^ 63 % 2 := by
    rw [Nat.xor_div_two_pow, Nat.div_self (by decide)]
    have h1 := Nat.xor_mod_two_pow (a := x / 2 ^ 63) (b := 1) (n := 1)
    rw [Nat.pow_one] at h1
    rw [h1]
    have : x / 2 ^ 63 % 2 < 2 := Nat.mod_lt _ (by decide)
    generalize x / 2 ^ 63 % 2 = t at *
    have : t = 0 ∨ t = 1 := by omega
    rcases this with rfl | rfl <;> decide
  rw [hn]
  unfold Ieee.Format.read
  rw [hS, e1, e2]
  dsimp only
  have hs : (1 - x / 2 ^ 63 % 2 == 1) = !(x / 2 ^ 63 % 2 == 1) := by
    have : x / 2 ^ 63 % 2 < 2 := Nat.mod_lt _ (by decide)
    generalize x / 2 ^ 63 % 2 = t at *
    have : t = 0 ∨ t = 1 := by omega
    rcases this with rfl | rfl <;> decide
  rw [hs]
  generalize x % 2 ^ 63 = r
  split
  · rfl
  · split
    · rfl
    · split <;> rfl
theorem am_num {x : Nat} (h : Num FloatKind.f64.format x) : Num FloatKind.f64.format (am64 x) ∧ V FloatKind.f64.format (am64 x) = V FloatKind.f64.format (x % 2 ^ 63) := by
  have h0 : Num FloatKind.f64.format 0 := num_iff.2 (by decide)
  obtain ⟨s, m, e, hr⟩ := h
  have ha := read_abs x
  have hn := neg_read64 x
  rw [hr] at ha hn
  have hX : Num FloatKind.f64.format x := ⟨_, _, _, hr⟩
  have hm : 0 ≤ (m : Rat) * p2 e := Rat.mul_nonneg (by exact_mod_cast Nat.zero_le m) (Rat.le_of_lt (p2_pos e))
  unfold am64
  rw [lss_num hX h0, V0, V_of ha]
  by_cases q : V FloatKind.f64.format x < 0
  · rw [if_pos (by simpa using q)]
    refine ⟨⟨_, _, _, hn⟩, ?_⟩
    rw [V_of hn]
    rw [V_of hr] at q
    unfold sval at q ⊢
    cases s <;> simp only [Bool.false_eq_true, if_false, if_true, Bool.not_false, Bool.not_true] at q ⊢ <;> grind
  · rw [if_neg (by simpa using q)]
    refine ⟨hX, ?_⟩
    rw [V_of hr] at q ⊢
    unfold sval at q ⊢
    cases s <;> simp only [Bool.false_eq_true, if_false, if_true] at q ⊢ <;> grind
theorem laws_mod (k : Int) (w : World) : Calls Try.prog 17 #[.int .i64 k] w fun e w' => e = .returned (.int .i64 (deg k : Int)) ∧ w = w' := by
  have h := (wrap_mod k).trans (deg_cast k)
  have H := Lib.hid h
  clear h
  go_enter Try.func17, Try.ntmps17
  go_wp2
  go_ret
  exact ⟨congrArg (fun n => Ending.returned (.int .i64 n)) H.out, rfl⟩
theorem surely (t : Int) {s c d : Nat} (h : okR s c d = true) : ∀ k, k < 360 → Sure (tb (deg t)) (tb k) s c d := fun k hk => by
  unfold okR at h
  rw [Bool.and_eq_true, Bool.and_eq_true] at h
  exact sure (bt_tb (deg t) (deg_lt t)) (bt_tb k hk) h.1 h.2.1 h.2.2
theorem none_facts {t : Int} {s c d : Nat} (h : headB t s c d = false) (ho : okR s c d = true) : headN t s c d = 0 ∧ ∀ k : Int, (FloatKind.f64.format.order (paceF t k s c d) 0 == some .lt || FloatKind.f64.format.order (paceF t k s c d) 0 == some .eq) = true := by
  unfold headB at h
  rw [ho, Bool.true_and] at h
  have hr := run_some (tb (deg t)) s c d 360
  rw [h] at hr
  have hneg := of_decide_eq_false hr
  refine ⟨by unfold headN; rw [if_pos ho]; omega, fun k => ?_⟩
  have hg := some_false 360 h (deg k) (deg_lt k)
  unfold paceF
  rw [if_pos ho, not_le (surely t ho (deg k) (deg_lt k)).dn]
  unfold gtD at hg
  rw [hg]; rfl
theorem least_facts {t : Int} {s c d : Nat} (h : headB t s c d = true) : okR s c d = true ∧ 0 ≤ headN t s c d ∧ headN t s c d < 360 ∧ (FloatKind.f64.format.order (paceF t (headN t s c d) s c d) 0 == some .lt || FloatKind.f64.format.order (paceF t (headN t s c d) s c d) 0 == some .eq) = false ∧
    ∀ k : Int, (FloatKind.f64.format.order (paceF t k s c d) 0 == some .lt || FloatKind.f64.format.order (paceF t k s c d) 0 == some .eq) = false →
      (FloatKind.f64.format.order (am64 (offF t (headN t s c d) s c d)) (am64 (offF t k s c d)) == some .lt) = true ∨ ((FloatKind.f64.format.order (am64 (offF t (headN t s c d) s c d)) (am64 (offF t k s c d)) == some .lt) = false ∧ (FloatKind.f64.format.order (am64 (offF t (headN t s c d) s c d)) (am64 (offF t k s c d)) == some .eq) = true ∧ headN t s c d ≤ (deg k : Int)) := by
  unfold headB at h
  rw [Bool.and_eq_true] at h
  obtain ⟨ho, hs⟩ := h
  have hr := run_some (tb (deg t)) s c d 360
  rw [hs] at hr
  have hpos := of_decide_eq_true hr
  have F := surely t ho
  obtain ⟨b, b1, b2, b3, b4, b5⟩ := best_run (tb (deg t)) s c d F 360 (Nat.le_refl _) hpos
  have hN : headN t s c d = (b : Int) := by unfold headN; rw [if_pos ho, b1]; omega
  have hd : deg (b : Int) = b := deg_nat b2
  rw [hN]
  refine ⟨ho, by omega, by omega, ?_, fun k hk => ?_⟩
  · unfold paceF
    rw [if_pos ho, hd, not_le (F b b2).dn]
    unfold gtD at b3
    rw [b3]; rfl
  · have hg : gtD (tb (deg t)) s c d (deg k) = true := by
      unfold paceF at hk
      rw [if_pos ho, not_le (F (deg k) (deg_lt k)).dn] at hk
      unfold gtD
      simpa using hk
    have n1 := am_num (F b b2).cn
    have n2 := am_num (F (deg k) (deg_lt k)).cn
    have key := b5 (deg k) (deg_lt k) hg
    unfold offF
    rw [if_pos ho, if_pos ho, hd, lss_num n1.1 n2.1, eql_num n1.1 n2.1, n1.2, n2.2]
    rcases key with q | ⟨q, q2⟩
    · exact Or.inl (decide_eq_true q)
    · have q' : V FloatKind.f64.format (crossP (tb (deg t)) (wk (tb b) s c d) % 2 ^ 63) = V FloatKind.f64.format (crossP (tb (deg t)) (wk (tb (deg k)) s c d) % 2 ^ 63) := q
      exact Or.inr ⟨decide_eq_false (by rw [q']; exact Rat.lt_irrefl), decide_eq_true q', by omega⟩
theorem law {w : World} {A0 : Option Addr} {c0 : Nat} {l0 : List Int} (hr0 : Kd.C (Kd.int .u8) w A0 l0.length l0) (hc0 : l0.length ≤ c0) :
    Calls Try.prog 5 #[.slice A0 l0.length c0] w fun e w' => e = .returned (.bool true) ∧ Below w.heap.size w w' := by
  have HR := Lib.hid hr0
  go_enter Try.func5, Try.ntmps5
  go_wp2_with fail
  refine (laws_big.calls A0 c0 l0 (decide ((l0.length : Int) > 1048576)) w hr0 hc0 rfl).mono ?_
  rintro e w1 ⟨rfl, hd⟩
  have B1 := Lib.hid hd.below
  clear hr0 hd
  by_cases hl : (l0.length : Int) > 1048576
  · rw [decide_eq_true hl]
    go_wp2_with fail
    go_ret
    exact ⟨rfl, B1.out⟩
  · rw [decide_eq_false hl]
    go_wp2_with fail
    refine (draw_along B1.out HR.out hc0 (by omega)).mono ?_
    rintro e w2 ⟨t, h, s, c, d, rfl, hB2⟩
    have B2 := Lib.hid hB2
    clear hB2
    go_wp2_with fail
    refine (impl_Steer _ _ _ _ _).mono ?_
    rintro e w3 ⟨rfl, hb⟩
    have B3 := Lib.hid (B2.out.trans (hb.mono B2.out.size))
    clear hb
    go_wp2_with fail
    refine (impl_Along _ _ _ _ _ _).mono ?_
    rintro e w' ⟨rfl, rfl⟩
    go_wp2_with fail
    refine (impl_Off _ _ _ _ _ _).mono ?_
    rintro e w' ⟨rfl, rfl⟩
    go_wp2_with fail
    refine (spec_Steer' _ _ _ _ _).mono ?_
    rintro e w5 ⟨n, rfl, rfl⟩
    cases hh : headB t s c d
    · cases ho : okR s c d
      · have e1 : headN t s c d = 0 := by unfold headN; rw [ho]; rfl
        rw [e1]
        go_wp2_with fail
        go_ret
        exact ⟨rfl, B3.out⟩
      · obtain ⟨e1, e2⟩ := none_facts hh ho
        rw [e1]
        have e3 := e2 h
        clear e2
        go_wp2_with fail
        go_ret
        exact ⟨rfl, B3.out⟩
    · obtain ⟨ho, g1, g2, g3, g4⟩ := least_facts hh
      have HO := Lib.hid ho
      rw [ho]
      clear ho
      have G4 := g4 h
      clear g4
      cases q : (FloatKind.f64.format.order (paceF t h s c d) 0 == some .lt || FloatKind.f64.format.order (paceF t h s c d) 0 == some .eq)
      · have G5 := G4 q
        clear G4
        rcases G5 with k1 | ⟨k1, k2, k3⟩
        all_goals go_wp2_with (first | (go_at_call 19; refine (impl_Along _ _ _ _ _ _).mono ?_; rintro e w' ⟨rfl, rfl⟩; rw [HO.out]) | (go_at_call 20; refine (impl_Off _ _ _ _ _ _).mono ?_; rintro e w' ⟨rfl, rfl⟩; rw [HO.out]) | (go_at_call 14; refine (laws_amount _ _).mono ?_; rintro e w' ⟨rfl, rfl⟩) | (go_at_call 17; refine (laws_mod _ _).mono ?_; rintro e w' ⟨rfl, rfl⟩))
        all_goals go_ret
        all_goals exact ⟨by simp [*], B3.out⟩
      · clear G4
        go_wp2_with (first | (go_at_call 19; refine (impl_Along _ _ _ _ _ _).mono ?_; rintro e w' ⟨rfl, rfl⟩; rw [HO.out]) | (go_at_call 20; refine (impl_Off _ _ _ _ _ _).mono ?_; rintro e w' ⟨rfl, rfl⟩; rw [HO.out]))
        all_goals go_ret
        all_goals exact ⟨rfl, B3.out⟩
end Go.Proofs.Ytpapcohenejpmaa.Ll
namespace Go.Proofs.Ytpapcohenejpmaa.Pure
open Go.RowKit Go.Proofs.YtpapcohenejpmaaW.PrintWords Go.Proofs.YtpapcohenejpmaaW.PrintLast Go.Proofs.YtpapcohenejpmaaW.PrintMore
theorem FnSteerLeastWalk (a0 : Option Addr) (len0 cap0 : Nat) (z0 : List Int) (w : World) (w0 : (a0 = none ∧ len0 = 0 ∧ cap0 = 0 ∧ z0 = []) ∨ ∃ x, a0 = some x ∧ len0 ≤ cap0 ∧ cap0 ≤ maxLen ∧ z0.length = cap0 ∧ (∀ i, i < z0.length → w.cell? (x.add i) = some (.int .u8 (z0.getD i 0))) ∧ ∀ n ∈ z0, (Lit.int .u8 n).wf = true) (_ : len0 * 1 ≤ 140737488351232) :
    Calls Try.prog 5 #[.slice a0 len0 cap0] w fun e w' => e = .returned (.bool true) ∧ Below w.heap.size w w' := by
  obtain ⟨l0, rfl, hr0, _, _, hc0⟩ := ReadsInt.ofRowC w0
  exact Ll.law (Kd.C_of_reads (d := (0 : Int)) (h1 := fun _ => rfl) hr0) hc0
end Go.Proofs.Ytpapcohenejpmaa.Pure
