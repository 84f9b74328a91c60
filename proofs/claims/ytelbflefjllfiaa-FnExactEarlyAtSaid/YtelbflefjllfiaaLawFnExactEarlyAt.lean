/- FnExactEarlyAt: for every input the law returns true, and each argument reads behind the call as before; no condition. -/
import Derived.Test.YtelbflefjllfiaaRows
import Derived.Test.YtelbflefjllfiaaPureEarlyAt
import Derived.Test.YtelbflefjllfiaaOpen
import Derived.Test.YtelbflefjllfiaaEaR
import Derived.WalkKit
import Derived.ProofKit
import Derived.OpenShut
import Derived.ShutString
import Derived.ChangeOld
import Derived.Below
import Derived.SizedLaws
namespace Go.Proofs.Ytelbflefjllfiaa.fnExactEarlyAt
open Go.ChangeShapes Go.WideShapes Go.ChangeAt Go.RowKit
set_option linter.unusedVariables false
open Go.Proofs.Ytelbflefjllfiaa.PFnExactEarlyAt in
/-- a sight, read off its cells -/
theorem sight {H : Type} {enc : TypeId × Value → H} {w : World} {base : Nat} {spare : Nat → Bool} {held : Bool} {n : Nat} {cs : List Value} {y : DataW H × List MemPlace} (h : DataW.trod enc Try.prog w base spare held n 52 cs = some y) : ∃ x : S52, k52.K w x cs := by
  obtain ⟨xs, m, _, _, hlen, hn, hf⟩ := DataW.trod_struct Try.underlying52 h
  have hC : Try.prog.cellsOf 52 = 3 := by kernel_rfl
  have hC2 : Try.prog.cellsOf 23 = 2 := by kernel_rfl
  have hC1 : Try.prog.cellsOf 3 = 1 := by kernel_rfl
  rw [hC] at hlen
  obtain ⟨c0, c1, c2, rfl⟩ := Opn.three hlen
  have hn : xs.length = 2 := hn
  obtain ⟨y0, y1, rfl⟩ := Opn.two hn
  have h0 : DataW.trod enc Try.prog w base spare held m 23 (List.take (Try.prog.cellsOf 23) (List.drop 0 [c0, c1, c2])) = some y0 := hf 0 _ rfl
  have h1 : DataW.trod enc Try.prog w base spare held m 3 (List.take (Try.prog.cellsOf 3) (List.drop 2 [c0, c1, c2])) = some y1 := hf 1 _ rfl
  rw [hC2] at h0
  rw [hC1] at h1
  replace h0 : DataW.trod enc Try.prog w base spare held m 23 [c0, c1] = some y0 := h0
  replace h1 : DataW.trod enc Try.prog w base spare held m 3 [c2] = some y1 := h1
  obtain ⟨a2, e2, _⟩ := Opn.field_int Try.underlying3 h1
  obtain ⟨zs, m', _, _, hlen', hn', hf'⟩ := DataW.trod_struct Try.underlying23 h0
  have hn' : zs.length = 2 := hn'
  obtain ⟨z0, z1, rfl⟩ := Opn.two hn'
  have g0 : DataW.trod enc Try.prog w base spare held m' 3 (List.take (Try.prog.cellsOf 3) (List.drop 0 [c0, c1])) = some z0 := hf' 0 _ rfl
  have g1 : DataW.trod enc Try.prog w base spare held m' 3 (List.take (Try.prog.cellsOf 3) (List.drop 1 [c0, c1])) = some z1 := hf' 1 _ rfl
  rw [hC1] at g0 g1
  replace g0 : DataW.trod enc Try.prog w base spare held m' 3 [c0] = some z0 := g0
  replace g1 : DataW.trod enc Try.prog w base spare held m' 3 [c1] = some z1 := g1
  obtain ⟨a0, e0, _⟩ := Opn.field_int Try.underlying3 g0
  obtain ⟨a1, e1, _⟩ := Opn.field_int Try.underlying3 g1
  simp only [List.cons.injEq, and_true] at e0 e1 e2
  subst e0 e1 e2
  exact ⟨⟨⟨a0, a1⟩, a2⟩, k52_mk w _⟩
theorem laidOut : laidOutB Try.prog = true := by kernel_rfl
theorem own : ownKnob Try.prog.godebug = none := by kernel_rfl
set_option maxRecDepth 100000 in
theorem lifted (os : Os) (started : os.Started) (H : Type) (enc : TypeId × Value → H) :
    ReturnsInHanded {} Try.checked os 12 .any (Rows.fnExactEarlyAtSpec.pre6 enc Try.prog Try.f12 Rows.fnExactEarlyAtRow.domain false) (Rows.fnExactEarlyAtSpec.post enc Try.prog Try.f12 false true false false) := by
  refine returnsInHanded_of_change_sized (C := Try.checked) own started (by kernel_rfl) Try.func12
    (ChangeSpec.witness6 (enc := enc) (C := Try.checked) false ⟨#[], #[.agg #[.int .i64 0, .int .i64 0, .int .i64 0, .int .i64 0], .slice none 0 0, .int .i64 0], []⟩ 8 (by kernel_rfl) (by kernel_rfl) (by kernel_rfl) (by kernel_rfl)) ?_
  intro W base args ds gs before hval0 hW hcnd hsz0 _
  have hval : ∀ (j : Nat) t v, Try.f12.params[j]? = some t → args[j]? = some v → Value.okWide Try.prog W .any base t v := hval0
  have hW' := hW
  obtain ⟨p, q, hA0, hV, rfl, hfz, hnd⟩ := hW
  have hA : DataW.TrodAll enc Try.prog W 0 (fun _ => true) true Try.f12.params.toList args.toList ds p := hA0
  rw [Try.params12] at hA hval
  obtain ⟨v0, vs0, d0, ds0, p0, q0, hargs, rfl, rfl, h0, r0⟩ := trodAll_cons hA
  obtain ⟨v1, vs1, d1, ds1, p1, q1, rfl, rfl, rfl, h1, r1⟩ := trodAll_cons r0
  obtain ⟨v2, vs2, d2, ds2, p2, q2, rfl, rfl, rfl, h2, r2⟩ := trodAll_cons r1
  obtain ⟨rfl, rfl, rfl⟩ := trodAll_nil r2
  obtain rfl : args = #[v0, v1, v2] := by cases args; simp_all
  obtain ⟨rfl, rfl⟩ := trodVars_none hV
  have hlt0 : ∀ x ∈ p0, x.block < W.heap.size := fun x hx => by simpa using hW'.lt x (by simp [hx])
  have hlt1 : ∀ x ∈ p1, x.block < W.heap.size := fun x hx => by simpa using hW'.lt x (by simp [hx])
  have hlt2 : ∀ x ∈ p2, x.block < W.heap.size := fun x hx => by simpa using hW'.lt x (by simp [hx])
  have k0 := h0
  obtain ⟨a0_0, a0_1, a0_2, a0_3, rfl, w0_0, w0_1, w0_2, w0_3⟩ := Opn.open_i4 Try.underlying29 Try.underlying3 (by kernel_rfl) (by kernel_rfl) (hval 0 29 v0 rfl rfl)
  have k1 := h1
  obtain ⟨A1, c1, l1, rfl, hc1, hr1⟩ := Opn.open_rows (R := PFnExactEarlyAt.k52.K W) Try.underlying42 (by kernel_rfl : Try.prog.cellsOf 52 = 3) (fun n cs y h => sight h) (hval 1 42 v1 rfl rfl) h1
  have k2 := h2
  obtain ⟨a2, rfl, rfl, rfl, w2⟩ := open_int Try.underlying3 (hval 2 3 v2 rfl rfl) h2
  refine (Pure.FnExactEarlyAtWalk a0_0 a0_1 a0_2 a0_3 A1 c1 l1 a2 W w0_0 w0_1 w0_2 w0_3 hc1 hr1 w2).mono fun e W' ⟨he, bel⟩ => ?_
  subst he
  exact ⟨_, rfl, _, _, _, [], _, [], hW', trodAll_mk1 (shut_bool Try.underlying4 _), (trodAll_cons_mk (Below.trod laidOut (by kernel_rfl) (of_decide_eq_true (by kernel_rfl)) k0 bel hlt0) (trodAll_cons_mk (Below.trod laidOut (by kernel_rfl) (of_decide_eq_true (by kernel_rfl)) k1 bel hlt1) (trodAll_cons_mk (Below.trod laidOut (by kernel_rfl) (of_decide_eq_true (by kernel_rfl)) k2 bel hlt2) trodAll_mk0))), rfl, bel.frame _, fun h => by cases h⟩
theorem over : Rows.fnExactEarlyAtRow.holds Try.pinned (OpenSpec.ofChange Rows.fnExactEarlyAtSpec) :=
  OpenClaim.holds_of_wide 12 Try.f12 rfl rfl rfl rfl rfl rfl rfl ⟨rfl, rfl, rfl, rfl, rfl⟩ rfl rfl rfl rfl rfl (by kernel_rfl) Try.func12 (by kernel_rfl)
    (of_decide_eq_true (by kernel_rfl)) (by unfold Func.isWrapper; first | (rw [if_pos (by decide +kernel)]; kernel_rfl) | (rw [if_neg (by decide +kernel)]; exact ⟨rfl, rfl⟩))
    (fun os started H enc _ => lifted os started H enc)
end Go.Proofs.Ytelbflefjllfiaa.fnExactEarlyAt
namespace Go.Proofs.Ytelbflefjllfiaa
theorem fnExactEarlyAt_holds : Rows.FnExactEarlyAtSaid := fnExactEarlyAt.over
#print axioms fnExactEarlyAt_holds
end Go.Proofs.Ytelbflefjllfiaa
