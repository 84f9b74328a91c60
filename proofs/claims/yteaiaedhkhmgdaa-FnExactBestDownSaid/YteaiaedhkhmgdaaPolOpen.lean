/- A polar that comes in: what it holds, read off the row's own premise. -/
import Derived.Test.YteaiaedhkhmgdaaSize
import Derived.WalkKit
import Derived.ProofKit
import Derived.OpenShut
import Derived.WideShapes
import Derived.Deep.Slices
import Derived.DataReads
import Derived.DataElems
import Derived.ChangeOld
namespace Go.Proofs.Yteaiaedhkhmgdaa.Po
open Go.WideShapes Go.ChangeShapes Go.Deep Go.RowKit Pf Cp
variable {H : Type} {enc : TypeId × Value → H} {w : World} {base : Nat} {spare : Nat → Bool} {held : Bool}
theorem agg_of {P : Program} {r : Reach} {b : Nat} {t : TypeId} {fs : Array Field} {v : Value} (hs : P.underlying t = some (.struct fs)) (h : Value.okWide P w r b t v) : ∃ cs : List Value, v = .agg ⟨cs⟩ := by
  simp only [Value.okWide, hs] at h
  obtain ⟨⟨cs⟩, rfl, _⟩ := h
  exact ⟨cs, rfl⟩
theorem list_of {P : Program} {α : Type} {R : α → Value → Prop} {t e : TypeId} {cs : List Value} {fuel : Nat} {y : DataW H × List MemPlace} (ht : P.underlying t = some (.slice e)) (hC : P.cellsOf e = 1)
    (hel : ∀ n cs y, DataW.trod enc P w base spare held n e cs = some y → ∃ (x : α) (u : Value), cs = [u] ∧ R x u)
    (h : DataW.trod enc P w base spare held fuel t cs = some y) : ∃ A c, ∃ l : List α, cs = [.slice A l.length c] ∧ l.length ≤ 9223372036854775807 ∧ (l.length = 0 ∨ ∃ a, A = some a ∧ ∀ (j : Nat) (x : α), l[j]? = some x → ∃ u, w.cell? (a.add j) = some u ∧ R x u) := by
  rcases open_slice ht h with ⟨hcs, _⟩ | ⟨a, len, cap, m, n, D, Pl, hcs, hb, hl, hm, hmd, _, hcell⟩
  · exact ⟨none, 0, [], hcs, by simp, Or.inl rfl⟩
  · have hlm : len ≤ m := by rw [hmd]; split <;> omega
    have hx : ∀ i : Fin len, ∃ x : α, ∃ u, w.cell? (a.add i.1) = some u ∧ R x u := by
      intro i
      obtain ⟨vs, h1, h2⟩ := hcell i.1 (by have := i.2; omega)
      obtain ⟨x, u, rfl, hR⟩ := hel _ _ _ h2
      obtain ⟨_, hlen, hc⟩ := World.cells?_some h1
      refine ⟨x, u, ?_, hR⟩
      have := hc 0 (by rw [hC]; omega)
      rw [Addr.add_add, hC] at this
      simpa using this
    refine ⟨some a, cap, List.ofFn fun i => (hx i).choose, by simpa using hcs, by unfold maxLen at hm; simp; omega, Or.inr ⟨a, rfl, fun j x hj => ?_⟩⟩
    obtain ⟨hjl, hje⟩ := List.getElem?_eq_some_iff.1 hj
    have hjl' : j < len := by simpa using hjl
    obtain ⟨u, h1, h2⟩ := (hx ⟨j, hjl'⟩).choose_spec
    have e : (hx ⟨j, hjl'⟩).choose = x := by rw [← hje]; simp
    rw [e] at h2
    exact ⟨u, h1, h2⟩
theorem el_int {P : Program} {u : TypeId} (hu : P.underlying u = some (.int .i64)) (n : Nat) (cs : List Value) (y : DataW H × List MemPlace) (h : DataW.trod enc P w base spare held n u cs = some y) : ∃ (x : Int) (v : Value), cs = [v] ∧ v = .int .i64 x := by
  obtain ⟨a, h1, _, _⟩ := DataW.trod_int hu h
  exact ⟨a, _, h1, rfl⟩
theorem el_float {P : Program} {u : TypeId} (hu : P.underlying u = some (.float .f32)) (n : Nat) (cs : List Value) (y : DataW H × List MemPlace) (h : DataW.trod enc P w base spare held n u cs = some y) : ∃ (x : Nat) (v : Value), cs = [v] ∧ v = .float .f32 x := by
  cases n with
  | zero => simp [DataW.trod] at h
  | succ n =>
    unfold DataW.trod at h
    rw [hu] at h
    split at h <;> simp_all
theorem floats {n : Nat} {cs : List Value} {y : DataW H × List MemPlace} (h : DataW.trod enc Try.prog w base spare held n 22 cs = some y) : ∃ A c, ∃ l : List Nat, cs = [.slice A l.length c] ∧ l.length ≤ 9223372036854775807 ∧ FRd w A l := by
  obtain ⟨A, c, l, h1, h2, h3⟩ := list_of (R := fun (x : Nat) v => v = .float .f32 x) Try.underlying22 (by kernel_rfl : Try.prog.cellsOf 27 = 1) (el_float Try.underlying27) h
  refine ⟨A, c, l, h1, h2, ?_⟩
  rcases h3 with h3 | ⟨a, e, h3⟩
  · exact Or.inl h3
  · refine Or.inr ⟨a, e, fun j hj => ?_⟩
    obtain ⟨u, k1, k2⟩ := h3 j _ (List.getElem?_eq_getElem hj)
    rw [k1, k2]
    unfold fn
    rw [List.getD_eq_getElem?_getD, List.getElem?_eq_getElem hj]; rfl
theorem ints {n : Nat} {cs : List Value} {y : DataW H × List MemPlace} (h : DataW.trod enc Try.prog w base spare held n 23 cs = some y) : ∃ A c, ∃ l : List Int, cs = [.slice A l.length c] ∧ l.length ≤ 9223372036854775807 ∧ IRd w A l := by
  obtain ⟨A, c, l, h1, h2, h3⟩ := list_of (R := fun (x : Int) v => v = .int .i64 x) Try.underlying23 (by kernel_rfl : Try.prog.cellsOf 3 = 1) (el_int Try.underlying3) h
  refine ⟨A, c, l, h1, h2, ?_⟩
  rcases h3 with h3 | ⟨a, e, h3⟩
  · exact Or.inl h3
  · refine Or.inr ⟨a, e, fun j hj => ?_⟩
    obtain ⟨u, k1, k2⟩ := h3 j _ (List.getElem?_eq_getElem hj)
    rw [k1, k2]
    unfold zn
    rw [List.getD_eq_getElem?_getD, List.getElem?_eq_getElem hj]; rfl
theorem rows {n : Nat} {cs : List Value} {y : DataW H × List MemPlace} (h : DataW.trod enc Try.prog w base spare held n 24 cs = some y) : ∃ A c, ∃ l : List (List Nat), cs = [.slice A l.length c] ∧ l.length ≤ 9223372036854775807 ∧ (∀ j, j < l.length → (rn l j).length ≤ 9223372036854775807) ∧ RRd w A l := by
  obtain ⟨A, c, l, h1, h2, h3⟩ := list_of (R := fun (x : List Nat) v => ∃ B cc, v = .slice B x.length cc ∧ x.length ≤ 9223372036854775807 ∧ FRd w B x) Try.underlying24 (by kernel_rfl : Try.prog.cellsOf 22 = 1) (fun n cs y h => by
    obtain ⟨B, cc, x, k1, k2, k3⟩ := floats h
    exact ⟨x, _, k1, B, cc, rfl, k2, k3⟩) h
  have e : ∀ j (hj : j < l.length), rn l j = l[j] := fun j hj => by unfold rn; rw [List.getD_eq_getElem?_getD, List.getElem?_eq_getElem hj]; rfl
  rcases h3 with h3 | ⟨a, ea, h3⟩
  · exact ⟨A, c, l, h1, h2, fun j hj => by omega, Or.inl h3⟩
  · refine ⟨A, c, l, h1, h2, fun j hj => ?_, Or.inr ⟨a, ea, fun j hj => ?_⟩⟩
    · obtain ⟨u, _, B, cc, _, k2, _⟩ := h3 j _ (List.getElem?_eq_getElem hj)
      rw [e j hj]; exact k2
    · obtain ⟨u, k1, B, cc, k3, _, k4⟩ := h3 j _ (List.getElem?_eq_getElem hj)
      rw [e j hj]
      exact ⟨B, cc, by rw [k1, k3], k4⟩
theorem three {α : Type} {cs : List α} (h : cs.length = 3) : ∃ a b c, cs = [a, b, c] := by
  match cs, h with
  | [a, b, c], _ => exact ⟨a, b, c, rfl⟩
theorem polar {v : Value} {y : DataW H} {p : List MemPlace} (hv : ∃ cs : List Value, v = .agg ⟨cs⟩) (h : DataW.Trod enc Try.prog w base spare held 26 v y p) :
    ∃ A0 A1 A2 c0 c1 c2, ∃ d : Pol, v = .agg #[.slice A0 d.ws.length c0, .slice A1 d.an.length c1, .slice A2 d.rows.length c2] ∧ PRd w A0 A1 A2 d ∧ Sz.Sane d := by
  obtain ⟨cs, rfl⟩ := hv
  obtain ⟨fuel, hf⟩ := h
  have hf' : DataW.trod enc Try.prog w base spare held fuel 26 cs = some (y, p) := by simpa [Value.cells] using hf
  obtain ⟨xs, m, _, _, hlen, hn, hfd⟩ := DataW.trod_struct Try.underlying26 hf'
  have hC : Try.prog.cellsOf 26 = 3 := by kernel_rfl
  have hF : Try.prog.cellsOf 22 = 1 := by kernel_rfl
  have hI : Try.prog.cellsOf 23 = 1 := by kernel_rfl
  have hR : Try.prog.cellsOf 24 = 1 := by kernel_rfl
  rw [hC] at hlen
  obtain ⟨u0, u1, u2, rfl⟩ := three hlen
  have hn : xs.length = 3 := hn
  obtain ⟨y0, y1, y2, rfl⟩ := three hn
  have h0 : DataW.trod enc Try.prog w base spare held m 22 (List.take (Try.prog.cellsOf 22) (List.drop 0 [u0, u1, u2])) = some y0 := hfd 0 _ rfl
  have h1 : DataW.trod enc Try.prog w base spare held m 23 (List.take (Try.prog.cellsOf 23) (List.drop 1 [u0, u1, u2])) = some y1 := hfd 1 _ rfl
  have h2 : DataW.trod enc Try.prog w base spare held m 24 (List.take (Try.prog.cellsOf 24) (List.drop 2 [u0, u1, u2])) = some y2 := hfd 2 _ rfl
  rw [hF] at h0
  rw [hI] at h1
  rw [hR] at h2
  replace h0 : DataW.trod enc Try.prog w base spare held m 22 [u0] = some y0 := h0
  replace h1 : DataW.trod enc Try.prog w base spare held m 23 [u1] = some y1 := h1
  replace h2 : DataW.trod enc Try.prog w base spare held m 24 [u2] = some y2 := h2
  obtain ⟨A0, c0, l0, e0, s0, r0⟩ := floats h0
  obtain ⟨A1, c1, l1, e1, s1, r1⟩ := ints h1
  obtain ⟨A2, c2, l2, e2, s2, s3, r2⟩ := rows h2
  simp only [List.cons.injEq, and_true] at e0 e1 e2
  subst e0 e1 e2
  exact ⟨A0, A1, A2, c0, c1, c2, ⟨l0, l1, l2⟩, rfl, ⟨r0, r1, r2⟩, ⟨s0, s1, s2, s3⟩⟩
end Go.Proofs.Yteaiaedhkhmgdaa.Po
