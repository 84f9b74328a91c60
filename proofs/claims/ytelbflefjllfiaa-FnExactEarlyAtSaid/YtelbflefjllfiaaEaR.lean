/- Slices of structs that come in: their elements, read off the row's own premise. -/
import Derived.Test.YtelbflefjllfiaaOpen
import Derived.Test.YtelbflefjllfiaaEaW
import Derived.Deep.Slices
import Derived.DataReads
import Derived.DataElems
namespace Go.Proofs.Ytelbflefjllfiaa.Opn
open Go.WideShapes Go.ChangeShapes Go.Deep Go.Proofs.YtelbflefjllfiaaW.PrintWords
variable {H : Type} {enc : TypeId × Value → H} {P : Program} {w : World} {base : Nat} {spare : Nat → Bool} {held : Bool}

theorem open_rows {α : Type} {R : α → List Value → Prop} {t e size : Nat} {v : Value} {d : DataW H} {p : List MemPlace} {r : Reach} {b : Nat} (ht : P.underlying t = some (.slice e)) (hC : P.cellsOf e = size)
    (hel : ∀ n cs y, DataW.trod enc P w base spare held n e cs = some y → ∃ x : α, R x cs)
    (hv : Value.okWide P w r b t v) (h : DataW.Trod enc P w base spare held t v d p) : ∃ A c, ∃ l : List α, v = .slice A l.length c ∧ l.length ≤ c ∧ ReadsRow R size w A l.length l := by
  obtain ⟨a0, len, cap, rfl⟩ := okWide_slice ht hv
  obtain ⟨fuel, hf⟩ := h
  rcases open_slice ht (by simpa [Value.cells] using hf) with ⟨hcs, _⟩ | ⟨a, len', cap', m, n, D, Pl, hcs, hb, hl, hm, hmd, _, hcell⟩
  · simp at hcs
    obtain ⟨rfl, rfl, rfl⟩ := hcs
    exact ⟨none, 0, [], rfl, Nat.le_refl _, rfl, by simp, fun h => absurd h (Nat.lt_irrefl 0)⟩
  · simp at hcs
    obtain ⟨rfl, rfl, rfl⟩ := hcs
    have hlm : len ≤ m := by rw [hmd]; split <;> omega
    have hx : ∀ i : Fin len, ∃ x : α, ∃ cs : List Value, cs.length = size ∧ R x cs ∧ ∀ j u, cs[j]? = some u → w.cell? (a.add (i.1 * size + j)) = some u := by
      intro i
      obtain ⟨cs, h1, h2⟩ := hcell i.1 (by have := i.2; omega)
      obtain ⟨x, hR⟩ := hel _ _ _ h2
      obtain ⟨_, hlen, hc⟩ := World.cells?_some h1
      refine ⟨x, cs, by rw [hlen, hC], hR, fun j u hj => ?_⟩
      have hjl : j < cs.length := (List.getElem?_eq_some_iff.1 hj).1
      have := hc j (by omega)
      rw [Addr.add_add, hC] at this
      rw [this, hj]
    refine ⟨some a, cap, List.ofFn fun i => (hx i).choose, by simp, by simpa using hl, by simp, by unfold maxLen at hm; simp; omega, fun _ => ⟨a, rfl, fun j x hj => ?_⟩⟩
    obtain ⟨hjl, hje⟩ := List.getElem?_eq_some_iff.1 hj
    have hjl' : j < len := by simpa using hjl
    obtain ⟨cs, h1, h2, h3⟩ := (hx ⟨j, hjl'⟩).choose_spec
    have e : (hx ⟨j, hjl'⟩).choose = x := by rw [← hje]; simp
    rw [e] at h2
    exact ⟨cs, h1, h2, h3⟩

theorem field_int {n : Nat} {u : TypeId} {k : IntKind} {cs : List Value} {y : DataW H × List MemPlace} (hu : P.underlying u = some (.int k)) (h : DataW.trod enc P w base spare held n u cs = some y) : ∃ a, cs = [.int k a] ∧ (Lit.int k a).wf = true := by
  obtain ⟨a, h1, _, h2⟩ := DataW.trod_int hu h
  exact ⟨a, h1, h2⟩
theorem field_float {n : Nat} {u : TypeId} {k : FloatKind} {cs : List Value} {y : DataW H × List MemPlace} (hu : P.underlying u = some (.float k)) (h : DataW.trod enc P w base spare held n u cs = some y) : ∃ a, cs = [.float k a] ∧ (Lit.float k a).wf = true := by
  cases n with
  | zero => simp [DataW.trod] at h
  | succ n =>
    unfold DataW.trod at h
    rw [hu] at h
    split at h <;> simp_all
end Go.Proofs.Ytelbflefjllfiaa.Opn
