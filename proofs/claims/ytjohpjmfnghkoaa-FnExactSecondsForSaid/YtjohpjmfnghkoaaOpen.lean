/- Structs of plain cells that come in by value: their form, read off the row's own premise. -/
import Derived.Test.YtjohpjmfnghkoaaRows
import Derived.WalkKit
import Derived.ProofKit
import Derived.OpenShut
import Derived.WideShapes
namespace Go.Proofs.Ytjohpjmfnghkoaa.Opn
open Go.WideShapes Go.ChangeShapes
variable {P : Program} {w : World} {r : Reach} {b : Nat}

/-- A struct by value: its cells, each of its own type. -/
theorem open_cells {t : TypeId} {fs : Array Field} {ts : List TypeId} {v : Value} (hs : P.underlying t = some (.struct fs)) (hc : P.cellTypes P.depth t = some ts) (hn : P.cellsOf t = ts.length)
    (h : Value.okWide P w r b t v) : ∃ cs : List Value, v = .agg ⟨cs⟩ ∧ cs.length = ts.length ∧ ∀ (i : Nat) (c : Value), cs[i]? = some c → ∃ u, ts[i]? = some u ∧ Cell.okWide P w r b u c := by
  simp only [Value.okWide, hs] at h
  obtain ⟨⟨cs⟩, rfl, hsz, ts', hc', _, hcell⟩ := h
  rw [hc] at hc'
  obtain rfl := Option.some.inj hc'
  have hlen : cs.length = ts.length := by simpa [hn] using hsz
  refine ⟨cs, rfl, hlen, fun i c hi => ?_⟩
  obtain ⟨u, hu, hok⟩ := hcell i c (by simpa using hi)
  have hlt : i < ts.length := by rw [← hlen]; exact (List.getElem?_eq_some_iff.1 hi).1
  rw [Nat.mod_eq_of_lt hlt] at hu
  exact ⟨u, hu, hok⟩

theorem cell_int {u : TypeId} {k : IntKind} {c : Value} (hu : P.underlying u = some (.int k)) (h : Cell.okWide P w r b u c) : ∃ n, c = .int k n ∧ k.min ≤ n ∧ n ≤ k.max := by
  simp only [Cell.okWide, hu] at h
  cases c <;> simp [Cell.ok, hu, IntKind.has] at h
  obtain ⟨rfl, h1, h2⟩ := h
  exact ⟨_, rfl, h1, h2⟩
theorem cell_float {u : TypeId} {k : FloatKind} {c : Value} (hu : P.underlying u = some (.float k)) (h : Cell.okWide P w r b u c) : ∃ n, c = .float k n ∧ k.has n := by
  simp only [Cell.okWide, hu] at h
  cases c <;> simp [Cell.ok, hu] at h
  obtain ⟨rfl, h1⟩ := h
  exact ⟨_, rfl, h1⟩

theorem wf_of {k : IntKind} {n : Int} (h1 : k.min ≤ n) (h2 : n ≤ k.max) : (Lit.int k n).wf = true := by simp [Lit.wf, h1, h2]

theorem two {α : Type} {cs : List α} (h : cs.length = 2) : ∃ a b, cs = [a, b] := by
  match cs, h with
  | [a, b], _ => exact ⟨a, b, rfl⟩
theorem three {α : Type} {cs : List α} (h : cs.length = 3) : ∃ a b c, cs = [a, b, c] := by
  match cs, h with
  | [a, b, c], _ => exact ⟨a, b, c, rfl⟩
theorem four {α : Type} {cs : List α} (h : cs.length = 4) : ∃ a b c d, cs = [a, b, c, d] := by
  match cs, h with
  | [a, b, c, d], _ => exact ⟨a, b, c, d, rfl⟩

/-- two whole numbers -/
theorem open_i2 {t i : TypeId} {fs : Array Field} {v : Value} (hs : P.underlying t = some (.struct fs)) (hi : P.underlying i = some (.int .i64)) (hc : P.cellTypes P.depth t = some [i, i]) (hn : P.cellsOf t = 2)
    (h : Value.okWide P w r b t v) : ∃ a c : Int, v = .agg #[.int .i64 a, .int .i64 c] ∧ (Lit.int .i64 a).wf = true ∧ (Lit.int .i64 c).wf = true := by
  obtain ⟨cs, rfl, hl, hcell⟩ := open_cells hs hc hn h
  obtain ⟨c0, c1, rfl⟩ := two hl
  obtain ⟨_, hu0, h0⟩ := hcell 0 c0 rfl
  obtain ⟨_, hu1, h1⟩ := hcell 1 c1 rfl
  obtain rfl := Option.some.inj hu0
  obtain rfl := Option.some.inj hu1
  obtain ⟨a, rfl, a1, a2⟩ := cell_int hi h0
  obtain ⟨c, rfl, c1, c2⟩ := cell_int hi h1
  exact ⟨a, c, rfl, wf_of a1 a2, wf_of c1 c2⟩
/-- three whole numbers -/
theorem open_i3 {t i : TypeId} {fs : Array Field} {v : Value} (hs : P.underlying t = some (.struct fs)) (hi : P.underlying i = some (.int .i64)) (hc : P.cellTypes P.depth t = some [i, i, i]) (hn : P.cellsOf t = 3)
    (h : Value.okWide P w r b t v) : ∃ a c d : Int, v = .agg #[.int .i64 a, .int .i64 c, .int .i64 d] ∧ (Lit.int .i64 a).wf = true ∧ (Lit.int .i64 c).wf = true ∧ (Lit.int .i64 d).wf = true := by
  obtain ⟨cs, rfl, hl, hcell⟩ := open_cells hs hc hn h
  obtain ⟨c0, c1, c2, rfl⟩ := three hl
  obtain ⟨_, hu0, h0⟩ := hcell 0 c0 rfl
  obtain ⟨_, hu1, h1⟩ := hcell 1 c1 rfl
  obtain ⟨_, hu2, h2⟩ := hcell 2 c2 rfl
  obtain rfl := Option.some.inj hu0
  obtain rfl := Option.some.inj hu1
  obtain rfl := Option.some.inj hu2
  obtain ⟨a, rfl, a1, a2⟩ := cell_int hi h0
  obtain ⟨c, rfl, c1, c2⟩ := cell_int hi h1
  obtain ⟨d, rfl, d1, d2⟩ := cell_int hi h2
  exact ⟨a, c, d, rfl, wf_of a1 a2, wf_of c1 c2, wf_of d1 d2⟩
/-- four whole numbers -/
theorem open_i4 {t i : TypeId} {fs : Array Field} {v : Value} (hs : P.underlying t = some (.struct fs)) (hi : P.underlying i = some (.int .i64)) (hc : P.cellTypes P.depth t = some [i, i, i, i]) (hn : P.cellsOf t = 4)
    (h : Value.okWide P w r b t v) : ∃ a c d e : Int, v = .agg #[.int .i64 a, .int .i64 c, .int .i64 d, .int .i64 e] ∧ (Lit.int .i64 a).wf = true ∧ (Lit.int .i64 c).wf = true ∧ (Lit.int .i64 d).wf = true ∧ (Lit.int .i64 e).wf = true := by
  obtain ⟨cs, rfl, hl, hcell⟩ := open_cells hs hc hn h
  obtain ⟨c0, c1, c2, c3, rfl⟩ := four hl
  obtain ⟨_, hu0, h0⟩ := hcell 0 c0 rfl
  obtain ⟨_, hu1, h1⟩ := hcell 1 c1 rfl
  obtain ⟨_, hu2, h2⟩ := hcell 2 c2 rfl
  obtain ⟨_, hu3, h3⟩ := hcell 3 c3 rfl
  obtain rfl := Option.some.inj hu0
  obtain rfl := Option.some.inj hu1
  obtain rfl := Option.some.inj hu2
  obtain rfl := Option.some.inj hu3
  obtain ⟨a, rfl, a1, a2⟩ := cell_int hi h0
  obtain ⟨c, rfl, c1, c2⟩ := cell_int hi h1
  obtain ⟨d, rfl, d1, d2⟩ := cell_int hi h2
  obtain ⟨e, rfl, e1, e2⟩ := cell_int hi h3
  exact ⟨a, c, d, e, rfl, wf_of a1 a2, wf_of c1 c2, wf_of d1 d2, wf_of e1 e2⟩
/-- a whole number, a single, a whole number -/
theorem open_leg {t i f : TypeId} {fs : Array Field} {v : Value} (hs : P.underlying t = some (.struct fs)) (hi : P.underlying i = some (.int .i64)) (hf : P.underlying f = some (.float .f32)) (hc : P.cellTypes P.depth t = some [i, f, i]) (hn : P.cellsOf t = 3)
    (h : Value.okWide P w r b t v) : ∃ (a : Int) (c : Nat) (d : Int), v = .agg #[.int .i64 a, .float .f32 c, .int .i64 d] ∧ c < 2 ^ 32 := by
  obtain ⟨cs, rfl, hl, hcell⟩ := open_cells hs hc hn h
  obtain ⟨c0, c1, c2, rfl⟩ := three hl
  obtain ⟨_, hu0, h0⟩ := hcell 0 c0 rfl
  obtain ⟨_, hu1, h1⟩ := hcell 1 c1 rfl
  obtain ⟨_, hu2, h2⟩ := hcell 2 c2 rfl
  obtain rfl := Option.some.inj hu0
  obtain rfl := Option.some.inj hu1
  obtain rfl := Option.some.inj hu2
  obtain ⟨a, rfl, _, _⟩ := cell_int hi h0
  obtain ⟨c, rfl, c1⟩ := cell_float hf h1
  obtain ⟨d, rfl, _, _⟩ := cell_int hi h2
  exact ⟨a, c, d, rfl, c1⟩
end Go.Proofs.Ytjohpjmfnghkoaa.Opn
