/- Laws of the walk for floats and complex numbers: what the kit's walk set lacks. No condition of the program's. -/
import Derived.Test.YtjohpjmfnghkoaaProg
import Derived.WalkKit
import Derived.WalkLawsBesides
import Derived.KernelRfl
import Derived.Below
import Derived.Lib.Hide
namespace Go.Proofs.Ytjohpjmfnghkoaa.Kit
open Go.RowKit
section
variable {P : Program} (w : World) (a : Addr) (m : Mode)
@[go_sem] theorem run_store_float (k : FloatKind) (n : Nat) : (store a (.float k n) m).run P w = stored P w a (.float k n) m := run_store P w a _ m rfl
@[go_sem] theorem run_store_complex (k : FloatKind) (x y : Nat) : (store a (.complex k x y) m).run P w = stored P w a (.complex k x y) m := run_store P w a _ m rfl

/-- The bits of a result, where there is one. -/
def fl (op : BinOp) (k : FloatKind) (x y : Nat) : Nat := (floatBits op k x y).getD 0
theorem fl_eq {op : BinOp} {k : FloatKind} {x y r : Nat} (h : floatBits op k x y = some r) : fl op k x y = r := by unfold fl; rw [h]; rfl
theorem fl_some {op : BinOp} {k : FloatKind} {x y : Nat} (h : (floatBits op k x y).isSome = true) : floatBits op k x y = some (fl op k x y) := by
  obtain ⟨r, hr⟩ := Option.isSome_iff_exists.1 h
  unfold fl; rw [hr]; rfl
@[go_sem] theorem run_fl_add (t : TypeId) (k : FloatKind) (x y : Nat) (h : (floatBits .add k x y).isSome = true) : (binOp .add t (.float k x) (.float k y)).run P w = .ok (.float k (fl .add k x y)) w := run_float_arith w .add t k x y _ (fl_some h)
@[go_sem] theorem run_fl_sub (t : TypeId) (k : FloatKind) (x y : Nat) (h : (floatBits .sub k x y).isSome = true) : (binOp .sub t (.float k x) (.float k y)).run P w = .ok (.float k (fl .sub k x y)) w := run_float_arith w .sub t k x y _ (fl_some h)
@[go_sem] theorem run_fl_mul (t : TypeId) (k : FloatKind) (x y : Nat) (h : (floatBits .mul k x y).isSome = true) : (binOp .mul t (.float k x) (.float k y)).run P w = .ok (.float k (fl .mul k x y)) w := run_float_arith w .mul t k x y _ (fl_some h)
@[go_sem] theorem run_fl_quo (t : TypeId) (k : FloatKind) (x y : Nat) (h : (floatBits .quo k x y).isSome = true) : (binOp .quo t (.float k x) (.float k y)).run P w = .ok (.float k (fl .quo k x y)) w := run_float_arith w .quo t k x y _ (fl_some h)

/-- A conversion between the kinds, where it is firm. -/
def cv (s : FloatKind) (b : Nat) (k : FloatKind) : Nat := (floatToFloatBits s b k).getD 0
theorem cv_some {s : FloatKind} {b : Nat} {k : FloatKind} (h : (floatToFloatBits s b k).isSome = true) : floatToFloatBits s b k = some (cv s b k) := by
  obtain ⟨r, hr⟩ := Option.isSome_iff_exists.1 h
  unfold cv; rw [hr]; rfl
@[go_sem] theorem run_cv (src dst : TypeId) (s k : FloatKind) (b : Nat) (hs : (P.underlying src).isSome = true) (hd : P.underlying dst = some (.float k)) (h : (floatToFloatBits s b k).isSome = true) :
    (convert src dst (.float s b)).run P w = .ok (.float k (cv s b k)) w := run_convert_float_float w src dst s k b _ hs hd (cv_some h)
@[go_sem] theorem run_cv_same (src dst : TypeId) (k : FloatKind) (b : Nat) (hs : (P.underlying src).isSome = true) (hd : P.underlying dst = some (.float k)) :
    (convert src dst (.float k b)).run P w = .ok (.float k b) w := run_convert_float_float w src dst k k b b hs hd (by unfold floatToFloatBits; rw [if_pos rfl])
theorem run_floatToFloat {s : FloatKind} {b : Nat} {k : FloatKind} (h : (floatToFloatBits s b k).isSome = true) : (Conv.floatToFloat s b k).run P w = .ok (.float k (cv s b k)) w := by
  have h' := cv_some h
  unfold floatToFloatBits at h'
  unfold Conv.floatToFloat
  by_cases e : s = k
  · rw [if_pos e] at h' ⊢
    rw [← Option.some.inj h']; rfl
  · rw [if_neg e] at h' ⊢
    split at h'
    · cases h'
    · rename_i sg he; rw [he]; rw [← Option.some.inj h']; rfl
    · rename_i sg mm e' he
      rw [he]
      split at h'
      · cases h'
      · rename_i ho; simp only [ho]; rw [← Option.some.inj h']; rfl
@[go_sem] theorem run_cv_complex (src dst : TypeId) (s k : FloatKind) (x y : Nat) (hs : (P.underlying src).isSome = true) (hd : P.underlying dst = some (.complex k)) (hx : (floatToFloatBits s x k).isSome = true) (hy : (floatToFloatBits s y k).isSome = true) :
    (convert src dst (.complex s x y)).run P w = .ok (.complex k (cv s x k) (cv s y k)) w := by
  obtain ⟨u, hs'⟩ := Option.isSome_iff_exists.1 hs
  cases u <;> simp [convert, run_underlying hs', run_underlying hd, Conv.complexToComplex, run_floatToFloat w hx, run_floatToFloat w hy]
/-- 'int(x)', where it is firm. -/
def ti (s : FloatKind) (b : Nat) (k : IntKind) : Int := (floatToIntVal s b k).getD 0
theorem ti_some {s : FloatKind} {b : Nat} {k : IntKind} (h : (floatToIntVal s b k).isSome = true) : floatToIntVal s b k = some (ti s b k) := by
  obtain ⟨r, hr⟩ := Option.isSome_iff_exists.1 h
  unfold ti; rw [hr]; rfl
@[go_sem] theorem run_ti (src dst : TypeId) (s : FloatKind) (k : IntKind) (b : Nat) (hs : (P.underlying src).isSome = true) (hd : P.underlying dst = some (.int k)) (h : (floatToIntVal s b k).isSome = true) :
    (convert src dst (.float s b)).run P w = .ok (.int k (ti s b k)) w := run_convert_float_int w src dst s k b _ hs hd (ti_some h)
@[go_sem] theorem run_complex_add (t : TypeId) (k : FloatKind) (x y u v : Nat) (h1 : (floatBits .add k x u).isSome = true) (h2 : (floatBits .add k y v).isSome = true) : (binOp .add t (.complex k x y) (.complex k u v)).run P w = .ok (.complex k (fl .add k x u) (fl .add k y v)) w :=
  run_complex_sum w .add (Or.inl rfl) t k x y u v _ _ (by unfold cSumBits; rw [fl_some h1, fl_some h2]; rfl)
@[go_sem] theorem run_complex_sub (t : TypeId) (k : FloatKind) (x y u v : Nat) (h1 : (floatBits .sub k x u).isSome = true) (h2 : (floatBits .sub k y v).isSome = true) : (binOp .sub t (.complex k x y) (.complex k u v)).run P w = .ok (.complex k (fl .sub k x u) (fl .sub k y v)) w :=
  run_complex_sum w .sub (Or.inr rfl) t k x y u v _ _ (by unfold cSumBits; rw [fl_some h1, fl_some h2]; rfl)
@[go_sem] theorem unary_neg_float (k : FloatKind) (b : Nat) : Op.unary .neg (.float k b) = pure (.float k (Op.negFloat k b)) := rfl
@[go_sem] theorem unary_neg_complex (k : FloatKind) (x y : Nat) : Op.unary .neg (.complex k x y) = pure (.complex k (Op.negFloat k x) (Op.negFloat k y)) := rfl
end
theorem bcell {W w1 : World} (hb : Below W.heap.size W w1) : (∀ b o, b < W.heap.size → w1.cell? ⟨b, o, none⟩ = W.cell? ⟨b, o, none⟩) ∧ (∀ b o, b < W.heap.size → w1.frozen? ⟨b, o, none⟩ = W.frozen? ⟨b, o, none⟩) :=
  ⟨fun b o h => hb.cell (p := ⟨b, o, none⟩) h, fun b o h => hb.frozen (p := ⟨b, o, none⟩) h⟩
end Go.Proofs.Ytjohpjmfnghkoaa.Kit
