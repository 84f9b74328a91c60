/-
  No cell of these rows narrows 'for every input' (looked for: loops, veiled, ifaces, maps, wideKeys, modest, calm, conditions, laid).
  DERIVED. THE GIVEN ROWS OF THIS SEAT. 4 by the template 'for every input the law returns true; each argument reads behind the call as it read before'; 0 by the template 'total and deterministic' (their statements: YteaiaedhkhmgdaaTotals.lean).
  GIVEN WITH THE SEED: the statements are not yours to turn. If you find one false, say at which input.
  Laid BY PROGRAM, IN A SANDBOX (cutbox-rows.mjs): the forced cells as the released guide's own fill.sh prints them over the translation c3d5c9ceb827c15f… (all of the seat's roots in one cut). By AI agents, Wed Nov 11 2026. No macro, syntax, notation, axiom, sorry.
-/
import Derived.Test.YteaiaedhkhmgdaaChecked
import GoSem.Claim
import GoSem.ClaimJoined
import GoSem.ClaimMapViews
import Derived.JoinedTies
import Derived.KernelRfl
namespace Go.Proofs.Yteaiaedhkhmgdaa
/- THE CELL 'sum', in the pinned program and in every row, IS THE sha256 OF THE DUMP (.gsa) THAT YteaiaedhkhmgdaaProg.lean LOADS. Nothing in Lean hashes anything: it is a label: what it is worth is what the hold of that sum in a sandbox is worth. -/
noncomputable def Try.pinned : Pinned := { name := "yteaiaedhkhmgdaa", sum := "c3d5c9ceb827c15f19b6aba7e3dd88663392e32f6ad24492b1e7b9954ebf75e3", checked := Try.checked }
namespace Rows
def none {H : Type} : Left H := { results := [], args := [] }

/-- 'laws.FnExactBestUp': WHATEVER THE INPUT: true; the input reads as it did. -/
def fnExactBestUpSpec : ChangeSpec := { name := "fnExactBestUp", fn := fun _ => fun
  | [d1, d2] => { results := [.lit (.bool true)], args := [d1, d2] }
  | _ => none }
def fnExactBestUpRow : OpenClaim := { program := "yteaiaedhkhmgdaa", sum := "c3d5c9ceb827c15f19b6aba7e3dd88663392e32f6ad24492b1e7b9954ebf75e3", func := "loop.example/g03321/laws.FnExactBestUp", spec := "fnExactBestUp", unfollowed := true, recurses := true, apart := false }
def FnExactBestUpSaid : Prop := fnExactBestUpRow.holds Try.pinned (OpenSpec.ofChange fnExactBestUpSpec)

/-- ITS FALSE NEIGHBOUR: 'it returns false'. Refute it at one input. -/
def fnExactBestUpWrong : ChangeSpec := { name := "fnExactBestUp", fn := fun _ => fun
  | [d1, d2] => { results := [.lit (.bool false)], args := [d1, d2] }
  | _ => none }
def FnExactBestUpWrongFalsely : Prop := fnExactBestUpRow.holds Try.pinned (OpenSpec.ofChange fnExactBestUpWrong)

/-- 'laws.FnExactBestDown': WHATEVER THE INPUT: true; the input reads as it did. -/
def fnExactBestDownSpec : ChangeSpec := { name := "fnExactBestDown", fn := fun _ => fun
  | [d1, d2] => { results := [.lit (.bool true)], args := [d1, d2] }
  | _ => none }
def fnExactBestDownRow : OpenClaim := { program := "yteaiaedhkhmgdaa", sum := "c3d5c9ceb827c15f19b6aba7e3dd88663392e32f6ad24492b1e7b9954ebf75e3", func := "loop.example/g03321/laws.FnExactBestDown", spec := "fnExactBestDown", unfollowed := true, recurses := true, apart := false }
def FnExactBestDownSaid : Prop := fnExactBestDownRow.holds Try.pinned (OpenSpec.ofChange fnExactBestDownSpec)

/-- ITS FALSE NEIGHBOUR: 'it returns false'. Refute it at one input. -/
def fnExactBestDownWrong : ChangeSpec := { name := "fnExactBestDown", fn := fun _ => fun
  | [d1, d2] => { results := [.lit (.bool false)], args := [d1, d2] }
  | _ => none }
def FnExactBestDownWrongFalsely : Prop := fnExactBestDownRow.holds Try.pinned (OpenSpec.ofChange fnExactBestDownWrong)

/-- 'laws.FnBestAngles': WHATEVER THE INPUT: true; the input reads as it did. -/
def fnBestAnglesSpec : ChangeSpec := { name := "fnBestAngles", fn := fun _ => fun
  | [d] => { results := [.lit (.bool true)], args := [d] }
  | _ => none }
def fnBestAnglesRow : OpenClaim := { program := "yteaiaedhkhmgdaa", sum := "c3d5c9ceb827c15f19b6aba7e3dd88663392e32f6ad24492b1e7b9954ebf75e3", func := "loop.example/g03321/laws.FnBestAngles", spec := "fnBestAngles", unfollowed := true, recurses := true, apart := false }
def FnBestAnglesSaid : Prop := fnBestAnglesRow.holds Try.pinned (OpenSpec.ofChange fnBestAnglesSpec)

/-- ITS FALSE NEIGHBOUR: 'it returns false'. Refute it at one input. -/
def fnBestAnglesWrong : ChangeSpec := { name := "fnBestAngles", fn := fun _ => fun
  | [d] => { results := [.lit (.bool false)], args := [d] }
  | _ => none }
def FnBestAnglesWrongFalsely : Prop := fnBestAnglesRow.holds Try.pinned (OpenSpec.ofChange fnBestAnglesWrong)

/-- 'laws.FnTackAngles': WHATEVER THE INPUT: true; the input reads as it did. -/
def fnTackAnglesSpec : ChangeSpec := { name := "fnTackAngles", fn := fun _ => fun
  | [d] => { results := [.lit (.bool true)], args := [d] }
  | _ => none }
def fnTackAnglesRow : OpenClaim := { program := "yteaiaedhkhmgdaa", sum := "c3d5c9ceb827c15f19b6aba7e3dd88663392e32f6ad24492b1e7b9954ebf75e3", func := "loop.example/g03321/laws.FnTackAngles", spec := "fnTackAngles", inPlace := ["math.Float64bits", "math.Float64frombits"], unfollowed := true, recurses := true, apart := false }
def FnTackAnglesSaid : Prop := fnTackAnglesRow.holds Try.pinned (OpenSpec.ofChange fnTackAnglesSpec)

/-- ITS FALSE NEIGHBOUR: 'it returns false'. Refute it at one input. -/
def fnTackAnglesWrong : ChangeSpec := { name := "fnTackAngles", fn := fun _ => fun
  | [d] => { results := [.lit (.bool false)], args := [d] }
  | _ => none }
def FnTackAnglesWrongFalsely : Prop := fnTackAnglesRow.holds Try.pinned (OpenSpec.ofChange fnTackAnglesWrong)

/- THE SECOND FORM. 'bulk': how many values and letters a reading holds, each counted each time it is reached (what is shared counts as often as it is met; a slice's spare places count too). A statement '..UptoSaid' is the law's where the arguments, and the package variables that the reading takes, are together of bulk at most 1048576: NARROWER than '..Said'. Prove '..Said' where nothing that the law and all that it calls make is longer than what came in: it says more and counts as full. Else prove '..UptoSaid'. A law counts once. -/
mutual
def uptoBulk {H : Type} : DataW H → Nat
  | .lit (.string bytes) => bytes.length + 1
  | .lit _ => 1
  | .nil => 1
  | .ptr d => uptoBulk d + 1
  | .slice elems spare => uptoBulkAll elems + uptoBulkAll spare + 1
  | .agg parts => uptoBulkAll parts + 1
  | .iface _ d => uptoBulk d + 1
  | .map entries => uptoBulkEntries entries + 1
  | .held _ => 1
def uptoBulkAll {H : Type} : List (DataW H) → Nat
  | [] => 0
  | d :: r => uptoBulk d + uptoBulkAll r
def uptoBulkEntries {H : Type} : List (Lit × DataW H) → Nat
  | [] => 0
  | x :: r => uptoBulkEntry x + uptoBulkEntries r
def uptoBulkEntry {H : Type} : Lit × DataW H → Nat
  | (.string bytes, d) => bytes.length + uptoBulk d + 1
  | (_, d) => uptoBulk d + 1
 end
def uptoSmall : (H : Type) → List (DataW H) → Bool := fun _ ds => decide (uptoBulkAll ds ≤ 1048576)
def OpenSpec.upto (s : _root_.Go.ChangeSpec) : _root_.Go.OpenSpec := { _root_.Go.OpenSpec.ofChange s with cond := some uptoSmall }

/-- 'laws.FnExactBestUp', WHERE WHAT IT READS IS OF BULK AT MOST 1048576: true; the input reads as it did. -/
def fnExactBestUpUptoRow : OpenClaim := { program := "yteaiaedhkhmgdaa", sum := "c3d5c9ceb827c15f19b6aba7e3dd88663392e32f6ad24492b1e7b9954ebf75e3", func := "loop.example/g03321/laws.FnExactBestUp", spec := "fnExactBestUp", unfollowed := true, recurses := true, apart := false, narrowed := true }
def FnExactBestUpUptoSaid : Prop := fnExactBestUpUptoRow.holds Try.pinned (OpenSpec.upto fnExactBestUpSpec)

/-- 'laws.FnExactBestDown', WHERE WHAT IT READS IS OF BULK AT MOST 1048576: true; the input reads as it did. -/
def fnExactBestDownUptoRow : OpenClaim := { program := "yteaiaedhkhmgdaa", sum := "c3d5c9ceb827c15f19b6aba7e3dd88663392e32f6ad24492b1e7b9954ebf75e3", func := "loop.example/g03321/laws.FnExactBestDown", spec := "fnExactBestDown", unfollowed := true, recurses := true, apart := false, narrowed := true }
def FnExactBestDownUptoSaid : Prop := fnExactBestDownUptoRow.holds Try.pinned (OpenSpec.upto fnExactBestDownSpec)

/-- 'laws.FnBestAngles', WHERE WHAT IT READS IS OF BULK AT MOST 1048576: true; the input reads as it did. -/
def fnBestAnglesUptoRow : OpenClaim := { program := "yteaiaedhkhmgdaa", sum := "c3d5c9ceb827c15f19b6aba7e3dd88663392e32f6ad24492b1e7b9954ebf75e3", func := "loop.example/g03321/laws.FnBestAngles", spec := "fnBestAngles", unfollowed := true, recurses := true, apart := false, narrowed := true }
def FnBestAnglesUptoSaid : Prop := fnBestAnglesUptoRow.holds Try.pinned (OpenSpec.upto fnBestAnglesSpec)

/-- 'laws.FnTackAngles', WHERE WHAT IT READS IS OF BULK AT MOST 1048576: true; the input reads as it did. -/
def fnTackAnglesUptoRow : OpenClaim := { program := "yteaiaedhkhmgdaa", sum := "c3d5c9ceb827c15f19b6aba7e3dd88663392e32f6ad24492b1e7b9954ebf75e3", func := "loop.example/g03321/laws.FnTackAngles", spec := "fnTackAngles", inPlace := ["math.Float64bits", "math.Float64frombits"], unfollowed := true, recurses := true, apart := false, narrowed := true }
def FnTackAnglesUptoSaid : Prop := fnTackAnglesUptoRow.holds Try.pinned (OpenSpec.upto fnTackAnglesSpec)

end Rows
end Go.Proofs.Yteaiaedhkhmgdaa
