/-
  No cell of these rows narrows 'for every input' (looked for: loops, veiled, ifaces, maps, wideKeys, modest, calm, conditions, laid).
  DERIVED. THE GIVEN ROWS OF THIS SEAT. 5 by the template 'for every input the law returns true; each argument reads behind the call as it read before'; 0 by the template 'total and deterministic' (their statements: YtpapcohenejpmaaTotals.lean).
  GIVEN WITH THE SEED: the statements are not yours to turn. If you find one false, say at which input.
  Laid BY PROGRAM, IN A SANDBOX (cutbox-rows.mjs): the forced cells as the released guide's own fill.sh prints them over the translation a8973ca6f048797d… (all of the seat's roots in one cut). By AI agents, Wed Nov 11 2026. No macro, syntax, notation, axiom, sorry.
-/
import Derived.Test.YtpapcohenejpmaaChecked
import GoSem.Claim
import GoSem.ClaimJoined
import GoSem.ClaimMapViews
import Derived.JoinedTies
import Derived.KernelRfl
namespace Go.Proofs.Ytpapcohenejpmaa
/- THE CELL 'sum', in the pinned program and in every row, IS THE sha256 OF THE DUMP (.gsa) THAT YtpapcohenejpmaaProg.lean LOADS. Nothing in Lean hashes anything: it is a label: what it is worth is what the hold of that sum in a sandbox is worth. -/
noncomputable def Try.pinned : Pinned := { name := "ytpapcohenejpmaa", sum := "a8973ca6f048797d3d720e3074fcdd5a618294f16adb988dad4336d87983d7a2", checked := Try.checked }
namespace Rows
def none {H : Type} : Left H := { results := [], args := [] }

/-- 'laws.FnSplitSums': WHATEVER THE INPUT: true; the input reads as it did. -/
def fnSplitSumsSpec : ChangeSpec := { name := "fnSplitSums", fn := fun _ => fun
  | [d] => { results := [.lit (.bool true)], args := [d] }
  | _ => none }
def fnSplitSumsRow : OpenClaim := { program := "ytpapcohenejpmaa", sum := "a8973ca6f048797d3d720e3074fcdd5a618294f16adb988dad4336d87983d7a2", func := "loop.example/g03321/laws.FnSplitSums", spec := "fnSplitSums", inPlace := ["math.Float64bits", "math.Float64frombits"], apart := false }
def FnSplitSumsSaid : Prop := fnSplitSumsRow.holds Try.pinned (OpenSpec.ofChange fnSplitSumsSpec)

/-- ITS FALSE NEIGHBOUR: 'it returns false'. Refute it at one input. -/
def fnSplitSumsWrong : ChangeSpec := { name := "fnSplitSums", fn := fun _ => fun
  | [d] => { results := [.lit (.bool false)], args := [d] }
  | _ => none }
def FnSplitSumsWrongFalsely : Prop := fnSplitSumsRow.holds Try.pinned (OpenSpec.ofChange fnSplitSumsWrong)

/-- 'laws.FnSteerStill': WHATEVER THE INPUT: true; the input reads as it did. -/
def fnSteerStillSpec : ChangeSpec := { name := "fnSteerStill", fn := fun _ => fun
  | [d] => { results := [.lit (.bool true)], args := [d] }
  | _ => none }
def fnSteerStillRow : OpenClaim := { program := "ytpapcohenejpmaa", sum := "a8973ca6f048797d3d720e3074fcdd5a618294f16adb988dad4336d87983d7a2", func := "loop.example/g03321/laws.FnSteerStill", spec := "fnSteerStill", inPlace := ["math.Float64bits", "math.Float64frombits"], unfollowed := true, recurses := true, apart := false }
def FnSteerStillSaid : Prop := fnSteerStillRow.holds Try.pinned (OpenSpec.ofChange fnSteerStillSpec)

/-- ITS FALSE NEIGHBOUR: 'it returns false'. Refute it at one input. -/
def fnSteerStillWrong : ChangeSpec := { name := "fnSteerStill", fn := fun _ => fun
  | [d] => { results := [.lit (.bool false)], args := [d] }
  | _ => none }
def FnSteerStillWrongFalsely : Prop := fnSteerStillRow.holds Try.pinned (OpenSpec.ofChange fnSteerStillWrong)

/-- 'laws.FnSteerLeast': WHATEVER THE INPUT: true; the input reads as it did. -/
def fnSteerLeastSpec : ChangeSpec := { name := "fnSteerLeast", fn := fun _ => fun
  | [d] => { results := [.lit (.bool true)], args := [d] }
  | _ => none }
def fnSteerLeastRow : OpenClaim := { program := "ytpapcohenejpmaa", sum := "a8973ca6f048797d3d720e3074fcdd5a618294f16adb988dad4336d87983d7a2", func := "loop.example/g03321/laws.FnSteerLeast", spec := "fnSteerLeast", inPlace := ["math.Float64bits", "math.Float64frombits"], unfollowed := true, recurses := true, apart := false }
def FnSteerLeastSaid : Prop := fnSteerLeastRow.holds Try.pinned (OpenSpec.ofChange fnSteerLeastSpec)

/-- ITS FALSE NEIGHBOUR: 'it returns false'. Refute it at one input. -/
def fnSteerLeastWrong : ChangeSpec := { name := "fnSteerLeast", fn := fun _ => fun
  | [d] => { results := [.lit (.bool false)], args := [d] }
  | _ => none }
def FnSteerLeastWrongFalsely : Prop := fnSteerLeastRow.holds Try.pinned (OpenSpec.ofChange fnSteerLeastWrong)

/-- 'laws.FnLegsJoin': WHATEVER THE INPUT: true; the input reads as it did. -/
def fnLegsJoinSpec : ChangeSpec := { name := "fnLegsJoin", fn := fun _ => fun
  | [d] => { results := [.lit (.bool true)], args := [d] }
  | _ => none }
def fnLegsJoinRow : OpenClaim := { program := "ytpapcohenejpmaa", sum := "a8973ca6f048797d3d720e3074fcdd5a618294f16adb988dad4336d87983d7a2", func := "loop.example/g03321/laws.FnLegsJoin", spec := "fnLegsJoin", inPlace := ["math.Float64bits", "math.Float64frombits"], apart := false }
def FnLegsJoinSaid : Prop := fnLegsJoinRow.holds Try.pinned (OpenSpec.ofChange fnLegsJoinSpec)

/-- ITS FALSE NEIGHBOUR: 'it returns false'. Refute it at one input. -/
def fnLegsJoinWrong : ChangeSpec := { name := "fnLegsJoin", fn := fun _ => fun
  | [d] => { results := [.lit (.bool false)], args := [d] }
  | _ => none }
def FnLegsJoinWrongFalsely : Prop := fnLegsJoinRow.holds Try.pinned (OpenSpec.ofChange fnLegsJoinWrong)

/-- 'laws.FnPassageAlong': WHATEVER THE INPUT: true; the input reads as it did. -/
def fnPassageAlongSpec : ChangeSpec := { name := "fnPassageAlong", fn := fun _ => fun
  | [d] => { results := [.lit (.bool true)], args := [d] }
  | _ => none }
def fnPassageAlongRow : OpenClaim := { program := "ytpapcohenejpmaa", sum := "a8973ca6f048797d3d720e3074fcdd5a618294f16adb988dad4336d87983d7a2", func := "loop.example/g03321/laws.FnPassageAlong", spec := "fnPassageAlong", inPlace := ["math.Float64bits", "math.Float64frombits", "math.archCeil", "math.archFloor", "math.archTrunc"], unfollowed := true, recurses := true, apart := false }
def FnPassageAlongSaid : Prop := fnPassageAlongRow.holds Try.pinned (OpenSpec.ofChange fnPassageAlongSpec)

/-- ITS FALSE NEIGHBOUR: 'it returns false'. Refute it at one input. -/
def fnPassageAlongWrong : ChangeSpec := { name := "fnPassageAlong", fn := fun _ => fun
  | [d] => { results := [.lit (.bool false)], args := [d] }
  | _ => none }
def FnPassageAlongWrongFalsely : Prop := fnPassageAlongRow.holds Try.pinned (OpenSpec.ofChange fnPassageAlongWrong)

/- THE SECOND FORM. 'bulk': how many values and letters a reading holds, each counted each time it is reached (what is shared counts as often as it is met; a slice's spare places count too). A statement '..UptoSaid' is the law's where the arguments, and the package variables that the reading takes, are together of bulk at most 1048576: NARROWER than '..Said'. Prove '..Said' where nothing that the law and all that it calls make is longer than what came in: it says more and counts as full. Else prove '..UptoSaid'. A law counts once. -/
mutual
def uptoBulk {H : Type} : DataW H → Nat
  | .lit (.string bytes) => bytes.length + 1
  | .lit _ => 1
  | .nil => 1
  | .ptr d => uptoBulk d + 1
  | .slice elems spare => uptoBulkAll elems + uptoBulkAll spare + 1
  | .agg parts => uptoBulkAll parts + 1
  | .iface _ d => uptoBulk d + 1
  | .map entries => uptoBulkEntries entries + 1
  | .held _ => 1
def uptoBulkAll {H : Type} : List (DataW H) → Nat
  | [] => 0
  | d :: r => uptoBulk d + uptoBulkAll r
def uptoBulkEntries {H : Type} : List (Lit × DataW H) → Nat
  | [] => 0
  | x :: r => uptoBulkEntry x + uptoBulkEntries r
def uptoBulkEntry {H : Type} : Lit × DataW H → Nat
  | (.string bytes, d) => bytes.length + uptoBulk d + 1
  | (_, d) => uptoBulk d + 1
 end
def uptoSmall : (H : Type) → List (DataW H) → Bool := fun _ ds => decide (uptoBulkAll ds ≤ 1048576)
def OpenSpec.upto (s : _root_.Go.ChangeSpec) : _root_.Go.OpenSpec := { _root_.Go.OpenSpec.ofChange s with cond := some uptoSmall }

/-- 'laws.FnSplitSums', WHERE WHAT IT READS IS OF BULK AT MOST 1048576: true; the input reads as it did. -/
def fnSplitSumsUptoRow : OpenClaim := { program := "ytpapcohenejpmaa", sum := "a8973ca6f048797d3d720e3074fcdd5a618294f16adb988dad4336d87983d7a2", func := "loop.example/g03321/laws.FnSplitSums", spec := "fnSplitSums", inPlace := ["math.Float64bits", "math.Float64frombits"], apart := false, narrowed := true }
def FnSplitSumsUptoSaid : Prop := fnSplitSumsUptoRow.holds Try.pinned (OpenSpec.upto fnSplitSumsSpec)

/-- 'laws.FnSteerStill', WHERE WHAT IT READS IS OF BULK AT MOST 1048576: true; the input reads as it did. -/
def fnSteerStillUptoRow : OpenClaim := { program := "ytpapcohenejpmaa", sum := "a8973ca6f048797d3d720e3074fcdd5a618294f16adb988dad4336d87983d7a2", func := "loop.example/g03321/laws.FnSteerStill", spec := "fnSteerStill", inPlace := ["math.Float64bits", "math.Float64frombits"], unfollowed := true, recurses := true, apart := false, narrowed := true }
def FnSteerStillUptoSaid : Prop := fnSteerStillUptoRow.holds Try.pinned (OpenSpec.upto fnSteerStillSpec)

/-- 'laws.FnSteerLeast', WHERE WHAT IT READS IS OF BULK AT MOST 1048576: true; the input reads as it did. -/
def fnSteerLeastUptoRow : OpenClaim := { program := "ytpapcohenejpmaa", sum := "a8973ca6f048797d3d720e3074fcdd5a618294f16adb988dad4336d87983d7a2", func := "loop.example/g03321/laws.FnSteerLeast", spec := "fnSteerLeast", inPlace := ["math.Float64bits", "math.Float64frombits"], unfollowed := true, recurses := true, apart := false, narrowed := true }
def FnSteerLeastUptoSaid : Prop := fnSteerLeastUptoRow.holds Try.pinned (OpenSpec.upto fnSteerLeastSpec)

/-- 'laws.FnLegsJoin', WHERE WHAT IT READS IS OF BULK AT MOST 1048576: true; the input reads as it did. -/
def fnLegsJoinUptoRow : OpenClaim := { program := "ytpapcohenejpmaa", sum := "a8973ca6f048797d3d720e3074fcdd5a618294f16adb988dad4336d87983d7a2", func := "loop.example/g03321/laws.FnLegsJoin", spec := "fnLegsJoin", inPlace := ["math.Float64bits", "math.Float64frombits"], apart := false, narrowed := true }
def FnLegsJoinUptoSaid : Prop := fnLegsJoinUptoRow.holds Try.pinned (OpenSpec.upto fnLegsJoinSpec)

/-- 'laws.FnPassageAlong', WHERE WHAT IT READS IS OF BULK AT MOST 1048576: true; the input reads as it did. -/
def fnPassageAlongUptoRow : OpenClaim := { program := "ytpapcohenejpmaa", sum := "a8973ca6f048797d3d720e3074fcdd5a618294f16adb988dad4336d87983d7a2", func := "loop.example/g03321/laws.FnPassageAlong", spec := "fnPassageAlong", inPlace := ["math.Float64bits", "math.Float64frombits", "math.archCeil", "math.archFloor", "math.archTrunc"], unfollowed := true, recurses := true, apart := false, narrowed := true }
def FnPassageAlongUptoSaid : Prop := fnPassageAlongUptoRow.holds Try.pinned (OpenSpec.upto fnPassageAlongSpec)

end Rows
end Go.Proofs.Ytpapcohenejpmaa
