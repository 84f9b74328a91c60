/-
  No cell of these rows narrows 'for every input' (looked for: loops, veiled, ifaces, maps, wideKeys, modest, calm, conditions, laid).
  DERIVED. THE GIVEN ROWS OF THIS SEAT. 6 by the template 'for every input the law returns true; each argument reads behind the call as it read before'; 0 by the template 'total and deterministic' (their statements: YtjohpjmfnghkoaaTotals.lean).
  GIVEN WITH THE SEED: the statements are not yours to turn. If you find one false, say at which input.
  Laid BY PROGRAM, IN A SANDBOX (cutbox-rows.mjs): the forced cells as the released guide's own fill.sh prints them over the translation e6f91e5f582be6d7… (all of the seat's roots in one cut). By AI agents, Wed Nov 11 2026. No macro, syntax, notation, axiom, sorry.
-/
import Derived.Test.YtjohpjmfnghkoaaChecked
import GoSem.Claim
import GoSem.ClaimJoined
import GoSem.ClaimMapViews
import Derived.JoinedTies
import Derived.KernelRfl
namespace Go.Proofs.Ytjohpjmfnghkoaa
/- THE CELL 'sum', in the pinned program and in every row, IS THE sha256 OF THE DUMP (.gsa) THAT YtjohpjmfnghkoaaProg.lean LOADS. Nothing in Lean hashes anything: it is a label: what it is worth is what the hold of that sum in a sandbox is worth. -/
noncomputable def Try.pinned : Pinned := { name := "ytjohpjmfnghkoaa", sum := "e6f91e5f582be6d7210b2f4a5085db053b3a98d133581453042fbc19cb7966a0", checked := Try.checked }
namespace Rows
def none {H : Type} : Left H := { results := [], args := [] }

/-- 'laws.FnExactSecondsFor': WHATEVER THE INPUT: true; the input reads as it did. -/
def fnExactSecondsForSpec : ChangeSpec := { name := "fnExactSecondsFor", fn := fun _ => fun
  | [d1, d2] => { results := [.lit (.bool true)], args := [d1, d2] }
  | _ => none }
def fnExactSecondsForRow : OpenClaim := { program := "ytjohpjmfnghkoaa", sum := "e6f91e5f582be6d7210b2f4a5085db053b3a98d133581453042fbc19cb7966a0", func := "loop.example/g03321/laws.FnExactSecondsFor", spec := "fnExactSecondsFor", inPlace := ["math.Float64bits", "math.Float64frombits", "math.archCeil", "math.archFloor", "math.archTrunc"], apart := false }
def FnExactSecondsForSaid : Prop := fnExactSecondsForRow.holds Try.pinned (OpenSpec.ofChange fnExactSecondsForSpec)

/-- ITS FALSE NEIGHBOUR: 'it returns false'. Refute it at one input. -/
def fnExactSecondsForWrong : ChangeSpec := { name := "fnExactSecondsFor", fn := fun _ => fun
  | [d1, d2] => { results := [.lit (.bool false)], args := [d1, d2] }
  | _ => none }
def FnExactSecondsForWrongFalsely : Prop := fnExactSecondsForRow.holds Try.pinned (OpenSpec.ofChange fnExactSecondsForWrong)

/-- 'laws.FnStreamHours': WHATEVER THE INPUT: true; the input reads as it did. -/
def fnStreamHoursSpec : ChangeSpec := { name := "fnStreamHours", fn := fun _ => fun
  | [d] => { results := [.lit (.bool true)], args := [d] }
  | _ => none }
def fnStreamHoursRow : OpenClaim := { program := "ytjohpjmfnghkoaa", sum := "e6f91e5f582be6d7210b2f4a5085db053b3a98d133581453042fbc19cb7966a0", func := "loop.example/g03321/laws.FnStreamHours", spec := "fnStreamHours", apart := false }
def FnStreamHoursSaid : Prop := fnStreamHoursRow.holds Try.pinned (OpenSpec.ofChange fnStreamHoursSpec)

/-- ITS FALSE NEIGHBOUR: 'it returns false'. Refute it at one input. -/
def fnStreamHoursWrong : ChangeSpec := { name := "fnStreamHours", fn := fun _ => fun
  | [d] => { results := [.lit (.bool false)], args := [d] }
  | _ => none }
def FnStreamHoursWrongFalsely : Prop := fnStreamHoursRow.holds Try.pinned (OpenSpec.ofChange fnStreamHoursWrong)

/-- 'laws.FnHighNearest': WHATEVER THE INPUT: true; the input reads as it did. -/
def fnHighNearestSpec : ChangeSpec := { name := "fnHighNearest", fn := fun _ => fun
  | [d] => { results := [.lit (.bool true)], args := [d] }
  | _ => none }
def fnHighNearestRow : OpenClaim := { program := "ytjohpjmfnghkoaa", sum := "e6f91e5f582be6d7210b2f4a5085db053b3a98d133581453042fbc19cb7966a0", func := "loop.example/g03321/laws.FnHighNearest", spec := "fnHighNearest", inPlace := ["math.Float64bits", "math.Float64frombits"], unfollowed := true, recurses := true, apart := false }
def FnHighNearestSaid : Prop := fnHighNearestRow.holds Try.pinned (OpenSpec.ofChange fnHighNearestSpec)

/-- ITS FALSE NEIGHBOUR: 'it returns false'. Refute it at one input. -/
def fnHighNearestWrong : ChangeSpec := { name := "fnHighNearest", fn := fun _ => fun
  | [d] => { results := [.lit (.bool false)], args := [d] }
  | _ => none }
def FnHighNearestWrongFalsely : Prop := fnHighNearestRow.holds Try.pinned (OpenSpec.ofChange fnHighNearestWrong)

/-- 'laws.FnHatHolds': WHATEVER THE INPUT: true; the input reads as it did. -/
def fnHatHoldsSpec : ChangeSpec := { name := "fnHatHolds", fn := fun _ => fun
  | [d] => { results := [.lit (.bool true)], args := [d] }
  | _ => none }
def fnHatHoldsRow : OpenClaim := { program := "ytjohpjmfnghkoaa", sum := "e6f91e5f582be6d7210b2f4a5085db053b3a98d133581453042fbc19cb7966a0", func := "loop.example/g03321/laws.FnHatHolds", spec := "fnHatHolds", inPlace := ["math.Float64bits", "math.Float64frombits"], apart := false }
def FnHatHoldsSaid : Prop := fnHatHoldsRow.holds Try.pinned (OpenSpec.ofChange fnHatHoldsSpec)

/-- ITS FALSE NEIGHBOUR: 'it returns false'. Refute it at one input. -/
def fnHatHoldsWrong : ChangeSpec := { name := "fnHatHolds", fn := fun _ => fun
  | [d] => { results := [.lit (.bool false)], args := [d] }
  | _ => none }
def FnHatHoldsWrongFalsely : Prop := fnHatHoldsRow.holds Try.pinned (OpenSpec.ofChange fnHatHoldsWrong)

/-- 'laws.FnSecondsGrow': WHATEVER THE INPUT: true; the input reads as it did. -/
def fnSecondsGrowSpec : ChangeSpec := { name := "fnSecondsGrow", fn := fun _ => fun
  | [d] => { results := [.lit (.bool true)], args := [d] }
  | _ => none }
def fnSecondsGrowRow : OpenClaim := { program := "ytjohpjmfnghkoaa", sum := "e6f91e5f582be6d7210b2f4a5085db053b3a98d133581453042fbc19cb7966a0", func := "loop.example/g03321/laws.FnSecondsGrow", spec := "fnSecondsGrow", inPlace := ["math.Float64bits", "math.Float64frombits", "math.archCeil", "math.archFloor", "math.archTrunc"], apart := false }
def FnSecondsGrowSaid : Prop := fnSecondsGrowRow.holds Try.pinned (OpenSpec.ofChange fnSecondsGrowSpec)

/-- ITS FALSE NEIGHBOUR: 'it returns false'. Refute it at one input. -/
def fnSecondsGrowWrong : ChangeSpec := { name := "fnSecondsGrow", fn := fun _ => fun
  | [d] => { results := [.lit (.bool false)], args := [d] }
  | _ => none }
def FnSecondsGrowWrongFalsely : Prop := fnSecondsGrowRow.holds Try.pinned (OpenSpec.ofChange fnSecondsGrowWrong)

/-- 'laws.FnStepsBack': WHATEVER THE INPUT: true; the input reads as it did. -/
def fnStepsBackSpec : ChangeSpec := { name := "fnStepsBack", fn := fun _ => fun
  | [d] => { results := [.lit (.bool true)], args := [d] }
  | _ => none }
def fnStepsBackRow : OpenClaim := { program := "ytjohpjmfnghkoaa", sum := "e6f91e5f582be6d7210b2f4a5085db053b3a98d133581453042fbc19cb7966a0", func := "loop.example/g03321/laws.FnStepsBack", spec := "fnStepsBack", inPlace := ["math.Float64bits", "math.Float64frombits"], apart := false }
def FnStepsBackSaid : Prop := fnStepsBackRow.holds Try.pinned (OpenSpec.ofChange fnStepsBackSpec)

/-- ITS FALSE NEIGHBOUR: 'it returns false'. Refute it at one input. -/
def fnStepsBackWrong : ChangeSpec := { name := "fnStepsBack", fn := fun _ => fun
  | [d] => { results := [.lit (.bool false)], args := [d] }
  | _ => none }
def FnStepsBackWrongFalsely : Prop := fnStepsBackRow.holds Try.pinned (OpenSpec.ofChange fnStepsBackWrong)

/- THE SECOND FORM. 'bulk': how many values and letters a reading holds, each counted each time it is reached (what is shared counts as often as it is met; a slice's spare places count too). A statement '..UptoSaid' is the law's where the arguments, and the package variables that the reading takes, are together of bulk at most 1048576: NARROWER than '..Said'. Prove '..Said' where nothing that the law and all that it calls make is longer than what came in: it says more and counts as full. Else prove '..UptoSaid'. A law counts once. -/
mutual
def uptoBulk {H : Type} : DataW H → Nat
  | .lit (.string bytes) => bytes.length + 1
  | .lit _ => 1
  | .nil => 1
  | .ptr d => uptoBulk d + 1
  | .slice elems spare => uptoBulkAll elems + uptoBulkAll spare + 1
  | .agg parts => uptoBulkAll parts + 1
  | .iface _ d => uptoBulk d + 1
  | .map entries => uptoBulkEntries entries + 1
  | .held _ => 1
def uptoBulkAll {H : Type} : List (DataW H) → Nat
  | [] => 0
  | d :: r => uptoBulk d + uptoBulkAll r
def uptoBulkEntries {H : Type} : List (Lit × DataW H) → Nat
  | [] => 0
  | x :: r => uptoBulkEntry x + uptoBulkEntries r
def uptoBulkEntry {H : Type} : Lit × DataW H → Nat
  | (.string bytes, d) => bytes.length + uptoBulk d + 1
  | (_, d) => uptoBulk d + 1
 end
def uptoSmall : (H : Type) → List (DataW H) → Bool := fun _ ds => decide (uptoBulkAll ds ≤ 1048576)
def OpenSpec.upto (s : _root_.Go.ChangeSpec) : _root_.Go.OpenSpec := { _root_.Go.OpenSpec.ofChange s with cond := some uptoSmall }

/-- 'laws.FnExactSecondsFor', WHERE WHAT IT READS IS OF BULK AT MOST 1048576: true; the input reads as it did. -/
def fnExactSecondsForUptoRow : OpenClaim := { program := "ytjohpjmfnghkoaa", sum := "e6f91e5f582be6d7210b2f4a5085db053b3a98d133581453042fbc19cb7966a0", func := "loop.example/g03321/laws.FnExactSecondsFor", spec := "fnExactSecondsFor", inPlace := ["math.Float64bits", "math.Float64frombits", "math.archCeil", "math.archFloor", "math.archTrunc"], apart := false, narrowed := true }
def FnExactSecondsForUptoSaid : Prop := fnExactSecondsForUptoRow.holds Try.pinned (OpenSpec.upto fnExactSecondsForSpec)

/-- 'laws.FnStreamHours', WHERE WHAT IT READS IS OF BULK AT MOST 1048576: true; the input reads as it did. -/
def fnStreamHoursUptoRow : OpenClaim := { program := "ytjohpjmfnghkoaa", sum := "e6f91e5f582be6d7210b2f4a5085db053b3a98d133581453042fbc19cb7966a0", func := "loop.example/g03321/laws.FnStreamHours", spec := "fnStreamHours", apart := false, narrowed := true }
def FnStreamHoursUptoSaid : Prop := fnStreamHoursUptoRow.holds Try.pinned (OpenSpec.upto fnStreamHoursSpec)

/-- 'laws.FnHighNearest', WHERE WHAT IT READS IS OF BULK AT MOST 1048576: true; the input reads as it did. -/
def fnHighNearestUptoRow : OpenClaim := { program := "ytjohpjmfnghkoaa", sum := "e6f91e5f582be6d7210b2f4a5085db053b3a98d133581453042fbc19cb7966a0", func := "loop.example/g03321/laws.FnHighNearest", spec := "fnHighNearest", inPlace := ["math.Float64bits", "math.Float64frombits"], unfollowed := true, recurses := true, apart := false, narrowed := true }
def FnHighNearestUptoSaid : Prop := fnHighNearestUptoRow.holds Try.pinned (OpenSpec.upto fnHighNearestSpec)

/-- 'laws.FnHatHolds', WHERE WHAT IT READS IS OF BULK AT MOST 1048576: true; the input reads as it did. -/
def fnHatHoldsUptoRow : OpenClaim := { program := "ytjohpjmfnghkoaa", sum := "e6f91e5f582be6d7210b2f4a5085db053b3a98d133581453042fbc19cb7966a0", func := "loop.example/g03321/laws.FnHatHolds", spec := "fnHatHolds", inPlace := ["math.Float64bits", "math.Float64frombits"], apart := false, narrowed := true }
def FnHatHoldsUptoSaid : Prop := fnHatHoldsUptoRow.holds Try.pinned (OpenSpec.upto fnHatHoldsSpec)

/-- 'laws.FnSecondsGrow', WHERE WHAT IT READS IS OF BULK AT MOST 1048576: true; the input reads as it did. -/
def fnSecondsGrowUptoRow : OpenClaim := { program := "ytjohpjmfnghkoaa", sum := "e6f91e5f582be6d7210b2f4a5085db053b3a98d133581453042fbc19cb7966a0", func := "loop.example/g03321/laws.FnSecondsGrow", spec := "fnSecondsGrow", inPlace := ["math.Float64bits", "math.Float64frombits", "math.archCeil", "math.archFloor", "math.archTrunc"], apart := false, narrowed := true }
def FnSecondsGrowUptoSaid : Prop := fnSecondsGrowUptoRow.holds Try.pinned (OpenSpec.upto fnSecondsGrowSpec)

/-- 'laws.FnStepsBack', WHERE WHAT IT READS IS OF BULK AT MOST 1048576: true; the input reads as it did. -/
def fnStepsBackUptoRow : OpenClaim := { program := "ytjohpjmfnghkoaa", sum := "e6f91e5f582be6d7210b2f4a5085db053b3a98d133581453042fbc19cb7966a0", func := "loop.example/g03321/laws.FnStepsBack", spec := "fnStepsBack", inPlace := ["math.Float64bits", "math.Float64frombits"], apart := false, narrowed := true }
def FnStepsBackUptoSaid : Prop := fnStepsBackUptoRow.holds Try.pinned (OpenSpec.upto fnStepsBackSpec)

end Rows
end Go.Proofs.Ytjohpjmfnghkoaa
