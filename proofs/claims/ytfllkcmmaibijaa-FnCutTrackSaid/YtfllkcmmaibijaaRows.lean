/-
  No cell of these rows narrows 'for every input' (looked for: loops, veiled, ifaces, maps, wideKeys, modest, calm, conditions, laid).
  DERIVED. THE GIVEN ROWS OF THIS SEAT. 5 by the template 'for every input the law returns true; each argument reads behind the call as it read before'; 0 by the template 'total and deterministic' (their statements: YtfllkcmmaibijaaTotals.lean).
  GIVEN WITH THE SEED: the statements are not yours to turn. If you find one false, say at which input.
  Laid BY PROGRAM, IN A SANDBOX (cutbox-rows.mjs): the forced cells as the released guide's own fill.sh prints them over the translation e07c7eb042a8f2dd… (all of the seat's roots in one cut). By AI agents, Wed Nov 11 2026. No macro, syntax, notation, axiom, sorry.
-/
import Derived.Test.YtfllkcmmaibijaaChecked
import GoSem.Claim
import GoSem.ClaimJoined
import GoSem.ClaimMapViews
import Derived.JoinedTies
import Derived.KernelRfl
namespace Go.Proofs.Ytfllkcmmaibijaa
/- THE CELL 'sum', in the pinned program and in every row, IS THE sha256 OF THE DUMP (.gsa) THAT YtfllkcmmaibijaaProg.lean LOADS. Nothing in Lean hashes anything: it is a label: what it is worth is what the hold of that sum in a sandbox is worth. -/
noncomputable def Try.pinned : Pinned := { name := "ytfllkcmmaibijaa", sum := "e07c7eb042a8f2ddde0c1195c206629aea1a338df68e9abc3d0ac41f2f038dbd", checked := Try.checked }
namespace Rows
def none {H : Type} : Left H := { results := [], args := [] }

/-- 'laws.FnHeights': WHATEVER THE INPUT: true; the input reads as it did. -/
def fnHeightsSpec : ChangeSpec := { name := "fnHeights", fn := fun _ => fun
  | [d] => { results := [.lit (.bool true)], args := [d] }
  | _ => none }
def fnHeightsRow : OpenClaim := { program := "ytfllkcmmaibijaa", sum := "e07c7eb042a8f2ddde0c1195c206629aea1a338df68e9abc3d0ac41f2f038dbd", func := "loop.example/g03321/laws.FnHeights", spec := "fnHeights", apart := false }
def FnHeightsSaid : Prop := fnHeightsRow.holds Try.pinned (OpenSpec.ofChange fnHeightsSpec)

/-- ITS FALSE NEIGHBOUR: 'it returns false'. Refute it at one input. -/
def fnHeightsWrong : ChangeSpec := { name := "fnHeights", fn := fun _ => fun
  | [d] => { results := [.lit (.bool false)], args := [d] }
  | _ => none }
def FnHeightsWrongFalsely : Prop := fnHeightsRow.holds Try.pinned (OpenSpec.ofChange fnHeightsWrong)

/-- 'laws.FnLeeward': WHATEVER THE INPUT: true; the input reads as it did. -/
def fnLeewardSpec : ChangeSpec := { name := "fnLeeward", fn := fun _ => fun
  | [d] => { results := [.lit (.bool true)], args := [d] }
  | _ => none }
def fnLeewardRow : OpenClaim := { program := "ytfllkcmmaibijaa", sum := "e07c7eb042a8f2ddde0c1195c206629aea1a338df68e9abc3d0ac41f2f038dbd", func := "loop.example/g03321/laws.FnLeeward", spec := "fnLeeward", apart := false }
def FnLeewardSaid : Prop := fnLeewardRow.holds Try.pinned (OpenSpec.ofChange fnLeewardSpec)

/-- ITS FALSE NEIGHBOUR: 'it returns false'. Refute it at one input. -/
def fnLeewardWrong : ChangeSpec := { name := "fnLeeward", fn := fun _ => fun
  | [d] => { results := [.lit (.bool false)], args := [d] }
  | _ => none }
def FnLeewardWrongFalsely : Prop := fnLeewardRow.holds Try.pinned (OpenSpec.ofChange fnLeewardWrong)

/-- 'laws.FnSidesTurn': WHATEVER THE INPUT: true; the input reads as it did. -/
def fnSidesTurnSpec : ChangeSpec := { name := "fnSidesTurn", fn := fun _ => fun
  | [d] => { results := [.lit (.bool true)], args := [d] }
  | _ => none }
def fnSidesTurnRow : OpenClaim := { program := "ytfllkcmmaibijaa", sum := "e07c7eb042a8f2ddde0c1195c206629aea1a338df68e9abc3d0ac41f2f038dbd", func := "loop.example/g03321/laws.FnSidesTurn", spec := "fnSidesTurn", apart := false }
def FnSidesTurnSaid : Prop := fnSidesTurnRow.holds Try.pinned (OpenSpec.ofChange fnSidesTurnSpec)

/-- ITS FALSE NEIGHBOUR: 'it returns false'. Refute it at one input. -/
def fnSidesTurnWrong : ChangeSpec := { name := "fnSidesTurn", fn := fun _ => fun
  | [d] => { results := [.lit (.bool false)], args := [d] }
  | _ => none }
def FnSidesTurnWrongFalsely : Prop := fnSidesTurnRow.holds Try.pinned (OpenSpec.ofChange fnSidesTurnWrong)

/-- 'laws.FnEarlySights': WHATEVER THE INPUT: true; the input reads as it did. -/
def fnEarlySightsSpec : ChangeSpec := { name := "fnEarlySights", fn := fun _ => fun
  | [d] => { results := [.lit (.bool true)], args := [d] }
  | _ => none }
def fnEarlySightsRow : OpenClaim := { program := "ytfllkcmmaibijaa", sum := "e07c7eb042a8f2ddde0c1195c206629aea1a338df68e9abc3d0ac41f2f038dbd", func := "loop.example/g03321/laws.FnEarlySights", spec := "fnEarlySights", apart := false }
def FnEarlySightsSaid : Prop := fnEarlySightsRow.holds Try.pinned (OpenSpec.ofChange fnEarlySightsSpec)

/-- ITS FALSE NEIGHBOUR: 'it returns false'. Refute it at one input. -/
def fnEarlySightsWrong : ChangeSpec := { name := "fnEarlySights", fn := fun _ => fun
  | [d] => { results := [.lit (.bool false)], args := [d] }
  | _ => none }
def FnEarlySightsWrongFalsely : Prop := fnEarlySightsRow.holds Try.pinned (OpenSpec.ofChange fnEarlySightsWrong)

/-- 'laws.FnCutTrack': WHATEVER THE INPUT: true; the input reads as it did. -/
def fnCutTrackSpec : ChangeSpec := { name := "fnCutTrack", fn := fun _ => fun
  | [d] => { results := [.lit (.bool true)], args := [d] }
  | _ => none }
def fnCutTrackRow : OpenClaim := { program := "ytfllkcmmaibijaa", sum := "e07c7eb042a8f2ddde0c1195c206629aea1a338df68e9abc3d0ac41f2f038dbd", func := "loop.example/g03321/laws.FnCutTrack", spec := "fnCutTrack", apart := false }
def FnCutTrackSaid : Prop := fnCutTrackRow.holds Try.pinned (OpenSpec.ofChange fnCutTrackSpec)

/-- ITS FALSE NEIGHBOUR: 'it returns false'. Refute it at one input. -/
def fnCutTrackWrong : ChangeSpec := { name := "fnCutTrack", fn := fun _ => fun
  | [d] => { results := [.lit (.bool false)], args := [d] }
  | _ => none }
def FnCutTrackWrongFalsely : Prop := fnCutTrackRow.holds Try.pinned (OpenSpec.ofChange fnCutTrackWrong)

/- THE SECOND FORM. 'bulk': how many values and letters a reading holds, each counted each time it is reached (what is shared counts as often as it is met; a slice's spare places count too). A statement '..UptoSaid' is the law's where the arguments, and the package variables that the reading takes, are together of bulk at most 1048576: NARROWER than '..Said'. Prove '..Said' where nothing that the law and all that it calls make is longer than what came in: it says more and counts as full. Else prove '..UptoSaid'. A law counts once. -/
mutual
def uptoBulk {H : Type} : DataW H → Nat
  | .lit (.string bytes) => bytes.length + 1
  | .lit _ => 1
  | .nil => 1
  | .ptr d => uptoBulk d + 1
  | .slice elems spare => uptoBulkAll elems + uptoBulkAll spare + 1
  | .agg parts => uptoBulkAll parts + 1
  | .iface _ d => uptoBulk d + 1
  | .map entries => uptoBulkEntries entries + 1
  | .held _ => 1
def uptoBulkAll {H : Type} : List (DataW H) → Nat
  | [] => 0
  | d :: r => uptoBulk d + uptoBulkAll r
def uptoBulkEntries {H : Type} : List (Lit × DataW H) → Nat
  | [] => 0
  | x :: r => uptoBulkEntry x + uptoBulkEntries r
def uptoBulkEntry {H : Type} : Lit × DataW H → Nat
  | (.string bytes, d) => bytes.length + uptoBulk d + 1
  | (_, d) => uptoBulk d + 1
 end
def uptoSmall : (H : Type) → List (DataW H) → Bool := fun _ ds => decide (uptoBulkAll ds ≤ 1048576)
def OpenSpec.upto (s : _root_.Go.ChangeSpec) : _root_.Go.OpenSpec := { _root_.Go.OpenSpec.ofChange s with cond := some uptoSmall }

/-- 'laws.FnHeights', WHERE WHAT IT READS IS OF BULK AT MOST 1048576: true; the input reads as it did. -/
def fnHeightsUptoRow : OpenClaim := { program := "ytfllkcmmaibijaa", sum := "e07c7eb042a8f2ddde0c1195c206629aea1a338df68e9abc3d0ac41f2f038dbd", func := "loop.example/g03321/laws.FnHeights", spec := "fnHeights", apart := false, narrowed := true }
def FnHeightsUptoSaid : Prop := fnHeightsUptoRow.holds Try.pinned (OpenSpec.upto fnHeightsSpec)

/-- 'laws.FnLeeward', WHERE WHAT IT READS IS OF BULK AT MOST 1048576: true; the input reads as it did. -/
def fnLeewardUptoRow : OpenClaim := { program := "ytfllkcmmaibijaa", sum := "e07c7eb042a8f2ddde0c1195c206629aea1a338df68e9abc3d0ac41f2f038dbd", func := "loop.example/g03321/laws.FnLeeward", spec := "fnLeeward", apart := false, narrowed := true }
def FnLeewardUptoSaid : Prop := fnLeewardUptoRow.holds Try.pinned (OpenSpec.upto fnLeewardSpec)

/-- 'laws.FnSidesTurn', WHERE WHAT IT READS IS OF BULK AT MOST 1048576: true; the input reads as it did. -/
def fnSidesTurnUptoRow : OpenClaim := { program := "ytfllkcmmaibijaa", sum := "e07c7eb042a8f2ddde0c1195c206629aea1a338df68e9abc3d0ac41f2f038dbd", func := "loop.example/g03321/laws.FnSidesTurn", spec := "fnSidesTurn", apart := false, narrowed := true }
def FnSidesTurnUptoSaid : Prop := fnSidesTurnUptoRow.holds Try.pinned (OpenSpec.upto fnSidesTurnSpec)

/-- 'laws.FnEarlySights', WHERE WHAT IT READS IS OF BULK AT MOST 1048576: true; the input reads as it did. -/
def fnEarlySightsUptoRow : OpenClaim := { program := "ytfllkcmmaibijaa", sum := "e07c7eb042a8f2ddde0c1195c206629aea1a338df68e9abc3d0ac41f2f038dbd", func := "loop.example/g03321/laws.FnEarlySights", spec := "fnEarlySights", apart := false, narrowed := true }
def FnEarlySightsUptoSaid : Prop := fnEarlySightsUptoRow.holds Try.pinned (OpenSpec.upto fnEarlySightsSpec)

/-- 'laws.FnCutTrack', WHERE WHAT IT READS IS OF BULK AT MOST 1048576: true; the input reads as it did. -/
def fnCutTrackUptoRow : OpenClaim := { program := "ytfllkcmmaibijaa", sum := "e07c7eb042a8f2ddde0c1195c206629aea1a338df68e9abc3d0ac41f2f038dbd", func := "loop.example/g03321/laws.FnCutTrack", spec := "fnCutTrack", apart := false, narrowed := true }
def FnCutTrackUptoSaid : Prop := fnCutTrackUptoRow.holds Try.pinned (OpenSpec.upto fnCutTrackSpec)

end Rows
end Go.Proofs.Ytfllkcmmaibijaa
