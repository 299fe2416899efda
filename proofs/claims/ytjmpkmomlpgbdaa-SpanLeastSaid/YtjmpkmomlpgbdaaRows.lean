/-
  No cell of these rows narrows 'for every input' (looked for: loops, veiled, ifaces, maps, wideKeys, modest, calm, conditions, laid).
  DERIVED. THE GIVEN ROWS OF THIS SEAT. 6 by the template 'for every input the law returns true; each argument reads behind the call as it read before'; 0 by the template 'total and deterministic' (their statements: YtjmpkmomlpgbdaaTotals.lean).
  GIVEN WITH THE SEED: the statements are not yours to turn. If you find one false, say at which input.
  Laid BY PROGRAM, IN A SANDBOX (cutbox-rows.mjs): the forced cells as the released guide's own fill.sh prints them over the translation 9132555ec55b4f7c… (all of the seat's roots in one cut). By AI agents, Wed Nov 11 2026. No macro, syntax, notation, axiom, sorry.
-/
import Derived.Test.YtjmpkmomlpgbdaaChecked
import GoSem.Claim
import GoSem.ClaimJoined
import GoSem.ClaimMapViews
import Derived.JoinedTies
import Derived.KernelRfl
namespace Go.Proofs.Ytjmpkmomlpgbdaa
/- THE CELL 'sum', in the pinned program and in every row, IS THE sha256 OF THE DUMP (.gsa) THAT YtjmpkmomlpgbdaaProg.lean LOADS. Nothing in Lean hashes anything: it is a label: what it is worth is what the hold of that sum in a sandbox is worth. -/
noncomputable def Try.pinned : Pinned := { name := "ytjmpkmomlpgbdaa", sum := "9132555ec55b4f7c617718ffa1371583967101cd3fd0c3c53a788bc454313d19", checked := Try.checked }
namespace Rows
def none {H : Type} : Left H := { results := [], args := [] }

/-- 'quipukeep.MullerFar': WHATEVER THE INPUT: true; the input reads as it did. -/
def mullerFarSpec : ChangeSpec := { name := "mullerFar", fn := fun _ => fun
  | [d1, d2, d3, d4] => { results := [.lit (.bool true)], args := [d1, d2, d3, d4] }
  | _ => none }
def mullerFarRow : OpenClaim := { program := "ytjmpkmomlpgbdaa", sum := "9132555ec55b4f7c617718ffa1371583967101cd3fd0c3c53a788bc454313d19", func := "quipu/quipukeep.MullerFar", spec := "mullerFar", unfollowed := true, recurses := true, apart := false }
def MullerFarSaid : Prop := mullerFarRow.holds Try.pinned (OpenSpec.ofChange mullerFarSpec)

/-- ITS FALSE NEIGHBOUR: 'it returns false'. Refute it at one input. -/
def mullerFarWrong : ChangeSpec := { name := "mullerFar", fn := fun _ => fun
  | [d1, d2, d3, d4] => { results := [.lit (.bool false)], args := [d1, d2, d3, d4] }
  | _ => none }
def MullerFarWrongFalsely : Prop := mullerFarRow.holds Try.pinned (OpenSpec.ofChange mullerFarWrong)

/-- 'quipukeep.MullerBack': WHATEVER THE INPUT: true; the input reads as it did. -/
def mullerBackSpec : ChangeSpec := { name := "mullerBack", fn := fun _ => fun
  | [d1, d2, d3, d4] => { results := [.lit (.bool true)], args := [d1, d2, d3, d4] }
  | _ => none }
def mullerBackRow : OpenClaim := { program := "ytjmpkmomlpgbdaa", sum := "9132555ec55b4f7c617718ffa1371583967101cd3fd0c3c53a788bc454313d19", func := "quipu/quipukeep.MullerBack", spec := "mullerBack", unfollowed := true, recurses := true, apart := false }
def MullerBackSaid : Prop := mullerBackRow.holds Try.pinned (OpenSpec.ofChange mullerBackSpec)

/-- ITS FALSE NEIGHBOUR: 'it returns false'. Refute it at one input. -/
def mullerBackWrong : ChangeSpec := { name := "mullerBack", fn := fun _ => fun
  | [d1, d2, d3, d4] => { results := [.lit (.bool false)], args := [d1, d2, d3, d4] }
  | _ => none }
def MullerBackWrongFalsely : Prop := mullerBackRow.holds Try.pinned (OpenSpec.ofChange mullerBackWrong)

/-- 'quipukeep.SpanClosed': WHATEVER THE INPUT: true; the input reads as it did. -/
def spanClosedSpec : ChangeSpec := { name := "spanClosed", fn := fun _ => fun
  | [d1, d2, d3, d4] => { results := [.lit (.bool true)], args := [d1, d2, d3, d4] }
  | _ => none }
def spanClosedRow : OpenClaim := { program := "ytjmpkmomlpgbdaa", sum := "9132555ec55b4f7c617718ffa1371583967101cd3fd0c3c53a788bc454313d19", func := "quipu/quipukeep.SpanClosed", spec := "spanClosed", recurses := true, apart := false }
def SpanClosedSaid : Prop := spanClosedRow.holds Try.pinned (OpenSpec.ofChange spanClosedSpec)

/-- ITS FALSE NEIGHBOUR: 'it returns false'. Refute it at one input. -/
def spanClosedWrong : ChangeSpec := { name := "spanClosed", fn := fun _ => fun
  | [d1, d2, d3, d4] => { results := [.lit (.bool false)], args := [d1, d2, d3, d4] }
  | _ => none }
def SpanClosedWrongFalsely : Prop := spanClosedRow.holds Try.pinned (OpenSpec.ofChange spanClosedWrong)

/-- 'quipukeep.SpanWeights': WHATEVER THE INPUT: true; the input reads as it did. -/
def spanWeightsSpec : ChangeSpec := { name := "spanWeights", fn := fun _ => fun
  | [d1, d2] => { results := [.lit (.bool true)], args := [d1, d2] }
  | _ => none }
def spanWeightsRow : OpenClaim := { program := "ytjmpkmomlpgbdaa", sum := "9132555ec55b4f7c617718ffa1371583967101cd3fd0c3c53a788bc454313d19", func := "quipu/quipukeep.SpanWeights", spec := "spanWeights", unfollowed := true, recurses := true, apart := false }
def SpanWeightsSaid : Prop := spanWeightsRow.holds Try.pinned (OpenSpec.ofChange spanWeightsSpec)

/-- ITS FALSE NEIGHBOUR: 'it returns false'. Refute it at one input. -/
def spanWeightsWrong : ChangeSpec := { name := "spanWeights", fn := fun _ => fun
  | [d1, d2] => { results := [.lit (.bool false)], args := [d1, d2] }
  | _ => none }
def SpanWeightsWrongFalsely : Prop := spanWeightsRow.holds Try.pinned (OpenSpec.ofChange spanWeightsWrong)

/-- 'quipukeep.SpanDual': WHATEVER THE INPUT: true; the input reads as it did. -/
def spanDualSpec : ChangeSpec := { name := "spanDual", fn := fun _ => fun
  | [d1, d2, d3] => { results := [.lit (.bool true)], args := [d1, d2, d3] }
  | _ => none }
def spanDualRow : OpenClaim := { program := "ytjmpkmomlpgbdaa", sum := "9132555ec55b4f7c617718ffa1371583967101cd3fd0c3c53a788bc454313d19", func := "quipu/quipukeep.SpanDual", spec := "spanDual", unfollowed := true, recurses := true, apart := false }
def SpanDualSaid : Prop := spanDualRow.holds Try.pinned (OpenSpec.ofChange spanDualSpec)

/-- ITS FALSE NEIGHBOUR: 'it returns false'. Refute it at one input. -/
def spanDualWrong : ChangeSpec := { name := "spanDual", fn := fun _ => fun
  | [d1, d2, d3] => { results := [.lit (.bool false)], args := [d1, d2, d3] }
  | _ => none }
def SpanDualWrongFalsely : Prop := spanDualRow.holds Try.pinned (OpenSpec.ofChange spanDualWrong)

/-- 'quipukeep.SpanLeast': WHATEVER THE INPUT: true; the input reads as it did. -/
def spanLeastSpec : ChangeSpec := { name := "spanLeast", fn := fun _ => fun
  | [d1, d2, d3] => { results := [.lit (.bool true)], args := [d1, d2, d3] }
  | _ => none }
def spanLeastRow : OpenClaim := { program := "ytjmpkmomlpgbdaa", sum := "9132555ec55b4f7c617718ffa1371583967101cd3fd0c3c53a788bc454313d19", func := "quipu/quipukeep.SpanLeast", spec := "spanLeast", recurses := true, apart := false }
def SpanLeastSaid : Prop := spanLeastRow.holds Try.pinned (OpenSpec.ofChange spanLeastSpec)

/-- ITS FALSE NEIGHBOUR: 'it returns false'. Refute it at one input. -/
def spanLeastWrong : ChangeSpec := { name := "spanLeast", fn := fun _ => fun
  | [d1, d2, d3] => { results := [.lit (.bool false)], args := [d1, d2, d3] }
  | _ => none }
def SpanLeastWrongFalsely : Prop := spanLeastRow.holds Try.pinned (OpenSpec.ofChange spanLeastWrong)

/- THE SECOND FORM. 'bulk': how many values and letters a reading holds, each counted each time it is reached (what is shared counts as often as it is met; a slice's spare places count too). A statement '..UptoSaid' is the law's where the arguments, and the package variables that the reading takes, are together of bulk at most 1048576: NARROWER than '..Said'. Prove '..Said' where nothing that the law and all that it calls make is longer than what came in: it says more and counts as full. Else prove '..UptoSaid'. A law counts once. -/
mutual
def uptoBulk {H : Type} : DataW H → Nat
  | .lit (.string bytes) => bytes.length + 1
  | .lit _ => 1
  | .nil => 1
  | .ptr d => uptoBulk d + 1
  | .slice elems spare => uptoBulkAll elems + uptoBulkAll spare + 1
  | .agg parts => uptoBulkAll parts + 1
  | .iface _ d => uptoBulk d + 1
  | .map entries => uptoBulkEntries entries + 1
  | .held _ => 1
def uptoBulkAll {H : Type} : List (DataW H) → Nat
  | [] => 0
  | d :: r => uptoBulk d + uptoBulkAll r
def uptoBulkEntries {H : Type} : List (Lit × DataW H) → Nat
  | [] => 0
  | x :: r => uptoBulkEntry x + uptoBulkEntries r
def uptoBulkEntry {H : Type} : Lit × DataW H → Nat
  | (.string bytes, d) => bytes.length + uptoBulk d + 1
  | (_, d) => uptoBulk d + 1
 end
def uptoSmall : (H : Type) → List (DataW H) → Bool := fun _ ds => decide (uptoBulkAll ds ≤ 1048576)
def OpenSpec.upto (s : _root_.Go.ChangeSpec) : _root_.Go.OpenSpec := { _root_.Go.OpenSpec.ofChange s with cond := some uptoSmall }

/-- 'quipukeep.MullerFar', WHERE WHAT IT READS IS OF BULK AT MOST 1048576: true; the input reads as it did. -/
def mullerFarUptoRow : OpenClaim := { program := "ytjmpkmomlpgbdaa", sum := "9132555ec55b4f7c617718ffa1371583967101cd3fd0c3c53a788bc454313d19", func := "quipu/quipukeep.MullerFar", spec := "mullerFar", unfollowed := true, recurses := true, apart := false, narrowed := true }
def MullerFarUptoSaid : Prop := mullerFarUptoRow.holds Try.pinned (OpenSpec.upto mullerFarSpec)

/-- 'quipukeep.MullerBack', WHERE WHAT IT READS IS OF BULK AT MOST 1048576: true; the input reads as it did. -/
def mullerBackUptoRow : OpenClaim := { program := "ytjmpkmomlpgbdaa", sum := "9132555ec55b4f7c617718ffa1371583967101cd3fd0c3c53a788bc454313d19", func := "quipu/quipukeep.MullerBack", spec := "mullerBack", unfollowed := true, recurses := true, apart := false, narrowed := true }
def MullerBackUptoSaid : Prop := mullerBackUptoRow.holds Try.pinned (OpenSpec.upto mullerBackSpec)

/-- 'quipukeep.SpanClosed', WHERE WHAT IT READS IS OF BULK AT MOST 1048576: true; the input reads as it did. -/
def spanClosedUptoRow : OpenClaim := { program := "ytjmpkmomlpgbdaa", sum := "9132555ec55b4f7c617718ffa1371583967101cd3fd0c3c53a788bc454313d19", func := "quipu/quipukeep.SpanClosed", spec := "spanClosed", recurses := true, apart := false, narrowed := true }
def SpanClosedUptoSaid : Prop := spanClosedUptoRow.holds Try.pinned (OpenSpec.upto spanClosedSpec)

/-- 'quipukeep.SpanWeights', WHERE WHAT IT READS IS OF BULK AT MOST 1048576: true; the input reads as it did. -/
def spanWeightsUptoRow : OpenClaim := { program := "ytjmpkmomlpgbdaa", sum := "9132555ec55b4f7c617718ffa1371583967101cd3fd0c3c53a788bc454313d19", func := "quipu/quipukeep.SpanWeights", spec := "spanWeights", unfollowed := true, recurses := true, apart := false, narrowed := true }
def SpanWeightsUptoSaid : Prop := spanWeightsUptoRow.holds Try.pinned (OpenSpec.upto spanWeightsSpec)

/-- 'quipukeep.SpanDual', WHERE WHAT IT READS IS OF BULK AT MOST 1048576: true; the input reads as it did. -/
def spanDualUptoRow : OpenClaim := { program := "ytjmpkmomlpgbdaa", sum := "9132555ec55b4f7c617718ffa1371583967101cd3fd0c3c53a788bc454313d19", func := "quipu/quipukeep.SpanDual", spec := "spanDual", unfollowed := true, recurses := true, apart := false, narrowed := true }
def SpanDualUptoSaid : Prop := spanDualUptoRow.holds Try.pinned (OpenSpec.upto spanDualSpec)

/-- 'quipukeep.SpanLeast', WHERE WHAT IT READS IS OF BULK AT MOST 1048576: true; the input reads as it did. -/
def spanLeastUptoRow : OpenClaim := { program := "ytjmpkmomlpgbdaa", sum := "9132555ec55b4f7c617718ffa1371583967101cd3fd0c3c53a788bc454313d19", func := "quipu/quipukeep.SpanLeast", spec := "spanLeast", recurses := true, apart := false, narrowed := true }
def SpanLeastUptoSaid : Prop := spanLeastUptoRow.holds Try.pinned (OpenSpec.upto spanLeastSpec)

end Rows
end Go.Proofs.Ytjmpkmomlpgbdaa
