/-
  No cell of these rows narrows 'for every input' (looked for: loops, veiled, ifaces, maps, wideKeys, modest, calm, conditions, laid).
  DERIVED. THE GIVEN ROWS OF THIS SEAT. 12 by the template 'for every input the law returns true; each argument reads behind the call as it read before'; 0 by the template 'total and deterministic' (their statements: YtbbmgcmibgdkiaaTotals.lean).
  GIVEN WITH THE SEED: the statements are not yours to turn. If you find one false, say at which input.
  Laid BY PROGRAM, IN A SANDBOX (cutbox-rows.mjs): the forced cells as the released guide's own fill.sh prints them over the translation 1b406b40adcf70b9… (all of the seat's roots in one cut). By AI agents, Wed Nov 11 2026. No macro, syntax, notation, axiom, sorry.
-/
import Derived.Test.YtbbmgcmibgdkiaaChecked
import GoSem.Claim
import GoSem.ClaimJoined
import GoSem.ClaimMapViews
import Derived.JoinedTies
import Derived.KernelRfl
namespace Go.Proofs.Ytbbmgcmibgdkiaa
/- THE CELL 'sum', in the pinned program and in every row, IS THE sha256 OF THE DUMP (.gsa) THAT YtbbmgcmibgdkiaaProg.lean LOADS. Nothing in Lean hashes anything: it is a label: what it is worth is what the hold of that sum in a sandbox is worth. -/
noncomputable def Try.pinned : Pinned := { name := "ytbbmgcmibgdkiaa", sum := "1b406b40adcf70b9aeb0b9d681fc540292aa0ee054692c4e934c956a15612d33", checked := Try.checked }
namespace Rows
def none {H : Type} : Left H := { results := [], args := [] }

/-- 'quipukeep.RestSums': WHATEVER THE INPUT: true; the input reads as it did. -/
def restSumsSpec : ChangeSpec := { name := "restSums", fn := fun _ => fun
  | [d1, d2, d3] => { results := [.lit (.bool true)], args := [d1, d2, d3] }
  | _ => none }
def restSumsRow : OpenClaim := { program := "ytbbmgcmibgdkiaa", sum := "1b406b40adcf70b9aeb0b9d681fc540292aa0ee054692c4e934c956a15612d33", func := "quipu/quipukeep.RestSums", spec := "restSums", plainKeys := false, apart := false }
def RestSumsSaid : Prop := restSumsRow.holds Try.pinned (OpenSpec.ofChange restSumsSpec)

/-- ITS FALSE NEIGHBOUR: 'it returns false'. Refute it at one input. -/
def restSumsWrong : ChangeSpec := { name := "restSums", fn := fun _ => fun
  | [d1, d2, d3] => { results := [.lit (.bool false)], args := [d1, d2, d3] }
  | _ => none }
def RestSumsWrongFalsely : Prop := restSumsRow.holds Try.pinned (OpenSpec.ofChange restSumsWrong)

/-- 'quipukeep.RestBack': WHATEVER THE INPUT: true; the input reads as it did. -/
def restBackSpec : ChangeSpec := { name := "restBack", fn := fun _ => fun
  | [d1, d2] => { results := [.lit (.bool true)], args := [d1, d2] }
  | _ => none }
def restBackRow : OpenClaim := { program := "ytbbmgcmibgdkiaa", sum := "1b406b40adcf70b9aeb0b9d681fc540292aa0ee054692c4e934c956a15612d33", func := "quipu/quipukeep.RestBack", spec := "restBack", plainKeys := false, apart := false }
def RestBackSaid : Prop := restBackRow.holds Try.pinned (OpenSpec.ofChange restBackSpec)

/-- ITS FALSE NEIGHBOUR: 'it returns false'. Refute it at one input. -/
def restBackWrong : ChangeSpec := { name := "restBack", fn := fun _ => fun
  | [d1, d2] => { results := [.lit (.bool false)], args := [d1, d2] }
  | _ => none }
def RestBackWrongFalsely : Prop := restBackRow.holds Try.pinned (OpenSpec.ofChange restBackWrong)

/-- 'quipukeep.RestBurst': WHATEVER THE INPUT: true; the input reads as it did. -/
def restBurstSpec : ChangeSpec := { name := "restBurst", fn := fun _ => fun
  | [d1, d2, d3, d4] => { results := [.lit (.bool true)], args := [d1, d2, d3, d4] }
  | _ => none }
def restBurstRow : OpenClaim := { program := "ytbbmgcmibgdkiaa", sum := "1b406b40adcf70b9aeb0b9d681fc540292aa0ee054692c4e934c956a15612d33", func := "quipu/quipukeep.RestBurst", spec := "restBurst", plainKeys := false, apart := false }
def RestBurstSaid : Prop := restBurstRow.holds Try.pinned (OpenSpec.ofChange restBurstSpec)

/-- ITS FALSE NEIGHBOUR: 'it returns false'. Refute it at one input. -/
def restBurstWrong : ChangeSpec := { name := "restBurst", fn := fun _ => fun
  | [d1, d2, d3, d4] => { results := [.lit (.bool false)], args := [d1, d2, d3, d4] }
  | _ => none }
def RestBurstWrongFalsely : Prop := restBurstRow.holds Try.pinned (OpenSpec.ofChange restBurstWrong)

/-- 'quipukeep.HammOne': WHATEVER THE INPUT: true; the input reads as it did. -/
def hammOneSpec : ChangeSpec := { name := "hammOne", fn := fun _ => fun
  | [d1, d2, d3] => { results := [.lit (.bool true)], args := [d1, d2, d3] }
  | _ => none }
def hammOneRow : OpenClaim := { program := "ytbbmgcmibgdkiaa", sum := "1b406b40adcf70b9aeb0b9d681fc540292aa0ee054692c4e934c956a15612d33", func := "quipu/quipukeep.HammOne", spec := "hammOne", plainKeys := false, apart := false }
def HammOneSaid : Prop := hammOneRow.holds Try.pinned (OpenSpec.ofChange hammOneSpec)

/-- ITS FALSE NEIGHBOUR: 'it returns false'. Refute it at one input. -/
def hammOneWrong : ChangeSpec := { name := "hammOne", fn := fun _ => fun
  | [d1, d2, d3] => { results := [.lit (.bool false)], args := [d1, d2, d3] }
  | _ => none }
def HammOneWrongFalsely : Prop := hammOneRow.holds Try.pinned (OpenSpec.ofChange hammOneWrong)

/-- 'quipukeep.HammPerfect': WHATEVER THE INPUT: true; the input reads as it did. -/
def hammPerfectSpec : ChangeSpec := { name := "hammPerfect", fn := fun _ => fun
  | [d1, d2] => { results := [.lit (.bool true)], args := [d1, d2] }
  | _ => none }
def hammPerfectRow : OpenClaim := { program := "ytbbmgcmibgdkiaa", sum := "1b406b40adcf70b9aeb0b9d681fc540292aa0ee054692c4e934c956a15612d33", func := "quipu/quipukeep.HammPerfect", spec := "hammPerfect", plainKeys := false, apart := false }
def HammPerfectSaid : Prop := hammPerfectRow.holds Try.pinned (OpenSpec.ofChange hammPerfectSpec)

/-- ITS FALSE NEIGHBOUR: 'it returns false'. Refute it at one input. -/
def hammPerfectWrong : ChangeSpec := { name := "hammPerfect", fn := fun _ => fun
  | [d1, d2] => { results := [.lit (.bool false)], args := [d1, d2] }
  | _ => none }
def HammPerfectWrongFalsely : Prop := hammPerfectRow.holds Try.pinned (OpenSpec.ofChange hammPerfectWrong)

/-- 'quipukeep.HammTwo': WHATEVER THE INPUT: true; the input reads as it did. -/
def hammTwoSpec : ChangeSpec := { name := "hammTwo", fn := fun _ => fun
  | [d1, d2, d3, d4] => { results := [.lit (.bool true)], args := [d1, d2, d3, d4] }
  | _ => none }
def hammTwoRow : OpenClaim := { program := "ytbbmgcmibgdkiaa", sum := "1b406b40adcf70b9aeb0b9d681fc540292aa0ee054692c4e934c956a15612d33", func := "quipu/quipukeep.HammTwo", spec := "hammTwo", plainKeys := false, apart := false }
def HammTwoSaid : Prop := hammTwoRow.holds Try.pinned (OpenSpec.ofChange hammTwoSpec)

/-- ITS FALSE NEIGHBOUR: 'it returns false'. Refute it at one input. -/
def hammTwoWrong : ChangeSpec := { name := "hammTwo", fn := fun _ => fun
  | [d1, d2, d3, d4] => { results := [.lit (.bool false)], args := [d1, d2, d3, d4] }
  | _ => none }
def HammTwoWrongFalsely : Prop := hammTwoRow.holds Try.pinned (OpenSpec.ofChange hammTwoWrong)

/-- 'quipukeep.LeaderNear': WHATEVER THE INPUT: true; the input reads as it did. -/
def leaderNearSpec : ChangeSpec := { name := "leaderNear", fn := fun _ => fun
  | [d1, d2, d3, d4] => { results := [.lit (.bool true)], args := [d1, d2, d3, d4] }
  | _ => none }
def leaderNearRow : OpenClaim := { program := "ytbbmgcmibgdkiaa", sum := "1b406b40adcf70b9aeb0b9d681fc540292aa0ee054692c4e934c956a15612d33", func := "quipu/quipukeep.LeaderNear", spec := "leaderNear", plainKeys := false, apart := false }
def LeaderNearSaid : Prop := leaderNearRow.holds Try.pinned (OpenSpec.ofChange leaderNearSpec)

/-- ITS FALSE NEIGHBOUR: 'it returns false'. Refute it at one input. -/
def leaderNearWrong : ChangeSpec := { name := "leaderNear", fn := fun _ => fun
  | [d1, d2, d3, d4] => { results := [.lit (.bool false)], args := [d1, d2, d3, d4] }
  | _ => none }
def LeaderNearWrongFalsely : Prop := leaderNearRow.holds Try.pinned (OpenSpec.ofChange leaderNearWrong)

/-- 'quipukeep.LeaderSums': WHATEVER THE INPUT: true; the input reads as it did. -/
def leaderSumsSpec : ChangeSpec := { name := "leaderSums", fn := fun _ => fun
  | [d1, d2, d3, d4] => { results := [.lit (.bool true)], args := [d1, d2, d3, d4] }
  | _ => none }
def leaderSumsRow : OpenClaim := { program := "ytbbmgcmibgdkiaa", sum := "1b406b40adcf70b9aeb0b9d681fc540292aa0ee054692c4e934c956a15612d33", func := "quipu/quipukeep.LeaderSums", spec := "leaderSums", plainKeys := false, apart := false }
def LeaderSumsSaid : Prop := leaderSumsRow.holds Try.pinned (OpenSpec.ofChange leaderSumsSpec)

/-- ITS FALSE NEIGHBOUR: 'it returns false'. Refute it at one input. -/
def leaderSumsWrong : ChangeSpec := { name := "leaderSums", fn := fun _ => fun
  | [d1, d2, d3, d4] => { results := [.lit (.bool false)], args := [d1, d2, d3, d4] }
  | _ => none }
def LeaderSumsWrongFalsely : Prop := leaderSumsRow.holds Try.pinned (OpenSpec.ofChange leaderSumsWrong)

/-- 'quipukeep.FlipFewer': WHATEVER THE INPUT: true; the input reads as it did. -/
def flipFewerSpec : ChangeSpec := { name := "flipFewer", fn := fun _ => fun
  | [d1, d2, d3] => { results := [.lit (.bool true)], args := [d1, d2, d3] }
  | _ => none }
def flipFewerRow : OpenClaim := { program := "ytbbmgcmibgdkiaa", sum := "1b406b40adcf70b9aeb0b9d681fc540292aa0ee054692c4e934c956a15612d33", func := "quipu/quipukeep.FlipFewer", spec := "flipFewer", plainKeys := false, apart := false }
def FlipFewerSaid : Prop := flipFewerRow.holds Try.pinned (OpenSpec.ofChange flipFewerSpec)

/-- ITS FALSE NEIGHBOUR: 'it returns false'. Refute it at one input. -/
def flipFewerWrong : ChangeSpec := { name := "flipFewer", fn := fun _ => fun
  | [d1, d2, d3] => { results := [.lit (.bool false)], args := [d1, d2, d3] }
  | _ => none }
def FlipFewerWrongFalsely : Prop := flipFewerRow.holds Try.pinned (OpenSpec.ofChange flipFewerWrong)

/-- 'quipukeep.FlipEnds': WHATEVER THE INPUT: true; the input reads as it did. -/
def flipEndsSpec : ChangeSpec := { name := "flipEnds", fn := fun _ => fun
  | [d1, d2, d3] => { results := [.lit (.bool true)], args := [d1, d2, d3] }
  | _ => none }
def flipEndsRow : OpenClaim := { program := "ytbbmgcmibgdkiaa", sum := "1b406b40adcf70b9aeb0b9d681fc540292aa0ee054692c4e934c956a15612d33", func := "quipu/quipukeep.FlipEnds", spec := "flipEnds", plainKeys := false, apart := false }
def FlipEndsSaid : Prop := flipEndsRow.holds Try.pinned (OpenSpec.ofChange flipEndsSpec)

/-- ITS FALSE NEIGHBOUR: 'it returns false'. Refute it at one input. -/
def flipEndsWrong : ChangeSpec := { name := "flipEnds", fn := fun _ => fun
  | [d1, d2, d3] => { results := [.lit (.bool false)], args := [d1, d2, d3] }
  | _ => none }
def FlipEndsWrongFalsely : Prop := flipEndsRow.holds Try.pinned (OpenSpec.ofChange flipEndsWrong)

/-- 'quipukeep.TrellisBack': WHATEVER THE INPUT: true; the input reads as it did. -/
def trellisBackSpec : ChangeSpec := { name := "trellisBack", fn := fun _ => fun
  | [d1, d2, d3] => { results := [.lit (.bool true)], args := [d1, d2, d3] }
  | _ => none }
def trellisBackRow : OpenClaim := { program := "ytbbmgcmibgdkiaa", sum := "1b406b40adcf70b9aeb0b9d681fc540292aa0ee054692c4e934c956a15612d33", func := "quipu/quipukeep.TrellisBack", spec := "trellisBack", plainKeys := false, apart := false }
def TrellisBackSaid : Prop := trellisBackRow.holds Try.pinned (OpenSpec.ofChange trellisBackSpec)

/-- ITS FALSE NEIGHBOUR: 'it returns false'. Refute it at one input. -/
def trellisBackWrong : ChangeSpec := { name := "trellisBack", fn := fun _ => fun
  | [d1, d2, d3] => { results := [.lit (.bool false)], args := [d1, d2, d3] }
  | _ => none }
def TrellisBackWrongFalsely : Prop := trellisBackRow.holds Try.pinned (OpenSpec.ofChange trellisBackWrong)

/-- 'quipukeep.TrellisBest': WHATEVER THE INPUT: true; the input reads as it did. -/
def trellisBestSpec : ChangeSpec := { name := "trellisBest", fn := fun _ => fun
  | [d1, d2] => { results := [.lit (.bool true)], args := [d1, d2] }
  | _ => none }
def trellisBestRow : OpenClaim := { program := "ytbbmgcmibgdkiaa", sum := "1b406b40adcf70b9aeb0b9d681fc540292aa0ee054692c4e934c956a15612d33", func := "quipu/quipukeep.TrellisBest", spec := "trellisBest", plainKeys := false, apart := false }
def TrellisBestSaid : Prop := trellisBestRow.holds Try.pinned (OpenSpec.ofChange trellisBestSpec)

/-- ITS FALSE NEIGHBOUR: 'it returns false'. Refute it at one input. -/
def trellisBestWrong : ChangeSpec := { name := "trellisBest", fn := fun _ => fun
  | [d1, d2] => { results := [.lit (.bool false)], args := [d1, d2] }
  | _ => none }
def TrellisBestWrongFalsely : Prop := trellisBestRow.holds Try.pinned (OpenSpec.ofChange trellisBestWrong)

/- THE SECOND FORM. 'bulk': how many values and letters a reading holds, each counted each time it is reached (what is shared counts as often as it is met; a slice's spare places count too). A statement '..UptoSaid' is the law's where the arguments, and the package variables that the reading takes, are together of bulk at most 1048576: NARROWER than '..Said'. Prove '..Said' where nothing that the law and all that it calls make is longer than what came in: it says more and counts as full. Else prove '..UptoSaid'. A law counts once. -/
mutual
def uptoBulk {H : Type} : DataW H → Nat
  | .lit (.string bytes) => bytes.length + 1
  | .lit _ => 1
  | .nil => 1
  | .ptr d => uptoBulk d + 1
  | .slice elems spare => uptoBulkAll elems + uptoBulkAll spare + 1
  | .agg parts => uptoBulkAll parts + 1
  | .iface _ d => uptoBulk d + 1
  | .map entries => uptoBulkEntries entries + 1
  | .held _ => 1
def uptoBulkAll {H : Type} : List (DataW H) → Nat
  | [] => 0
  | d :: r => uptoBulk d + uptoBulkAll r
def uptoBulkEntries {H : Type} : List (Lit × DataW H) → Nat
  | [] => 0
  | x :: r => uptoBulkEntry x + uptoBulkEntries r
def uptoBulkEntry {H : Type} : Lit × DataW H → Nat
  | (.string bytes, d) => bytes.length + uptoBulk d + 1
  | (_, d) => uptoBulk d + 1
 end
def uptoSmall : (H : Type) → List (DataW H) → Bool := fun _ ds => decide (uptoBulkAll ds ≤ 1048576)
def OpenSpec.upto (s : _root_.Go.ChangeSpec) : _root_.Go.OpenSpec := { _root_.Go.OpenSpec.ofChange s with cond := some uptoSmall }

/-- 'quipukeep.RestSums', WHERE WHAT IT READS IS OF BULK AT MOST 1048576: true; the input reads as it did. -/
def restSumsUptoRow : OpenClaim := { program := "ytbbmgcmibgdkiaa", sum := "1b406b40adcf70b9aeb0b9d681fc540292aa0ee054692c4e934c956a15612d33", func := "quipu/quipukeep.RestSums", spec := "restSums", plainKeys := false, apart := false, narrowed := true }
def RestSumsUptoSaid : Prop := restSumsUptoRow.holds Try.pinned (OpenSpec.upto restSumsSpec)

/-- 'quipukeep.RestBack', WHERE WHAT IT READS IS OF BULK AT MOST 1048576: true; the input reads as it did. -/
def restBackUptoRow : OpenClaim := { program := "ytbbmgcmibgdkiaa", sum := "1b406b40adcf70b9aeb0b9d681fc540292aa0ee054692c4e934c956a15612d33", func := "quipu/quipukeep.RestBack", spec := "restBack", plainKeys := false, apart := false, narrowed := true }
def RestBackUptoSaid : Prop := restBackUptoRow.holds Try.pinned (OpenSpec.upto restBackSpec)

/-- 'quipukeep.RestBurst', WHERE WHAT IT READS IS OF BULK AT MOST 1048576: true; the input reads as it did. -/
def restBurstUptoRow : OpenClaim := { program := "ytbbmgcmibgdkiaa", sum := "1b406b40adcf70b9aeb0b9d681fc540292aa0ee054692c4e934c956a15612d33", func := "quipu/quipukeep.RestBurst", spec := "restBurst", plainKeys := false, apart := false, narrowed := true }
def RestBurstUptoSaid : Prop := restBurstUptoRow.holds Try.pinned (OpenSpec.upto restBurstSpec)

/-- 'quipukeep.HammOne', WHERE WHAT IT READS IS OF BULK AT MOST 1048576: true; the input reads as it did. -/
def hammOneUptoRow : OpenClaim := { program := "ytbbmgcmibgdkiaa", sum := "1b406b40adcf70b9aeb0b9d681fc540292aa0ee054692c4e934c956a15612d33", func := "quipu/quipukeep.HammOne", spec := "hammOne", plainKeys := false, apart := false, narrowed := true }
def HammOneUptoSaid : Prop := hammOneUptoRow.holds Try.pinned (OpenSpec.upto hammOneSpec)

/-- 'quipukeep.HammPerfect', WHERE WHAT IT READS IS OF BULK AT MOST 1048576: true; the input reads as it did. -/
def hammPerfectUptoRow : OpenClaim := { program := "ytbbmgcmibgdkiaa", sum := "1b406b40adcf70b9aeb0b9d681fc540292aa0ee054692c4e934c956a15612d33", func := "quipu/quipukeep.HammPerfect", spec := "hammPerfect", plainKeys := false, apart := false, narrowed := true }
def HammPerfectUptoSaid : Prop := hammPerfectUptoRow.holds Try.pinned (OpenSpec.upto hammPerfectSpec)

/-- 'quipukeep.HammTwo', WHERE WHAT IT READS IS OF BULK AT MOST 1048576: true; the input reads as it did. -/
def hammTwoUptoRow : OpenClaim := { program := "ytbbmgcmibgdkiaa", sum := "1b406b40adcf70b9aeb0b9d681fc540292aa0ee054692c4e934c956a15612d33", func := "quipu/quipukeep.HammTwo", spec := "hammTwo", plainKeys := false, apart := false, narrowed := true }
def HammTwoUptoSaid : Prop := hammTwoUptoRow.holds Try.pinned (OpenSpec.upto hammTwoSpec)

/-- 'quipukeep.LeaderNear', WHERE WHAT IT READS IS OF BULK AT MOST 1048576: true; the input reads as it did. -/
def leaderNearUptoRow : OpenClaim := { program := "ytbbmgcmibgdkiaa", sum := "1b406b40adcf70b9aeb0b9d681fc540292aa0ee054692c4e934c956a15612d33", func := "quipu/quipukeep.LeaderNear", spec := "leaderNear", plainKeys := false, apart := false, narrowed := true }
def LeaderNearUptoSaid : Prop := leaderNearUptoRow.holds Try.pinned (OpenSpec.upto leaderNearSpec)

/-- 'quipukeep.LeaderSums', WHERE WHAT IT READS IS OF BULK AT MOST 1048576: true; the input reads as it did. -/
def leaderSumsUptoRow : OpenClaim := { program := "ytbbmgcmibgdkiaa", sum := "1b406b40adcf70b9aeb0b9d681fc540292aa0ee054692c4e934c956a15612d33", func := "quipu/quipukeep.LeaderSums", spec := "leaderSums", plainKeys := false, apart := false, narrowed := true }
def LeaderSumsUptoSaid : Prop := leaderSumsUptoRow.holds Try.pinned (OpenSpec.upto leaderSumsSpec)

/-- 'quipukeep.FlipFewer', WHERE WHAT IT READS IS OF BULK AT MOST 1048576: true; the input reads as it did. -/
def flipFewerUptoRow : OpenClaim := { program := "ytbbmgcmibgdkiaa", sum := "1b406b40adcf70b9aeb0b9d681fc540292aa0ee054692c4e934c956a15612d33", func := "quipu/quipukeep.FlipFewer", spec := "flipFewer", plainKeys := false, apart := false, narrowed := true }
def FlipFewerUptoSaid : Prop := flipFewerUptoRow.holds Try.pinned (OpenSpec.upto flipFewerSpec)

/-- 'quipukeep.FlipEnds', WHERE WHAT IT READS IS OF BULK AT MOST 1048576: true; the input reads as it did. -/
def flipEndsUptoRow : OpenClaim := { program := "ytbbmgcmibgdkiaa", sum := "1b406b40adcf70b9aeb0b9d681fc540292aa0ee054692c4e934c956a15612d33", func := "quipu/quipukeep.FlipEnds", spec := "flipEnds", plainKeys := false, apart := false, narrowed := true }
def FlipEndsUptoSaid : Prop := flipEndsUptoRow.holds Try.pinned (OpenSpec.upto flipEndsSpec)

/-- 'quipukeep.TrellisBack', WHERE WHAT IT READS IS OF BULK AT MOST 1048576: true; the input reads as it did. -/
def trellisBackUptoRow : OpenClaim := { program := "ytbbmgcmibgdkiaa", sum := "1b406b40adcf70b9aeb0b9d681fc540292aa0ee054692c4e934c956a15612d33", func := "quipu/quipukeep.TrellisBack", spec := "trellisBack", plainKeys := false, apart := false, narrowed := true }
def TrellisBackUptoSaid : Prop := trellisBackUptoRow.holds Try.pinned (OpenSpec.upto trellisBackSpec)

/-- 'quipukeep.TrellisBest', WHERE WHAT IT READS IS OF BULK AT MOST 1048576: true; the input reads as it did. -/
def trellisBestUptoRow : OpenClaim := { program := "ytbbmgcmibgdkiaa", sum := "1b406b40adcf70b9aeb0b9d681fc540292aa0ee054692c4e934c956a15612d33", func := "quipu/quipukeep.TrellisBest", spec := "trellisBest", plainKeys := false, apart := false, narrowed := true }
def TrellisBestUptoSaid : Prop := trellisBestUptoRow.holds Try.pinned (OpenSpec.upto trellisBestSpec)

end Rows
end Go.Proofs.Ytbbmgcmibgdkiaa
