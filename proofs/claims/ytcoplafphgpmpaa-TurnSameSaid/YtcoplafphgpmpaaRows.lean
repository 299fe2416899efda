/-
  No cell of these rows narrows 'for every input' (looked for: loops, veiled, ifaces, maps, wideKeys, modest, calm, conditions, laid).
  DERIVED. THE GIVEN ROWS OF THIS SEAT. 11 by the template 'for every input the law returns true; each argument reads behind the call as it read before'; 0 by the template 'total and deterministic' (their statements: YtcoplafphgpmpaaTotals.lean).
  GIVEN WITH THE SEED: the statements are not yours to turn. If you find one false, say at which input.
  Laid BY PROGRAM, IN A SANDBOX (cutbox-rows.mjs): the forced cells as the released guide's own fill.sh prints them over the translation 5705075fe3bf3833… (all of the seat's roots in one cut). By AI agents, Wed Nov 11 2026. No macro, syntax, notation, axiom, sorry.
-/
import Derived.Test.YtcoplafphgpmpaaChecked
import GoSem.Claim
import GoSem.ClaimJoined
import GoSem.ClaimMapViews
import Derived.JoinedTies
import Derived.KernelRfl
namespace Go.Proofs.Ytcoplafphgpmpaa
/- THE CELL 'sum', in the pinned program and in every row, IS THE sha256 OF THE DUMP (.gsa) THAT YtcoplafphgpmpaaProg.lean LOADS. Nothing in Lean hashes anything: it is a label: what it is worth is what the hold of that sum in a sandbox is worth. -/
noncomputable def Try.pinned : Pinned := { name := "ytcoplafphgpmpaa", sum := "5705075fe3bf3833ca0677bec8f8afe9ada0f8f4a6574943ef42b14263ec92db", checked := Try.checked }
namespace Rows
def none {H : Type} : Left H := { results := [], args := [] }

/-- 'quipukeep.PhraseNew': WHATEVER THE INPUT: true; the input reads as it did. -/
def phraseNewSpec : ChangeSpec := { name := "phraseNew", fn := fun _ => fun
  | [d1, d2] => { results := [.lit (.bool true)], args := [d1, d2] }
  | _ => none }
def phraseNewRow : OpenClaim := { program := "ytcoplafphgpmpaa", sum := "5705075fe3bf3833ca0677bec8f8afe9ada0f8f4a6574943ef42b14263ec92db", func := "quipu/quipukeep.PhraseNew", spec := "phraseNew", plainKeys := false, apart := false }
def PhraseNewSaid : Prop := phraseNewRow.holds Try.pinned (OpenSpec.ofChange phraseNewSpec)

/-- ITS FALSE NEIGHBOUR: 'it returns false'. Refute it at one input. -/
def phraseNewWrong : ChangeSpec := { name := "phraseNew", fn := fun _ => fun
  | [d1, d2] => { results := [.lit (.bool false)], args := [d1, d2] }
  | _ => none }
def PhraseNewWrongFalsely : Prop := phraseNewRow.holds Try.pinned (OpenSpec.ofChange phraseNewWrong)

/-- 'quipukeep.PhraseBack': WHATEVER THE INPUT: true; the input reads as it did. -/
def phraseBackSpec : ChangeSpec := { name := "phraseBack", fn := fun _ => fun
  | [d] => { results := [.lit (.bool true)], args := [d] }
  | _ => none }
def phraseBackRow : OpenClaim := { program := "ytcoplafphgpmpaa", sum := "5705075fe3bf3833ca0677bec8f8afe9ada0f8f4a6574943ef42b14263ec92db", func := "quipu/quipukeep.PhraseBack", spec := "phraseBack", plainKeys := false, apart := false }
def PhraseBackSaid : Prop := phraseBackRow.holds Try.pinned (OpenSpec.ofChange phraseBackSpec)

/-- ITS FALSE NEIGHBOUR: 'it returns false'. Refute it at one input. -/
def phraseBackWrong : ChangeSpec := { name := "phraseBack", fn := fun _ => fun
  | [d] => { results := [.lit (.bool false)], args := [d] }
  | _ => none }
def PhraseBackWrongFalsely : Prop := phraseBackRow.holds Try.pinned (OpenSpec.ofChange phraseBackWrong)

/-- 'quipukeep.TurnFront': WHATEVER THE INPUT: true; the input reads as it did. -/
def turnFrontSpec : ChangeSpec := { name := "turnFront", fn := fun _ => fun
  | [d] => { results := [.lit (.bool true)], args := [d] }
  | _ => none }
def turnFrontRow : OpenClaim := { program := "ytcoplafphgpmpaa", sum := "5705075fe3bf3833ca0677bec8f8afe9ada0f8f4a6574943ef42b14263ec92db", func := "quipu/quipukeep.TurnFront", spec := "turnFront", inPlace := ["internal/bytealg.IndexByte"], plainKeys := false, apart := false }
def TurnFrontSaid : Prop := turnFrontRow.holds Try.pinned (OpenSpec.ofChange turnFrontSpec)

/-- ITS FALSE NEIGHBOUR: 'it returns false'. Refute it at one input. -/
def turnFrontWrong : ChangeSpec := { name := "turnFront", fn := fun _ => fun
  | [d] => { results := [.lit (.bool false)], args := [d] }
  | _ => none }
def TurnFrontWrongFalsely : Prop := turnFrontRow.holds Try.pinned (OpenSpec.ofChange turnFrontWrong)

/-- 'quipukeep.TurnSame': WHATEVER THE INPUT: true; the input reads as it did. -/
def turnSameSpec : ChangeSpec := { name := "turnSame", fn := fun _ => fun
  | [d1, d2] => { results := [.lit (.bool true)], args := [d1, d2] }
  | _ => none }
def turnSameRow : OpenClaim := { program := "ytcoplafphgpmpaa", sum := "5705075fe3bf3833ca0677bec8f8afe9ada0f8f4a6574943ef42b14263ec92db", func := "quipu/quipukeep.TurnSame", spec := "turnSame", inPlace := ["internal/bytealg.Compare"], unfollowed := true, recurses := true, plainKeys := false, apart := false }
def TurnSameSaid : Prop := turnSameRow.holds Try.pinned (OpenSpec.ofChange turnSameSpec)

/-- ITS FALSE NEIGHBOUR: 'it returns false'. Refute it at one input. -/
def turnSameWrong : ChangeSpec := { name := "turnSame", fn := fun _ => fun
  | [d1, d2] => { results := [.lit (.bool false)], args := [d1, d2] }
  | _ => none }
def TurnSameWrongFalsely : Prop := turnSameRow.holds Try.pinned (OpenSpec.ofChange turnSameWrong)

/-- 'quipukeep.TurnBack': WHATEVER THE INPUT: true; the input reads as it did. -/
def turnBackSpec : ChangeSpec := { name := "turnBack", fn := fun _ => fun
  | [d] => { results := [.lit (.bool true)], args := [d] }
  | _ => none }
def turnBackRow : OpenClaim := { program := "ytcoplafphgpmpaa", sum := "5705075fe3bf3833ca0677bec8f8afe9ada0f8f4a6574943ef42b14263ec92db", func := "quipu/quipukeep.TurnBack", spec := "turnBack", inPlace := ["internal/bytealg.Compare"], unfollowed := true, recurses := true, plainKeys := false, apart := false }
def TurnBackSaid : Prop := turnBackRow.holds Try.pinned (OpenSpec.ofChange turnBackSpec)

/-- ITS FALSE NEIGHBOUR: 'it returns false'. Refute it at one input. -/
def turnBackWrong : ChangeSpec := { name := "turnBack", fn := fun _ => fun
  | [d] => { results := [.lit (.bool false)], args := [d] }
  | _ => none }
def TurnBackWrongFalsely : Prop := turnBackRow.holds Try.pinned (OpenSpec.ofChange turnBackWrong)

/-- 'quipukeep.StateRises': WHATEVER THE INPUT: true; the input reads as it did. -/
def stateRisesSpec : ChangeSpec := { name := "stateRises", fn := fun _ => fun
  | [d1, d2, d3, d4] => { results := [.lit (.bool true)], args := [d1, d2, d3, d4] }
  | _ => none }
def stateRisesRow : OpenClaim := { program := "ytcoplafphgpmpaa", sum := "5705075fe3bf3833ca0677bec8f8afe9ada0f8f4a6574943ef42b14263ec92db", func := "quipu/quipukeep.StateRises", spec := "stateRises", plainKeys := false, apart := false }
def StateRisesSaid : Prop := stateRisesRow.holds Try.pinned (OpenSpec.ofChange stateRisesSpec)

/-- ITS FALSE NEIGHBOUR: 'it returns false'. Refute it at one input. -/
def stateRisesWrong : ChangeSpec := { name := "stateRises", fn := fun _ => fun
  | [d1, d2, d3, d4] => { results := [.lit (.bool false)], args := [d1, d2, d3, d4] }
  | _ => none }
def StateRisesWrongFalsely : Prop := stateRisesRow.holds Try.pinned (OpenSpec.ofChange stateRisesWrong)

/-- 'quipukeep.StateBack': WHATEVER THE INPUT: true; the input reads as it did. -/
def stateBackSpec : ChangeSpec := { name := "stateBack", fn := fun _ => fun
  | [d1, d2, d3] => { results := [.lit (.bool true)], args := [d1, d2, d3] }
  | _ => none }
def stateBackRow : OpenClaim := { program := "ytcoplafphgpmpaa", sum := "5705075fe3bf3833ca0677bec8f8afe9ada0f8f4a6574943ef42b14263ec92db", func := "quipu/quipukeep.StateBack", spec := "stateBack", plainKeys := false, apart := false }
def StateBackSaid : Prop := stateBackRow.holds Try.pinned (OpenSpec.ofChange stateBackSpec)

/-- ITS FALSE NEIGHBOUR: 'it returns false'. Refute it at one input. -/
def stateBackWrong : ChangeSpec := { name := "stateBack", fn := fun _ => fun
  | [d1, d2, d3] => { results := [.lit (.bool false)], args := [d1, d2, d3] }
  | _ => none }
def StateBackWrongFalsely : Prop := stateBackRow.holds Try.pinned (OpenSpec.ofChange stateBackWrong)

/-- 'quipukeep.StateText': WHATEVER THE INPUT: true; the input reads as it did. -/
def stateTextSpec : ChangeSpec := { name := "stateText", fn := fun _ => fun
  | [d1, d2] => { results := [.lit (.bool true)], args := [d1, d2] }
  | _ => none }
def stateTextRow : OpenClaim := { program := "ytcoplafphgpmpaa", sum := "5705075fe3bf3833ca0677bec8f8afe9ada0f8f4a6574943ef42b14263ec92db", func := "quipu/quipukeep.StateText", spec := "stateText", plainKeys := false, apart := false }
def StateTextSaid : Prop := stateTextRow.holds Try.pinned (OpenSpec.ofChange stateTextSpec)

/-- ITS FALSE NEIGHBOUR: 'it returns false'. Refute it at one input. -/
def stateTextWrong : ChangeSpec := { name := "stateText", fn := fun _ => fun
  | [d1, d2] => { results := [.lit (.bool false)], args := [d1, d2] }
  | _ => none }
def StateTextWrongFalsely : Prop := stateTextRow.holds Try.pinned (OpenSpec.ofChange stateTextWrong)

/-- 'quipukeep.EliasShort': WHATEVER THE INPUT: true; the input reads as it did. -/
def eliasShortSpec : ChangeSpec := { name := "eliasShort", fn := fun _ => fun
  | [d1, d2] => { results := [.lit (.bool true)], args := [d1, d2] }
  | _ => none }
def eliasShortRow : OpenClaim := { program := "ytcoplafphgpmpaa", sum := "5705075fe3bf3833ca0677bec8f8afe9ada0f8f4a6574943ef42b14263ec92db", func := "quipu/quipukeep.EliasShort", spec := "eliasShort", plainKeys := false, apart := false }
def EliasShortSaid : Prop := eliasShortRow.holds Try.pinned (OpenSpec.ofChange eliasShortSpec)

/-- ITS FALSE NEIGHBOUR: 'it returns false'. Refute it at one input. -/
def eliasShortWrong : ChangeSpec := { name := "eliasShort", fn := fun _ => fun
  | [d1, d2] => { results := [.lit (.bool false)], args := [d1, d2] }
  | _ => none }
def EliasShortWrongFalsely : Prop := eliasShortRow.holds Try.pinned (OpenSpec.ofChange eliasShortWrong)

/-- 'quipukeep.EliasBack': WHATEVER THE INPUT: true; the input reads as it did. -/
def eliasBackSpec : ChangeSpec := { name := "eliasBack", fn := fun _ => fun
  | [d1, d2] => { results := [.lit (.bool true)], args := [d1, d2] }
  | _ => none }
def eliasBackRow : OpenClaim := { program := "ytcoplafphgpmpaa", sum := "5705075fe3bf3833ca0677bec8f8afe9ada0f8f4a6574943ef42b14263ec92db", func := "quipu/quipukeep.EliasBack", spec := "eliasBack", plainKeys := false, apart := false }
def EliasBackSaid : Prop := eliasBackRow.holds Try.pinned (OpenSpec.ofChange eliasBackSpec)

/-- ITS FALSE NEIGHBOUR: 'it returns false'. Refute it at one input. -/
def eliasBackWrong : ChangeSpec := { name := "eliasBack", fn := fun _ => fun
  | [d1, d2] => { results := [.lit (.bool false)], args := [d1, d2] }
  | _ => none }
def EliasBackWrongFalsely : Prop := eliasBackRow.holds Try.pinned (OpenSpec.ofChange eliasBackWrong)

/-- 'quipukeep.EliasOnly': WHATEVER THE INPUT: true; the input reads as it did. -/
def eliasOnlySpec : ChangeSpec := { name := "eliasOnly", fn := fun _ => fun
  | [d] => { results := [.lit (.bool true)], args := [d] }
  | _ => none }
def eliasOnlyRow : OpenClaim := { program := "ytcoplafphgpmpaa", sum := "5705075fe3bf3833ca0677bec8f8afe9ada0f8f4a6574943ef42b14263ec92db", func := "quipu/quipukeep.EliasOnly", spec := "eliasOnly", plainKeys := false, apart := false }
def EliasOnlySaid : Prop := eliasOnlyRow.holds Try.pinned (OpenSpec.ofChange eliasOnlySpec)

/-- ITS FALSE NEIGHBOUR: 'it returns false'. Refute it at one input. -/
def eliasOnlyWrong : ChangeSpec := { name := "eliasOnly", fn := fun _ => fun
  | [d] => { results := [.lit (.bool false)], args := [d] }
  | _ => none }
def EliasOnlyWrongFalsely : Prop := eliasOnlyRow.holds Try.pinned (OpenSpec.ofChange eliasOnlyWrong)

/- THE SECOND FORM. 'bulk': how many values and letters a reading holds, each counted each time it is reached (what is shared counts as often as it is met; a slice's spare places count too). A statement '..UptoSaid' is the law's where the arguments, and the package variables that the reading takes, are together of bulk at most 1048576: NARROWER than '..Said'. Prove '..Said' where nothing that the law and all that it calls make is longer than what came in: it says more and counts as full. Else prove '..UptoSaid'. A law counts once. -/
mutual
def uptoBulk {H : Type} : DataW H → Nat
  | .lit (.string bytes) => bytes.length + 1
  | .lit _ => 1
  | .nil => 1
  | .ptr d => uptoBulk d + 1
  | .slice elems spare => uptoBulkAll elems + uptoBulkAll spare + 1
  | .agg parts => uptoBulkAll parts + 1
  | .iface _ d => uptoBulk d + 1
  | .map entries => uptoBulkEntries entries + 1
  | .held _ => 1
def uptoBulkAll {H : Type} : List (DataW H) → Nat
  | [] => 0
  | d :: r => uptoBulk d + uptoBulkAll r
def uptoBulkEntries {H : Type} : List (Lit × DataW H) → Nat
  | [] => 0
  | x :: r => uptoBulkEntry x + uptoBulkEntries r
def uptoBulkEntry {H : Type} : Lit × DataW H → Nat
  | (.string bytes, d) => bytes.length + uptoBulk d + 1
  | (_, d) => uptoBulk d + 1
 end
def uptoSmall : (H : Type) → List (DataW H) → Bool := fun _ ds => decide (uptoBulkAll ds ≤ 1048576)
def OpenSpec.upto (s : _root_.Go.ChangeSpec) : _root_.Go.OpenSpec := { _root_.Go.OpenSpec.ofChange s with cond := some uptoSmall }

/-- 'quipukeep.PhraseNew', WHERE WHAT IT READS IS OF BULK AT MOST 1048576: true; the input reads as it did. -/
def phraseNewUptoRow : OpenClaim := { program := "ytcoplafphgpmpaa", sum := "5705075fe3bf3833ca0677bec8f8afe9ada0f8f4a6574943ef42b14263ec92db", func := "quipu/quipukeep.PhraseNew", spec := "phraseNew", plainKeys := false, apart := false, narrowed := true }
def PhraseNewUptoSaid : Prop := phraseNewUptoRow.holds Try.pinned (OpenSpec.upto phraseNewSpec)

/-- 'quipukeep.PhraseBack', WHERE WHAT IT READS IS OF BULK AT MOST 1048576: true; the input reads as it did. -/
def phraseBackUptoRow : OpenClaim := { program := "ytcoplafphgpmpaa", sum := "5705075fe3bf3833ca0677bec8f8afe9ada0f8f4a6574943ef42b14263ec92db", func := "quipu/quipukeep.PhraseBack", spec := "phraseBack", plainKeys := false, apart := false, narrowed := true }
def PhraseBackUptoSaid : Prop := phraseBackUptoRow.holds Try.pinned (OpenSpec.upto phraseBackSpec)

/-- 'quipukeep.TurnFront', WHERE WHAT IT READS IS OF BULK AT MOST 1048576: true; the input reads as it did. -/
def turnFrontUptoRow : OpenClaim := { program := "ytcoplafphgpmpaa", sum := "5705075fe3bf3833ca0677bec8f8afe9ada0f8f4a6574943ef42b14263ec92db", func := "quipu/quipukeep.TurnFront", spec := "turnFront", inPlace := ["internal/bytealg.IndexByte"], plainKeys := false, apart := false, narrowed := true }
def TurnFrontUptoSaid : Prop := turnFrontUptoRow.holds Try.pinned (OpenSpec.upto turnFrontSpec)

/-- 'quipukeep.TurnSame', WHERE WHAT IT READS IS OF BULK AT MOST 1048576: true; the input reads as it did. -/
def turnSameUptoRow : OpenClaim := { program := "ytcoplafphgpmpaa", sum := "5705075fe3bf3833ca0677bec8f8afe9ada0f8f4a6574943ef42b14263ec92db", func := "quipu/quipukeep.TurnSame", spec := "turnSame", inPlace := ["internal/bytealg.Compare"], unfollowed := true, recurses := true, plainKeys := false, apart := false, narrowed := true }
def TurnSameUptoSaid : Prop := turnSameUptoRow.holds Try.pinned (OpenSpec.upto turnSameSpec)

/-- 'quipukeep.TurnBack', WHERE WHAT IT READS IS OF BULK AT MOST 1048576: true; the input reads as it did. -/
def turnBackUptoRow : OpenClaim := { program := "ytcoplafphgpmpaa", sum := "5705075fe3bf3833ca0677bec8f8afe9ada0f8f4a6574943ef42b14263ec92db", func := "quipu/quipukeep.TurnBack", spec := "turnBack", inPlace := ["internal/bytealg.Compare"], unfollowed := true, recurses := true, plainKeys := false, apart := false, narrowed := true }
def TurnBackUptoSaid : Prop := turnBackUptoRow.holds Try.pinned (OpenSpec.upto turnBackSpec)

/-- 'quipukeep.StateRises', WHERE WHAT IT READS IS OF BULK AT MOST 1048576: true; the input reads as it did. -/
def stateRisesUptoRow : OpenClaim := { program := "ytcoplafphgpmpaa", sum := "5705075fe3bf3833ca0677bec8f8afe9ada0f8f4a6574943ef42b14263ec92db", func := "quipu/quipukeep.StateRises", spec := "stateRises", plainKeys := false, apart := false, narrowed := true }
def StateRisesUptoSaid : Prop := stateRisesUptoRow.holds Try.pinned (OpenSpec.upto stateRisesSpec)

/-- 'quipukeep.StateBack', WHERE WHAT IT READS IS OF BULK AT MOST 1048576: true; the input reads as it did. -/
def stateBackUptoRow : OpenClaim := { program := "ytcoplafphgpmpaa", sum := "5705075fe3bf3833ca0677bec8f8afe9ada0f8f4a6574943ef42b14263ec92db", func := "quipu/quipukeep.StateBack", spec := "stateBack", plainKeys := false, apart := false, narrowed := true }
def StateBackUptoSaid : Prop := stateBackUptoRow.holds Try.pinned (OpenSpec.upto stateBackSpec)

/-- 'quipukeep.StateText', WHERE WHAT IT READS IS OF BULK AT MOST 1048576: true; the input reads as it did. -/
def stateTextUptoRow : OpenClaim := { program := "ytcoplafphgpmpaa", sum := "5705075fe3bf3833ca0677bec8f8afe9ada0f8f4a6574943ef42b14263ec92db", func := "quipu/quipukeep.StateText", spec := "stateText", plainKeys := false, apart := false, narrowed := true }
def StateTextUptoSaid : Prop := stateTextUptoRow.holds Try.pinned (OpenSpec.upto stateTextSpec)

/-- 'quipukeep.EliasShort', WHERE WHAT IT READS IS OF BULK AT MOST 1048576: true; the input reads as it did. -/
def eliasShortUptoRow : OpenClaim := { program := "ytcoplafphgpmpaa", sum := "5705075fe3bf3833ca0677bec8f8afe9ada0f8f4a6574943ef42b14263ec92db", func := "quipu/quipukeep.EliasShort", spec := "eliasShort", plainKeys := false, apart := false, narrowed := true }
def EliasShortUptoSaid : Prop := eliasShortUptoRow.holds Try.pinned (OpenSpec.upto eliasShortSpec)

/-- 'quipukeep.EliasBack', WHERE WHAT IT READS IS OF BULK AT MOST 1048576: true; the input reads as it did. -/
def eliasBackUptoRow : OpenClaim := { program := "ytcoplafphgpmpaa", sum := "5705075fe3bf3833ca0677bec8f8afe9ada0f8f4a6574943ef42b14263ec92db", func := "quipu/quipukeep.EliasBack", spec := "eliasBack", plainKeys := false, apart := false, narrowed := true }
def EliasBackUptoSaid : Prop := eliasBackUptoRow.holds Try.pinned (OpenSpec.upto eliasBackSpec)

/-- 'quipukeep.EliasOnly', WHERE WHAT IT READS IS OF BULK AT MOST 1048576: true; the input reads as it did. -/
def eliasOnlyUptoRow : OpenClaim := { program := "ytcoplafphgpmpaa", sum := "5705075fe3bf3833ca0677bec8f8afe9ada0f8f4a6574943ef42b14263ec92db", func := "quipu/quipukeep.EliasOnly", spec := "eliasOnly", plainKeys := false, apart := false, narrowed := true }
def EliasOnlyUptoSaid : Prop := eliasOnlyUptoRow.holds Try.pinned (OpenSpec.upto eliasOnlySpec)

end Rows
end Go.Proofs.Ytcoplafphgpmpaa
