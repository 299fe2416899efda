/-
  No cell of these rows narrows 'for every input' (looked for: loops, veiled, ifaces, maps, wideKeys, modest, calm, conditions, laid).
  DERIVED. THE GIVEN ROWS OF THIS SEAT. 6 by the template 'for every input the law returns true; each argument reads behind the call as it read before'; 0 by the template 'total and deterministic' (their statements: YtohflgcbpmoinaaTotals.lean).
  GIVEN WITH THE SEED: the statements are not yours to turn. If you find one false, say at which input.
  Laid BY PROGRAM, IN A SANDBOX (cutbox-rows.mjs): the forced cells as the released guide's own fill.sh prints them over the translation 6d311d471359d8c9… (all of the seat's roots in one cut). By AI agents, Wed Nov 11 2026. No macro, syntax, notation, axiom, sorry.
-/
import Derived.Test.YtohflgcbpmoinaaChecked
import GoSem.Claim
import GoSem.ClaimJoined
import GoSem.ClaimMapViews
import Derived.JoinedTies
import Derived.KernelRfl
namespace Go.Proofs.Ytohflgcbpmoinaa
/- THE CELL 'sum', in the pinned program and in every row, IS THE sha256 OF THE DUMP (.gsa) THAT YtohflgcbpmoinaaProg.lean LOADS. Nothing in Lean hashes anything: it is a label: what it is worth is what the hold of that sum in a sandbox is worth. -/
noncomputable def Try.pinned : Pinned := { name := "ytohflgcbpmoinaa", sum := "6d311d471359d8c9fc05c369347fc4f44f97350fa3e6eadaee5ab2b0103eb949", checked := Try.checked }
namespace Rows
def none {H : Type} : Left H := { results := [], args := [] }

/-- 'quipukeep.AlphaRises': WHATEVER THE INPUT: true; the input reads as it did. -/
def alphaRisesSpec : ChangeSpec := { name := "alphaRises", fn := fun _ => fun
  | [d] => { results := [.lit (.bool true)], args := [d] }
  | _ => none }
def alphaRisesRow : OpenClaim := { program := "ytohflgcbpmoinaa", sum := "6d311d471359d8c9fc05c369347fc4f44f97350fa3e6eadaee5ab2b0103eb949", func := "quipu/quipukeep.AlphaRises", spec := "alphaRises", unfollowed := true, recurses := true, apart := false }
def AlphaRisesSaid : Prop := alphaRisesRow.holds Try.pinned (OpenSpec.ofChange alphaRisesSpec)

/-- ITS FALSE NEIGHBOUR: 'it returns false'. Refute it at one input. -/
def alphaRisesWrong : ChangeSpec := { name := "alphaRises", fn := fun _ => fun
  | [d] => { results := [.lit (.bool false)], args := [d] }
  | _ => none }
def AlphaRisesWrongFalsely : Prop := alphaRisesRow.holds Try.pinned (OpenSpec.ofChange alphaRisesWrong)

/-- 'quipukeep.AlphaBetween': WHATEVER THE INPUT: true; the input reads as it did. -/
def alphaBetweenSpec : ChangeSpec := { name := "alphaBetween", fn := fun _ => fun
  | [d] => { results := [.lit (.bool true)], args := [d] }
  | _ => none }
def alphaBetweenRow : OpenClaim := { program := "ytohflgcbpmoinaa", sum := "6d311d471359d8c9fc05c369347fc4f44f97350fa3e6eadaee5ab2b0103eb949", func := "quipu/quipukeep.AlphaBetween", spec := "alphaBetween", unfollowed := true, recurses := true, apart := false }
def AlphaBetweenSaid : Prop := alphaBetweenRow.holds Try.pinned (OpenSpec.ofChange alphaBetweenSpec)

/-- ITS FALSE NEIGHBOUR: 'it returns false'. Refute it at one input. -/
def alphaBetweenWrong : ChangeSpec := { name := "alphaBetween", fn := fun _ => fun
  | [d] => { results := [.lit (.bool false)], args := [d] }
  | _ => none }
def AlphaBetweenWrongFalsely : Prop := alphaBetweenRow.holds Try.pinned (OpenSpec.ofChange alphaBetweenWrong)

/-- 'quipukeep.AlphaSorted': WHATEVER THE INPUT: true; the input reads as it did. -/
def alphaSortedSpec : ChangeSpec := { name := "alphaSorted", fn := fun _ => fun
  | [d] => { results := [.lit (.bool true)], args := [d] }
  | _ => none }
def alphaSortedRow : OpenClaim := { program := "ytohflgcbpmoinaa", sum := "6d311d471359d8c9fc05c369347fc4f44f97350fa3e6eadaee5ab2b0103eb949", func := "quipu/quipukeep.AlphaSorted", spec := "alphaSorted", unfollowed := true, recurses := true, apart := false }
def AlphaSortedSaid : Prop := alphaSortedRow.holds Try.pinned (OpenSpec.ofChange alphaSortedSpec)

/-- ITS FALSE NEIGHBOUR: 'it returns false'. Refute it at one input. -/
def alphaSortedWrong : ChangeSpec := { name := "alphaSorted", fn := fun _ => fun
  | [d] => { results := [.lit (.bool false)], args := [d] }
  | _ => none }
def AlphaSortedWrongFalsely : Prop := alphaSortedRow.holds Try.pinned (OpenSpec.ofChange alphaSortedWrong)

/-- 'quipukeep.HuffOrder': WHATEVER THE INPUT: true; the input reads as it did. -/
def huffOrderSpec : ChangeSpec := { name := "huffOrder", fn := fun _ => fun
  | [d] => { results := [.lit (.bool true)], args := [d] }
  | _ => none }
def huffOrderRow : OpenClaim := { program := "ytohflgcbpmoinaa", sum := "6d311d471359d8c9fc05c369347fc4f44f97350fa3e6eadaee5ab2b0103eb949", func := "quipu/quipukeep.HuffOrder", spec := "huffOrder", unfollowed := true, recurses := true, apart := false }
def HuffOrderSaid : Prop := huffOrderRow.holds Try.pinned (OpenSpec.ofChange huffOrderSpec)

/-- ITS FALSE NEIGHBOUR: 'it returns false'. Refute it at one input. -/
def huffOrderWrong : ChangeSpec := { name := "huffOrder", fn := fun _ => fun
  | [d] => { results := [.lit (.bool false)], args := [d] }
  | _ => none }
def HuffOrderWrongFalsely : Prop := huffOrderRow.holds Try.pinned (OpenSpec.ofChange huffOrderWrong)

/-- 'quipukeep.HuffMerges': WHATEVER THE INPUT: true; the input reads as it did. -/
def huffMergesSpec : ChangeSpec := { name := "huffMerges", fn := fun _ => fun
  | [d] => { results := [.lit (.bool true)], args := [d] }
  | _ => none }
def huffMergesRow : OpenClaim := { program := "ytohflgcbpmoinaa", sum := "6d311d471359d8c9fc05c369347fc4f44f97350fa3e6eadaee5ab2b0103eb949", func := "quipu/quipukeep.HuffMerges", spec := "huffMerges", unfollowed := true, recurses := true, apart := false }
def HuffMergesSaid : Prop := huffMergesRow.holds Try.pinned (OpenSpec.ofChange huffMergesSpec)

/-- ITS FALSE NEIGHBOUR: 'it returns false'. Refute it at one input. -/
def huffMergesWrong : ChangeSpec := { name := "huffMerges", fn := fun _ => fun
  | [d] => { results := [.lit (.bool false)], args := [d] }
  | _ => none }
def HuffMergesWrongFalsely : Prop := huffMergesRow.holds Try.pinned (OpenSpec.ofChange huffMergesWrong)

/-- 'quipukeep.HuffBest': WHATEVER THE INPUT: true; the input reads as it did. -/
def huffBestSpec : ChangeSpec := { name := "huffBest", fn := fun _ => fun
  | [d1, d2] => { results := [.lit (.bool true)], args := [d1, d2] }
  | _ => none }
def huffBestRow : OpenClaim := { program := "ytohflgcbpmoinaa", sum := "6d311d471359d8c9fc05c369347fc4f44f97350fa3e6eadaee5ab2b0103eb949", func := "quipu/quipukeep.HuffBest", spec := "huffBest", unfollowed := true, recurses := true, apart := false }
def HuffBestSaid : Prop := huffBestRow.holds Try.pinned (OpenSpec.ofChange huffBestSpec)

/-- ITS FALSE NEIGHBOUR: 'it returns false'. Refute it at one input. -/
def huffBestWrong : ChangeSpec := { name := "huffBest", fn := fun _ => fun
  | [d1, d2] => { results := [.lit (.bool false)], args := [d1, d2] }
  | _ => none }
def HuffBestWrongFalsely : Prop := huffBestRow.holds Try.pinned (OpenSpec.ofChange huffBestWrong)

/- THE SECOND FORM. 'bulk': how many values and letters a reading holds, each counted each time it is reached (what is shared counts as often as it is met; a slice's spare places count too). A statement '..UptoSaid' is the law's where the arguments, and the package variables that the reading takes, are together of bulk at most 1048576: NARROWER than '..Said'. Prove '..Said' where nothing that the law and all that it calls make is longer than what came in: it says more and counts as full. Else prove '..UptoSaid'. A law counts once. -/
mutual
def uptoBulk {H : Type} : DataW H → Nat
  | .lit (.string bytes) => bytes.length + 1
  | .lit _ => 1
  | .nil => 1
  | .ptr d => uptoBulk d + 1
  | .slice elems spare => uptoBulkAll elems + uptoBulkAll spare + 1
  | .agg parts => uptoBulkAll parts + 1
  | .iface _ d => uptoBulk d + 1
  | .map entries => uptoBulkEntries entries + 1
  | .held _ => 1
def uptoBulkAll {H : Type} : List (DataW H) → Nat
  | [] => 0
  | d :: r => uptoBulk d + uptoBulkAll r
def uptoBulkEntries {H : Type} : List (Lit × DataW H) → Nat
  | [] => 0
  | x :: r => uptoBulkEntry x + uptoBulkEntries r
def uptoBulkEntry {H : Type} : Lit × DataW H → Nat
  | (.string bytes, d) => bytes.length + uptoBulk d + 1
  | (_, d) => uptoBulk d + 1
 end
def uptoSmall : (H : Type) → List (DataW H) → Bool := fun _ ds => decide (uptoBulkAll ds ≤ 1048576)
def OpenSpec.upto (s : _root_.Go.ChangeSpec) : _root_.Go.OpenSpec := { _root_.Go.OpenSpec.ofChange s with cond := some uptoSmall }

/-- 'quipukeep.AlphaRises', WHERE WHAT IT READS IS OF BULK AT MOST 1048576: true; the input reads as it did. -/
def alphaRisesUptoRow : OpenClaim := { program := "ytohflgcbpmoinaa", sum := "6d311d471359d8c9fc05c369347fc4f44f97350fa3e6eadaee5ab2b0103eb949", func := "quipu/quipukeep.AlphaRises", spec := "alphaRises", unfollowed := true, recurses := true, apart := false, narrowed := true }
def AlphaRisesUptoSaid : Prop := alphaRisesUptoRow.holds Try.pinned (OpenSpec.upto alphaRisesSpec)

/-- 'quipukeep.AlphaBetween', WHERE WHAT IT READS IS OF BULK AT MOST 1048576: true; the input reads as it did. -/
def alphaBetweenUptoRow : OpenClaim := { program := "ytohflgcbpmoinaa", sum := "6d311d471359d8c9fc05c369347fc4f44f97350fa3e6eadaee5ab2b0103eb949", func := "quipu/quipukeep.AlphaBetween", spec := "alphaBetween", unfollowed := true, recurses := true, apart := false, narrowed := true }
def AlphaBetweenUptoSaid : Prop := alphaBetweenUptoRow.holds Try.pinned (OpenSpec.upto alphaBetweenSpec)

/-- 'quipukeep.AlphaSorted', WHERE WHAT IT READS IS OF BULK AT MOST 1048576: true; the input reads as it did. -/
def alphaSortedUptoRow : OpenClaim := { program := "ytohflgcbpmoinaa", sum := "6d311d471359d8c9fc05c369347fc4f44f97350fa3e6eadaee5ab2b0103eb949", func := "quipu/quipukeep.AlphaSorted", spec := "alphaSorted", unfollowed := true, recurses := true, apart := false, narrowed := true }
def AlphaSortedUptoSaid : Prop := alphaSortedUptoRow.holds Try.pinned (OpenSpec.upto alphaSortedSpec)

/-- 'quipukeep.HuffOrder', WHERE WHAT IT READS IS OF BULK AT MOST 1048576: true; the input reads as it did. -/
def huffOrderUptoRow : OpenClaim := { program := "ytohflgcbpmoinaa", sum := "6d311d471359d8c9fc05c369347fc4f44f97350fa3e6eadaee5ab2b0103eb949", func := "quipu/quipukeep.HuffOrder", spec := "huffOrder", unfollowed := true, recurses := true, apart := false, narrowed := true }
def HuffOrderUptoSaid : Prop := huffOrderUptoRow.holds Try.pinned (OpenSpec.upto huffOrderSpec)

/-- 'quipukeep.HuffMerges', WHERE WHAT IT READS IS OF BULK AT MOST 1048576: true; the input reads as it did. -/
def huffMergesUptoRow : OpenClaim := { program := "ytohflgcbpmoinaa", sum := "6d311d471359d8c9fc05c369347fc4f44f97350fa3e6eadaee5ab2b0103eb949", func := "quipu/quipukeep.HuffMerges", spec := "huffMerges", unfollowed := true, recurses := true, apart := false, narrowed := true }
def HuffMergesUptoSaid : Prop := huffMergesUptoRow.holds Try.pinned (OpenSpec.upto huffMergesSpec)

/-- 'quipukeep.HuffBest', WHERE WHAT IT READS IS OF BULK AT MOST 1048576: true; the input reads as it did. -/
def huffBestUptoRow : OpenClaim := { program := "ytohflgcbpmoinaa", sum := "6d311d471359d8c9fc05c369347fc4f44f97350fa3e6eadaee5ab2b0103eb949", func := "quipu/quipukeep.HuffBest", spec := "huffBest", unfollowed := true, recurses := true, apart := false, narrowed := true }
def HuffBestUptoSaid : Prop := huffBestUptoRow.holds Try.pinned (OpenSpec.upto huffBestSpec)

end Rows
end Go.Proofs.Ytohflgcbpmoinaa
