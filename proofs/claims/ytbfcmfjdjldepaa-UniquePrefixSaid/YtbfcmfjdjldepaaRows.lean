/-
  No cell of these rows narrows 'for every input' (looked for: loops, veiled, ifaces, maps, wideKeys, modest, calm, conditions, laid).
  DERIVED. THE GIVEN ROWS OF THIS SEAT. 7 by the template 'for every input the law returns true; each argument reads behind the call as it read before'; 0 by the template 'total and deterministic' (their statements: YtbfcmfjdjldepaaTotals.lean).
  GIVEN WITH THE SEED: the statements are not yours to turn. If you find one false, say at which input.
  Laid BY PROGRAM, IN A SANDBOX (cutbox-rows.mjs): the forced cells as the released guide's own fill.sh prints them over the translation bdccfdf0ca7428c9… (all of the seat's roots in one cut). By AI agents, Wed Nov 11 2026. No macro, syntax, notation, axiom, sorry.
-/
import Derived.Test.YtbfcmfjdjldepaaChecked
import GoSem.Claim
import GoSem.ClaimJoined
import GoSem.ClaimMapViews
import Derived.JoinedTies
import Derived.KernelRfl
namespace Go.Proofs.Ytbfcmfjdjldepaa
/- THE CELL 'sum', in the pinned program and in every row, IS THE sha256 OF THE DUMP (.gsa) THAT YtbfcmfjdjldepaaProg.lean LOADS. Nothing in Lean hashes anything: it is a label: what it is worth is what the hold of that sum in a sandbox is worth. -/
noncomputable def Try.pinned : Pinned := { name := "ytbfcmfjdjldepaa", sum := "bdccfdf0ca7428c9f08b4467c8540338ebe9ba7b7e627916fd01fb330b8ef600", checked := Try.checked }
namespace Rows
def none {H : Type} : Left H := { results := [], args := [] }

/-- 'quipukeep.KraftAny': WHATEVER THE INPUT: true; the input reads as it did. -/
def kraftAnySpec : ChangeSpec := { name := "kraftAny", fn := fun _ => fun
  | [d] => { results := [.lit (.bool true)], args := [d] }
  | _ => none }
def kraftAnyRow : OpenClaim := { program := "ytbfcmfjdjldepaa", sum := "bdccfdf0ca7428c9f08b4467c8540338ebe9ba7b7e627916fd01fb330b8ef600", func := "quipu/quipukeep.KraftAny", spec := "kraftAny", unfollowed := true, recurses := true, apart := false }
def KraftAnySaid : Prop := kraftAnyRow.holds Try.pinned (OpenSpec.ofChange kraftAnySpec)

/-- ITS FALSE NEIGHBOUR: 'it returns false'. Refute it at one input. -/
def kraftAnyWrong : ChangeSpec := { name := "kraftAny", fn := fun _ => fun
  | [d] => { results := [.lit (.bool false)], args := [d] }
  | _ => none }
def KraftAnyWrongFalsely : Prop := kraftAnyRow.holds Try.pinned (OpenSpec.ofChange kraftAnyWrong)

/-- 'quipukeep.KraftFits': WHATEVER THE INPUT: true; the input reads as it did. -/
def kraftFitsSpec : ChangeSpec := { name := "kraftFits", fn := fun _ => fun
  | [d] => { results := [.lit (.bool true)], args := [d] }
  | _ => none }
def kraftFitsRow : OpenClaim := { program := "ytbfcmfjdjldepaa", sum := "bdccfdf0ca7428c9f08b4467c8540338ebe9ba7b7e627916fd01fb330b8ef600", func := "quipu/quipukeep.KraftFits", spec := "kraftFits", unfollowed := true, recurses := true, apart := false }
def KraftFitsSaid : Prop := kraftFitsRow.holds Try.pinned (OpenSpec.ofChange kraftFitsSpec)

/-- ITS FALSE NEIGHBOUR: 'it returns false'. Refute it at one input. -/
def kraftFitsWrong : ChangeSpec := { name := "kraftFits", fn := fun _ => fun
  | [d] => { results := [.lit (.bool false)], args := [d] }
  | _ => none }
def KraftFitsWrongFalsely : Prop := kraftFitsRow.holds Try.pinned (OpenSpec.ofChange kraftFitsWrong)

/-- 'quipukeep.PrefixOnly': WHATEVER THE INPUT: true; the input reads as it did. -/
def prefixOnlySpec : ChangeSpec := { name := "prefixOnly", fn := fun _ => fun
  | [d1, d2] => { results := [.lit (.bool true)], args := [d1, d2] }
  | _ => none }
def prefixOnlyRow : OpenClaim := { program := "ytbfcmfjdjldepaa", sum := "bdccfdf0ca7428c9f08b4467c8540338ebe9ba7b7e627916fd01fb330b8ef600", func := "quipu/quipukeep.PrefixOnly", spec := "prefixOnly", unfollowed := true, recurses := true, apart := false }
def PrefixOnlySaid : Prop := prefixOnlyRow.holds Try.pinned (OpenSpec.ofChange prefixOnlySpec)

/-- ITS FALSE NEIGHBOUR: 'it returns false'. Refute it at one input. -/
def prefixOnlyWrong : ChangeSpec := { name := "prefixOnly", fn := fun _ => fun
  | [d1, d2] => { results := [.lit (.bool false)], args := [d1, d2] }
  | _ => none }
def PrefixOnlyWrongFalsely : Prop := prefixOnlyRow.holds Try.pinned (OpenSpec.ofChange prefixOnlyWrong)

/-- 'quipukeep.PrefixBack': WHATEVER THE INPUT: true; the input reads as it did. -/
def prefixBackSpec : ChangeSpec := { name := "prefixBack", fn := fun _ => fun
  | [d1, d2] => { results := [.lit (.bool true)], args := [d1, d2] }
  | _ => none }
def prefixBackRow : OpenClaim := { program := "ytbfcmfjdjldepaa", sum := "bdccfdf0ca7428c9f08b4467c8540338ebe9ba7b7e627916fd01fb330b8ef600", func := "quipu/quipukeep.PrefixBack", spec := "prefixBack", unfollowed := true, recurses := true, apart := false }
def PrefixBackSaid : Prop := prefixBackRow.holds Try.pinned (OpenSpec.ofChange prefixBackSpec)

/-- ITS FALSE NEIGHBOUR: 'it returns false'. Refute it at one input. -/
def prefixBackWrong : ChangeSpec := { name := "prefixBack", fn := fun _ => fun
  | [d1, d2] => { results := [.lit (.bool false)], args := [d1, d2] }
  | _ => none }
def PrefixBackWrongFalsely : Prop := prefixBackRow.holds Try.pinned (OpenSpec.ofChange prefixBackWrong)

/-- 'quipukeep.UniquePrefix': WHATEVER THE INPUT: true; the input reads as it did. -/
def uniquePrefixSpec : ChangeSpec := { name := "uniquePrefix", fn := fun _ => fun
  | [d] => { results := [.lit (.bool true)], args := [d] }
  | _ => none }
def uniquePrefixRow : OpenClaim := { program := "ytbfcmfjdjldepaa", sum := "bdccfdf0ca7428c9f08b4467c8540338ebe9ba7b7e627916fd01fb330b8ef600", func := "quipu/quipukeep.UniquePrefix", spec := "uniquePrefix", unfollowed := true, recurses := true, apart := false }
def UniquePrefixSaid : Prop := uniquePrefixRow.holds Try.pinned (OpenSpec.ofChange uniquePrefixSpec)

/-- ITS FALSE NEIGHBOUR: 'it returns false'. Refute it at one input. -/
def uniquePrefixWrong : ChangeSpec := { name := "uniquePrefix", fn := fun _ => fun
  | [d] => { results := [.lit (.bool false)], args := [d] }
  | _ => none }
def UniquePrefixWrongFalsely : Prop := uniquePrefixRow.holds Try.pinned (OpenSpec.ofChange uniquePrefixWrong)

/-- 'quipukeep.UniqueKraft': WHATEVER THE INPUT: true; the input reads as it did. -/
def uniqueKraftSpec : ChangeSpec := { name := "uniqueKraft", fn := fun _ => fun
  | [d] => { results := [.lit (.bool true)], args := [d] }
  | _ => none }
def uniqueKraftRow : OpenClaim := { program := "ytbfcmfjdjldepaa", sum := "bdccfdf0ca7428c9f08b4467c8540338ebe9ba7b7e627916fd01fb330b8ef600", func := "quipu/quipukeep.UniqueKraft", spec := "uniqueKraft", unfollowed := true, recurses := true, apart := false }
def UniqueKraftSaid : Prop := uniqueKraftRow.holds Try.pinned (OpenSpec.ofChange uniqueKraftSpec)

/-- ITS FALSE NEIGHBOUR: 'it returns false'. Refute it at one input. -/
def uniqueKraftWrong : ChangeSpec := { name := "uniqueKraft", fn := fun _ => fun
  | [d] => { results := [.lit (.bool false)], args := [d] }
  | _ => none }
def UniqueKraftWrongFalsely : Prop := uniqueKraftRow.holds Try.pinned (OpenSpec.ofChange uniqueKraftWrong)

/-- 'quipukeep.UniqueTexts': WHATEVER THE INPUT: true; the input reads as it did. -/
def uniqueTextsSpec : ChangeSpec := { name := "uniqueTexts", fn := fun _ => fun
  | [d1, d2, d3] => { results := [.lit (.bool true)], args := [d1, d2, d3] }
  | _ => none }
def uniqueTextsRow : OpenClaim := { program := "ytbfcmfjdjldepaa", sum := "bdccfdf0ca7428c9f08b4467c8540338ebe9ba7b7e627916fd01fb330b8ef600", func := "quipu/quipukeep.UniqueTexts", spec := "uniqueTexts", unfollowed := true, recurses := true, apart := false }
def UniqueTextsSaid : Prop := uniqueTextsRow.holds Try.pinned (OpenSpec.ofChange uniqueTextsSpec)

/-- ITS FALSE NEIGHBOUR: 'it returns false'. Refute it at one input. -/
def uniqueTextsWrong : ChangeSpec := { name := "uniqueTexts", fn := fun _ => fun
  | [d1, d2, d3] => { results := [.lit (.bool false)], args := [d1, d2, d3] }
  | _ => none }
def UniqueTextsWrongFalsely : Prop := uniqueTextsRow.holds Try.pinned (OpenSpec.ofChange uniqueTextsWrong)

/- THE SECOND FORM. 'bulk': how many values and letters a reading holds, each counted each time it is reached (what is shared counts as often as it is met; a slice's spare places count too). A statement '..UptoSaid' is the law's where the arguments, and the package variables that the reading takes, are together of bulk at most 1048576: NARROWER than '..Said'. Prove '..Said' where nothing that the law and all that it calls make is longer than what came in: it says more and counts as full. Else prove '..UptoSaid'. A law counts once. -/
mutual
def uptoBulk {H : Type} : DataW H → Nat
  | .lit (.string bytes) => bytes.length + 1
  | .lit _ => 1
  | .nil => 1
  | .ptr d => uptoBulk d + 1
  | .slice elems spare => uptoBulkAll elems + uptoBulkAll spare + 1
  | .agg parts => uptoBulkAll parts + 1
  | .iface _ d => uptoBulk d + 1
  | .map entries => uptoBulkEntries entries + 1
  | .held _ => 1
def uptoBulkAll {H : Type} : List (DataW H) → Nat
  | [] => 0
  | d :: r => uptoBulk d + uptoBulkAll r
def uptoBulkEntries {H : Type} : List (Lit × DataW H) → Nat
  | [] => 0
  | x :: r => uptoBulkEntry x + uptoBulkEntries r
def uptoBulkEntry {H : Type} : Lit × DataW H → Nat
  | (.string bytes, d) => bytes.length + uptoBulk d + 1
  | (_, d) => uptoBulk d + 1
 end
def uptoSmall : (H : Type) → List (DataW H) → Bool := fun _ ds => decide (uptoBulkAll ds ≤ 1048576)
def OpenSpec.upto (s : _root_.Go.ChangeSpec) : _root_.Go.OpenSpec := { _root_.Go.OpenSpec.ofChange s with cond := some uptoSmall }

/-- 'quipukeep.KraftAny', WHERE WHAT IT READS IS OF BULK AT MOST 1048576: true; the input reads as it did. -/
def kraftAnyUptoRow : OpenClaim := { program := "ytbfcmfjdjldepaa", sum := "bdccfdf0ca7428c9f08b4467c8540338ebe9ba7b7e627916fd01fb330b8ef600", func := "quipu/quipukeep.KraftAny", spec := "kraftAny", unfollowed := true, recurses := true, apart := false, narrowed := true }
def KraftAnyUptoSaid : Prop := kraftAnyUptoRow.holds Try.pinned (OpenSpec.upto kraftAnySpec)

/-- 'quipukeep.KraftFits', WHERE WHAT IT READS IS OF BULK AT MOST 1048576: true; the input reads as it did. -/
def kraftFitsUptoRow : OpenClaim := { program := "ytbfcmfjdjldepaa", sum := "bdccfdf0ca7428c9f08b4467c8540338ebe9ba7b7e627916fd01fb330b8ef600", func := "quipu/quipukeep.KraftFits", spec := "kraftFits", unfollowed := true, recurses := true, apart := false, narrowed := true }
def KraftFitsUptoSaid : Prop := kraftFitsUptoRow.holds Try.pinned (OpenSpec.upto kraftFitsSpec)

/-- 'quipukeep.PrefixOnly', WHERE WHAT IT READS IS OF BULK AT MOST 1048576: true; the input reads as it did. -/
def prefixOnlyUptoRow : OpenClaim := { program := "ytbfcmfjdjldepaa", sum := "bdccfdf0ca7428c9f08b4467c8540338ebe9ba7b7e627916fd01fb330b8ef600", func := "quipu/quipukeep.PrefixOnly", spec := "prefixOnly", unfollowed := true, recurses := true, apart := false, narrowed := true }
def PrefixOnlyUptoSaid : Prop := prefixOnlyUptoRow.holds Try.pinned (OpenSpec.upto prefixOnlySpec)

/-- 'quipukeep.PrefixBack', WHERE WHAT IT READS IS OF BULK AT MOST 1048576: true; the input reads as it did. -/
def prefixBackUptoRow : OpenClaim := { program := "ytbfcmfjdjldepaa", sum := "bdccfdf0ca7428c9f08b4467c8540338ebe9ba7b7e627916fd01fb330b8ef600", func := "quipu/quipukeep.PrefixBack", spec := "prefixBack", unfollowed := true, recurses := true, apart := false, narrowed := true }
def PrefixBackUptoSaid : Prop := prefixBackUptoRow.holds Try.pinned (OpenSpec.upto prefixBackSpec)

/-- 'quipukeep.UniquePrefix', WHERE WHAT IT READS IS OF BULK AT MOST 1048576: true; the input reads as it did. -/
def uniquePrefixUptoRow : OpenClaim := { program := "ytbfcmfjdjldepaa", sum := "bdccfdf0ca7428c9f08b4467c8540338ebe9ba7b7e627916fd01fb330b8ef600", func := "quipu/quipukeep.UniquePrefix", spec := "uniquePrefix", unfollowed := true, recurses := true, apart := false, narrowed := true }
def UniquePrefixUptoSaid : Prop := uniquePrefixUptoRow.holds Try.pinned (OpenSpec.upto uniquePrefixSpec)

/-- 'quipukeep.UniqueKraft', WHERE WHAT IT READS IS OF BULK AT MOST 1048576: true; the input reads as it did. -/
def uniqueKraftUptoRow : OpenClaim := { program := "ytbfcmfjdjldepaa", sum := "bdccfdf0ca7428c9f08b4467c8540338ebe9ba7b7e627916fd01fb330b8ef600", func := "quipu/quipukeep.UniqueKraft", spec := "uniqueKraft", unfollowed := true, recurses := true, apart := false, narrowed := true }
def UniqueKraftUptoSaid : Prop := uniqueKraftUptoRow.holds Try.pinned (OpenSpec.upto uniqueKraftSpec)

/-- 'quipukeep.UniqueTexts', WHERE WHAT IT READS IS OF BULK AT MOST 1048576: true; the input reads as it did. -/
def uniqueTextsUptoRow : OpenClaim := { program := "ytbfcmfjdjldepaa", sum := "bdccfdf0ca7428c9f08b4467c8540338ebe9ba7b7e627916fd01fb330b8ef600", func := "quipu/quipukeep.UniqueTexts", spec := "uniqueTexts", unfollowed := true, recurses := true, apart := false, narrowed := true }
def UniqueTextsUptoSaid : Prop := uniqueTextsUptoRow.holds Try.pinned (OpenSpec.upto uniqueTextsSpec)

end Rows
end Go.Proofs.Ytbfcmfjdjldepaa
