/-
  No cell of these rows narrows 'for every input' (looked for: loops, veiled, ifaces, maps, wideKeys, modest, calm, conditions, laid).
  DERIVED. THE GIVEN ROWS OF THIS SEAT. 9 by the template 'for every input the law returns true; each argument reads behind the call as it read before'; 0 by the template 'total and deterministic' (their statements: YtpogedmkmplckaaTotals.lean).
  GIVEN WITH THE SEED: the statements are not yours to turn. If you find one false, say at which input.
  Laid BY PROGRAM, IN A SANDBOX (cutbox-rows.mjs): the forced cells as the released guide's own fill.sh prints them over the translation 9b47292cd2e91416… (all of the seat's roots in one cut). By AI agents, Wed Nov 11 2026. No macro, syntax, notation, axiom, sorry.
-/
import Derived.Test.YtpogedmkmplckaaChecked
import GoSem.Claim
import GoSem.ClaimJoined
import GoSem.ClaimMapViews
import Derived.JoinedTies
import Derived.KernelRfl
namespace Go.Proofs.Ytpogedmkmplckaa
/- THE CELL 'sum', in the pinned program and in every row, IS THE sha256 OF THE DUMP (.gsa) THAT YtpogedmkmplckaaProg.lean LOADS. Nothing in Lean hashes anything: it is a label: what it is worth is what the hold of that sum in a sandbox is worth. -/
noncomputable def Try.pinned : Pinned := { name := "ytpogedmkmplckaa", sum := "9b47292cd2e91416f6a731da80891e96d8736946d050d83811ac6ecf83ae9203", checked := Try.checked }
namespace Rows
def none {H : Type} : Left H := { results := [], args := [] }

/-- 'quipukeep.DropApart': WHATEVER THE INPUT: true; the input reads as it did. -/
def dropApartSpec : ChangeSpec := { name := "dropApart", fn := fun _ => fun
  | [d1, d2, d3, d4] => { results := [.lit (.bool true)], args := [d1, d2, d3, d4] }
  | _ => none }
def dropApartRow : OpenClaim := { program := "ytpogedmkmplckaa", sum := "9b47292cd2e91416f6a731da80891e96d8736946d050d83811ac6ecf83ae9203", func := "quipu/quipukeep.DropApart", spec := "dropApart", apart := false }
def DropApartSaid : Prop := dropApartRow.holds Try.pinned (OpenSpec.ofChange dropApartSpec)

/-- ITS FALSE NEIGHBOUR: 'it returns false'. Refute it at one input. -/
def dropApartWrong : ChangeSpec := { name := "dropApart", fn := fun _ => fun
  | [d1, d2, d3, d4] => { results := [.lit (.bool false)], args := [d1, d2, d3, d4] }
  | _ => none }
def DropApartWrongFalsely : Prop := dropApartRow.holds Try.pinned (OpenSpec.ofChange dropApartWrong)

/-- 'quipukeep.DropShares': WHATEVER THE INPUT: true; the input reads as it did. -/
def dropSharesSpec : ChangeSpec := { name := "dropShares", fn := fun _ => fun
  | [d] => { results := [.lit (.bool true)], args := [d] }
  | _ => none }
def dropSharesRow : OpenClaim := { program := "ytpogedmkmplckaa", sum := "9b47292cd2e91416f6a731da80891e96d8736946d050d83811ac6ecf83ae9203", func := "quipu/quipukeep.DropShares", spec := "dropShares", apart := false }
def DropSharesSaid : Prop := dropSharesRow.holds Try.pinned (OpenSpec.ofChange dropSharesSpec)

/-- ITS FALSE NEIGHBOUR: 'it returns false'. Refute it at one input. -/
def dropSharesWrong : ChangeSpec := { name := "dropShares", fn := fun _ => fun
  | [d] => { results := [.lit (.bool false)], args := [d] }
  | _ => none }
def DropSharesWrongFalsely : Prop := dropSharesRow.holds Try.pinned (OpenSpec.ofChange dropSharesWrong)

/-- 'quipukeep.DropBack': WHATEVER THE INPUT: true; the input reads as it did. -/
def dropBackSpec : ChangeSpec := { name := "dropBack", fn := fun _ => fun
  | [d1, d2] => { results := [.lit (.bool true)], args := [d1, d2] }
  | _ => none }
def dropBackRow : OpenClaim := { program := "ytpogedmkmplckaa", sum := "9b47292cd2e91416f6a731da80891e96d8736946d050d83811ac6ecf83ae9203", func := "quipu/quipukeep.DropBack", spec := "dropBack", inPlace := ["slices.overlaps[bool]"], apart := false }
def DropBackSaid : Prop := dropBackRow.holds Try.pinned (OpenSpec.ofChange dropBackSpec)

/-- ITS FALSE NEIGHBOUR: 'it returns false'. Refute it at one input. -/
def dropBackWrong : ChangeSpec := { name := "dropBack", fn := fun _ => fun
  | [d1, d2] => { results := [.lit (.bool false)], args := [d1, d2] }
  | _ => none }
def DropBackWrongFalsely : Prop := dropBackRow.holds Try.pinned (OpenSpec.ofChange dropBackWrong)

/-- 'quipukeep.GrayOne': WHATEVER THE INPUT: true; the input reads as it did. -/
def grayOneSpec : ChangeSpec := { name := "grayOne", fn := fun _ => fun
  | [d1, d2] => { results := [.lit (.bool true)], args := [d1, d2] }
  | _ => none }
def grayOneRow : OpenClaim := { program := "ytpogedmkmplckaa", sum := "9b47292cd2e91416f6a731da80891e96d8736946d050d83811ac6ecf83ae9203", func := "quipu/quipukeep.GrayOne", spec := "grayOne", apart := false }
def GrayOneSaid : Prop := grayOneRow.holds Try.pinned (OpenSpec.ofChange grayOneSpec)

/-- ITS FALSE NEIGHBOUR: 'it returns false'. Refute it at one input. -/
def grayOneWrong : ChangeSpec := { name := "grayOne", fn := fun _ => fun
  | [d1, d2] => { results := [.lit (.bool false)], args := [d1, d2] }
  | _ => none }
def GrayOneWrongFalsely : Prop := grayOneRow.holds Try.pinned (OpenSpec.ofChange grayOneWrong)

/-- 'quipukeep.GrayRound': WHATEVER THE INPUT: true; the input reads as it did. -/
def grayRoundSpec : ChangeSpec := { name := "grayRound", fn := fun _ => fun
  | [d] => { results := [.lit (.bool true)], args := [d] }
  | _ => none }
def grayRoundRow : OpenClaim := { program := "ytpogedmkmplckaa", sum := "9b47292cd2e91416f6a731da80891e96d8736946d050d83811ac6ecf83ae9203", func := "quipu/quipukeep.GrayRound", spec := "grayRound", apart := false }
def GrayRoundSaid : Prop := grayRoundRow.holds Try.pinned (OpenSpec.ofChange grayRoundSpec)

/-- ITS FALSE NEIGHBOUR: 'it returns false'. Refute it at one input. -/
def grayRoundWrong : ChangeSpec := { name := "grayRound", fn := fun _ => fun
  | [d] => { results := [.lit (.bool false)], args := [d] }
  | _ => none }
def GrayRoundWrongFalsely : Prop := grayRoundRow.holds Try.pinned (OpenSpec.ofChange grayRoundWrong)

/-- 'quipukeep.StuffBack': WHATEVER THE INPUT: true; the input reads as it did. -/
def stuffBackSpec : ChangeSpec := { name := "stuffBack", fn := fun _ => fun
  | [d] => { results := [.lit (.bool true)], args := [d] }
  | _ => none }
def stuffBackRow : OpenClaim := { program := "ytpogedmkmplckaa", sum := "9b47292cd2e91416f6a731da80891e96d8736946d050d83811ac6ecf83ae9203", func := "quipu/quipukeep.StuffBack", spec := "stuffBack", apart := false }
def StuffBackSaid : Prop := stuffBackRow.holds Try.pinned (OpenSpec.ofChange stuffBackSpec)

/-- ITS FALSE NEIGHBOUR: 'it returns false'. Refute it at one input. -/
def stuffBackWrong : ChangeSpec := { name := "stuffBack", fn := fun _ => fun
  | [d] => { results := [.lit (.bool false)], args := [d] }
  | _ => none }
def StuffBackWrongFalsely : Prop := stuffBackRow.holds Try.pinned (OpenSpec.ofChange stuffBackWrong)

/-- 'quipukeep.StuffTexts': WHATEVER THE INPUT: true; the input reads as it did. -/
def stuffTextsSpec : ChangeSpec := { name := "stuffTexts", fn := fun _ => fun
  | [d1, d2] => { results := [.lit (.bool true)], args := [d1, d2] }
  | _ => none }
def stuffTextsRow : OpenClaim := { program := "ytpogedmkmplckaa", sum := "9b47292cd2e91416f6a731da80891e96d8736946d050d83811ac6ecf83ae9203", func := "quipu/quipukeep.StuffTexts", spec := "stuffTexts", unfollowed := true, recurses := true, apart := false }
def StuffTextsSaid : Prop := stuffTextsRow.holds Try.pinned (OpenSpec.ofChange stuffTextsSpec)

/-- ITS FALSE NEIGHBOUR: 'it returns false'. Refute it at one input. -/
def stuffTextsWrong : ChangeSpec := { name := "stuffTexts", fn := fun _ => fun
  | [d1, d2] => { results := [.lit (.bool false)], args := [d1, d2] }
  | _ => none }
def StuffTextsWrongFalsely : Prop := stuffTextsRow.holds Try.pinned (OpenSpec.ofChange stuffTextsWrong)

/-- 'quipukeep.EvenHalf': WHATEVER THE INPUT: true; the input reads as it did. -/
def evenHalfSpec : ChangeSpec := { name := "evenHalf", fn := fun _ => fun
  | [d1, d2] => { results := [.lit (.bool true)], args := [d1, d2] }
  | _ => none }
def evenHalfRow : OpenClaim := { program := "ytpogedmkmplckaa", sum := "9b47292cd2e91416f6a731da80891e96d8736946d050d83811ac6ecf83ae9203", func := "quipu/quipukeep.EvenHalf", spec := "evenHalf", apart := false }
def EvenHalfSaid : Prop := evenHalfRow.holds Try.pinned (OpenSpec.ofChange evenHalfSpec)

/-- ITS FALSE NEIGHBOUR: 'it returns false'. Refute it at one input. -/
def evenHalfWrong : ChangeSpec := { name := "evenHalf", fn := fun _ => fun
  | [d1, d2] => { results := [.lit (.bool false)], args := [d1, d2] }
  | _ => none }
def EvenHalfWrongFalsely : Prop := evenHalfRow.holds Try.pinned (OpenSpec.ofChange evenHalfWrong)

/-- 'quipukeep.EvenBack': WHATEVER THE INPUT: true; the input reads as it did. -/
def evenBackSpec : ChangeSpec := { name := "evenBack", fn := fun _ => fun
  | [d] => { results := [.lit (.bool true)], args := [d] }
  | _ => none }
def evenBackRow : OpenClaim := { program := "ytpogedmkmplckaa", sum := "9b47292cd2e91416f6a731da80891e96d8736946d050d83811ac6ecf83ae9203", func := "quipu/quipukeep.EvenBack", spec := "evenBack", apart := false }
def EvenBackSaid : Prop := evenBackRow.holds Try.pinned (OpenSpec.ofChange evenBackSpec)

/-- ITS FALSE NEIGHBOUR: 'it returns false'. Refute it at one input. -/
def evenBackWrong : ChangeSpec := { name := "evenBack", fn := fun _ => fun
  | [d] => { results := [.lit (.bool false)], args := [d] }
  | _ => none }
def EvenBackWrongFalsely : Prop := evenBackRow.holds Try.pinned (OpenSpec.ofChange evenBackWrong)

/- THE SECOND FORM. 'bulk': how many values and letters a reading holds, each counted each time it is reached (what is shared counts as often as it is met; a slice's spare places count too). A statement '..UptoSaid' is the law's where the arguments, and the package variables that the reading takes, are together of bulk at most 1048576: NARROWER than '..Said'. Prove '..Said' where nothing that the law and all that it calls make is longer than what came in: it says more and counts as full. Else prove '..UptoSaid'. A law counts once. -/
mutual
def uptoBulk {H : Type} : DataW H → Nat
  | .lit (.string bytes) => bytes.length + 1
  | .lit _ => 1
  | .nil => 1
  | .ptr d => uptoBulk d + 1
  | .slice elems spare => uptoBulkAll elems + uptoBulkAll spare + 1
  | .agg parts => uptoBulkAll parts + 1
  | .iface _ d => uptoBulk d + 1
  | .map entries => uptoBulkEntries entries + 1
  | .held _ => 1
def uptoBulkAll {H : Type} : List (DataW H) → Nat
  | [] => 0
  | d :: r => uptoBulk d + uptoBulkAll r
def uptoBulkEntries {H : Type} : List (Lit × DataW H) → Nat
  | [] => 0
  | x :: r => uptoBulkEntry x + uptoBulkEntries r
def uptoBulkEntry {H : Type} : Lit × DataW H → Nat
  | (.string bytes, d) => bytes.length + uptoBulk d + 1
  | (_, d) => uptoBulk d + 1
 end
def uptoSmall : (H : Type) → List (DataW H) → Bool := fun _ ds => decide (uptoBulkAll ds ≤ 1048576)
def OpenSpec.upto (s : _root_.Go.ChangeSpec) : _root_.Go.OpenSpec := { _root_.Go.OpenSpec.ofChange s with cond := some uptoSmall }

/-- 'quipukeep.DropApart', WHERE WHAT IT READS IS OF BULK AT MOST 1048576: true; the input reads as it did. -/
def dropApartUptoRow : OpenClaim := { program := "ytpogedmkmplckaa", sum := "9b47292cd2e91416f6a731da80891e96d8736946d050d83811ac6ecf83ae9203", func := "quipu/quipukeep.DropApart", spec := "dropApart", apart := false, narrowed := true }
def DropApartUptoSaid : Prop := dropApartUptoRow.holds Try.pinned (OpenSpec.upto dropApartSpec)

/-- 'quipukeep.DropShares', WHERE WHAT IT READS IS OF BULK AT MOST 1048576: true; the input reads as it did. -/
def dropSharesUptoRow : OpenClaim := { program := "ytpogedmkmplckaa", sum := "9b47292cd2e91416f6a731da80891e96d8736946d050d83811ac6ecf83ae9203", func := "quipu/quipukeep.DropShares", spec := "dropShares", apart := false, narrowed := true }
def DropSharesUptoSaid : Prop := dropSharesUptoRow.holds Try.pinned (OpenSpec.upto dropSharesSpec)

/-- 'quipukeep.DropBack', WHERE WHAT IT READS IS OF BULK AT MOST 1048576: true; the input reads as it did. -/
def dropBackUptoRow : OpenClaim := { program := "ytpogedmkmplckaa", sum := "9b47292cd2e91416f6a731da80891e96d8736946d050d83811ac6ecf83ae9203", func := "quipu/quipukeep.DropBack", spec := "dropBack", inPlace := ["slices.overlaps[bool]"], apart := false, narrowed := true }
def DropBackUptoSaid : Prop := dropBackUptoRow.holds Try.pinned (OpenSpec.upto dropBackSpec)

/-- 'quipukeep.GrayOne', WHERE WHAT IT READS IS OF BULK AT MOST 1048576: true; the input reads as it did. -/
def grayOneUptoRow : OpenClaim := { program := "ytpogedmkmplckaa", sum := "9b47292cd2e91416f6a731da80891e96d8736946d050d83811ac6ecf83ae9203", func := "quipu/quipukeep.GrayOne", spec := "grayOne", apart := false, narrowed := true }
def GrayOneUptoSaid : Prop := grayOneUptoRow.holds Try.pinned (OpenSpec.upto grayOneSpec)

/-- 'quipukeep.GrayRound', WHERE WHAT IT READS IS OF BULK AT MOST 1048576: true; the input reads as it did. -/
def grayRoundUptoRow : OpenClaim := { program := "ytpogedmkmplckaa", sum := "9b47292cd2e91416f6a731da80891e96d8736946d050d83811ac6ecf83ae9203", func := "quipu/quipukeep.GrayRound", spec := "grayRound", apart := false, narrowed := true }
def GrayRoundUptoSaid : Prop := grayRoundUptoRow.holds Try.pinned (OpenSpec.upto grayRoundSpec)

/-- 'quipukeep.StuffBack', WHERE WHAT IT READS IS OF BULK AT MOST 1048576: true; the input reads as it did. -/
def stuffBackUptoRow : OpenClaim := { program := "ytpogedmkmplckaa", sum := "9b47292cd2e91416f6a731da80891e96d8736946d050d83811ac6ecf83ae9203", func := "quipu/quipukeep.StuffBack", spec := "stuffBack", apart := false, narrowed := true }
def StuffBackUptoSaid : Prop := stuffBackUptoRow.holds Try.pinned (OpenSpec.upto stuffBackSpec)

/-- 'quipukeep.StuffTexts', WHERE WHAT IT READS IS OF BULK AT MOST 1048576: true; the input reads as it did. -/
def stuffTextsUptoRow : OpenClaim := { program := "ytpogedmkmplckaa", sum := "9b47292cd2e91416f6a731da80891e96d8736946d050d83811ac6ecf83ae9203", func := "quipu/quipukeep.StuffTexts", spec := "stuffTexts", unfollowed := true, recurses := true, apart := false, narrowed := true }
def StuffTextsUptoSaid : Prop := stuffTextsUptoRow.holds Try.pinned (OpenSpec.upto stuffTextsSpec)

/-- 'quipukeep.EvenHalf', WHERE WHAT IT READS IS OF BULK AT MOST 1048576: true; the input reads as it did. -/
def evenHalfUptoRow : OpenClaim := { program := "ytpogedmkmplckaa", sum := "9b47292cd2e91416f6a731da80891e96d8736946d050d83811ac6ecf83ae9203", func := "quipu/quipukeep.EvenHalf", spec := "evenHalf", apart := false, narrowed := true }
def EvenHalfUptoSaid : Prop := evenHalfUptoRow.holds Try.pinned (OpenSpec.upto evenHalfSpec)

/-- 'quipukeep.EvenBack', WHERE WHAT IT READS IS OF BULK AT MOST 1048576: true; the input reads as it did. -/
def evenBackUptoRow : OpenClaim := { program := "ytpogedmkmplckaa", sum := "9b47292cd2e91416f6a731da80891e96d8736946d050d83811ac6ecf83ae9203", func := "quipu/quipukeep.EvenBack", spec := "evenBack", apart := false, narrowed := true }
def EvenBackUptoSaid : Prop := evenBackUptoRow.holds Try.pinned (OpenSpec.upto evenBackSpec)

end Rows
end Go.Proofs.Ytpogedmkmplckaa
