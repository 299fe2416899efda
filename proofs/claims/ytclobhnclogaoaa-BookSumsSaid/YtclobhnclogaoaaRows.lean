/-
  No cell of these rows narrows 'for every input' (looked for: loops, veiled, ifaces, maps, wideKeys, modest, calm, conditions, laid).
  DERIVED. THE GIVEN ROWS OF THIS SEAT. 11 by the template 'for every input the law returns true; each argument reads behind the call as it read before'; 0 by the template 'total and deterministic' (their statements: YtclobhnclogaoaaTotals.lean).
  GIVEN WITH THE SEED: the statements are not yours to turn. If you find one false, say at which input.
  Laid BY PROGRAM, IN A SANDBOX (cutbox-rows.mjs): the forced cells as the released guide's own fill.sh prints them over the translation 9635bbc6f54dfbe5… (all of the seat's roots in one cut). By AI agents, Wed Nov 11 2026. No macro, syntax, notation, axiom, sorry.
-/
import Derived.Test.YtclobhnclogaoaaChecked
import GoSem.Claim
import GoSem.ClaimJoined
import GoSem.ClaimMapViews
import Derived.JoinedTies
import Derived.KernelRfl
namespace Go.Proofs.Ytclobhnclogaoaa
/- THE CELL 'sum', in the pinned program and in every row, IS THE sha256 OF THE DUMP (.gsa) THAT YtclobhnclogaoaaProg.lean LOADS. Nothing in Lean hashes anything: it is a label: what it is worth is what the hold of that sum in a sandbox is worth. -/
noncomputable def Try.pinned : Pinned := { name := "ytclobhnclogaoaa", sum := "9635bbc6f54dfbe572fb9079a3f4532132566c35f6a8f2d2357afd0aa247c1c1", checked := Try.checked }
namespace Rows
def none {H : Type} : Left H := { results := [], args := [] }

/-- 'quipukeep.RankPascal': WHATEVER THE INPUT: true; the input reads as it did. -/
def rankPascalSpec : ChangeSpec := { name := "rankPascal", fn := fun _ => fun
  | [d1, d2] => { results := [.lit (.bool true)], args := [d1, d2] }
  | _ => none }
def rankPascalRow : OpenClaim := { program := "ytclobhnclogaoaa", sum := "9635bbc6f54dfbe572fb9079a3f4532132566c35f6a8f2d2357afd0aa247c1c1", func := "quipu/quipukeep.RankPascal", spec := "rankPascal", apart := false }
def RankPascalSaid : Prop := rankPascalRow.holds Try.pinned (OpenSpec.ofChange rankPascalSpec)

/-- ITS FALSE NEIGHBOUR: 'it returns false'. Refute it at one input. -/
def rankPascalWrong : ChangeSpec := { name := "rankPascal", fn := fun _ => fun
  | [d1, d2] => { results := [.lit (.bool false)], args := [d1, d2] }
  | _ => none }
def RankPascalWrongFalsely : Prop := rankPascalRow.holds Try.pinned (OpenSpec.ofChange rankPascalWrong)

/-- 'quipukeep.RankBack': WHATEVER THE INPUT: true; the input reads as it did. -/
def rankBackSpec : ChangeSpec := { name := "rankBack", fn := fun _ => fun
  | [d1, d2, d3] => { results := [.lit (.bool true)], args := [d1, d2, d3] }
  | _ => none }
def rankBackRow : OpenClaim := { program := "ytclobhnclogaoaa", sum := "9635bbc6f54dfbe572fb9079a3f4532132566c35f6a8f2d2357afd0aa247c1c1", func := "quipu/quipukeep.RankBack", spec := "rankBack", apart := false }
def RankBackSaid : Prop := rankBackRow.holds Try.pinned (OpenSpec.ofChange rankBackSpec)

/-- ITS FALSE NEIGHBOUR: 'it returns false'. Refute it at one input. -/
def rankBackWrong : ChangeSpec := { name := "rankBack", fn := fun _ => fun
  | [d1, d2, d3] => { results := [.lit (.bool false)], args := [d1, d2, d3] }
  | _ => none }
def RankBackWrongFalsely : Prop := rankBackRow.holds Try.pinned (OpenSpec.ofChange rankBackWrong)

/-- 'quipukeep.RankList': WHATEVER THE INPUT: true; the input reads as it did. -/
def rankListSpec : ChangeSpec := { name := "rankList", fn := fun _ => fun
  | [d1, d2] => { results := [.lit (.bool true)], args := [d1, d2] }
  | _ => none }
def rankListRow : OpenClaim := { program := "ytclobhnclogaoaa", sum := "9635bbc6f54dfbe572fb9079a3f4532132566c35f6a8f2d2357afd0aa247c1c1", func := "quipu/quipukeep.RankList", spec := "rankList", apart := false }
def RankListSaid : Prop := rankListRow.holds Try.pinned (OpenSpec.ofChange rankListSpec)

/-- ITS FALSE NEIGHBOUR: 'it returns false'. Refute it at one input. -/
def rankListWrong : ChangeSpec := { name := "rankList", fn := fun _ => fun
  | [d1, d2] => { results := [.lit (.bool false)], args := [d1, d2] }
  | _ => none }
def RankListWrongFalsely : Prop := rankListRow.holds Try.pinned (OpenSpec.ofChange rankListWrong)

/-- 'quipukeep.BallMetric': WHATEVER THE INPUT: true; the input reads as it did. -/
def ballMetricSpec : ChangeSpec := { name := "ballMetric", fn := fun _ => fun
  | [d1, d2, d3, d4] => { results := [.lit (.bool true)], args := [d1, d2, d3, d4] }
  | _ => none }
def ballMetricRow : OpenClaim := { program := "ytclobhnclogaoaa", sum := "9635bbc6f54dfbe572fb9079a3f4532132566c35f6a8f2d2357afd0aa247c1c1", func := "quipu/quipukeep.BallMetric", spec := "ballMetric", apart := false }
def BallMetricSaid : Prop := ballMetricRow.holds Try.pinned (OpenSpec.ofChange ballMetricSpec)

/-- ITS FALSE NEIGHBOUR: 'it returns false'. Refute it at one input. -/
def ballMetricWrong : ChangeSpec := { name := "ballMetric", fn := fun _ => fun
  | [d1, d2, d3, d4] => { results := [.lit (.bool false)], args := [d1, d2, d3, d4] }
  | _ => none }
def BallMetricWrongFalsely : Prop := ballMetricRow.holds Try.pinned (OpenSpec.ofChange ballMetricWrong)

/-- 'quipukeep.BallSize': WHATEVER THE INPUT: true; the input reads as it did. -/
def ballSizeSpec : ChangeSpec := { name := "ballSize", fn := fun _ => fun
  | [d1, d2, d3] => { results := [.lit (.bool true)], args := [d1, d2, d3] }
  | _ => none }
def ballSizeRow : OpenClaim := { program := "ytclobhnclogaoaa", sum := "9635bbc6f54dfbe572fb9079a3f4532132566c35f6a8f2d2357afd0aa247c1c1", func := "quipu/quipukeep.BallSize", spec := "ballSize", apart := false }
def BallSizeSaid : Prop := ballSizeRow.holds Try.pinned (OpenSpec.ofChange ballSizeSpec)

/-- ITS FALSE NEIGHBOUR: 'it returns false'. Refute it at one input. -/
def ballSizeWrong : ChangeSpec := { name := "ballSize", fn := fun _ => fun
  | [d1, d2, d3] => { results := [.lit (.bool false)], args := [d1, d2, d3] }
  | _ => none }
def BallSizeWrongFalsely : Prop := ballSizeRow.holds Try.pinned (OpenSpec.ofChange ballSizeWrong)

/-- 'quipukeep.BookSingleton': WHATEVER THE INPUT: true; the input reads as it did. -/
def bookSingletonSpec : ChangeSpec := { name := "bookSingleton", fn := fun _ => fun
  | [d1, d2] => { results := [.lit (.bool true)], args := [d1, d2] }
  | _ => none }
def bookSingletonRow : OpenClaim := { program := "ytclobhnclogaoaa", sum := "9635bbc6f54dfbe572fb9079a3f4532132566c35f6a8f2d2357afd0aa247c1c1", func := "quipu/quipukeep.BookSingleton", spec := "bookSingleton", apart := false }
def BookSingletonSaid : Prop := bookSingletonRow.holds Try.pinned (OpenSpec.ofChange bookSingletonSpec)

/-- ITS FALSE NEIGHBOUR: 'it returns false'. Refute it at one input. -/
def bookSingletonWrong : ChangeSpec := { name := "bookSingleton", fn := fun _ => fun
  | [d1, d2] => { results := [.lit (.bool false)], args := [d1, d2] }
  | _ => none }
def BookSingletonWrongFalsely : Prop := bookSingletonRow.holds Try.pinned (OpenSpec.ofChange bookSingletonWrong)

/-- 'quipukeep.BookPlotkin': WHATEVER THE INPUT: true; the input reads as it did. -/
def bookPlotkinSpec : ChangeSpec := { name := "bookPlotkin", fn := fun _ => fun
  | [d1, d2] => { results := [.lit (.bool true)], args := [d1, d2] }
  | _ => none }
def bookPlotkinRow : OpenClaim := { program := "ytclobhnclogaoaa", sum := "9635bbc6f54dfbe572fb9079a3f4532132566c35f6a8f2d2357afd0aa247c1c1", func := "quipu/quipukeep.BookPlotkin", spec := "bookPlotkin", apart := false }
def BookPlotkinSaid : Prop := bookPlotkinRow.holds Try.pinned (OpenSpec.ofChange bookPlotkinSpec)

/-- ITS FALSE NEIGHBOUR: 'it returns false'. Refute it at one input. -/
def bookPlotkinWrong : ChangeSpec := { name := "bookPlotkin", fn := fun _ => fun
  | [d1, d2] => { results := [.lit (.bool false)], args := [d1, d2] }
  | _ => none }
def BookPlotkinWrongFalsely : Prop := bookPlotkinRow.holds Try.pinned (OpenSpec.ofChange bookPlotkinWrong)

/-- 'quipukeep.BookHamming': WHATEVER THE INPUT: true; the input reads as it did. -/
def bookHammingSpec : ChangeSpec := { name := "bookHamming", fn := fun _ => fun
  | [d1, d2] => { results := [.lit (.bool true)], args := [d1, d2] }
  | _ => none }
def bookHammingRow : OpenClaim := { program := "ytclobhnclogaoaa", sum := "9635bbc6f54dfbe572fb9079a3f4532132566c35f6a8f2d2357afd0aa247c1c1", func := "quipu/quipukeep.BookHamming", spec := "bookHamming", apart := false }
def BookHammingSaid : Prop := bookHammingRow.holds Try.pinned (OpenSpec.ofChange bookHammingSpec)

/-- ITS FALSE NEIGHBOUR: 'it returns false'. Refute it at one input. -/
def bookHammingWrong : ChangeSpec := { name := "bookHamming", fn := fun _ => fun
  | [d1, d2] => { results := [.lit (.bool false)], args := [d1, d2] }
  | _ => none }
def BookHammingWrongFalsely : Prop := bookHammingRow.holds Try.pinned (OpenSpec.ofChange bookHammingWrong)

/-- 'quipukeep.BookGilbert': WHATEVER THE INPUT: true; the input reads as it did. -/
def bookGilbertSpec : ChangeSpec := { name := "bookGilbert", fn := fun _ => fun
  | [d1, d2, d3] => { results := [.lit (.bool true)], args := [d1, d2, d3] }
  | _ => none }
def bookGilbertRow : OpenClaim := { program := "ytclobhnclogaoaa", sum := "9635bbc6f54dfbe572fb9079a3f4532132566c35f6a8f2d2357afd0aa247c1c1", func := "quipu/quipukeep.BookGilbert", spec := "bookGilbert", unfollowed := true, recurses := true, apart := false }
def BookGilbertSaid : Prop := bookGilbertRow.holds Try.pinned (OpenSpec.ofChange bookGilbertSpec)

/-- ITS FALSE NEIGHBOUR: 'it returns false'. Refute it at one input. -/
def bookGilbertWrong : ChangeSpec := { name := "bookGilbert", fn := fun _ => fun
  | [d1, d2, d3] => { results := [.lit (.bool false)], args := [d1, d2, d3] }
  | _ => none }
def BookGilbertWrongFalsely : Prop := bookGilbertRow.holds Try.pinned (OpenSpec.ofChange bookGilbertWrong)

/-- 'quipukeep.BookSums': WHATEVER THE INPUT: true; the input reads as it did. -/
def bookSumsSpec : ChangeSpec := { name := "bookSums", fn := fun _ => fun
  | [d1, d2, d3, d4] => { results := [.lit (.bool true)], args := [d1, d2, d3, d4] }
  | _ => none }
def bookSumsRow : OpenClaim := { program := "ytclobhnclogaoaa", sum := "9635bbc6f54dfbe572fb9079a3f4532132566c35f6a8f2d2357afd0aa247c1c1", func := "quipu/quipukeep.BookSums", spec := "bookSums", unfollowed := true, recurses := true, apart := false }
def BookSumsSaid : Prop := bookSumsRow.holds Try.pinned (OpenSpec.ofChange bookSumsSpec)

/-- ITS FALSE NEIGHBOUR: 'it returns false'. Refute it at one input. -/
def bookSumsWrong : ChangeSpec := { name := "bookSums", fn := fun _ => fun
  | [d1, d2, d3, d4] => { results := [.lit (.bool false)], args := [d1, d2, d3, d4] }
  | _ => none }
def BookSumsWrongFalsely : Prop := bookSumsRow.holds Try.pinned (OpenSpec.ofChange bookSumsWrong)

/-- 'quipukeep.BookFixes': WHATEVER THE INPUT: true; the input reads as it did. -/
def bookFixesSpec : ChangeSpec := { name := "bookFixes", fn := fun _ => fun
  | [d1, d2, d3, d4] => { results := [.lit (.bool true)], args := [d1, d2, d3, d4] }
  | _ => none }
def bookFixesRow : OpenClaim := { program := "ytclobhnclogaoaa", sum := "9635bbc6f54dfbe572fb9079a3f4532132566c35f6a8f2d2357afd0aa247c1c1", func := "quipu/quipukeep.BookFixes", spec := "bookFixes", unfollowed := true, recurses := true, apart := false }
def BookFixesSaid : Prop := bookFixesRow.holds Try.pinned (OpenSpec.ofChange bookFixesSpec)

/-- ITS FALSE NEIGHBOUR: 'it returns false'. Refute it at one input. -/
def bookFixesWrong : ChangeSpec := { name := "bookFixes", fn := fun _ => fun
  | [d1, d2, d3, d4] => { results := [.lit (.bool false)], args := [d1, d2, d3, d4] }
  | _ => none }
def BookFixesWrongFalsely : Prop := bookFixesRow.holds Try.pinned (OpenSpec.ofChange bookFixesWrong)

/- THE SECOND FORM. 'bulk': how many values and letters a reading holds, each counted each time it is reached (what is shared counts as often as it is met; a slice's spare places count too). A statement '..UptoSaid' is the law's where the arguments, and the package variables that the reading takes, are together of bulk at most 1048576: NARROWER than '..Said'. Prove '..Said' where nothing that the law and all that it calls make is longer than what came in: it says more and counts as full. Else prove '..UptoSaid'. A law counts once. -/
mutual
def uptoBulk {H : Type} : DataW H → Nat
  | .lit (.string bytes) => bytes.length + 1
  | .lit _ => 1
  | .nil => 1
  | .ptr d => uptoBulk d + 1
  | .slice elems spare => uptoBulkAll elems + uptoBulkAll spare + 1
  | .agg parts => uptoBulkAll parts + 1
  | .iface _ d => uptoBulk d + 1
  | .map entries => uptoBulkEntries entries + 1
  | .held _ => 1
def uptoBulkAll {H : Type} : List (DataW H) → Nat
  | [] => 0
  | d :: r => uptoBulk d + uptoBulkAll r
def uptoBulkEntries {H : Type} : List (Lit × DataW H) → Nat
  | [] => 0
  | x :: r => uptoBulkEntry x + uptoBulkEntries r
def uptoBulkEntry {H : Type} : Lit × DataW H → Nat
  | (.string bytes, d) => bytes.length + uptoBulk d + 1
  | (_, d) => uptoBulk d + 1
 end
def uptoSmall : (H : Type) → List (DataW H) → Bool := fun _ ds => decide (uptoBulkAll ds ≤ 1048576)
def OpenSpec.upto (s : _root_.Go.ChangeSpec) : _root_.Go.OpenSpec := { _root_.Go.OpenSpec.ofChange s with cond := some uptoSmall }

/-- 'quipukeep.RankPascal', WHERE WHAT IT READS IS OF BULK AT MOST 1048576: true; the input reads as it did. -/
def rankPascalUptoRow : OpenClaim := { program := "ytclobhnclogaoaa", sum := "9635bbc6f54dfbe572fb9079a3f4532132566c35f6a8f2d2357afd0aa247c1c1", func := "quipu/quipukeep.RankPascal", spec := "rankPascal", apart := false, narrowed := true }
def RankPascalUptoSaid : Prop := rankPascalUptoRow.holds Try.pinned (OpenSpec.upto rankPascalSpec)

/-- 'quipukeep.RankBack', WHERE WHAT IT READS IS OF BULK AT MOST 1048576: true; the input reads as it did. -/
def rankBackUptoRow : OpenClaim := { program := "ytclobhnclogaoaa", sum := "9635bbc6f54dfbe572fb9079a3f4532132566c35f6a8f2d2357afd0aa247c1c1", func := "quipu/quipukeep.RankBack", spec := "rankBack", apart := false, narrowed := true }
def RankBackUptoSaid : Prop := rankBackUptoRow.holds Try.pinned (OpenSpec.upto rankBackSpec)

/-- 'quipukeep.RankList', WHERE WHAT IT READS IS OF BULK AT MOST 1048576: true; the input reads as it did. -/
def rankListUptoRow : OpenClaim := { program := "ytclobhnclogaoaa", sum := "9635bbc6f54dfbe572fb9079a3f4532132566c35f6a8f2d2357afd0aa247c1c1", func := "quipu/quipukeep.RankList", spec := "rankList", apart := false, narrowed := true }
def RankListUptoSaid : Prop := rankListUptoRow.holds Try.pinned (OpenSpec.upto rankListSpec)

/-- 'quipukeep.BallMetric', WHERE WHAT IT READS IS OF BULK AT MOST 1048576: true; the input reads as it did. -/
def ballMetricUptoRow : OpenClaim := { program := "ytclobhnclogaoaa", sum := "9635bbc6f54dfbe572fb9079a3f4532132566c35f6a8f2d2357afd0aa247c1c1", func := "quipu/quipukeep.BallMetric", spec := "ballMetric", apart := false, narrowed := true }
def BallMetricUptoSaid : Prop := ballMetricUptoRow.holds Try.pinned (OpenSpec.upto ballMetricSpec)

/-- 'quipukeep.BallSize', WHERE WHAT IT READS IS OF BULK AT MOST 1048576: true; the input reads as it did. -/
def ballSizeUptoRow : OpenClaim := { program := "ytclobhnclogaoaa", sum := "9635bbc6f54dfbe572fb9079a3f4532132566c35f6a8f2d2357afd0aa247c1c1", func := "quipu/quipukeep.BallSize", spec := "ballSize", apart := false, narrowed := true }
def BallSizeUptoSaid : Prop := ballSizeUptoRow.holds Try.pinned (OpenSpec.upto ballSizeSpec)

/-- 'quipukeep.BookSingleton', WHERE WHAT IT READS IS OF BULK AT MOST 1048576: true; the input reads as it did. -/
def bookSingletonUptoRow : OpenClaim := { program := "ytclobhnclogaoaa", sum := "9635bbc6f54dfbe572fb9079a3f4532132566c35f6a8f2d2357afd0aa247c1c1", func := "quipu/quipukeep.BookSingleton", spec := "bookSingleton", apart := false, narrowed := true }
def BookSingletonUptoSaid : Prop := bookSingletonUptoRow.holds Try.pinned (OpenSpec.upto bookSingletonSpec)

/-- 'quipukeep.BookPlotkin', WHERE WHAT IT READS IS OF BULK AT MOST 1048576: true; the input reads as it did. -/
def bookPlotkinUptoRow : OpenClaim := { program := "ytclobhnclogaoaa", sum := "9635bbc6f54dfbe572fb9079a3f4532132566c35f6a8f2d2357afd0aa247c1c1", func := "quipu/quipukeep.BookPlotkin", spec := "bookPlotkin", apart := false, narrowed := true }
def BookPlotkinUptoSaid : Prop := bookPlotkinUptoRow.holds Try.pinned (OpenSpec.upto bookPlotkinSpec)

/-- 'quipukeep.BookHamming', WHERE WHAT IT READS IS OF BULK AT MOST 1048576: true; the input reads as it did. -/
def bookHammingUptoRow : OpenClaim := { program := "ytclobhnclogaoaa", sum := "9635bbc6f54dfbe572fb9079a3f4532132566c35f6a8f2d2357afd0aa247c1c1", func := "quipu/quipukeep.BookHamming", spec := "bookHamming", apart := false, narrowed := true }
def BookHammingUptoSaid : Prop := bookHammingUptoRow.holds Try.pinned (OpenSpec.upto bookHammingSpec)

/-- 'quipukeep.BookGilbert', WHERE WHAT IT READS IS OF BULK AT MOST 1048576: true; the input reads as it did. -/
def bookGilbertUptoRow : OpenClaim := { program := "ytclobhnclogaoaa", sum := "9635bbc6f54dfbe572fb9079a3f4532132566c35f6a8f2d2357afd0aa247c1c1", func := "quipu/quipukeep.BookGilbert", spec := "bookGilbert", unfollowed := true, recurses := true, apart := false, narrowed := true }
def BookGilbertUptoSaid : Prop := bookGilbertUptoRow.holds Try.pinned (OpenSpec.upto bookGilbertSpec)

/-- 'quipukeep.BookSums', WHERE WHAT IT READS IS OF BULK AT MOST 1048576: true; the input reads as it did. -/
def bookSumsUptoRow : OpenClaim := { program := "ytclobhnclogaoaa", sum := "9635bbc6f54dfbe572fb9079a3f4532132566c35f6a8f2d2357afd0aa247c1c1", func := "quipu/quipukeep.BookSums", spec := "bookSums", unfollowed := true, recurses := true, apart := false, narrowed := true }
def BookSumsUptoSaid : Prop := bookSumsUptoRow.holds Try.pinned (OpenSpec.upto bookSumsSpec)

/-- 'quipukeep.BookFixes', WHERE WHAT IT READS IS OF BULK AT MOST 1048576: true; the input reads as it did. -/
def bookFixesUptoRow : OpenClaim := { program := "ytclobhnclogaoaa", sum := "9635bbc6f54dfbe572fb9079a3f4532132566c35f6a8f2d2357afd0aa247c1c1", func := "quipu/quipukeep.BookFixes", spec := "bookFixes", unfollowed := true, recurses := true, apart := false, narrowed := true }
def BookFixesUptoSaid : Prop := bookFixesUptoRow.holds Try.pinned (OpenSpec.upto bookFixesSpec)

end Rows
end Go.Proofs.Ytclobhnclogaoaa
