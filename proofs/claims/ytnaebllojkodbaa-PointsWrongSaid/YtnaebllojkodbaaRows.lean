/-
  No cell of these rows narrows 'for every input' (looked for: loops, veiled, ifaces, maps, wideKeys, modest, calm, conditions, laid).
  DERIVED. THE GIVEN ROWS OF THIS SEAT. 10 by the template 'for every input the law returns true; each argument reads behind the call as it read before'; 0 by the template 'total and deterministic' (their statements: YtnaebllojkodbaaTotals.lean).
  GIVEN WITH THE SEED: the statements are not yours to turn. If you find one false, say at which input.
  Laid BY PROGRAM, IN A SANDBOX (cutbox-rows.mjs): the forced cells as the released guide's own fill.sh prints them over the translation 28ebe46ad54b6ba6… (all of the seat's roots in one cut). By AI agents, Wed Nov 11 2026. No macro, syntax, notation, axiom, sorry.
-/
import Derived.Test.YtnaebllojkodbaaChecked
import GoSem.Claim
import GoSem.ClaimJoined
import GoSem.ClaimMapViews
import Derived.JoinedTies
import Derived.KernelRfl
namespace Go.Proofs.Ytnaebllojkodbaa
/- THE CELL 'sum', in the pinned program and in every row, IS THE sha256 OF THE DUMP (.gsa) THAT YtnaebllojkodbaaProg.lean LOADS. Nothing in Lean hashes anything: it is a label: what it is worth is what the hold of that sum in a sandbox is worth. -/
noncomputable def Try.pinned : Pinned := { name := "ytnaebllojkodbaa", sum := "28ebe46ad54b6ba6d214b078ccf1a82ca200e433f46ab8b8c5c18d5771d5df1a", checked := Try.checked }
namespace Rows
def none {H : Type} : Left H := { results := [], args := [] }

/-- 'quipukeep.FieldLaws': WHATEVER THE INPUT: true; the input reads as it did. -/
def fieldLawsSpec : ChangeSpec := { name := "fieldLaws", fn := fun _ => fun
  | [d1, d2, d3] => { results := [.lit (.bool true)], args := [d1, d2, d3] }
  | _ => none }
def fieldLawsRow : OpenClaim := { program := "ytnaebllojkodbaa", sum := "28ebe46ad54b6ba6d214b078ccf1a82ca200e433f46ab8b8c5c18d5771d5df1a", func := "quipu/quipukeep.FieldLaws", spec := "fieldLaws", unfollowed := true, recurses := true, apart := false }
def FieldLawsSaid : Prop := fieldLawsRow.holds Try.pinned (OpenSpec.ofChange fieldLawsSpec)

/-- ITS FALSE NEIGHBOUR: 'it returns false'. Refute it at one input. -/
def fieldLawsWrong : ChangeSpec := { name := "fieldLaws", fn := fun _ => fun
  | [d1, d2, d3] => { results := [.lit (.bool false)], args := [d1, d2, d3] }
  | _ => none }
def FieldLawsWrongFalsely : Prop := fieldLawsRow.holds Try.pinned (OpenSpec.ofChange fieldLawsWrong)

/-- 'quipukeep.FieldRoots': WHATEVER THE INPUT: true; the input reads as it did. -/
def fieldRootsSpec : ChangeSpec := { name := "fieldRoots", fn := fun _ => fun
  | [d] => { results := [.lit (.bool true)], args := [d] }
  | _ => none }
def fieldRootsRow : OpenClaim := { program := "ytnaebllojkodbaa", sum := "28ebe46ad54b6ba6d214b078ccf1a82ca200e433f46ab8b8c5c18d5771d5df1a", func := "quipu/quipukeep.FieldRoots", spec := "fieldRoots", unfollowed := true, recurses := true, apart := false }
def FieldRootsSaid : Prop := fieldRootsRow.holds Try.pinned (OpenSpec.ofChange fieldRootsSpec)

/-- ITS FALSE NEIGHBOUR: 'it returns false'. Refute it at one input. -/
def fieldRootsWrong : ChangeSpec := { name := "fieldRoots", fn := fun _ => fun
  | [d] => { results := [.lit (.bool false)], args := [d] }
  | _ => none }
def FieldRootsWrongFalsely : Prop := fieldRootsRow.holds Try.pinned (OpenSpec.ofChange fieldRootsWrong)

/-- 'quipukeep.FieldInverse': WHATEVER THE INPUT: true; the input reads as it did. -/
def fieldInverseSpec : ChangeSpec := { name := "fieldInverse", fn := fun _ => fun
  | [d1, d2] => { results := [.lit (.bool true)], args := [d1, d2] }
  | _ => none }
def fieldInverseRow : OpenClaim := { program := "ytnaebllojkodbaa", sum := "28ebe46ad54b6ba6d214b078ccf1a82ca200e433f46ab8b8c5c18d5771d5df1a", func := "quipu/quipukeep.FieldInverse", spec := "fieldInverse", unfollowed := true, recurses := true, apart := false }
def FieldInverseSaid : Prop := fieldInverseRow.holds Try.pinned (OpenSpec.ofChange fieldInverseSpec)

/-- ITS FALSE NEIGHBOUR: 'it returns false'. Refute it at one input. -/
def fieldInverseWrong : ChangeSpec := { name := "fieldInverse", fn := fun _ => fun
  | [d1, d2] => { results := [.lit (.bool false)], args := [d1, d2] }
  | _ => none }
def FieldInverseWrongFalsely : Prop := fieldInverseRow.holds Try.pinned (OpenSpec.ofChange fieldInverseWrong)

/-- 'quipukeep.PointsAny': WHATEVER THE INPUT: true; the input reads as it did. -/
def pointsAnySpec : ChangeSpec := { name := "pointsAny", fn := fun _ => fun
  | [d1, d2, d3] => { results := [.lit (.bool true)], args := [d1, d2, d3] }
  | _ => none }
def pointsAnyRow : OpenClaim := { program := "ytnaebllojkodbaa", sum := "28ebe46ad54b6ba6d214b078ccf1a82ca200e433f46ab8b8c5c18d5771d5df1a", func := "quipu/quipukeep.PointsAny", spec := "pointsAny", unfollowed := true, recurses := true, apart := false }
def PointsAnySaid : Prop := pointsAnyRow.holds Try.pinned (OpenSpec.ofChange pointsAnySpec)

/-- ITS FALSE NEIGHBOUR: 'it returns false'. Refute it at one input. -/
def pointsAnyWrong : ChangeSpec := { name := "pointsAny", fn := fun _ => fun
  | [d1, d2, d3] => { results := [.lit (.bool false)], args := [d1, d2, d3] }
  | _ => none }
def PointsAnyWrongFalsely : Prop := pointsAnyRow.holds Try.pinned (OpenSpec.ofChange pointsAnyWrong)

/-- 'quipukeep.PointsFar': WHATEVER THE INPUT: true; the input reads as it did. -/
def pointsFarSpec : ChangeSpec := { name := "pointsFar", fn := fun _ => fun
  | [d1, d2, d3] => { results := [.lit (.bool true)], args := [d1, d2, d3] }
  | _ => none }
def pointsFarRow : OpenClaim := { program := "ytnaebllojkodbaa", sum := "28ebe46ad54b6ba6d214b078ccf1a82ca200e433f46ab8b8c5c18d5771d5df1a", func := "quipu/quipukeep.PointsFar", spec := "pointsFar", unfollowed := true, recurses := true, apart := false }
def PointsFarSaid : Prop := pointsFarRow.holds Try.pinned (OpenSpec.ofChange pointsFarSpec)

/-- ITS FALSE NEIGHBOUR: 'it returns false'. Refute it at one input. -/
def pointsFarWrong : ChangeSpec := { name := "pointsFar", fn := fun _ => fun
  | [d1, d2, d3] => { results := [.lit (.bool false)], args := [d1, d2, d3] }
  | _ => none }
def PointsFarWrongFalsely : Prop := pointsFarRow.holds Try.pinned (OpenSpec.ofChange pointsFarWrong)

/-- 'quipukeep.PointsWrong': WHATEVER THE INPUT: true; the input reads as it did. -/
def pointsWrongSpec : ChangeSpec := { name := "pointsWrong", fn := fun _ => fun
  | [d1, d2, d3, d4] => { results := [.lit (.bool true)], args := [d1, d2, d3, d4] }
  | _ => none }
def pointsWrongRow : OpenClaim := { program := "ytnaebllojkodbaa", sum := "28ebe46ad54b6ba6d214b078ccf1a82ca200e433f46ab8b8c5c18d5771d5df1a", func := "quipu/quipukeep.PointsWrong", spec := "pointsWrong", unfollowed := true, recurses := true, apart := false }
def PointsWrongSaid : Prop := pointsWrongRow.holds Try.pinned (OpenSpec.ofChange pointsWrongSpec)

/-- ITS FALSE NEIGHBOUR: 'it returns false'. Refute it at one input. -/
def pointsWrongWrong : ChangeSpec := { name := "pointsWrong", fn := fun _ => fun
  | [d1, d2, d3, d4] => { results := [.lit (.bool false)], args := [d1, d2, d3, d4] }
  | _ => none }
def PointsWrongWrongFalsely : Prop := pointsWrongRow.holds Try.pinned (OpenSpec.ofChange pointsWrongWrong)

/-- 'quipukeep.BoseFar': WHATEVER THE INPUT: true; the input reads as it did. -/
def boseFarSpec : ChangeSpec := { name := "boseFar", fn := fun _ => fun
  | [d1, d2] => { results := [.lit (.bool true)], args := [d1, d2] }
  | _ => none }
def boseFarRow : OpenClaim := { program := "ytnaebllojkodbaa", sum := "28ebe46ad54b6ba6d214b078ccf1a82ca200e433f46ab8b8c5c18d5771d5df1a", func := "quipu/quipukeep.BoseFar", spec := "boseFar", apart := false }
def BoseFarSaid : Prop := boseFarRow.holds Try.pinned (OpenSpec.ofChange boseFarSpec)

/-- ITS FALSE NEIGHBOUR: 'it returns false'. Refute it at one input. -/
def boseFarWrong : ChangeSpec := { name := "boseFar", fn := fun _ => fun
  | [d1, d2] => { results := [.lit (.bool false)], args := [d1, d2] }
  | _ => none }
def BoseFarWrongFalsely : Prop := boseFarRow.holds Try.pinned (OpenSpec.ofChange boseFarWrong)

/-- 'quipukeep.BoseTwo': WHATEVER THE INPUT: true; the input reads as it did. -/
def boseTwoSpec : ChangeSpec := { name := "boseTwo", fn := fun _ => fun
  | [d1, d2, d3] => { results := [.lit (.bool true)], args := [d1, d2, d3] }
  | _ => none }
def boseTwoRow : OpenClaim := { program := "ytnaebllojkodbaa", sum := "28ebe46ad54b6ba6d214b078ccf1a82ca200e433f46ab8b8c5c18d5771d5df1a", func := "quipu/quipukeep.BoseTwo", spec := "boseTwo", apart := false }
def BoseTwoSaid : Prop := boseTwoRow.holds Try.pinned (OpenSpec.ofChange boseTwoSpec)

/-- ITS FALSE NEIGHBOUR: 'it returns false'. Refute it at one input. -/
def boseTwoWrong : ChangeSpec := { name := "boseTwo", fn := fun _ => fun
  | [d1, d2, d3] => { results := [.lit (.bool false)], args := [d1, d2, d3] }
  | _ => none }
def BoseTwoWrongFalsely : Prop := boseTwoRow.holds Try.pinned (OpenSpec.ofChange boseTwoWrong)

/-- 'quipukeep.DoubleAny': WHATEVER THE INPUT: true; the input reads as it did. -/
def doubleAnySpec : ChangeSpec := { name := "doubleAny", fn := fun _ => fun
  | [d1, d2, d3] => { results := [.lit (.bool true)], args := [d1, d2, d3] }
  | _ => none }
def doubleAnyRow : OpenClaim := { program := "ytnaebllojkodbaa", sum := "28ebe46ad54b6ba6d214b078ccf1a82ca200e433f46ab8b8c5c18d5771d5df1a", func := "quipu/quipukeep.DoubleAny", spec := "doubleAny", unfollowed := true, recurses := true, apart := false }
def DoubleAnySaid : Prop := doubleAnyRow.holds Try.pinned (OpenSpec.ofChange doubleAnySpec)

/-- ITS FALSE NEIGHBOUR: 'it returns false'. Refute it at one input. -/
def doubleAnyWrong : ChangeSpec := { name := "doubleAny", fn := fun _ => fun
  | [d1, d2, d3] => { results := [.lit (.bool false)], args := [d1, d2, d3] }
  | _ => none }
def DoubleAnyWrongFalsely : Prop := doubleAnyRow.holds Try.pinned (OpenSpec.ofChange doubleAnyWrong)

/-- 'quipukeep.DoubleTells': WHATEVER THE INPUT: true; the input reads as it did. -/
def doubleTellsSpec : ChangeSpec := { name := "doubleTells", fn := fun _ => fun
  | [d1, d2, d3, d4] => { results := [.lit (.bool true)], args := [d1, d2, d3, d4] }
  | _ => none }
def doubleTellsRow : OpenClaim := { program := "ytnaebllojkodbaa", sum := "28ebe46ad54b6ba6d214b078ccf1a82ca200e433f46ab8b8c5c18d5771d5df1a", func := "quipu/quipukeep.DoubleTells", spec := "doubleTells", unfollowed := true, recurses := true, apart := false }
def DoubleTellsSaid : Prop := doubleTellsRow.holds Try.pinned (OpenSpec.ofChange doubleTellsSpec)

/-- ITS FALSE NEIGHBOUR: 'it returns false'. Refute it at one input. -/
def doubleTellsWrong : ChangeSpec := { name := "doubleTells", fn := fun _ => fun
  | [d1, d2, d3, d4] => { results := [.lit (.bool false)], args := [d1, d2, d3, d4] }
  | _ => none }
def DoubleTellsWrongFalsely : Prop := doubleTellsRow.holds Try.pinned (OpenSpec.ofChange doubleTellsWrong)

/- THE SECOND FORM. 'bulk': how many values and letters a reading holds, each counted each time it is reached (what is shared counts as often as it is met; a slice's spare places count too). A statement '..UptoSaid' is the law's where the arguments, and the package variables that the reading takes, are together of bulk at most 1048576: NARROWER than '..Said'. Prove '..Said' where nothing that the law and all that it calls make is longer than what came in: it says more and counts as full. Else prove '..UptoSaid'. A law counts once. -/
mutual
def uptoBulk {H : Type} : DataW H → Nat
  | .lit (.string bytes) => bytes.length + 1
  | .lit _ => 1
  | .nil => 1
  | .ptr d => uptoBulk d + 1
  | .slice elems spare => uptoBulkAll elems + uptoBulkAll spare + 1
  | .agg parts => uptoBulkAll parts + 1
  | .iface _ d => uptoBulk d + 1
  | .map entries => uptoBulkEntries entries + 1
  | .held _ => 1
def uptoBulkAll {H : Type} : List (DataW H) → Nat
  | [] => 0
  | d :: r => uptoBulk d + uptoBulkAll r
def uptoBulkEntries {H : Type} : List (Lit × DataW H) → Nat
  | [] => 0
  | x :: r => uptoBulkEntry x + uptoBulkEntries r
def uptoBulkEntry {H : Type} : Lit × DataW H → Nat
  | (.string bytes, d) => bytes.length + uptoBulk d + 1
  | (_, d) => uptoBulk d + 1
 end
def uptoSmall : (H : Type) → List (DataW H) → Bool := fun _ ds => decide (uptoBulkAll ds ≤ 1048576)
def OpenSpec.upto (s : _root_.Go.ChangeSpec) : _root_.Go.OpenSpec := { _root_.Go.OpenSpec.ofChange s with cond := some uptoSmall }

/-- 'quipukeep.FieldLaws', WHERE WHAT IT READS IS OF BULK AT MOST 1048576: true; the input reads as it did. -/
def fieldLawsUptoRow : OpenClaim := { program := "ytnaebllojkodbaa", sum := "28ebe46ad54b6ba6d214b078ccf1a82ca200e433f46ab8b8c5c18d5771d5df1a", func := "quipu/quipukeep.FieldLaws", spec := "fieldLaws", unfollowed := true, recurses := true, apart := false, narrowed := true }
def FieldLawsUptoSaid : Prop := fieldLawsUptoRow.holds Try.pinned (OpenSpec.upto fieldLawsSpec)

/-- 'quipukeep.FieldRoots', WHERE WHAT IT READS IS OF BULK AT MOST 1048576: true; the input reads as it did. -/
def fieldRootsUptoRow : OpenClaim := { program := "ytnaebllojkodbaa", sum := "28ebe46ad54b6ba6d214b078ccf1a82ca200e433f46ab8b8c5c18d5771d5df1a", func := "quipu/quipukeep.FieldRoots", spec := "fieldRoots", unfollowed := true, recurses := true, apart := false, narrowed := true }
def FieldRootsUptoSaid : Prop := fieldRootsUptoRow.holds Try.pinned (OpenSpec.upto fieldRootsSpec)

/-- 'quipukeep.FieldInverse', WHERE WHAT IT READS IS OF BULK AT MOST 1048576: true; the input reads as it did. -/
def fieldInverseUptoRow : OpenClaim := { program := "ytnaebllojkodbaa", sum := "28ebe46ad54b6ba6d214b078ccf1a82ca200e433f46ab8b8c5c18d5771d5df1a", func := "quipu/quipukeep.FieldInverse", spec := "fieldInverse", unfollowed := true, recurses := true, apart := false, narrowed := true }
def FieldInverseUptoSaid : Prop := fieldInverseUptoRow.holds Try.pinned (OpenSpec.upto fieldInverseSpec)

/-- 'quipukeep.PointsAny', WHERE WHAT IT READS IS OF BULK AT MOST 1048576: true; the input reads as it did. -/
def pointsAnyUptoRow : OpenClaim := { program := "ytnaebllojkodbaa", sum := "28ebe46ad54b6ba6d214b078ccf1a82ca200e433f46ab8b8c5c18d5771d5df1a", func := "quipu/quipukeep.PointsAny", spec := "pointsAny", unfollowed := true, recurses := true, apart := false, narrowed := true }
def PointsAnyUptoSaid : Prop := pointsAnyUptoRow.holds Try.pinned (OpenSpec.upto pointsAnySpec)

/-- 'quipukeep.PointsFar', WHERE WHAT IT READS IS OF BULK AT MOST 1048576: true; the input reads as it did. -/
def pointsFarUptoRow : OpenClaim := { program := "ytnaebllojkodbaa", sum := "28ebe46ad54b6ba6d214b078ccf1a82ca200e433f46ab8b8c5c18d5771d5df1a", func := "quipu/quipukeep.PointsFar", spec := "pointsFar", unfollowed := true, recurses := true, apart := false, narrowed := true }
def PointsFarUptoSaid : Prop := pointsFarUptoRow.holds Try.pinned (OpenSpec.upto pointsFarSpec)

/-- 'quipukeep.PointsWrong', WHERE WHAT IT READS IS OF BULK AT MOST 1048576: true; the input reads as it did. -/
def pointsWrongUptoRow : OpenClaim := { program := "ytnaebllojkodbaa", sum := "28ebe46ad54b6ba6d214b078ccf1a82ca200e433f46ab8b8c5c18d5771d5df1a", func := "quipu/quipukeep.PointsWrong", spec := "pointsWrong", unfollowed := true, recurses := true, apart := false, narrowed := true }
def PointsWrongUptoSaid : Prop := pointsWrongUptoRow.holds Try.pinned (OpenSpec.upto pointsWrongSpec)

/-- 'quipukeep.BoseFar', WHERE WHAT IT READS IS OF BULK AT MOST 1048576: true; the input reads as it did. -/
def boseFarUptoRow : OpenClaim := { program := "ytnaebllojkodbaa", sum := "28ebe46ad54b6ba6d214b078ccf1a82ca200e433f46ab8b8c5c18d5771d5df1a", func := "quipu/quipukeep.BoseFar", spec := "boseFar", apart := false, narrowed := true }
def BoseFarUptoSaid : Prop := boseFarUptoRow.holds Try.pinned (OpenSpec.upto boseFarSpec)

/-- 'quipukeep.BoseTwo', WHERE WHAT IT READS IS OF BULK AT MOST 1048576: true; the input reads as it did. -/
def boseTwoUptoRow : OpenClaim := { program := "ytnaebllojkodbaa", sum := "28ebe46ad54b6ba6d214b078ccf1a82ca200e433f46ab8b8c5c18d5771d5df1a", func := "quipu/quipukeep.BoseTwo", spec := "boseTwo", apart := false, narrowed := true }
def BoseTwoUptoSaid : Prop := boseTwoUptoRow.holds Try.pinned (OpenSpec.upto boseTwoSpec)

/-- 'quipukeep.DoubleAny', WHERE WHAT IT READS IS OF BULK AT MOST 1048576: true; the input reads as it did. -/
def doubleAnyUptoRow : OpenClaim := { program := "ytnaebllojkodbaa", sum := "28ebe46ad54b6ba6d214b078ccf1a82ca200e433f46ab8b8c5c18d5771d5df1a", func := "quipu/quipukeep.DoubleAny", spec := "doubleAny", unfollowed := true, recurses := true, apart := false, narrowed := true }
def DoubleAnyUptoSaid : Prop := doubleAnyUptoRow.holds Try.pinned (OpenSpec.upto doubleAnySpec)

/-- 'quipukeep.DoubleTells', WHERE WHAT IT READS IS OF BULK AT MOST 1048576: true; the input reads as it did. -/
def doubleTellsUptoRow : OpenClaim := { program := "ytnaebllojkodbaa", sum := "28ebe46ad54b6ba6d214b078ccf1a82ca200e433f46ab8b8c5c18d5771d5df1a", func := "quipu/quipukeep.DoubleTells", spec := "doubleTells", unfollowed := true, recurses := true, apart := false, narrowed := true }
def DoubleTellsUptoSaid : Prop := doubleTellsUptoRow.holds Try.pinned (OpenSpec.upto doubleTellsSpec)

end Rows
end Go.Proofs.Ytnaebllojkodbaa
