/-
  No cell of these rows narrows 'for every input' (looked for: loops, veiled, ifaces, maps, wideKeys, modest, calm, conditions, laid).
  DERIVED. THE GIVEN ROWS OF THIS SEAT. 8 by the template 'for every input the law returns true; each argument reads behind the call as it read before'; 0 by the template 'total and deterministic' (their statements: YtldcpihjoakigaaTotals.lean).
  GIVEN WITH THE SEED: the statements are not yours to turn. If you find one false, say at which input.
  Laid BY PROGRAM, IN A SANDBOX (cutbox-rows.mjs): the forced cells as the released guide's own fill.sh prints them over the translation 0ebbbcce7e1688d4… (all of the seat's roots in one cut). By AI agents, Wed Nov 11 2026. No macro, syntax, notation, axiom, sorry.
-/
import Derived.Test.YtldcpihjoakigaaChecked
import GoSem.Claim
import GoSem.ClaimJoined
import GoSem.ClaimMapViews
import Derived.JoinedTies
import Derived.KernelRfl
namespace Go.Proofs.Ytldcpihjoakigaa
/- THE CELL 'sum', in the pinned program and in every row, IS THE sha256 OF THE DUMP (.gsa) THAT YtldcpihjoakigaaProg.lean LOADS. Nothing in Lean hashes anything: it is a label: what it is worth is what the hold of that sum in a sandbox is worth. -/
noncomputable def Try.pinned : Pinned := { name := "ytldcpihjoakigaa", sum := "0ebbbcce7e1688d4f0bdb343ab96fa0c045918cabb6a02fcf0f1a8f7b855f28b", checked := Try.checked }
namespace Rows
def none {H : Type} : Left H := { results := [], args := [] }

/-- 'quipukeep.StripeApart': WHATEVER THE INPUT: true; the input reads as it did. -/
def stripeApartSpec : ChangeSpec := { name := "stripeApart", fn := fun _ => fun
  | [d1, d2, d3] => { results := [.lit (.bool true)], args := [d1, d2, d3] }
  | _ => none }
def stripeApartRow : OpenClaim := { program := "ytldcpihjoakigaa", sum := "0ebbbcce7e1688d4f0bdb343ab96fa0c045918cabb6a02fcf0f1a8f7b855f28b", func := "quipu/quipukeep.StripeApart", spec := "stripeApart", apart := false }
def StripeApartSaid : Prop := stripeApartRow.holds Try.pinned (OpenSpec.ofChange stripeApartSpec)

/-- ITS FALSE NEIGHBOUR: 'it returns false'. Refute it at one input. -/
def stripeApartWrong : ChangeSpec := { name := "stripeApart", fn := fun _ => fun
  | [d1, d2, d3] => { results := [.lit (.bool false)], args := [d1, d2, d3] }
  | _ => none }
def StripeApartWrongFalsely : Prop := stripeApartRow.holds Try.pinned (OpenSpec.ofChange stripeApartWrong)

/-- 'quipukeep.StripeLost': WHATEVER THE INPUT: true; the input reads as it did. -/
def stripeLostSpec : ChangeSpec := { name := "stripeLost", fn := fun _ => fun
  | [d1, d2] => { results := [.lit (.bool true)], args := [d1, d2] }
  | _ => none }
def stripeLostRow : OpenClaim := { program := "ytldcpihjoakigaa", sum := "0ebbbcce7e1688d4f0bdb343ab96fa0c045918cabb6a02fcf0f1a8f7b855f28b", func := "quipu/quipukeep.StripeLost", spec := "stripeLost", apart := false }
def StripeLostSaid : Prop := stripeLostRow.holds Try.pinned (OpenSpec.ofChange stripeLostSpec)

/-- ITS FALSE NEIGHBOUR: 'it returns false'. Refute it at one input. -/
def stripeLostWrong : ChangeSpec := { name := "stripeLost", fn := fun _ => fun
  | [d1, d2] => { results := [.lit (.bool false)], args := [d1, d2] }
  | _ => none }
def StripeLostWrongFalsely : Prop := stripeLostRow.holds Try.pinned (OpenSpec.ofChange stripeLostWrong)

/-- 'quipukeep.StripeSums': WHATEVER THE INPUT: true; the input reads as it did. -/
def stripeSumsSpec : ChangeSpec := { name := "stripeSums", fn := fun _ => fun
  | [d1, d2] => { results := [.lit (.bool true)], args := [d1, d2] }
  | _ => none }
def stripeSumsRow : OpenClaim := { program := "ytldcpihjoakigaa", sum := "0ebbbcce7e1688d4f0bdb343ab96fa0c045918cabb6a02fcf0f1a8f7b855f28b", func := "quipu/quipukeep.StripeSums", spec := "stripeSums", apart := false }
def StripeSumsSaid : Prop := stripeSumsRow.holds Try.pinned (OpenSpec.ofChange stripeSumsSpec)

/-- ITS FALSE NEIGHBOUR: 'it returns false'. Refute it at one input. -/
def stripeSumsWrong : ChangeSpec := { name := "stripeSums", fn := fun _ => fun
  | [d1, d2] => { results := [.lit (.bool false)], args := [d1, d2] }
  | _ => none }
def StripeSumsWrongFalsely : Prop := stripeSumsRow.holds Try.pinned (OpenSpec.ofChange stripeSumsWrong)

/-- 'quipukeep.ShipPrefix': WHATEVER THE INPUT: true; the input reads as it did. -/
def shipPrefixSpec : ChangeSpec := { name := "shipPrefix", fn := fun _ => fun
  | [d1, d2] => { results := [.lit (.bool true)], args := [d1, d2] }
  | _ => none }
def shipPrefixRow : OpenClaim := { program := "ytldcpihjoakigaa", sum := "0ebbbcce7e1688d4f0bdb343ab96fa0c045918cabb6a02fcf0f1a8f7b855f28b", func := "quipu/quipukeep.ShipPrefix", spec := "shipPrefix", apart := false }
def ShipPrefixSaid : Prop := shipPrefixRow.holds Try.pinned (OpenSpec.ofChange shipPrefixSpec)

/-- ITS FALSE NEIGHBOUR: 'it returns false'. Refute it at one input. -/
def shipPrefixWrong : ChangeSpec := { name := "shipPrefix", fn := fun _ => fun
  | [d1, d2] => { results := [.lit (.bool false)], args := [d1, d2] }
  | _ => none }
def ShipPrefixWrongFalsely : Prop := shipPrefixRow.holds Try.pinned (OpenSpec.ofChange shipPrefixWrong)

/-- 'quipukeep.ShipTold': WHATEVER THE INPUT: true; the input reads as it did. -/
def shipToldSpec : ChangeSpec := { name := "shipTold", fn := fun _ => fun
  | [d1, d2] => { results := [.lit (.bool true)], args := [d1, d2] }
  | _ => none }
def shipToldRow : OpenClaim := { program := "ytldcpihjoakigaa", sum := "0ebbbcce7e1688d4f0bdb343ab96fa0c045918cabb6a02fcf0f1a8f7b855f28b", func := "quipu/quipukeep.ShipTold", spec := "shipTold", apart := false }
def ShipToldSaid : Prop := shipToldRow.holds Try.pinned (OpenSpec.ofChange shipToldSpec)

/-- ITS FALSE NEIGHBOUR: 'it returns false'. Refute it at one input. -/
def shipToldWrong : ChangeSpec := { name := "shipTold", fn := fun _ => fun
  | [d1, d2] => { results := [.lit (.bool false)], args := [d1, d2] }
  | _ => none }
def ShipToldWrongFalsely : Prop := shipToldRow.holds Try.pinned (OpenSpec.ofChange shipToldWrong)

/-- 'quipukeep.ShipAll': WHATEVER THE INPUT: true; the input reads as it did. -/
def shipAllSpec : ChangeSpec := { name := "shipAll", fn := fun _ => fun
  | [d1, d2] => { results := [.lit (.bool true)], args := [d1, d2] }
  | _ => none }
def shipAllRow : OpenClaim := { program := "ytldcpihjoakigaa", sum := "0ebbbcce7e1688d4f0bdb343ab96fa0c045918cabb6a02fcf0f1a8f7b855f28b", func := "quipu/quipukeep.ShipAll", spec := "shipAll", apart := false }
def ShipAllSaid : Prop := shipAllRow.holds Try.pinned (OpenSpec.ofChange shipAllSpec)

/-- ITS FALSE NEIGHBOUR: 'it returns false'. Refute it at one input. -/
def shipAllWrong : ChangeSpec := { name := "shipAll", fn := fun _ => fun
  | [d1, d2] => { results := [.lit (.bool false)], args := [d1, d2] }
  | _ => none }
def ShipAllWrongFalsely : Prop := shipAllRow.holds Try.pinned (OpenSpec.ofChange shipAllWrong)

/-- 'quiputop.TopFront': WHATEVER THE INPUT: true; the input reads as it did. -/
def topFrontSpec : ChangeSpec := { name := "topFront", fn := fun _ => fun
  | [d1, d2, d3, d4] => { results := [.lit (.bool true)], args := [d1, d2, d3, d4] }
  | _ => none }
def topFrontRow : OpenClaim := { program := "ytldcpihjoakigaa", sum := "0ebbbcce7e1688d4f0bdb343ab96fa0c045918cabb6a02fcf0f1a8f7b855f28b", func := "quipu/quiputop.TopFront", spec := "topFront", apart := false }
def TopFrontSaid : Prop := topFrontRow.holds Try.pinned (OpenSpec.ofChange topFrontSpec)

/-- ITS FALSE NEIGHBOUR: 'it returns false'. Refute it at one input. -/
def topFrontWrong : ChangeSpec := { name := "topFront", fn := fun _ => fun
  | [d1, d2, d3, d4] => { results := [.lit (.bool false)], args := [d1, d2, d3, d4] }
  | _ => none }
def TopFrontWrongFalsely : Prop := topFrontRow.holds Try.pinned (OpenSpec.ofChange topFrontWrong)

/-- 'quiputop.TopBoth': WHATEVER THE INPUT: true; the input reads as it did. -/
def topBothSpec : ChangeSpec := { name := "topBoth", fn := fun _ => fun
  | [d1, d2, d3, d4] => { results := [.lit (.bool true)], args := [d1, d2, d3, d4] }
  | _ => none }
def topBothRow : OpenClaim := { program := "ytldcpihjoakigaa", sum := "0ebbbcce7e1688d4f0bdb343ab96fa0c045918cabb6a02fcf0f1a8f7b855f28b", func := "quipu/quiputop.TopBoth", spec := "topBoth", apart := false }
def TopBothSaid : Prop := topBothRow.holds Try.pinned (OpenSpec.ofChange topBothSpec)

/-- ITS FALSE NEIGHBOUR: 'it returns false'. Refute it at one input. -/
def topBothWrong : ChangeSpec := { name := "topBoth", fn := fun _ => fun
  | [d1, d2, d3, d4] => { results := [.lit (.bool false)], args := [d1, d2, d3, d4] }
  | _ => none }
def TopBothWrongFalsely : Prop := topBothRow.holds Try.pinned (OpenSpec.ofChange topBothWrong)

/- THE SECOND FORM. 'bulk': how many values and letters a reading holds, each counted each time it is reached (what is shared counts as often as it is met; a slice's spare places count too). A statement '..UptoSaid' is the law's where the arguments, and the package variables that the reading takes, are together of bulk at most 1048576: NARROWER than '..Said'. Prove '..Said' where nothing that the law and all that it calls make is longer than what came in: it says more and counts as full. Else prove '..UptoSaid'. A law counts once. -/
mutual
def uptoBulk {H : Type} : DataW H → Nat
  | .lit (.string bytes) => bytes.length + 1
  | .lit _ => 1
  | .nil => 1
  | .ptr d => uptoBulk d + 1
  | .slice elems spare => uptoBulkAll elems + uptoBulkAll spare + 1
  | .agg parts => uptoBulkAll parts + 1
  | .iface _ d => uptoBulk d + 1
  | .map entries => uptoBulkEntries entries + 1
  | .held _ => 1
def uptoBulkAll {H : Type} : List (DataW H) → Nat
  | [] => 0
  | d :: r => uptoBulk d + uptoBulkAll r
def uptoBulkEntries {H : Type} : List (Lit × DataW H) → Nat
  | [] => 0
  | x :: r => uptoBulkEntry x + uptoBulkEntries r
def uptoBulkEntry {H : Type} : Lit × DataW H → Nat
  | (.string bytes, d) => bytes.length + uptoBulk d + 1
  | (_, d) => uptoBulk d + 1
 end
def uptoSmall : (H : Type) → List (DataW H) → Bool := fun _ ds => decide (uptoBulkAll ds ≤ 1048576)
def OpenSpec.upto (s : _root_.Go.ChangeSpec) : _root_.Go.OpenSpec := { _root_.Go.OpenSpec.ofChange s with cond := some uptoSmall }

/-- 'quipukeep.StripeApart', WHERE WHAT IT READS IS OF BULK AT MOST 1048576: true; the input reads as it did. -/
def stripeApartUptoRow : OpenClaim := { program := "ytldcpihjoakigaa", sum := "0ebbbcce7e1688d4f0bdb343ab96fa0c045918cabb6a02fcf0f1a8f7b855f28b", func := "quipu/quipukeep.StripeApart", spec := "stripeApart", apart := false, narrowed := true }
def StripeApartUptoSaid : Prop := stripeApartUptoRow.holds Try.pinned (OpenSpec.upto stripeApartSpec)

/-- 'quipukeep.StripeLost', WHERE WHAT IT READS IS OF BULK AT MOST 1048576: true; the input reads as it did. -/
def stripeLostUptoRow : OpenClaim := { program := "ytldcpihjoakigaa", sum := "0ebbbcce7e1688d4f0bdb343ab96fa0c045918cabb6a02fcf0f1a8f7b855f28b", func := "quipu/quipukeep.StripeLost", spec := "stripeLost", apart := false, narrowed := true }
def StripeLostUptoSaid : Prop := stripeLostUptoRow.holds Try.pinned (OpenSpec.upto stripeLostSpec)

/-- 'quipukeep.StripeSums', WHERE WHAT IT READS IS OF BULK AT MOST 1048576: true; the input reads as it did. -/
def stripeSumsUptoRow : OpenClaim := { program := "ytldcpihjoakigaa", sum := "0ebbbcce7e1688d4f0bdb343ab96fa0c045918cabb6a02fcf0f1a8f7b855f28b", func := "quipu/quipukeep.StripeSums", spec := "stripeSums", apart := false, narrowed := true }
def StripeSumsUptoSaid : Prop := stripeSumsUptoRow.holds Try.pinned (OpenSpec.upto stripeSumsSpec)

/-- 'quipukeep.ShipPrefix', WHERE WHAT IT READS IS OF BULK AT MOST 1048576: true; the input reads as it did. -/
def shipPrefixUptoRow : OpenClaim := { program := "ytldcpihjoakigaa", sum := "0ebbbcce7e1688d4f0bdb343ab96fa0c045918cabb6a02fcf0f1a8f7b855f28b", func := "quipu/quipukeep.ShipPrefix", spec := "shipPrefix", apart := false, narrowed := true }
def ShipPrefixUptoSaid : Prop := shipPrefixUptoRow.holds Try.pinned (OpenSpec.upto shipPrefixSpec)

/-- 'quipukeep.ShipTold', WHERE WHAT IT READS IS OF BULK AT MOST 1048576: true; the input reads as it did. -/
def shipToldUptoRow : OpenClaim := { program := "ytldcpihjoakigaa", sum := "0ebbbcce7e1688d4f0bdb343ab96fa0c045918cabb6a02fcf0f1a8f7b855f28b", func := "quipu/quipukeep.ShipTold", spec := "shipTold", apart := false, narrowed := true }
def ShipToldUptoSaid : Prop := shipToldUptoRow.holds Try.pinned (OpenSpec.upto shipToldSpec)

/-- 'quipukeep.ShipAll', WHERE WHAT IT READS IS OF BULK AT MOST 1048576: true; the input reads as it did. -/
def shipAllUptoRow : OpenClaim := { program := "ytldcpihjoakigaa", sum := "0ebbbcce7e1688d4f0bdb343ab96fa0c045918cabb6a02fcf0f1a8f7b855f28b", func := "quipu/quipukeep.ShipAll", spec := "shipAll", apart := false, narrowed := true }
def ShipAllUptoSaid : Prop := shipAllUptoRow.holds Try.pinned (OpenSpec.upto shipAllSpec)

/-- 'quiputop.TopFront', WHERE WHAT IT READS IS OF BULK AT MOST 1048576: true; the input reads as it did. -/
def topFrontUptoRow : OpenClaim := { program := "ytldcpihjoakigaa", sum := "0ebbbcce7e1688d4f0bdb343ab96fa0c045918cabb6a02fcf0f1a8f7b855f28b", func := "quipu/quiputop.TopFront", spec := "topFront", apart := false, narrowed := true }
def TopFrontUptoSaid : Prop := topFrontUptoRow.holds Try.pinned (OpenSpec.upto topFrontSpec)

/-- 'quiputop.TopBoth', WHERE WHAT IT READS IS OF BULK AT MOST 1048576: true; the input reads as it did. -/
def topBothUptoRow : OpenClaim := { program := "ytldcpihjoakigaa", sum := "0ebbbcce7e1688d4f0bdb343ab96fa0c045918cabb6a02fcf0f1a8f7b855f28b", func := "quipu/quiputop.TopBoth", spec := "topBoth", apart := false, narrowed := true }
def TopBothUptoSaid : Prop := topBothUptoRow.holds Try.pinned (OpenSpec.upto topBothSpec)

end Rows
end Go.Proofs.Ytldcpihjoakigaa
