/-
  Walks over words.
-/
import Derived.Test.YtnaebllojkodbaaVfacts
import Derived.Test.YtnaebllojkodbaaWordsPlain
namespace Go.Proofs.Ytnaebllojkodbaa
open Go Go.RowKit V
set_option linter.unusedVariables false

theorem bit_any (x i : Nat) (w0 : World) (hx : x < 4294967296) (hi : i < 32) :
    CallsV Try.prog 19 #[.int .u32 (x : Int), .int .i64 (i : Int)] w0 (fun v w => v = .bool (x.testBit i) ∧ Below w0.heap.size w0 w) := by
  refine enter1 Try.func19 rfl Try.ntmps19 (by simp) rfl ?_
  have hB := Below.refl w0.heap.size w0
  simp only [argLoc, Nat.zero_add]
  have hs := shl_one_lt hi
  have h0 : decide (0 ≤ (i : Int)) = true := by simp
  refine W.seqR ?_
  refine LS.vv rfl rfl (by decide) (Val.assign rfl) ?_
  refine LS.nil ?_
  refine W.seqR ?_
  refine LS.vv rfl rfl (by decide) (Val.move rfl) ?_
  refine LS.vv rfl rfl (by decide) (Val.cast (v := .bool true) (Val.geq rfl rfl) (by simp)) ?_
  refine LS.vv rfl rfl (by decide) (Val.move rfl) ?_
  refine LS.vg rfl rfl rfl rfl (by decide) (Val.move rfl) ?_
  refine LS.vg rfl rfl rfl rfl (by decide) (Val.cast (v := .bool true) (Val.lss rfl rfl) (by simp; omega)) ?_
  refine LS.vv rfl rfl (by decide) (Val.pickT rfl rfl rfl) ?_
  refine LS.vv rfl rfl (by decide) (Val.move rfl) ?_
  refine LS.vg rfl rfl rfl rfl (by decide) (Val.move rfl) ?_
  refine LS.vg rfl rfl rfl rfl (by decide) (Val.move rfl) ?_
  refine LS.vg rfl rfl rfl rfl (by decide) (Val.conv rfl Try.underlying3 Try.underlying62 (IntWalk.u64_in _ (by omega))) ?_
  refine LS.vg rfl rfl rfl rfl (by decide) (Val.shlU32 (i := 1) rfl rfl (by omega) (by omega)) ?_
  refine LS.vg rfl rfl rfl rfl (by decide) (Val.andU32 rfl rfl (by omega) (by omega)) ?_
  refine LS.vg rfl rfl rfl rfl (by decide) (Val.cast (v := .bool (x.testBit i)) (Val.neq rfl rfl) (by exact congrArg Value.bool (and_shl_ne x i))) ?_
  refine LS.vv rfl rfl (by decide) (Val.pickT rfl rfl rfl) ?_
  refine LS.vv rfl rfl (by decide) (Val.assign rfl) ?_
  refine LS.nil ?_
  refine W.ret ?_
  refine ret1 (by first | exact .inl rfl | exact .inr rfl) rfl ?_
  exact ⟨rfl, hB⟩

end Go.Proofs.Ytnaebllojkodbaa
