/-
  Facts of the loaded program that the walks name: types, functions. Printed by gen.py.
-/
import Derived.Test.YtldcpihjoakigaaRows
import Derived.Test.YtldcpihjoakigaaVmem
import Derived.KernelRfl
namespace Go.Proofs.Ytldcpihjoakigaa.V
open Go
theorem mixed : Try.prog.follows .mixedOrders = true := by kernel_rfl
theorem flat3 : Flat Try.prog 3 := ⟨_, Try.underlying3, rfl⟩
theorem flat5 : Flat Try.prog 5 := ⟨_, Try.underlying5, rfl⟩
theorem flat22 : Flat Try.prog 22 := ⟨_, Try.underlying22, rfl⟩
theorem flat27 : Flat Try.prog 27 := ⟨_, Try.underlying27, rfl⟩
theorem flat28 : Flat Try.prog 28 := ⟨_, Try.underlying28, rfl⟩
theorem flat31 : Flat Try.prog 31 := ⟨_, Try.underlying31, rfl⟩
theorem flat37 : Flat Try.prog 37 := ⟨_, Try.underlying37, rfl⟩
theorem flat38 : Flat Try.prog 38 := ⟨_, Try.underlying38, rfl⟩
theorem flat59 : Flat Try.prog 59 := ⟨_, Try.underlying59, rfl⟩
theorem elem3 : Elem Try.prog 3 1 8 (.int .i64 0) := ⟨by kernel_rfl⟩
theorem elem5 : Elem Try.prog 5 1 1 (.int .u8 0) := ⟨by kernel_rfl⟩
theorem elem22 : Elem Try.prog 22 1 8 (.int .i64 0) := ⟨by kernel_rfl⟩
theorem elem31 : Elem Try.prog 31 1 24 (.slice none 0 0) := ⟨by kernel_rfl⟩
theorem elem33 : Elem Try.prog 33 3 24 (.agg #[.int .i64 0, .int .i64 0, .int .u8 0]) := ⟨by kernel_rfl⟩
theorem elem35 : Elem Try.prog 35 2 16 (.agg #[.int .i64 0, .int .u8 0]) := ⟨by kernel_rfl⟩
theorem elem45 : Elem Try.prog 45 4 32 (.agg #[.int .i64 0, .int .i64 0, .int .i64 0, .int .u8 0]) := ⟨by kernel_rfl⟩
theorem body3 : Body Try.prog 3 := ⟨_, Try.func3, by kernel_rfl, rfl⟩
theorem body4 : Body Try.prog 4 := ⟨_, Try.func4, by kernel_rfl, rfl⟩
theorem body5 : Body Try.prog 5 := ⟨_, Try.func5, by kernel_rfl, rfl⟩
theorem body6 : Body Try.prog 6 := ⟨_, Try.func6, by kernel_rfl, rfl⟩
theorem body7 : Body Try.prog 7 := ⟨_, Try.func7, by kernel_rfl, rfl⟩
theorem body8 : Body Try.prog 8 := ⟨_, Try.func8, by kernel_rfl, rfl⟩
theorem body9 : Body Try.prog 9 := ⟨_, Try.func9, by kernel_rfl, rfl⟩
theorem body10 : Body Try.prog 10 := ⟨_, Try.func10, by kernel_rfl, rfl⟩
theorem body11 : Body Try.prog 11 := ⟨_, Try.func11, by kernel_rfl, rfl⟩
theorem body12 : Body Try.prog 12 := ⟨_, Try.func12, by kernel_rfl, rfl⟩
theorem body13 : Body Try.prog 13 := ⟨_, Try.func13, by kernel_rfl, rfl⟩
theorem body14 : Body Try.prog 14 := ⟨_, Try.func14, by kernel_rfl, rfl⟩
theorem body15 : Body Try.prog 15 := ⟨_, Try.func15, by kernel_rfl, rfl⟩
theorem body16 : Body Try.prog 16 := ⟨_, Try.func16, by kernel_rfl, rfl⟩
theorem body17 : Body Try.prog 17 := ⟨_, Try.func17, by kernel_rfl, rfl⟩
theorem body18 : Body Try.prog 18 := ⟨_, Try.func18, by kernel_rfl, rfl⟩
theorem body19 : Body Try.prog 19 := ⟨_, Try.func19, by kernel_rfl, rfl⟩
theorem body20 : Body Try.prog 20 := ⟨_, Try.func20, by kernel_rfl, rfl⟩
theorem body24 : Body Try.prog 24 := ⟨_, Try.func24, by kernel_rfl, rfl⟩
theorem body26 : Body Try.prog 26 := ⟨_, Try.func26, by kernel_rfl, rfl⟩
theorem body31 : Body Try.prog 31 := ⟨_, Try.func31, by kernel_rfl, rfl⟩
end Go.Proofs.Ytldcpihjoakigaa.V
