/-
  Facts of the loaded program that the walks name: types, functions. Printed by gen.py.
-/
import Derived.Test.YtnaebllojkodbaaRows
import Derived.Test.YtnaebllojkodbaaVmem
import Derived.KernelRfl
namespace Go.Proofs.Ytnaebllojkodbaa.V
open Go
theorem mixed : Try.prog.follows .mixedOrders = true := by kernel_rfl
theorem flat3 : Flat Try.prog 3 := ⟨_, Try.underlying3, rfl⟩
theorem flat4 : Flat Try.prog 4 := ⟨_, Try.underlying4, rfl⟩
theorem flat5 : Flat Try.prog 5 := ⟨_, Try.underlying5, rfl⟩
theorem flat22 : Flat Try.prog 22 := ⟨_, Try.underlying22, rfl⟩
theorem flat27 : Flat Try.prog 27 := ⟨_, Try.underlying27, rfl⟩
theorem flat29 : Flat Try.prog 29 := ⟨_, Try.underlying29, rfl⟩
theorem flat35 : Flat Try.prog 35 := ⟨_, Try.underlying35, rfl⟩
theorem flat81 : Flat Try.prog 81 := ⟨_, Try.underlying81, rfl⟩
theorem elem3 : Elem Try.prog 3 1 8 (.int .i64 0) := ⟨by kernel_rfl⟩
theorem elem4 : Elem Try.prog 4 1 1 (.bool false) := ⟨by kernel_rfl⟩
theorem elem5 : Elem Try.prog 5 1 1 (.int .u8 0) := ⟨by kernel_rfl⟩
theorem elem35 : Elem Try.prog 35 1 24 (.slice none 0 0) := ⟨by kernel_rfl⟩
theorem body3 : Body Try.prog 3 := ⟨_, Try.func3, by kernel_rfl, rfl⟩
theorem body4 : Body Try.prog 4 := ⟨_, Try.func4, by kernel_rfl, rfl⟩
theorem body5 : Body Try.prog 5 := ⟨_, Try.func5, by kernel_rfl, rfl⟩
theorem body6 : Body Try.prog 6 := ⟨_, Try.func6, by kernel_rfl, rfl⟩
theorem body7 : Body Try.prog 7 := ⟨_, Try.func7, by kernel_rfl, rfl⟩
theorem body8 : Body Try.prog 8 := ⟨_, Try.func8, by kernel_rfl, rfl⟩
theorem body9 : Body Try.prog 9 := ⟨_, Try.func9, by kernel_rfl, rfl⟩
theorem body10 : Body Try.prog 10 := ⟨_, Try.func10, by kernel_rfl, rfl⟩
theorem body11 : Body Try.prog 11 := ⟨_, Try.func11, by kernel_rfl, rfl⟩
theorem body12 : Body Try.prog 12 := ⟨_, Try.func12, by kernel_rfl, rfl⟩
theorem body13 : Body Try.prog 13 := ⟨_, Try.func13, by kernel_rfl, rfl⟩
theorem body14 : Body Try.prog 14 := ⟨_, Try.func14, by kernel_rfl, rfl⟩
theorem body15 : Body Try.prog 15 := ⟨_, Try.func15, by kernel_rfl, rfl⟩
theorem body16 : Body Try.prog 16 := ⟨_, Try.func16, by kernel_rfl, rfl⟩
theorem body17 : Body Try.prog 17 := ⟨_, Try.func17, by kernel_rfl, rfl⟩
theorem body18 : Body Try.prog 18 := ⟨_, Try.func18, by kernel_rfl, rfl⟩
theorem body19 : Body Try.prog 19 := ⟨_, Try.func19, by kernel_rfl, rfl⟩
theorem body20 : Body Try.prog 20 := ⟨_, Try.func20, by kernel_rfl, rfl⟩
theorem body21 : Body Try.prog 21 := ⟨_, Try.func21, by kernel_rfl, rfl⟩
theorem body22 : Body Try.prog 22 := ⟨_, Try.func22, by kernel_rfl, rfl⟩
theorem body23 : Body Try.prog 23 := ⟨_, Try.func23, by kernel_rfl, rfl⟩
theorem body24 : Body Try.prog 24 := ⟨_, Try.func24, by kernel_rfl, rfl⟩
theorem body25 : Body Try.prog 25 := ⟨_, Try.func25, by kernel_rfl, rfl⟩
theorem body26 : Body Try.prog 26 := ⟨_, Try.func26, by kernel_rfl, rfl⟩
theorem body27 : Body Try.prog 27 := ⟨_, Try.func27, by kernel_rfl, rfl⟩
theorem body28 : Body Try.prog 28 := ⟨_, Try.func28, by kernel_rfl, rfl⟩
theorem body29 : Body Try.prog 29 := ⟨_, Try.func29, by kernel_rfl, rfl⟩
theorem body30 : Body Try.prog 30 := ⟨_, Try.func30, by kernel_rfl, rfl⟩
theorem body31 : Body Try.prog 31 := ⟨_, Try.func31, by kernel_rfl, rfl⟩
theorem body32 : Body Try.prog 32 := ⟨_, Try.func32, by kernel_rfl, rfl⟩
theorem body33 : Body Try.prog 33 := ⟨_, Try.func33, by kernel_rfl, rfl⟩
theorem body34 : Body Try.prog 34 := ⟨_, Try.func34, by kernel_rfl, rfl⟩
theorem body35 : Body Try.prog 35 := ⟨_, Try.func35, by kernel_rfl, rfl⟩
theorem body36 : Body Try.prog 36 := ⟨_, Try.func36, by kernel_rfl, rfl⟩
theorem body37 : Body Try.prog 37 := ⟨_, Try.func37, by kernel_rfl, rfl⟩
theorem body38 : Body Try.prog 38 := ⟨_, Try.func38, by kernel_rfl, rfl⟩
theorem body39 : Body Try.prog 39 := ⟨_, Try.func39, by kernel_rfl, rfl⟩
theorem body40 : Body Try.prog 40 := ⟨_, Try.func40, by kernel_rfl, rfl⟩
theorem body41 : Body Try.prog 41 := ⟨_, Try.func41, by kernel_rfl, rfl⟩
theorem body42 : Body Try.prog 42 := ⟨_, Try.func42, by kernel_rfl, rfl⟩
theorem body43 : Body Try.prog 43 := ⟨_, Try.func43, by kernel_rfl, rfl⟩
theorem body44 : Body Try.prog 44 := ⟨_, Try.func44, by kernel_rfl, rfl⟩
theorem body45 : Body Try.prog 45 := ⟨_, Try.func45, by kernel_rfl, rfl⟩
theorem body46 : Body Try.prog 46 := ⟨_, Try.func46, by kernel_rfl, rfl⟩
theorem body47 : Body Try.prog 47 := ⟨_, Try.func47, by kernel_rfl, rfl⟩
theorem body48 : Body Try.prog 48 := ⟨_, Try.func48, by kernel_rfl, rfl⟩
theorem body49 : Body Try.prog 49 := ⟨_, Try.func49, by kernel_rfl, rfl⟩
theorem body50 : Body Try.prog 50 := ⟨_, Try.func50, by kernel_rfl, rfl⟩
theorem body51 : Body Try.prog 51 := ⟨_, Try.func51, by kernel_rfl, rfl⟩
theorem body52 : Body Try.prog 52 := ⟨_, Try.func52, by kernel_rfl, rfl⟩
theorem body53 : Body Try.prog 53 := ⟨_, Try.func53, by kernel_rfl, rfl⟩
theorem body54 : Body Try.prog 54 := ⟨_, Try.func54, by kernel_rfl, rfl⟩
theorem body55 : Body Try.prog 55 := ⟨_, Try.func55, by kernel_rfl, rfl⟩
theorem body56 : Body Try.prog 56 := ⟨_, Try.func56, by kernel_rfl, rfl⟩
theorem body57 : Body Try.prog 57 := ⟨_, Try.func57, by kernel_rfl, rfl⟩
theorem body58 : Body Try.prog 58 := ⟨_, Try.func58, by kernel_rfl, rfl⟩
theorem body59 : Body Try.prog 59 := ⟨_, Try.func59, by kernel_rfl, rfl⟩
theorem body60 : Body Try.prog 60 := ⟨_, Try.func60, by kernel_rfl, rfl⟩
theorem body61 : Body Try.prog 61 := ⟨_, Try.func61, by kernel_rfl, rfl⟩
theorem body62 : Body Try.prog 62 := ⟨_, Try.func62, by kernel_rfl, rfl⟩
end Go.Proofs.Ytnaebllojkodbaa.V
