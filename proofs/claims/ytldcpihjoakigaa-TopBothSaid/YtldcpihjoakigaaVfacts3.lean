/-
  Facts of structs. Printed by gen.py.
-/
import Derived.Test.YtldcpihjoakigaaVfacts2
import Derived.Test.YtldcpihjoakigaaVz3
namespace Go.Proofs.Ytldcpihjoakigaa.V
open Go
theorem agg33 : Agg Try.prog 33 3 := ⟨by kernel_rfl⟩
theorem agg35 : Agg Try.prog 35 2 := ⟨by kernel_rfl⟩
theorem agg40 : Agg Try.prog 40 6 := ⟨by kernel_rfl⟩
theorem agg45 : Agg Try.prog 45 4 := ⟨by kernel_rfl⟩
theorem agg50 : Agg Try.prog 50 3 := ⟨by kernel_rfl⟩
theorem agg64 : Agg Try.prog 64 2 := ⟨by kernel_rfl⟩
theorem agg67 : Agg Try.prog 67 6 := ⟨by kernel_rfl⟩
theorem agg75 : Agg Try.prog 75 10 := ⟨by kernel_rfl⟩
theorem fld33_0 : Fld Try.prog 33 0 0 := ⟨by kernel_rfl⟩
theorem fld33_1 : Fld Try.prog 33 1 1 := ⟨by kernel_rfl⟩
theorem fld33_2 : Fld Try.prog 33 2 2 := ⟨by kernel_rfl⟩
theorem fld35_0 : Fld Try.prog 35 0 0 := ⟨by kernel_rfl⟩
theorem fld35_1 : Fld Try.prog 35 1 1 := ⟨by kernel_rfl⟩
theorem fld40_0 : Fld Try.prog 40 0 0 := ⟨by kernel_rfl⟩
theorem fld40_1 : Fld Try.prog 40 1 1 := ⟨by kernel_rfl⟩
theorem fld40_2 : Fld Try.prog 40 2 2 := ⟨by kernel_rfl⟩
theorem fld40_3 : Fld Try.prog 40 3 3 := ⟨by kernel_rfl⟩
theorem fld40_4 : Fld Try.prog 40 4 4 := ⟨by kernel_rfl⟩
theorem fld40_5 : Fld Try.prog 40 5 5 := ⟨by kernel_rfl⟩
theorem fld45_0 : Fld Try.prog 45 0 0 := ⟨by kernel_rfl⟩
theorem fld45_1 : Fld Try.prog 45 1 1 := ⟨by kernel_rfl⟩
theorem fld45_2 : Fld Try.prog 45 2 2 := ⟨by kernel_rfl⟩
theorem fld45_3 : Fld Try.prog 45 3 3 := ⟨by kernel_rfl⟩
theorem fld50_0 : Fld Try.prog 50 0 0 := ⟨by kernel_rfl⟩
theorem fld50_1 : Fld Try.prog 50 1 1 := ⟨by kernel_rfl⟩
theorem fld50_2 : Fld Try.prog 50 2 2 := ⟨by kernel_rfl⟩
theorem fld64_0 : Fld Try.prog 64 0 0 := ⟨by kernel_rfl⟩
theorem fld64_1 : Fld Try.prog 64 1 1 := ⟨by kernel_rfl⟩
theorem fld67_0 : Fld Try.prog 67 0 0 := ⟨by kernel_rfl⟩
theorem fld67_1 : Fld Try.prog 67 1 1 := ⟨by kernel_rfl⟩
theorem fld67_2 : Fld Try.prog 67 2 2 := ⟨by kernel_rfl⟩
theorem fld67_3 : Fld Try.prog 67 3 3 := ⟨by kernel_rfl⟩
theorem fld67_4 : Fld Try.prog 67 4 4 := ⟨by kernel_rfl⟩
theorem fld67_5 : Fld Try.prog 67 5 5 := ⟨by kernel_rfl⟩
theorem fld75_0 : Fld Try.prog 75 0 0 := ⟨by kernel_rfl⟩
theorem fld75_1 : Fld Try.prog 75 1 6 := ⟨by kernel_rfl⟩
theorem fld75_2 : Fld Try.prog 75 2 8 := ⟨by kernel_rfl⟩
theorem fld75_3 : Fld Try.prog 75 3 9 := ⟨by kernel_rfl⟩
theorem str35 : Str Try.prog 35 2 := ⟨by kernel_rfl⟩
theorem str40 : Str Try.prog 40 6 := ⟨by kernel_rfl⟩
theorem str45 : Str Try.prog 45 4 := ⟨by kernel_rfl⟩
theorem str50 : Str Try.prog 50 3 := ⟨by kernel_rfl⟩
theorem str64 : Str Try.prog 64 2 := ⟨by kernel_rfl⟩
theorem str67 : Str Try.prog 67 6 := ⟨by kernel_rfl⟩
theorem int2_35 : Int2 Try.prog 35 := ⟨by kernel_rfl, by kernel_rfl⟩
end Go.Proofs.Ytldcpihjoakigaa.V
