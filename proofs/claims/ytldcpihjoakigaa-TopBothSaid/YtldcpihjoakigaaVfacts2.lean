/-
  More facts of the loaded program: the elements of what is stored. Printed by gen.py.
-/
import Derived.Test.YtldcpihjoakigaaVfacts
import Derived.Test.YtldcpihjoakigaaVmem3
namespace Go.Proofs.Ytldcpihjoakigaa.V
open Go
theorem elem27 : Elem Try.prog 27 1 24 (.slice none 0 0) := ⟨by kernel_rfl⟩
theorem elem28 : Elem Try.prog 28 1 24 (.slice none 0 0) := ⟨by kernel_rfl⟩
theorem elem37 : Elem Try.prog 37 1 24 (.slice none 0 0) := ⟨by kernel_rfl⟩
theorem elem38 : Elem Try.prog 38 1 24 (.slice none 0 0) := ⟨by kernel_rfl⟩
theorem elem40 : Elem Try.prog 40 6 96 (.agg #[.slice none 0 0, .int .i64 0, .int .i64 0, .int .i64 0, .slice none 0 0, .slice none 0 0]) := ⟨by kernel_rfl⟩
theorem elem50 : Elem Try.prog 50 3 40 (.agg #[.slice none 0 0, .int .i64 0, .int .i64 0]) := ⟨by kernel_rfl⟩
theorem elem59 : Elem Try.prog 59 1 8 (.pointer none) := ⟨by kernel_rfl⟩
theorem elem64 : Elem Try.prog 64 2 32 (.agg #[.slice none 0 0, .int .i64 0]) := ⟨by kernel_rfl⟩
theorem elem67 : Elem Try.prog 67 6 64 (.agg #[.int .i64 0, .slice none 0 0, .int .i64 0, .int .i64 0, .int .i64 0, .int .i64 0]) := ⟨by kernel_rfl⟩
theorem elem75 : Elem Try.prog 75 10 96 (.agg #[.int .i64 0, .slice none 0 0, .int .i64 0, .int .i64 0, .int .i64 0, .int .i64 0, .pointer none, .pointer none, .int .i64 0, .int .i64 0]) := ⟨by kernel_rfl⟩
end Go.Proofs.Ytldcpihjoakigaa.V
