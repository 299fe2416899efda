/-
  Plain: where a block stands on the discs.
-/
import Derived.Test.YtldcpihjoakigaaVbase
namespace Go.Proofs.Ytldcpihjoakigaa
open Go V

def rowOf (d b : Nat) : Nat := b / (d - 1)
def discOf (d b : Nat) : Nat := if d - 1 - rowOf d b % d ≤ b % (d - 1) then b % (d - 1) + 1 else b % (d - 1)

def apartOk (d a b : Nat) : Bool :=
  decide (discOf d a < d) && decide (discOf d a ≠ d - 1 - rowOf d a % d) && decide ((discOf d a = discOf d b ∧ rowOf d a = rowOf d b) ↔ a = b) &&
  decide ((a ≤ b) ↔ (rowOf d a < rowOf d b ∨ (rowOf d a = rowOf d b ∧ discOf d a ≤ discOf d b)))
theorem apart_all : (List.range 7).all (fun d => decide (d < 3) || (List.range 24).all fun a => (List.range 24).all fun b => apartOk d a b) = true := by decide +kernel
theorem stripe_apart {d a b : Nat} (hd : 3 ≤ d) (hd6 : d ≤ 6) (ha : a < 24) (hb : b < 24) :
    discOf d a < d ∧ discOf d a ≠ d - 1 - rowOf d a % d ∧ ((discOf d a = discOf d b ∧ rowOf d a = rowOf d b) ↔ a = b) ∧
      ((a ≤ b) ↔ (rowOf d a < rowOf d b ∨ (rowOf d a = rowOf d b ∧ discOf d a ≤ discOf d b))) := by
  have h1 := List.all_eq_true.1 apart_all d (List.mem_range.2 (by omega))
  have hnd : decide (d < 3) = false := by simp; omega
  rw [hnd, Bool.false_or] at h1
  have h2 := List.all_eq_true.1 (List.all_eq_true.1 h1 a (List.mem_range.2 ha)) b (List.mem_range.2 hb)
  simpa only [apartOk, Bool.and_eq_true, decide_eq_true_eq, and_assoc] using h2
end Go.Proofs.Ytldcpihjoakigaa
