/-
  Plain: binomial numbers up to 12.
-/
import Derived.Test.YtjmpkmomlpgbdaaWordsPlain
namespace Go.Proofs.Ytjmpkmomlpgbdaa
open Go V

def choTo (n : Nat) : Nat → Nat := iter (fun i x => x * (n - i) / (i + 1)) 1
def cho (n k : Nat) : Nat := if n < k then 0 else choTo n k
theorem choTo_succ (n k : Nat) : choTo n (k + 1) = choTo n k * (n - k) / (k + 1) := rfl
theorem cho_all : (List.range 13).all (fun n => (List.range 13).all fun k => decide (choTo n k ≤ 1000) && (decide (n < k) || decide (k = 0) || decide (k = n) || decide (cho n k = cho (n - 1) k + cho (n - 1) (k - 1))) && decide (cho n 0 = 1) && decide (cho n n = 1)) = true := by decide +kernel
theorem cho_facts {n k : Nat} (hn : n ≤ 12) (hk : k ≤ 12) : choTo n k ≤ 1000 ∧ (k ≤ n → k ≠ 0 → k ≠ n → cho n k = cho (n - 1) k + cho (n - 1) (k - 1)) ∧ cho n 0 = 1 ∧ cho n n = 1 := by
  have h := List.all_eq_true.1 (List.all_eq_true.1 cho_all n (List.mem_range.2 (by omega))) k (List.mem_range.2 (by omega))
  simp only [Bool.and_eq_true, Bool.or_eq_true, decide_eq_true_eq] at h
  obtain ⟨⟨⟨h1, h2⟩, h3⟩, h4⟩ := h
  refine ⟨h1, fun a b c => ?_, h3, h4⟩
  rcases h2 with ((h2 | h2) | h2) | h2
  · omega
  · exact absurd h2 b
  · exact absurd h2 c
  · exact h2
end Go.Proofs.Ytjmpkmomlpgbdaa
