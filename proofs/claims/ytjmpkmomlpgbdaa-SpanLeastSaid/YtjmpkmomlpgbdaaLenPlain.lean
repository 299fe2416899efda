/-
  Plain: how many bits a number has.
-/
import Derived.Test.YtjmpkmomlpgbdaaVmore
namespace Go.Proofs.Ytjmpkmomlpgbdaa
open Go V

def bitLen (x : Nat) : Nat := if x = 0 then 0 else Nat.log2 x + 1
def IsLen (x L : Nat) : Prop := x < 2 ^ L ∧ (L = 0 ∨ 2 ^ (L - 1) ≤ x)
theorem bitLen_is (x : Nat) : IsLen x (bitLen x) := by
  unfold bitLen IsLen
  by_cases h : x = 0
  · subst h; simp
  · rw [if_neg h]
    exact ⟨Nat.lt_log2_self, .inr (by rw [Nat.add_sub_cancel]; exact Nat.log2_self_le h)⟩
theorem isLen_shift {x k L : Nat} (hk : 2 ^ k ≤ x) (h : IsLen (x >>> k) L) : IsLen x (k + L) := by
  obtain ⟨h1, h2⟩ := h
  rw [Nat.shiftRight_eq_div_pow] at h1 h2
  have hp := Nat.two_pow_pos k
  refine ⟨?_, ?_⟩
  · rw [Nat.div_lt_iff_lt_mul hp, ← Nat.pow_add, Nat.add_comm] at h1
    exact h1
  · right
    rcases h2 with h2 | h2
    · subst h2
      have : 1 ≤ x / 2 ^ k := (Nat.le_div_iff_mul_le hp).2 (by omega)
      have h0 : (2 : Nat) ^ 0 = 1 := rfl
      omega
    · by_cases h0 : L = 0
      · subst h0
        have : 1 ≤ x / 2 ^ k := (Nat.le_div_iff_mul_le hp).2 (by omega)
        have h0 : (2 : Nat) ^ 0 = 1 := rfl
        omega
      · have := (Nat.le_div_iff_mul_le hp).1 h2
        rw [← Nat.pow_add] at this
        rw [show k + L - 1 = L - 1 + k by omega]
        exact this
theorem isLen_unique {x L M : Nat} (h : IsLen x L) (h' : IsLen x M) : L = M := by
  have key : ∀ L M, IsLen x L → IsLen x M → ¬ L < M := by
    intro L M h h' hlt
    rcases h'.2 with h2 | h2
    · omega
    · have := Nat.pow_le_pow_right (n := 2) (by omega) (show L ≤ M - 1 by omega)
      have := h.1
      omega
  have := key L M h h'
  have := key M L h' h
  omega
theorem bitLen_unique {x L : Nat} (h : IsLen x L) : bitLen x = L := isLen_unique (bitLen_is x) h
theorem bitLen_le {x k : Nat} (h : x < 2 ^ k) : bitLen x ≤ k := by
  rcases (bitLen_is x).2 with h2 | h2
  · omega
  · refine Classical.byContradiction fun hn => ?_
    have := Nat.pow_le_pow_right (n := 2) (by omega) (show k ≤ bitLen x - 1 by omega)
    omega
end Go.Proofs.Ytjmpkmomlpgbdaa
