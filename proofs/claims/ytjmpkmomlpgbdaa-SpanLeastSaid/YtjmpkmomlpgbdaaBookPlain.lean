/-
  Plain: books of words: Singleton, Hamming, Plotkin.
-/
import Derived.Test.YtjmpkmomlpgbdaaWordsPlain
namespace Go.Proofs.Ytjmpkmomlpgbdaa
open Go V

def OkB (n : Int) (ws : List Nat) : Prop := 0 ≤ n ∧ n ≤ 12 ∧ ws.length ≤ 64 ∧ (∀ j, j < ws.length → gn ws j < 2 ^ n.toNat) ∧ ∀ i, i < ws.length → ∀ j, j < i → gn ws j ≠ gn ws i
def LeastB (m : Nat) (ws : List Nat) (d : Nat) : Prop := 1 ≤ d ∧ d ≤ m ∧ ∀ i, i < ws.length → ∀ j, j < i → d ≤ popc (gn ws i ^^^ gn ws j)

theorem popTo_lt_pow {x n : Nat} (h : x < 2 ^ n) : ∀ k, popTo x k ≤ n
  | 0 => Nat.zero_le _
  | k + 1 => by
    rw [popTo_succ]
    by_cases hk : k < n
    · have := popTo_le x k
      split <;> omega
    · rw [Nat.testBit_lt_two_pow (Nat.lt_of_lt_of_le h (Nat.pow_le_pow_right (by omega) (by omega)))]
      exact popTo_lt_pow h k
theorem popc_le {x n : Nat} (h : x < 2 ^ n) : popc x ≤ n := popTo_lt_pow h 32

/-- pigeons -/
theorem nodup_le : ∀ (m : Nat) (l : List Nat), l.Nodup → (∀ x ∈ l, x < m) → l.length ≤ m
  | 0, l, _, h => by
    cases l with
    | nil => exact Nat.le_refl _
    | cons x r => exact absurd (h x List.mem_cons_self) (by omega)
  | m + 1, l, hn, h => by
    have h1 := nodup_le m (l.erase m) (hn.erase m) fun x hx => by
      have := h x (List.mem_of_mem_erase hx)
      have h2 : x ≠ m := fun e => by subst e; exact (List.Nodup.not_mem_erase hn) hx
      omega
    have := List.length_erase (a := m) (l := l)
    split at this <;> omega
theorem nodup_of_gn {f : Nat → Nat} {k : Nat} (h : ∀ i, i < k → ∀ j, j < i → f j ≠ f i) : ((List.range k).map f).Nodup := by
  rw [List.nodup_iff_pairwise_ne, List.pairwise_map]
  refine List.Pairwise.imp_of_mem ?_ List.pairwise_lt_range
  intro a b ha hb hab
  exact h b (List.mem_range.1 hb) a hab
theorem inj_le {f : Nat → Nat} {k m : Nat} (hf : ∀ i, i < k → f i < m) (h : ∀ i, i < k → ∀ j, j < i → f j ≠ f i) : k ≤ m := by
  have := nodup_le m ((List.range k).map f) (nodup_of_gn h) fun x hx => by
    obtain ⟨i, hi, rfl⟩ := List.mem_map.1 hx
    exact hf i (List.mem_range.1 hi)
  simpa using this

/-- words that agree on the low bits are not farther apart than the others are many -/
theorem low_same {x y n r : Nat} (hx : x < 2 ^ n) (hy : y < 2 ^ n) (hr : r ≤ n) (h : x % 2 ^ r = y % 2 ^ r) : popc (x ^^^ y) ≤ n - r := by
  have h1 : (x ^^^ y) % 2 ^ r = 0 := by rw [Nat.xor_mod_two_pow, h, Nat.xor_self]
  have hxy : x ^^^ y < 2 ^ n := Nat.xor_lt_two_pow hx hy
  have hz : popTo (x ^^^ y) r = 0 := by
    have : ∀ k, k ≤ r → popTo (x ^^^ y) k = 0 := by
      intro k
      induction k with
      | zero => intro _; rfl
      | succ k ih =>
        intro hk
        rw [popTo_succ, ih (by omega)]
        have : (x ^^^ y).testBit k = false := by
          have h2 := Nat.testBit_mod_two_pow (x ^^^ y) r k
          rw [h1, Nat.zero_testBit] at h2
          simpa [show k < r by omega] using h2.symm
        rw [this]; rfl
    exact this r (Nat.le_refl _)
  by_cases h32 : r ≤ 32
  · have e : popc (x ^^^ y) = popTo (x ^^^ y) r + popTo ((x ^^^ y) >>> r) (32 - r) := by
      rw [← popTo_add, show r + (32 - r) = 32 by omega]; rfl
    have h3 : (x ^^^ y) >>> r < 2 ^ (n - r) := by
      rw [Nat.shiftRight_eq_div_pow, Nat.div_lt_iff_lt_mul (Nat.two_pow_pos r), ← Nat.pow_add, show n - r + r = n by omega]; exact hxy
    have := popTo_lt_pow h3 (32 - r)
    omega
  · have : popc (x ^^^ y) ≤ popTo (x ^^^ y) r := by
      have e : popTo (x ^^^ y) (32 + (r - 32)) = popTo (x ^^^ y) 32 + _ := popTo_add _ _ _
      rw [show 32 + (r - 32) = r by omega] at e
      unfold popc; omega
    omega
theorem singleton {m d : Nat} {ws : List Nat} (hw : ∀ j, j < ws.length → gn ws j < 2 ^ m) (h : LeastB m ws d) : ws.length ≤ 2 ^ (m - d + 1) := by
  refine inj_le (f := fun i => gn ws i % 2 ^ (m - d + 1)) (fun i _ => Nat.mod_lt _ (Nat.two_pow_pos _)) ?_
  intro i hi j hj e
  have h1 := low_same (hw i hi) (hw j (by omega)) (show m - d + 1 ≤ m by have := h.1; have := h.2.1; omega) e.symm
  have h2 := h.2.2 i hi j hj
  have := h.1; have := h.2.1
  omega
end Go.Proofs.Ytjmpkmomlpgbdaa
