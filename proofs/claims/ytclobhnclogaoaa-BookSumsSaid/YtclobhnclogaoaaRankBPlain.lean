/-
  Plain: the rank of a word among those with as many set bits (Cover; Schalkwijk).
-/
import Derived.Test.YtclobhnclogaoaaRankPlain
namespace Go.Proofs.Ytclobhnclogaoaa
open Go V

/-- how many words stand ahead of the low k bits -/
def rk (w : Nat) : Nat → Nat := iter (fun i s => if w.testBit i = true then s + cho i (popTo w (i + 1)) else s) 0
theorem rk_succ (w k : Nat) : rk w (k + 1) = if w.testBit k = true then rk w k + cho k (popTo w (k + 1)) else rk w k := rfl
theorem cho_zero {n k : Nat} (h : n < k) : cho n k = 0 := by rw [cho, if_pos h]
theorem cho_step {n k : Nat} (hn : n + 1 ≤ 12) : cho (n + 1) (k + 1) = cho n (k + 1) + cho n k := by
  rcases Nat.lt_trichotomy n k with h | h | h
  · rw [cho_zero (show n + 1 < k + 1 by omega), cho_zero (show n < k + 1 by omega), cho_zero h]
  · subst h
    rw [(cho_facts (n := n + 1) (k := n + 1) hn hn).2.2.2, (cho_facts (n := n) (k := n) (by omega) (by omega)).2.2.2, cho_zero (Nat.lt_succ_self n)]
  · have := (cho_facts (n := n + 1) (k := k + 1) hn (by omega)).2.1 (by omega) (by omega) (by omega)
    simpa using this
theorem cho_mono {n k : Nat} (hn : n + 1 ≤ 12) : cho n k ≤ cho (n + 1) k := by
  cases k with
  | zero => rw [(cho_facts (n := n) (k := 0) (by omega) (by omega)).2.2.1, (cho_facts (n := n + 1) (k := 0) (by omega) (by omega)).2.2.1]; omega
  | succ k => rw [cho_step hn]; omega
theorem cho_le {n k : Nat} (hn : n ≤ 12) : cho n k ≤ 1000 := by
  by_cases h : n < k
  · rw [cho_zero h]; omega
  · rw [cho, if_neg h]; exact (cho_facts hn (show k ≤ 12 by omega)).1
theorem rk_lt (w : Nat) : ∀ k, k ≤ 12 → rk w k < cho k (popTo w k)
  | 0, _ => (by show 0 < cho 0 0; decide)
  | k + 1, h => by
    have ih := rk_lt w k (by omega)
    rw [rk_succ]
    by_cases hb : w.testBit k = true
    · rw [if_pos hb, popTo_succ, if_pos hb, cho_step h]; omega
    · rw [if_neg hb, popTo_succ, if_neg hb]; have := cho_mono (n := k) (k := popTo w k) h; omega
theorem rk_test (w m : Nat) (h : m + 1 ≤ 12) : cho m (popTo w (m + 1)) ≤ rk w (m + 1) ↔ w.testBit m = true := by
  rw [rk_succ]
  by_cases hb : w.testBit m = true
  · rw [if_pos hb]; exact ⟨fun _ => hb, fun _ => by omega⟩
  · have := rk_lt w m (by omega)
    rw [if_neg hb, popTo_succ, if_neg hb]
    exact ⟨fun h => by omega, fun h => absurd h hb⟩
theorem rk_mono (w : Nat) {j : Nat} : ∀ {k}, j ≤ k → rk w j ≤ rk w k
  | 0, h => by obtain rfl : j = 0 := by omega
               exact Nat.le_refl _
  | k + 1, h => by
    by_cases e : j = k + 1
    · subst e; exact Nat.le_refl _
    · have := rk_mono w (j := j) (k := k) (by omega)
      rw [rk_succ]; split <;> omega
theorem rk_congr {a b : Nat} : ∀ {k}, (∀ j, j < k → a.testBit j = b.testBit j) → rk a k = rk b k ∧ popTo a k = popTo b k
  | 0, _ => ⟨rfl, rfl⟩
  | k + 1, h => by
    have ih := rk_congr (a := a) (b := b) (k := k) fun j hj => h j (by omega)
    have hk := h k (by omega)
    have hp : popTo a (k + 1) = popTo b (k + 1) := by rw [popTo_succ, popTo_succ, ih.2, hk]
    exact ⟨by rw [rk_succ, rk_succ, ih.1, hp, hk], hp⟩
theorem split_top {w n : Nat} (h : w < 2 ^ (n + 1)) : (w.testBit n = false ∧ w < 2 ^ n) ∨ (w.testBit n = true ∧ ∃ v, v < 2 ^ n ∧ w = 2 ^ n + v ∧ ∀ j, j < n → w.testBit j = v.testBit j) := by
  rw [Nat.pow_succ] at h
  by_cases hl : w < 2 ^ n
  · exact .inl ⟨Nat.testBit_lt_two_pow hl, hl⟩
  · right
    have e : w = 2 ^ n + (w - 2 ^ n) := by omega
    have hv : w - 2 ^ n < 2 ^ n := by omega
    refine ⟨?_, w - 2 ^ n, hv, e, fun j hj => ?_⟩
    · rw [e, Nat.testBit_two_pow_add_eq, Nat.testBit_lt_two_pow hv]; rfl
    · conv => lhs; rw [e]
      exact Nat.testBit_two_pow_add_gt hj _
theorem rk_rises : ∀ (n a b : Nat), n ≤ 12 → a < 2 ^ n → b < 2 ^ n → popTo a n = popTo b n → a < b → rk a n < rk b n
  | 0, a, b, _, ha, hb, _, h => by simp at ha hb; omega
  | n + 1, a, b, hn, ha, hb, hp, h => by
    rcases split_top ha with ⟨ta, la⟩ | ⟨ta, va, hva, ea, ca⟩ <;> rcases split_top hb with ⟨tb, lb⟩ | ⟨tb, vb, hvb, eb, cb⟩
    · have hp2 : popTo a n = popTo b n := by rw [popTo_succ, popTo_succ, ta, tb] at hp; simpa using hp
      rw [rk_succ, rk_succ, ta, tb]
      simpa using rk_rises n a b (by omega) la lb hp2 h
    · have h1 := rk_lt a n (by omega)
      have h2 : popTo a n = popTo b (n + 1) := by rw [← hp, popTo_succ, ta]; simp
      rw [rk_succ, rk_succ, ta, tb, if_pos rfl, ← h2]
      simp only [Bool.false_eq_true, if_false]
      omega
    · omega
    · have hp2 : popTo va n = popTo vb n := by
        rw [popTo_succ, popTo_succ, ta, tb, if_pos rfl, if_pos rfl] at hp
        rw [← (rk_congr ca).2, ← (rk_congr cb).2]; omega
      have := rk_rises n va vb (by omega) hva hvb hp2 (by omega)
      rw [rk_succ, rk_succ, ta, tb, if_pos rfl, if_pos rfl, (rk_congr ca).1, (rk_congr cb).1, hp]
      omega
theorem rk_iff {n a b : Nat} (hn : n ≤ 12) (ha : a < 2 ^ n) (hb : b < 2 ^ n) (hp : popTo a n = popTo b n) : rk a n < rk b n ↔ a < b := by
  constructor
  · intro h
    rcases Nat.lt_trichotomy a b with h1 | h1 | h1
    · exact h1
    · subst h1; omega
    · have := rk_rises n b a hn hb ha hp.symm h1; omega
  · exact rk_rises n a b hn ha hb hp
/-- all set bits of a short word are low -/
theorem popTo_short {w n : Nat} (h : w < 2 ^ n) : ∀ k, popTo w (n + k) = popTo w n
  | 0 => rfl
  | k + 1 => by
    rw [← Nat.add_assoc, popTo_succ, popTo_short h k, Nat.testBit_lt_two_pow (Nat.lt_of_lt_of_le h (Nat.pow_le_pow_right (by omega) (by omega)))]
    simp
theorem popc_short {w n : Nat} (h : w < 2 ^ n) (hn : n ≤ 32) : popc w = popTo w n := by
  have := popTo_short h (32 - n)
  rw [show n + (32 - n) = 32 by omega] at this
  exact this
/-- the bits from j on -/
def hi (w j : Nat) : Nat := (w >>> j) <<< j
theorem hi_bit (w j i : Nat) : (hi w j).testBit i = (decide (j ≤ i) && w.testBit i) := by
  unfold hi
  rw [Nat.testBit_shiftLeft, Nat.testBit_shiftRight]
  by_cases h : j ≤ i
  · simp [h, show j + (i - j) = i by omega]
  · simp [h]
theorem hi_top {w n : Nat} (h : w < 2 ^ n) : hi w n = 0 := by
  unfold hi; rw [Nat.shiftRight_eq_div_pow, Nat.div_eq_of_lt h]; simp
theorem hi_zero (w : Nat) : hi w 0 = w := by simp [hi]
theorem hi_succ (w j : Nat) : hi w j = if w.testBit j = true then hi w (j + 1) ||| (1 <<< j) else hi w (j + 1) := by
  refine Nat.eq_of_testBit_eq fun i => ?_
  by_cases hb : w.testBit j = true
  · rw [if_pos hb, Nat.testBit_or, hi_bit, hi_bit, Nat.shiftLeft_eq, Nat.one_mul, Nat.testBit_two_pow]
    by_cases e : j = i
    · subst e; simp [hb]
    · by_cases h2 : j ≤ i
      · simp [h2, e, show j + 1 ≤ i by omega]
      · simp [h2, e, show ¬ j + 1 ≤ i by omega]
  · rw [if_neg hb, hi_bit, hi_bit]
    by_cases e : j = i
    · subst e; simp [hb]
    · by_cases h2 : j ≤ i
      · simp [h2, show j + 1 ≤ i by omega]
      · simp [h2, show ¬ j + 1 ≤ i by omega]
theorem hi_le (w j : Nat) : hi w j ≤ w := by
  unfold hi; rw [Nat.shiftLeft_eq, Nat.shiftRight_eq_div_pow]; exact Nat.div_mul_le_self _ _
end Go.Proofs.Ytclobhnclogaoaa
