/-
  Plain: the low bits of a number as a text, and a text as a number.
-/
import Derived.Test.YtbfcmfjdjldepaaVbase
namespace Go.Proofs.Ytbfcmfjdjldepaa
open Go V

/-- the n low bits of x, the highest first -/
def digs (x n : Nat) : Nat → List Bool := iter (fun i l => l ++ [x.testBit (n - 1 - i)]) []
theorem digs_succ (x n k : Nat) : digs x n (k + 1) = digs x n k ++ [x.testBit (n - 1 - k)] := rfl
theorem digs_len (x n : Nat) : ∀ k, (digs x n k).length = k
  | 0 => rfl
  | k + 1 => by rw [digs_succ, List.length_append, digs_len x n k]; rfl
theorem digs_get (x n : Nat) : ∀ k j, j < k → gb (digs x n k) j = x.testBit (n - 1 - j)
  | 0, j, h => by omega
  | k + 1, j, h => by
    have hl := digs_len x n k
    rw [digs_succ]
    by_cases e : j = k
    · subst e
      unfold gb; rw [List.getD_eq_getElem?_getD, List.getElem?_append_right (by omega), hl, Nat.sub_self]; rfl
    · rw [← digs_get x n k j (by omega)]
      unfold gb
      simp only [List.getD_eq_getElem?_getD]
      rw [List.getElem?_append_left (by omega)]
theorem bit_eq (x j : Nat) : decide (((x >>> j &&& 1 : Nat) : Int) = ((1 : Nat) : Int)) = x.testBit j := by
  rw [Nat.testBit_eq_decide_div_mod_eq, decide_eq_decide, Nat.and_one_is_mod, Nat.shiftRight_eq_div_pow]
  omega

theorem iter_foldl {σ : Type} (f : σ → Bool → σ) (s : σ) (bs : List Bool) : ∀ k, k ≤ bs.length → iter (fun i r => f r (gb bs i)) s k = (bs.take k).foldl f s
  | 0, _ => rfl
  | k + 1, h => by
    rw [iter_succ, iter_foldl f s bs k (by omega), List.take_succ_eq_append_getElem (by omega), List.foldl_append, gb_lt (by omega)]
    rfl
theorem iter_foldl_all {σ : Type} (f : σ → Bool → σ) (s : σ) (bs : List Bool) : iter (fun i r => f r (gb bs i)) s bs.length = bs.foldl f s := by
  rw [iter_foldl f s bs _ (Nat.le_refl _), List.take_length]
def shiftIn (r : Nat) (b : Bool) : Nat := if b = true then (r <<< 1) ||| 1 else r <<< 1
theorem shiftIn_bit (r : Nat) (b : Bool) (j : Nat) : (shiftIn r b).testBit j = if j = 0 then b else r.testBit (j - 1) := by
  unfold shiftIn
  cases b
  · simp only [Bool.false_eq_true, if_false, Nat.testBit_shiftLeft]
    by_cases h : j = 0
    · subst h; simp
    · simp [h, show 1 ≤ j by omega]
  · simp only [if_true, Nat.testBit_or, Nat.testBit_shiftLeft]
    by_cases h : j = 0
    · subst h; simp
    · rw [if_neg h, show (1 : Nat) = 2 ^ 0 from rfl, Nat.testBit_two_pow_of_ne (by omega)]
      simp [show 1 ≤ j by omega]
theorem shiftIn_lt {r d : Nat} (b : Bool) (h : r < 2 ^ d) : shiftIn r b < 2 ^ (d + 1) := by
  have h1 : r <<< 1 < 2 ^ (d + 1) := by rw [Nat.shiftLeft_eq, Nat.pow_succ]; omega
  unfold shiftIn
  split
  · exact Nat.or_lt_two_pow h1 (Nat.one_lt_two_pow (by omega))
  · exact h1
def numTo (bs : List Bool) : Nat → Nat := iter (fun i r => shiftIn r (gb bs i)) 0
theorem numTo_succ (bs : List Bool) (k : Nat) : numTo bs (k + 1) = shiftIn (numTo bs k) (gb bs k) := rfl
def num (bs : List Bool) : Nat := numTo bs bs.length
theorem num_foldl (bs : List Bool) : num bs = bs.foldl shiftIn 0 := iter_foldl_all shiftIn 0 bs
theorem numTo_lt (bs : List Bool) : ∀ k, numTo bs k < 2 ^ k
  | 0 => Nat.one_pos
  | k + 1 => shiftIn_lt _ (numTo_lt bs k)
theorem numTo_bit (bs : List Bool) : ∀ k j, (numTo bs k).testBit j = if j < k then gb bs (k - 1 - j) else false
  | 0, j => by simp [numTo, iter]
  | k + 1, j => by
    rw [numTo_succ, shiftIn_bit]
    by_cases h : j = 0
    · subst h; simp
    · rw [if_neg h, numTo_bit bs k (j - 1)]
      by_cases h2 : j - 1 < k
      · rw [if_pos h2, if_pos (by omega), show k - 1 - (j - 1) = k + 1 - 1 - j by omega]
      · rw [if_neg h2, if_neg (by omega)]
theorem num_digs {x n : Nat} (h : x < 2 ^ n) : num (digs x n n) = x := by
  refine Nat.eq_of_testBit_eq fun j => ?_
  unfold num
  rw [digs_len, numTo_bit]
  by_cases hj : j < n
  · rw [if_pos hj, digs_get x n n _ (by omega), show n - 1 - (n - 1 - j) = j by omega]
  · rw [if_neg hj, Nat.testBit_lt_two_pow (Nat.lt_of_lt_of_le h (Nat.pow_le_pow_right (by omega) (by omega)))]
theorem digs_num {bs : List Bool} {n : Nat} (h : bs.length = n) : digs (num bs) n n = bs := by
  refine gb_eq_of (by rw [digs_len, h]) fun j hj => ?_
  rw [digs_len] at hj
  unfold num
  rw [digs_get _ _ _ _ hj, numTo_bit, if_pos (by omega), h, show n - 1 - (n - 1 - j) = j by omega]
end Go.Proofs.Ytbfcmfjdjldepaa
