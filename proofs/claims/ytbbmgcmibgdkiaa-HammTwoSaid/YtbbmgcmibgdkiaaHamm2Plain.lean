/-
  Plain: one bit more.
-/
import Derived.Test.YtbbmgcmibgdkiaaHammPlain
namespace Go.Proofs.Ytbbmgcmibgdkiaa
open Go V

def oddTo (l : List Bool) : Nat → Bool := iter (fun i x => decide (x ≠ gb l i)) false
theorem oddTo_succ (l : List Bool) (k : Nat) : oddTo l (k + 1) = decide (oddTo l k ≠ gb l k) := rfl
def oddOf (l : List Bool) : Bool := oddTo l l.length
theorem oddTo_congr {a b : List Bool} : ∀ {k : Nat}, (∀ j, j < k → gb a j = gb b j) → oddTo a k = oddTo b k
  | 0, _ => rfl
  | k + 1, h => by rw [oddTo_succ, oddTo_succ, oddTo_congr (k := k) fun j hj => h j (by omega), h k (by omega)]
theorem oddTo_flip (l : List Bool) (a : Nat) (ha : a < l.length) : ∀ k, oddTo (flipAt l a) k = if a < k then !oddTo l k else oddTo l k
  | 0 => by rw [if_neg (by omega)]; rfl
  | k + 1 => by
    rw [oddTo_succ, oddTo_flip l a ha k, oddTo_succ, flipAt_get ha]
    by_cases e : k = a
    · subst e
      rw [if_neg (show ¬ k < k by omega), if_pos rfl, if_pos (show k < k + 1 by omega)]
      cases oddTo l k <;> cases gb l k <;> rfl
    · rw [if_neg e]
      by_cases h : a < k
      · rw [if_pos h, if_pos (by omega)]
        cases oddTo l k <;> cases gb l k <;> rfl
      · rw [if_neg h, if_neg (by omega)]
theorem odd_flip {l : List Bool} {a : Nat} (ha : a < l.length) : oddOf (flipAt l a) = !oddOf l := by
  unfold oddOf
  rw [flipAt_len, oddTo_flip l a ha, if_pos ha]
def word2 (r : Nat) (d : List Bool) : List Bool := wordOf r d ++ [oddOf (wordOf r d)]
theorem word2_len (r : Nat) (d : List Bool) : (word2 r d).length = 2 ^ r - 1 + 1 := by rw [word2, List.length_append, wordOf_len]; rfl
theorem word2_odd (r : Nat) (d : List Bool) : oddOf (word2 r d) = false := by
  unfold oddOf
  rw [word2_len, oddTo_succ]
  have h1 : oddTo (word2 r d) (2 ^ r - 1) = oddOf (wordOf r d) := by
    unfold oddOf
    rw [wordOf_len]
    refine oddTo_congr fun j hj => ?_
    unfold word2
    rw [gb_append, wordOf_len, if_pos hj]
  have h2 : gb (word2 r d) (2 ^ r - 1) = oddOf (wordOf r d) := by
    unfold word2
    rw [gb_append, wordOf_len, if_neg (by omega), Nat.sub_self]; rfl
  rw [h1, h2]; simp
theorem gb_take (l : List Bool) (n j : Nat) (h : j < n) : gb (l.take n) j = gb l j := by
  unfold gb
  simp only [List.getD_eq_getElem?_getD, List.getElem?_take, h, if_true]
theorem take_flip_lt {l : List Bool} {a n : Nat} (ha : a < n) (hn : n ≤ l.length) : (flipAt l a).take n = flipAt (l.take n) a := by
  refine gb_eq_of (by rw [flipAt_len, List.length_take, List.length_take, flipAt_len]) fun j hj => ?_
  rw [List.length_take, flipAt_len] at hj
  rw [gb_take _ _ _ (by omega), flipAt_get (by omega), flipAt_get (by rw [List.length_take]; omega), gb_take _ _ _ ha, gb_take _ _ _ (by omega)]
theorem take_flip_ge {l : List Bool} {a n : Nat} (ha : n ≤ a) (hl : a < l.length) : (flipAt l a).take n = l.take n := by
  refine gb_eq_of (by rw [List.length_take, List.length_take, flipAt_len]) fun j hj => ?_
  rw [List.length_take, flipAt_len] at hj
  rw [gb_take _ _ _ (by omega), flipAt_get hl, if_neg (by omega), gb_take _ _ _ (by omega)]
theorem word2_take (r : Nat) (d : List Bool) : (word2 r d).take (2 ^ r - 1) = wordOf r d := by
  unfold word2
  rw [List.take_left' (wordOf_len r d)]
theorem one_mended {r : Nat} (h2 : 2 ≤ r) (h4 : r ≤ 4) (d : List Bool) {a : Nat} (ha : a < 2 ^ r) : mended ((flipAt (word2 r d) a).take (2 ^ r - 1)) = wordOf r d := by
  have hl := word2_len r d
  have hw := wordOf_len r d
  by_cases h : a < 2 ^ r - 1
  · rw [take_flip_lt h (by omega), word2_take]
    have hp := pt_flip (l := wordOf r d) (a := a) (by omega)
    rw [pt_word h2 h4, Nat.zero_xor] at hp
    unfold mended
    rw [if_neg (by omega), hp, Nat.add_sub_cancel]
    exact flip_flip (by omega)
  · rw [take_flip_ge (by omega) (by omega), word2_take]
    exact if_pos (pt_word h2 h4 d)
theorem two_pt {r : Nat} (h2 : 2 ≤ r) (h4 : r ≤ 4) (d : List Bool) {a b : Nat} (ha : a < 2 ^ r) (hb : b < 2 ^ r) (hab : a ≠ b) : pt ((flipAt (flipAt (word2 r d) a) b).take (2 ^ r - 1)) ≠ 0 := by
  have hl := word2_len r d
  have hl2 := flipAt_len (word2 r d) a
  have hw := wordOf_len r d
  have hpw := pt_word h2 h4 d
  by_cases h : a < 2 ^ r - 1
  · have hp := pt_flip (l := wordOf r d) (a := a) (by omega)
    rw [hpw, Nat.zero_xor] at hp
    by_cases h' : b < 2 ^ r - 1
    · rw [take_flip_lt h' (by omega), take_flip_lt h (by omega), word2_take, pt_flip (by rw [flipAt_len]; omega), hp]
      intro e
      have := xor_eq_zero.1 e
      omega
    · rw [take_flip_ge (by omega) (by omega), take_flip_lt h (by omega), word2_take, hp]; omega
  · rw [take_flip_lt (show b < 2 ^ r - 1 by omega) (by omega), take_flip_ge (by omega) (by omega), word2_take, pt_flip (by omega), hpw, Nat.zero_xor]; omega
end Go.Proofs.Ytbbmgcmibgdkiaa
