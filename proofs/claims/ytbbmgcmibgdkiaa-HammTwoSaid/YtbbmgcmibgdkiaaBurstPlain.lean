/-
  Plain: a burst is seen.
-/
import Derived.Test.YtbbmgcmibgdkiaaRestPlain
namespace Go.Proofs.Ytbbmgcmibgdkiaa
open Go V

theorem gb_set (l : List Bool) (a : Nat) (v : Bool) (j : Nat) (h : a < l.length) : gb (l.set a v) j = if j = a then v else gb l j := by
  unfold gb
  simp only [List.getD_eq_getElem?_getD, List.getElem?_set]
  by_cases e : a = j
  · subst e; simp [h]
  · simp [e, Ne.symm e]
def burstTo (m : List Bool) (bu i : Nat) : Nat → List Bool := iter (fun k l => l.set (i + k) (decide (gb l (i + k) ≠ bu.testBit k))) m
theorem burstTo_succ (m : List Bool) (bu i k : Nat) : burstTo m bu i (k + 1) = (burstTo m bu i k).set (i + k) (decide (gb (burstTo m bu i k) (i + k) ≠ bu.testBit k)) := rfl
theorem burstTo_len (m : List Bool) (bu i : Nat) : ∀ k, (burstTo m bu i k).length = m.length
  | 0 => rfl
  | k + 1 => by rw [burstTo_succ, List.length_set, burstTo_len m bu i k]
theorem burstTo_get (m : List Bool) (bu i : Nat) : ∀ k j, i + k ≤ m.length → gb (burstTo m bu i k) j = if i ≤ j ∧ j < i + k then decide (gb m j ≠ bu.testBit (j - i)) else gb m j
  | 0, j, _ => by rw [if_neg (by omega)]; rfl
  | k + 1, j, h => by
    have hl := burstTo_len m bu i k
    rw [burstTo_succ, gb_set _ _ _ _ (by omega)]
    by_cases e : j = i + k
    · rw [if_pos e, if_pos (by omega), burstTo_get m bu i k (i + k) (by omega), if_neg (by omega), e, Nat.add_sub_cancel_left]
    · rw [if_neg e, burstTo_get m bu i k j (by omega)]
      by_cases h2 : i ≤ j ∧ j < i + k
      · rw [if_pos h2, if_pos (by omega)]
      · rw [if_neg h2, if_neg (by omega)]
def bitsOf (bu K : Nat) : List Bool := (List.range K).map bu.testBit
theorem stepR_ne {g d r : Nat} (ho : g % 2 = 1) (hr : r ≠ 0) : stepR g d r false ≠ 0 := by
  have h0 : shiftIn r false = r <<< 1 := rfl
  unfold stepR
  rw [h0]
  split
  · intro e
    have h1 : ((r <<< 1) ^^^ g).testBit 0 = true := by
      rw [Nat.testBit_xor, Nat.testBit_shiftLeft, Nat.testBit_zero g, ho]; rfl
    rw [e, Nat.zero_testBit] at h1
    cases h1
  · rw [Nat.shiftLeft_eq]; omega
theorem foldl_zeros_ne {g d : Nat} (ho : g % 2 = 1) : ∀ (n r : Nat), r ≠ 0 → (zeros n).foldl (stepR g d) r ≠ 0
  | 0, _, h => h
  | n + 1, r, h => foldl_zeros_ne ho n _ (stepR_ne ho h)
theorem foldl_zeros_zero {g d : Nat} : ∀ (n : Nat), (zeros n).foldl (stepR g d) 0 = 0
  | 0 => rfl
  | n + 1 => by
    show (zeros n).foldl (stepR g d) (stepR g d 0 false) = 0
    have : stepR g d 0 false = 0 := by
      have h0 : shiftIn 0 false = 0 := rfl
      unfold stepR
      rw [h0, if_neg (by rw [Nat.zero_shiftRight]; omega)]
    rw [this]; exact foldl_zeros_zero n
theorem num_zero {b : List Bool} (h : num b = 0) : ∀ j, j < b.length → gb b j = false := by
  intro j hj
  have := numTo_bit b b.length (b.length - 1 - j)
  rw [show numTo b b.length = 0 from h, Nat.zero_testBit, if_pos (by omega), show b.length - 1 - (b.length - 1 - j) = j by omega] at this
  exact this.symm
theorem gb_append (a b : List Bool) (j : Nat) : gb (a ++ b) j = if j < a.length then gb a j else gb b (j - a.length) := by
  unfold gb
  simp only [List.getD_eq_getElem?_getD]
  by_cases h : j < a.length
  · rw [if_pos h, List.getElem?_append_left h]
  · rw [if_neg h, List.getElem?_append_right (by omega)]
theorem gb_zeros (n j : Nat) : gb (zeros n) j = false := by
  unfold gb zeros
  rw [List.getD_eq_getElem?_getD, List.getElem?_replicate]
  split <;> rfl
theorem gb_bits {bu K j : Nat} (h : j < K) : gb (bitsOf bu K) j = bu.testBit j := by
  unfold gb bitsOf
  simp [h]
theorem burst_seen {g d bu i K : Nat} {m : List Bool} (hg : Deg g d) (ho : g % 2 = 1) (hK : K ≤ d) (hi : i + K ≤ m.length) (h0 : restOf g d m = 0) (hne : burstTo m bu i K ≠ m) : restOf g d (burstTo m bu i K) ≠ 0 := by
  obtain ⟨r, hr⟩ : ∃ r, m.length = i + K + r := ⟨m.length - (i + K), by omega⟩
  let z := zeros i ++ (bitsOf bu K ++ zeros r)
  have hbl : (bitsOf bu K).length = K := by simp [bitsOf]
  have hzl : (zeros i).length = i := by simp [zeros]
  have hzr : (zeros r).length = r := by simp [zeros]
  have hlen : z.length = m.length := by show (zeros i ++ (bitsOf bu K ++ zeros r)).length = _; rw [List.length_append, List.length_append, hbl, hzl, hzr]; omega
  have hget : ∀ j, gb z j = if i ≤ j ∧ j < i + K then bu.testBit (j - i) else false := by
    intro j
    show gb (zeros i ++ (bitsOf bu K ++ zeros r)) j = _
    rw [gb_append, hzl]
    by_cases h1 : j < i
    · rw [if_pos h1, if_neg (by omega), gb_zeros]
    · rw [if_neg h1, gb_append, hbl]
      by_cases h2 : j - i < K
      · rw [if_pos h2, if_pos (by omega), gb_bits h2]
      · rw [if_neg h2, if_neg (by omega), gb_zeros]
  have hx : restOf g d (burstTo m bu i K) = restOf g d m ^^^ restOf g d z := by
    unfold restOf
    rw [burstTo_len, hlen]
    refine rest_xor hg (n := m.length) (fun j hj => ?_) _ (Nat.le_refl _)
    rw [burstTo_get m bu i K j hi, hget]
    split
    · cases gb m j <;> cases bu.testBit (j - i) <;> rfl
    · cases gb m j <;> rfl
  rw [hx, h0, Nat.zero_xor, restOf_foldl]
  show (zeros i ++ (bitsOf bu K ++ zeros r)).foldl (stepR g d) 0 ≠ 0
  rw [List.foldl_append, List.foldl_append, foldl_zeros_zero, foldl_short (g := g) (d := d) (bitsOf bu K) 0 0 (by decide) (by omega), ← num_foldl]
  refine foldl_zeros_ne ho r _ fun hn => hne ?_
  refine gb_eq_of (burstTo_len _ _ _ _) fun j hj => ?_
  rw [burstTo_get m bu i K j hi]
  split
  · rename_i h
    have := num_zero hn (j - i) (by omega)
    rw [gb_bits (by omega)] at this
    rw [this]
    cases gb m j <;> rfl
  · rfl
end Go.Proofs.Ytbbmgcmibgdkiaa
