/-
  Plain: back from the bits that were put.
-/
import Derived.Test.YtpogedmkmplckaaEvenPlain
namespace Go.Proofs.Ytpogedmkmplckaa
open Go V

def bitE (l : List Bool) (n i : Nat) : Nat := if gb l (n + 2 * i) = true then 1 else 0
def numE (l : List Bool) (n : Nat) : Nat → Nat := iter (fun i r => 2 * r + bitE l n i) 0
theorem numE_succ (l : List Bool) (n k : Nat) : numE l n (k + 1) = 2 * numE l n k + bitE l n k := rfl
theorem bitE_le (l : List Bool) (n i : Nat) : bitE l n i ≤ 1 := by unfold bitE; split <;> omega
theorem numE_lt (l : List Bool) (n : Nat) : ∀ k, k ≤ 4 → numE l n k < 16
  | 0, _ => by show 0 < 16; omega
  | 1, _ => by have := bitE_le l n 0; simp only [numE, iter]; omega
  | 2, _ => by have := bitE_le l n 0; have := bitE_le l n 1; simp only [numE, iter]; omega
  | 3, _ => by have := bitE_le l n 0; have := bitE_le l n 1; have := bitE_le l n 2; simp only [numE, iter]; omega
  | 4, _ => by have := bitE_le l n 0; have := bitE_le l n 1; have := bitE_le l n 2; have := bitE_le l n 3; simp only [numE, iter]; omega
  | k + 5, h => by omega
theorem pairOn_get (a bs : List Bool) : ∀ k i, i < k → gb (pairOn a bs k) (a.length + 2 * i) = gb bs i
  | 0, _, h => by omega
  | k + 1, i, h => by
    have hl := pairOn_len a bs k
    rw [pairOn_succ, gb_append']
    by_cases e : i = k
    · subst e; rw [if_neg (by omega), hl, Nat.sub_self]; rfl
    · rw [if_pos (by omega), pairOn_get a bs k i (by omega)]
theorem pairOn_take (a bs : List Bool) : ∀ k, (pairOn a bs k).take a.length = a
  | 0 => by show a.take a.length = a; exact List.take_length
  | k + 1 => by
    have hl := pairOn_len a bs k
    rw [pairOn_succ, List.take_append_of_le_length (by omega), pairOn_take a bs k]
theorem numE_put (d : List Bool) (m : Nat) (hm : m < 16) : numE (putE d m) d.length 4 = m := by
  have hg : ∀ i, i < 4 → gb (putE d m) (d.length + 2 * i) = m.testBit (3 - i) := fun i hi => by
    have := pairOn_get (turnB d m) (digs m 4 4) 4 i hi
    rw [turnB_len] at this
    unfold putE
    rw [this, digs_get _ _ _ _ hi, show 4 - 1 - i = 3 - i by omega]
  simp only [numE, iter, bitE, hg 0 (by omega), hg 1 (by omega), hg 2 (by omega), hg 3 (by omega)]
  clear hg
  revert m
  decide
/-- n turned is the least that makes as many ones as noughts -/
def IsE (d : List Bool) (n : Nat) : Prop := d.length ≤ 12 ∧ d.length % 2 = 0 ∧ n ≤ d.length ∧ moreOf (turnB d n) = 0 ∧ ∀ j, j < n → moreOf (turnB d j) ≠ 0
theorem IsE.one {d : List Bool} {n m : Nat} (h : IsE d n) (g : IsE d m) : n = m := by
  rcases Nat.lt_trichotomy n m with hlt | e | hlt
  · exact absurd h.2.2.2.1 (g.2.2.2.2 n hlt)
  · exact e
  · exact absurd g.2.2.2.1 (h.2.2.2.2 m hlt)
theorem putE_shape {d l : List Bool} {m : Nat} (h : IsE d m) (hl : l = putE d m) : l.length ≤ 20 ∧ 8 ≤ l.length ∧ (l.length - 8) % 2 = 0 ∧ numE l (l.length - 8) 4 = m ∧ m ≤ l.length - 8 ∧ turnB (l.take (l.length - 8)) m = d := by
  have hp := putE_len d m
  obtain ⟨h1, h2, h3, _, _⟩ := h
  have hn : l.length - 8 = d.length := by rw [hl, hp]; omega
  refine ⟨by rw [hl, hp]; omega, by rw [hl, hp]; omega, by rw [hn]; exact h2, by rw [hn, hl]; exact numE_put d m (by omega), by omega, ?_⟩
  have ht := pairOn_take (turnB d m) (digs m 4 4) 4
  rw [turnB_len] at ht
  rw [hn, hl, putE, ht, turnB_turnB d h3]
theorem putE_inj {d e : List Bool} {m n : Nat} (h : IsE d m) (g : IsE e n) (he : putE d m = putE e n) : d = e := by
  obtain ⟨_, _, _, a1, _, a2⟩ := putE_shape h rfl
  obtain ⟨_, _, _, b1, _, b2⟩ := putE_shape g rfl
  rw [← he, a1] at b1
  subst b1
  rw [← he] at b2
  rw [← a2, b2]
end Go.Proofs.Ytpogedmkmplckaa
