/-
  Plain: marks of words under checks, how many checks fail, a step that turns one bit.
-/
import Derived.Test.YtjmpkmomlpgbdaaWordsPlain
namespace Go.Proofs.Ytjmpkmomlpgbdaa
open Go V

def badTo (cs : List Nat) (w : Nat) : Nat → Nat := iter (fun i s => s + popc (gn cs i &&& w) % 2) 0
theorem badTo_succ (cs : List Nat) (w k : Nat) : badTo cs w (k + 1) = badTo cs w k + popc (gn cs k &&& w) % 2 := rfl
theorem badTo_le (cs : List Nat) (w : Nat) : ∀ k, badTo cs w k ≤ k
  | 0 => Nat.le_refl _
  | k + 1 => by have := badTo_le cs w k; rw [badTo_succ]; omega
def badN (cs : List Nat) (w : Nat) : Nat := badTo cs w cs.length
def markTo (cs : List Nat) (w : Nat) : Nat → Nat := iter (fun i m => m ||| ((popc (gn cs i &&& w) % 2) <<< i)) 0
theorem markTo_succ (cs : List Nat) (w k : Nat) : markTo cs w (k + 1) = markTo cs w k ||| ((popc (gn cs k &&& w) % 2) <<< k) := rfl
theorem bit_shl_lt {b k : Nat} (hb : b < 2) : b <<< k < 2 ^ (k + 1) := by
  rw [Nat.shiftLeft_eq, Nat.pow_succ, Nat.mul_comm]
  exact Nat.mul_lt_mul_of_pos_left hb (Nat.two_pow_pos k)
theorem markTo_lt (cs : List Nat) (w : Nat) : ∀ k, markTo cs w k < 2 ^ k
  | 0 => Nat.one_pos
  | k + 1 => by
    rw [markTo_succ]
    refine Nat.or_lt_two_pow ?_ (bit_shl_lt (Nat.mod_lt _ (by omega)))
    have := markTo_lt cs w k
    rw [Nat.pow_succ]; omega
def OkR (n : Int) (cs : List Nat) : Prop := OkW n cs ∧ cs.length ≤ 8

def StepR (cs : List Nat) (m w v : Nat) (is : Bool) : Prop :=
  (is = true ∧ ∃ i, i < m ∧ v = w ^^^ (1 <<< i) ∧ badN cs v < badN cs w) ∨ (is = false ∧ v = w ∧ ∀ i, i < m → badN cs w ≤ badN cs (w ^^^ (1 <<< i)))
theorem one_shl_popc {i : Nat} (h : i < 32) : popc (1 <<< i) = 1 := by
  have : (List.range 32).all (fun i => popc (1 <<< i) == 1) = true := by decide +kernel
  exact eq_of_beq (List.all_eq_true.1 this i (List.mem_range.2 h))
theorem one_shl_lt {i m : Nat} (h : i < m) : 1 <<< i < 2 ^ m := by
  rw [Nat.shiftLeft_eq, Nat.one_mul]; exact Nat.pow_lt_pow_right (by omega) h
theorem xor_self_left (a b : Nat) : a ^^^ (a ^^^ b) = b := by rw [← Nat.xor_assoc, Nat.xor_self, Nat.zero_xor]
theorem xor_back (a b : Nat) : (a ^^^ b) ^^^ a = b := by rw [Nat.xor_comm, xor_self_left]
theorem xor_ne {w i : Nat} (h : i < 32) : w ^^^ (1 <<< i) ≠ w := by
  intro e
  have h1 : w ^^^ (w ^^^ (1 <<< i)) = 0 := by rw [e, Nat.xor_self]
  rw [xor_self_left] at h1
  have := one_shl_popc h
  rw [h1] at this
  revert this; decide +kernel
theorem StepR.lt {cs : List Nat} {m w v : Nat} {is : Bool} (h : StepR cs m w v is) (hw : w < 2 ^ m) : v < 2 ^ m := by
  rcases h with ⟨_, i, hi, rfl, _⟩ | ⟨_, rfl, _⟩
  · exact Nat.xor_lt_two_pow hw (one_shl_lt hi)
  · exact hw
theorem StepR.yes {cs : List Nat} {m w v : Nat} {is : Bool} (h : StepR cs m w v is) (hm : m ≤ 12) (hi : is = true) : badN cs v < badN cs w ∧ popc (v ^^^ w) = 1 := by
  rcases h with ⟨_, i, hi, rfl, hb⟩ | ⟨h1, _, _⟩
  · exact ⟨hb, by rw [xor_back]; exact one_shl_popc (by omega)⟩
  · rw [h1] at hi; cases hi
theorem StepR.no {cs : List Nat} {m w v : Nat} {is : Bool} (h : StepR cs m w v is) (hi : is = false) : v = w ∧ ∀ i, i < m → badN cs w ≤ badN cs (w ^^^ (1 <<< i)) := by
  rcases h with ⟨h1, _⟩ | ⟨_, h2, h3⟩
  · rw [h1] at hi; cases hi
  · exact ⟨h2, h3⟩
theorem StepR.still {cs : List Nat} {m w v : Nat} {is : Bool} (h : StepR cs m w v is) (hs : ∀ i, i < m → badN cs w ≤ badN cs (w ^^^ (1 <<< i))) : is = false ∧ v = w := by
  rcases h with ⟨_, i, hi, rfl, hb⟩ | ⟨h1, h2, _⟩
  · have := hs i hi; omega
  · exact ⟨h1, h2⟩
theorem badN_le (cs : List Nat) (w : Nat) (h : cs.length ≤ 8) : badN cs w ≤ 8 := Nat.le_trans (badTo_le cs w _) h
end Go.Proofs.Ytjmpkmomlpgbdaa
