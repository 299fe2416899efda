/-
  Plain: the lengths of a code, and the room that they take.
-/
import Derived.Test.YtbfcmfjdjldepaaPrefixPlain
namespace Go.Proofs.Ytbfcmfjdjldepaa
open Go V

def lensTo (C : Code) (k : Nat) : List Nat := (List.range k).map fun i => (gw C i).length
theorem lensTo_succ (C : Code) (k : Nat) : lensTo C (k + 1) = lensTo C k ++ [(gw C k).length] := by simp [lensTo, List.range_succ]
theorem lensTo_len (C : Code) (k : Nat) : (lensTo C k).length = k := by simp [lensTo]
theorem lensTo_gn (C : Code) {k n : Nat} (h : k < n) : gn (lensTo C n) k = (gw C k).length := by simp [lensTo, gn, h]
theorem lensTo_all (C : Code) : lensTo C C.length = C.map List.length := by
  refine List.ext_getElem (by simp [lensTo]) fun i h1 h2 => ?_
  simp only [lensTo, List.getElem_map, List.getElem_range]
  rw [gw_lt (by simpa using h2)]
def sumTo (ls : List Nat) : Nat → Nat := iter (fun i s => s + 2 ^ (8 - gn ls i)) 0
theorem sumTo_succ (ls : List Nat) (k : Nat) : sumTo ls (k + 1) = sumTo ls k + 2 ^ (8 - gn ls k) := rfl
theorem pow8 {q : Nat} (_h : q ≤ 8) : 1 ≤ 2 ^ (8 - q) ∧ 2 ^ (8 - q) ≤ 256 := ⟨Nat.two_pow_pos _, Nat.pow_le_pow_right (n := 2) (by omega) (show 8 - q ≤ 8 by omega)⟩
theorem sumTo_le (ls : List Nat) : ∀ k, sumTo ls k ≤ 256 * k
  | 0 => Nat.le_refl _
  | k + 1 => by
    have := sumTo_le ls k
    have : 2 ^ (8 - gn ls k) ≤ 256 := Nat.pow_le_pow_right (n := 2) (by omega) (show 8 - gn ls k ≤ 8 by omega)
    rw [sumTo_succ]; omega
theorem sumTo_sum (ls : List Nat) : sumTo ls ls.length = (ls.map fun n => 2 ^ (8 - n)).sum := by
  have key : ∀ k, k ≤ ls.length → sumTo ls k = ((ls.take k).map fun n => 2 ^ (8 - n)).sum := by
    intro k
    induction k with
    | zero => intro _; rfl
    | succ k ih =>
      intro hk
      rw [sumTo_succ, ih (by omega), List.take_add_one, List.getElem?_eq_getElem (by omega), gn_lt (by omega), List.map_append, List.sum_append]
      simp
  have := key ls.length (Nat.le_refl _)
  rwa [List.take_length] at this
theorem sumTo_room (C : Code) : sumTo (lensTo C C.length) C.length = room 8 C := by
  have h := sumTo_sum (lensTo C C.length)
  rw [lensTo_len] at h
  rw [h, lensTo_all, room, List.map_map]; rfl
theorem wrtn_len {C : Code} (h : ∀ w ∈ C, w.length ≤ 8) (l : List Nat) : (wrtn C l).length ≤ 8 * l.length := by
  induction l with
  | nil => simp [wrtn]
  | cons s l ih =>
    rw [wrtn_cons, List.length_append, List.length_cons]
    have : (gw C s).length ≤ 8 := by
      by_cases hs : s < C.length
      · exact h _ (gw_mem hs)
      · unfold gw; rw [List.getD_eq_getElem?_getD, List.getElem?_eq_none (by omega)]; simp
    omega
end Go.Proofs.Ytbfcmfjdjldepaa
