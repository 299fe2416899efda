/-
  Plain: words of as many ones as noughts.
-/
import Derived.Test.YtpogedmkmplckaaDigsPlain
namespace Go.Proofs.Ytpogedmkmplckaa
open Go V

theorem gb_set' (l : List Bool) (a : Nat) (v : Bool) (j : Nat) (h : a < l.length) : gb (l.set a v) j = if j = a then v else gb l j := by
  unfold gb
  simp only [List.getD_eq_getElem?_getD, List.getElem?_set]
  by_cases e : a = j
  · subst e; simp [h]
  · simp [e, Ne.symm e]
def turnB (l : List Bool) : Nat → List Bool := iter (fun i x => x.set i (!gb x i)) l
theorem turnB_succ (l : List Bool) (k : Nat) : turnB l (k + 1) = (turnB l k).set k (!gb (turnB l k) k) := rfl
theorem turnB_len (l : List Bool) : ∀ k, (turnB l k).length = l.length
  | 0 => rfl
  | k + 1 => by rw [turnB_succ, List.length_set, turnB_len l k]
theorem turnB_get (l : List Bool) : ∀ k j, k ≤ l.length → gb (turnB l k) j = if j < k then !gb l j else gb l j
  | 0, j, _ => by rw [if_neg (by omega)]; rfl
  | k + 1, j, h => by
    have hl := turnB_len l k
    rw [turnB_succ, gb_set' _ _ _ _ (by omega), turnB_get l k k (by omega), if_neg (show ¬ k < k by omega), turnB_get l k j (by omega)]
    by_cases e : j = k
    · subst e; rw [if_pos rfl, if_pos (by omega)]
    · rw [if_neg e]
      by_cases h2 : j < k
      · rw [if_pos h2, if_pos (by omega)]
      · rw [if_neg h2, if_neg (by omega)]
theorem turnB_turnB (l : List Bool) {k : Nat} (h : k ≤ l.length) : turnB (turnB l k) k = l := by
  refine gb_eq_of (by rw [turnB_len, turnB_len]) fun j hj => ?_
  rw [turnB_get _ _ _ (by rw [turnB_len]; exact h), turnB_get _ _ _ h]
  split
  · cases gb l j <;> rfl
  · rfl
/-- ones less noughts of the first k -/
def moreTo (l : List Bool) : Nat → Int := iter (fun i s => if gb l i = true then s + 1 else s - 1) 0
theorem moreTo_succ (l : List Bool) (k : Nat) : moreTo l (k + 1) = if gb l k = true then moreTo l k + 1 else moreTo l k - 1 := rfl
def moreOf (l : List Bool) : Int := moreTo l l.length
theorem moreTo_bound (l : List Bool) : ∀ k : Nat, -(k : Int) ≤ moreTo l k ∧ moreTo l k ≤ k
  | 0 => by simp [moreTo, iter]
  | k + 1 => by
    have := moreTo_bound l k
    rw [moreTo_succ]; split <;> omega
theorem moreTo_congr {a b : List Bool} : ∀ {k : Nat}, (∀ j, j < k → gb a j = gb b j) → moreTo a k = moreTo b k
  | 0, _ => rfl
  | k + 1, h => by rw [moreTo_succ, moreTo_succ, moreTo_congr (k := k) fun j hj => h j (by omega), h k (by omega)]
theorem moreTo_turn (l : List Bool) : ∀ n k, n ≤ l.length → k ≤ n → moreTo (turnB l k) n = moreTo l n - 2 * moreTo l k
  | 0, k, _, hk => by obtain rfl : k = 0 := by omega
                      rfl
  | n + 1, k, hn, hk => by
    by_cases e : k = n + 1
    · subst e
      -- all turned
      have key : ∀ j, j ≤ n + 1 → moreTo (turnB l (n + 1)) j = - moreTo l j := by
        intro j
        induction j with
        | zero => intro _; rfl
        | succ j ih =>
          intro hj
          rw [moreTo_succ, moreTo_succ, ih (by omega), turnB_get _ _ _ hn, if_pos (show j < n + 1 by omega)]
          cases gb l j <;> simp <;> omega
      rw [key _ (Nat.le_refl _)]; omega
    · have ih := moreTo_turn l n k (by omega) (by omega)
      rw [moreTo_succ, moreTo_succ, ih, turnB_get _ _ _ (by omega), if_neg (show ¬ n < k by omega)]
      split <;> omega
theorem moreTo_even (l : List Bool) : ∀ k, (moreTo l k - k) % 2 = 0
  | 0 => by simp [moreTo, iter]
  | k + 1 => by
    have := moreTo_even l k
    rw [moreTo_succ]; split <;> omega
/-- somewhere on the way it is nothing -/
theorem even_somewhere (l : List Bool) (he : l.length % 2 = 0) : ∃ k, k ≤ l.length ∧ moreOf (turnB l k) = 0 := by
  have hD : ∀ k, k ≤ l.length → moreOf (turnB l k) = moreOf l - 2 * moreTo l k := fun k hk => by
    unfold moreOf; rw [turnB_len]; exact moreTo_turn l _ k (Nat.le_refl _) hk
  -- T k = moreTo l k runs from 0 to M in steps of one; M is even; it takes M / 2
  have hM := moreTo_even l l.length
  have hM2 : moreOf l % 2 = 0 := by unfold moreOf; omega
  have key : ∀ n, n ≤ l.length → ∀ t : Int, (0 ≤ t ∧ t ≤ moreTo l n ∨ moreTo l n ≤ t ∧ t ≤ 0) → ∃ k, k ≤ n ∧ moreTo l k = t := by
    intro n
    induction n with
    | zero => intro _ t ht; exact ⟨0, Nat.le_refl _, by have h0 : moreTo l 0 = 0 := rfl
                                                        rw [h0] at ht ⊢; omega⟩
    | succ n ih =>
      intro hn t ht
      by_cases e : moreTo l (n + 1) = t
      · exact ⟨n + 1, Nat.le_refl _, e⟩
      · have hs := moreTo_succ l n
        have : 0 ≤ t ∧ t ≤ moreTo l n ∨ moreTo l n ≤ t ∧ t ≤ 0 := by
          split at hs <;> omega
        obtain ⟨k, hk, h⟩ := ih (by omega) t this
        exact ⟨k, by omega, h⟩
  obtain ⟨k, hk, h⟩ := key l.length (Nat.le_refl _) (moreOf l / 2) (by unfold moreOf at hM2 ⊢; omega)
  exact ⟨k, hk, by rw [hD k hk, h]; omega⟩
def onesE (l : List Bool) : Nat → Nat := iter (fun i s => if gb l i = true then s + 1 else s) 0
theorem onesE_succ (l : List Bool) (k : Nat) : onesE l (k + 1) = if gb l k = true then onesE l k + 1 else onesE l k := rfl
theorem onesE_more (l : List Bool) : ∀ k : Nat, 2 * (onesE l k : Int) = moreTo l k + k
  | 0 => rfl
  | k + 1 => by
    have := onesE_more l k
    rw [onesE_succ, moreTo_succ]; split <;> omega
theorem onesE_le (l : List Bool) : ∀ k, onesE l k ≤ k
  | 0 => Nat.le_refl _
  | k + 1 => by have := onesE_le l k; rw [onesE_succ]; split <;> omega
def pairOn (a bs : List Bool) : Nat → List Bool := iter (fun i l => l ++ [gb bs i, !gb bs i]) a
theorem pairOn_succ (a bs : List Bool) (k : Nat) : pairOn a bs (k + 1) = pairOn a bs k ++ [gb bs k, !gb bs k] := rfl
theorem pairOn_len (a bs : List Bool) : ∀ k, (pairOn a bs k).length = a.length + 2 * k
  | 0 => rfl
  | k + 1 => by rw [pairOn_succ, List.length_append, pairOn_len a bs k]; show _ + 2 = _; omega
theorem gb_append' (a b : List Bool) (j : Nat) : gb (a ++ b) j = if j < a.length then gb a j else gb b (j - a.length) := by
  unfold gb
  simp only [List.getD_eq_getElem?_getD]
  by_cases h : j < a.length
  · rw [if_pos h, List.getElem?_append_left h]
  · rw [if_neg h, List.getElem?_append_right (by omega)]
theorem pairOn_more (a bs : List Bool) : ∀ k, moreOf (pairOn a bs k) = moreOf a
  | 0 => rfl
  | k + 1 => by
    have hl := pairOn_len a bs k
    rw [← pairOn_more a bs k, pairOn_succ]
    unfold moreOf
    rw [List.length_append, show [gb bs k, !gb bs k].length = 2 from rfl]
    have h0 : moreTo (pairOn a bs k ++ [gb bs k, !gb bs k]) (pairOn a bs k).length = moreTo (pairOn a bs k) (pairOn a bs k).length := moreTo_congr fun j hj => by rw [gb_append', if_pos hj]
    rw [show (pairOn a bs k).length + 2 = (pairOn a bs k).length + 1 + 1 from rfl, moreTo_succ, moreTo_succ, h0]
    have h1 : gb (pairOn a bs k ++ [gb bs k, !gb bs k]) (pairOn a bs k).length = gb bs k := by rw [gb_append', if_neg (by omega), Nat.sub_self]; rfl
    have h2 : gb (pairOn a bs k ++ [gb bs k, !gb bs k]) ((pairOn a bs k).length + 1) = !gb bs k := by rw [gb_append', if_neg (by omega), Nat.add_sub_cancel_left]; rfl
    rw [h1, h2]
    cases gb bs k <;> simp <;> omega
def putE (d : List Bool) (n : Nat) : List Bool := pairOn (turnB d n) (digs n 4 4) 4
theorem putE_len (d : List Bool) (n : Nat) : (putE d n).length = d.length + 8 := by rw [putE, pairOn_len, turnB_len]
end Go.Proofs.Ytpogedmkmplckaa
