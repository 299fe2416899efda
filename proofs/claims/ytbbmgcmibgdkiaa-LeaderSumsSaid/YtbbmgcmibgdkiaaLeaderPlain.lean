/-
  Plain: marks are linear; of each mark the lightest word (Slepian).
-/
import Derived.Test.YtbbmgcmibgdkiaaFlipPlain
import Derived.Test.YtbbmgcmibgdkiaaVmap
namespace Go.Proofs.Ytbbmgcmibgdkiaa
open Go V

theorem popTo_xor_par (a b : Nat) : ∀ k, popTo (a ^^^ b) k % 2 = (popTo a k + popTo b k) % 2
  | 0 => rfl
  | k + 1 => by
    have ih := popTo_xor_par a b k
    rw [popTo_succ, popTo_succ, popTo_succ, Nat.testBit_xor]
    cases a.testBit k <;> cases b.testBit k <;> simp <;> omega
theorem par_xor (c a b : Nat) : popc (c &&& (a ^^^ b)) % 2 = (popc (c &&& a) % 2 + popc (c &&& b) % 2) % 2 := by
  rw [Nat.and_xor_distrib_left]
  have := popTo_xor_par (c &&& a) (c &&& b) 32
  unfold popc
  omega
theorem markTo_bit (cs : List Nat) (w j : Nat) : ∀ k, (markTo cs w k).testBit j = (decide (j < k) && decide (popc (gn cs j &&& w) % 2 = 1))
  | 0 => by simp [markTo, iter]
  | k + 1 => by
    rw [markTo_succ, Nat.testBit_or, markTo_bit cs w j k, Nat.testBit_shiftLeft]
    have h2 := Nat.mod_lt (popc (gn cs k &&& w)) (show 0 < 2 by omega)
    by_cases hjk : j < k
    · have h1 : ¬ k ≤ j := by omega
      simp [hjk, h1, show j < k + 1 by omega]
    · by_cases e : j = k
      · subst e
        rcases Nat.mod_two_eq_zero_or_one (popc (gn cs j &&& w)) with h | h <;> simp [h]
      · have h0 : (popc (gn cs k &&& w) % 2).testBit (j - k) = false := Nat.testBit_lt_two_pow (Nat.lt_of_lt_of_le h2 (Nat.pow_le_pow_right (n := 2) (i := 1) (j := j - k) (by omega) (by omega)))
        simp [hjk, h0, show ¬ j < k + 1 by omega]
theorem mark_xor (cs : List Nat) (a b k : Nat) : markTo cs (a ^^^ b) k = markTo cs a k ^^^ markTo cs b k := by
  refine Nat.eq_of_testBit_eq fun j => ?_
  rw [Nat.testBit_xor, markTo_bit, markTo_bit, markTo_bit]
  have := par_xor (gn cs j) a b
  rcases Nat.mod_two_eq_zero_or_one (popc (gn cs j &&& a)) with h1 | h1 <;> rcases Nat.mod_two_eq_zero_or_one (popc (gn cs j &&& b)) with h2 | h2 <;> rw [h1, h2] at this <;> by_cases hj : j < k <;> simp [hj, h1, h2, this]
/-- of each mark the first of the lightest words below k -/
def bestTo (cs : List Nat) : Nat → Nat → Option Nat
  | 0, _ => none
  | k + 1, m => if m = markTo cs k cs.length ∧ ((bestTo cs k m).isSome = false ∨ popc k < popc ((bestTo cs k m).getD 0)) then some k else bestTo cs k m
theorem bestTo_succ (cs : List Nat) (k m : Nat) : bestTo cs (k + 1) m = if m = markTo cs k cs.length ∧ ((bestTo cs k m).isSome = false ∨ popc k < popc ((bestTo cs k m).getD 0)) then some k else bestTo cs k m := rfl
theorem bestTo_none {cs : List Nat} {m : Nat} : ∀ {k : Nat}, bestTo cs k m = none → ∀ w, w < k → markTo cs w cs.length ≠ m
  | 0, _, w, h => by omega
  | k + 1, hb, w, h => by
    unfold bestTo at hb
    split at hb
    · cases hb
    · rename_i hc
      by_cases e : w = k
      · subst e
        intro e2
        exact hc ⟨e2.symm, .inl (by rw [hb]; rfl)⟩
      · exact bestTo_none hb w (by omega)
theorem bestTo_some {cs : List Nat} {m x : Nat} : ∀ {k : Nat}, bestTo cs k m = some x → x < k ∧ markTo cs x cs.length = m ∧ ∀ w, w < k → markTo cs w cs.length = m → popc x ≤ popc w
  | 0, hb => by cases hb
  | k + 1, hb => by
    unfold bestTo at hb
    split at hb
    · rename_i hc
      injection hb with hb
      subst hb
      refine ⟨by omega, hc.1.symm, fun w hw hm => ?_⟩
      by_cases e : w = k
      · rw [e]; exact Nat.le_refl _
      · rcases hc.2 with h1 | h1
        · exact absurd hm (bestTo_none (by simpa using h1) w (by omega))
        · cases hy : bestTo cs k m with
          | none => exact absurd hm (bestTo_none hy w (by omega))
          | some y =>
            rw [hy] at h1
            have := (bestTo_some hy).2.2 w (by omega) hm
            simp at h1; omega
    · rename_i hc
      obtain ⟨h1, h2, h3⟩ := bestTo_some hb
      refine ⟨by omega, h2, fun w hw hm => ?_⟩
      by_cases e : w = k
      · subst e
        have := fun h => hc ⟨hm.symm, h⟩
        rw [hb] at this
        simp at this
        omega
      · exact h3 w (by omega) hm
theorem best_self {cs : List Nat} {k w : Nat} (hw : w < k) : ∃ x, bestTo cs k (markTo cs w cs.length) = some x := by
  cases h : bestTo cs k (markTo cs w cs.length) with
  | some x => exact ⟨x, rfl⟩
  | none => exact absurd rfl (bestTo_none h w hw)
/-- the map's function -/
def bestF (cs : List Nat) (k : Nat) : Nat → Option Value := fun m => (bestTo cs k m).map fun x => .int .u32 (x : Int)
theorem bestF_getD (cs : List Nat) (k m : Nat) : (bestF cs k m).getD (.int .u32 0) = .int .u32 (((bestTo cs k m).getD 0 : Nat) : Int) := by
  unfold bestF; cases bestTo cs k m <;> rfl
theorem bestF_isSome (cs : List Nat) (k m : Nat) : (bestF cs k m).isSome = (bestTo cs k m).isSome := by
  unfold bestF; cases bestTo cs k m <;> rfl
theorem bestF_yes {cs : List Nat} {k : Nat} (h : (bestTo cs k (markTo cs k cs.length)).isSome = false ∨ popc k < popc ((bestTo cs k (markTo cs k cs.length)).getD 0)) :
    upd (bestF cs k) (markTo cs k cs.length) (.int .u32 (k : Int)) = bestF cs (k + 1) := by
  funext m
  unfold upd bestF
  by_cases e : m = markTo cs k cs.length
  · rw [if_pos e]
    rw [bestTo_succ, if_pos ⟨e, by rw [e]; exact h⟩]; rfl
  · rw [if_neg e]
    rw [bestTo_succ, if_neg fun h => e h.1]
theorem bestF_no {cs : List Nat} {k : Nat} (h : ¬ ((bestTo cs k (markTo cs k cs.length)).isSome = false ∨ popc k < popc ((bestTo cs k (markTo cs k cs.length)).getD 0))) : bestF cs k = bestF cs (k + 1) := by
  funext m
  unfold bestF
  rw [bestTo_succ, if_neg]
  rintro ⟨e, h2⟩
  rw [e] at h2; exact h h2
theorem bestD_lt (cs : List Nat) (k m : Nat) : (bestTo cs k m).getD 0 ≤ k := by
  cases h : bestTo cs k m with
  | none => simp
  | some x => have := (bestTo_some h).1; simp; omega
end Go.Proofs.Ytbbmgcmibgdkiaa
