/-
  Plain: the sum of places, Levenshtein's argument on one deletion.
-/
import Derived.Test.YtpogedmkmplckaaVbase
namespace Go.Proofs.Ytpogedmkmplckaa
open Go V

def weighTo (bs : List Bool) : Nat → Nat := iter (fun i s => if gb bs i = true then s + (i + 1) else s) 0
def weigh (bs : List Bool) : Nat := weighTo bs bs.length
theorem weighTo_succ (bs : List Bool) (k : Nat) : weighTo bs (k + 1) = if gb bs k = true then weighTo bs k + (k + 1) else weighTo bs k := rfl
theorem weigh_bound (bs : List Bool) (k : Nat) : weighTo bs k ≤ k * k := by
  induction k with
  | zero => exact Nat.le_refl _
  | succ k ih =>
    rw [weighTo_succ]
    have : (k + 1) * (k + 1) = k * k + 2 * k + 1 := by rw [Nat.add_mul, Nat.mul_add]; omega
    split <;> omega
def sumOf (bs : List Bool) : Nat := weigh bs % (bs.length + 1)
/-- the weights from k on -/
def wsum : Nat → List Bool → Nat
  | _, [] => 0
  | k, x :: l => (if x = true then k else 0) + wsum (k + 1) l

theorem wsum_append (l r : List Bool) : ∀ k, wsum k (l ++ r) = wsum k l + wsum (k + l.length) r := by
  induction l with
  | nil => intro k; simp [wsum]
  | cons x l ih => intro k; simp [wsum, ih]; rw [show k + 1 + l.length = k + (l.length + 1) from by omega]; omega

theorem weighTo_wsum (bs : List Bool) (k : Nat) (h : k ≤ bs.length) : weighTo bs k = wsum 1 (bs.take k) := by
  induction k with
  | zero => simp [weighTo, iter, wsum]
  | succ k ih =>
    have hk : k < bs.length := by omega
    rw [weighTo_succ, ih (by omega), List.take_succ_eq_append_getElem hk, wsum_append, gb_lt hk]
    cases hb : bs[k] <;> simp [wsum, List.length_take, Nat.min_eq_left (Nat.le_of_lt hk)]
    omega
theorem weigh_wsum (bs : List Bool) : weigh bs = wsum 1 bs := by
  unfold weigh
  rw [weighTo_wsum bs _ (Nat.le_refl _), List.take_length]

def onesOf (l : List Bool) : Nat := l.count true
theorem onesOf_cons (x : Bool) (l : List Bool) : onesOf (x :: l) = (if x = true then 1 else 0) + onesOf l := by
  cases x <;> simp [onesOf, Nat.add_comm]
theorem onesOf_append (l r : List Bool) : onesOf (l ++ r) = onesOf l + onesOf r := List.count_append
theorem onesOf_le (l : List Bool) : onesOf l ≤ l.length := List.count_le_length
theorem wsum_succ (l : List Bool) : ∀ k, wsum (k + 1) l = wsum k l + onesOf l := by
  induction l with
  | nil => intro k; rfl
  | cons x l ih => intro k; simp only [wsum, ih, onesOf_cons]; split <;> omega

/-- what the bit at i and those behind it weigh more than without it -/
def behind (k : Nat) (a : List Bool) (i : Nat) : Nat := (if gb a i = true then k + i else 0) + onesOf (a.drop (i + 1))

theorem behind_zero (k : Nat) (x : Bool) (a : List Bool) : behind k (x :: a) 0 = (if x = true then k else 0) + onesOf a := by simp [behind, gb]
theorem behind_succ (k : Nat) (x : Bool) (a : List Bool) (i : Nat) : behind k (x :: a) (i + 1) = behind (k + 1) a i := by
  simp only [behind, gb, List.getD_cons_succ, List.drop_succ_cons]
  rw [show k + 1 + i = k + (i + 1) from by omega]
  rfl

theorem wsum_erase (a : List Bool) : ∀ k i, i < a.length → wsum k a = wsum k (a.eraseIdx i) + behind k a i := by
  induction a with
  | nil => intro k i h; cases h
  | cons x a ih =>
    intro k i h
    cases i with
    | zero => rw [behind_zero, List.eraseIdx_cons_zero]; simp only [wsum]; rw [wsum_succ]; omega
    | succ i =>
      rw [behind_succ, List.eraseIdx_cons_succ]
      simp only [wsum]
      rw [ih (k + 1) i (by simpa using h)]
      omega

theorem behind_le (a : List Bool) (i : Nat) (h : i < a.length) : behind 1 a i ≤ a.length := by
  have := onesOf_le (a.drop (i + 1))
  simp only [List.length_drop] at this
  unfold behind
  split <;> omega

theorem ones_erase (b : List Bool) (j : Nat) : onesOf (b.eraseIdx j) = onesOf (b.take j) + onesOf (b.drop (j + 1)) := by
  rw [List.eraseIdx_eq_take_drop_succ, onesOf_append]

theorem apart_zero (k : Nat) (hk : 1 ≤ k) (b' : List Bool) (j : Nat) (x y : Bool) (h : behind k (x :: y :: b'.eraseIdx j) 0 = behind (k + 1) b' j) :
    x = y ∧ behind (k + 1) (y :: b'.eraseIdx j) 0 = behind (k + 1) b' j := by
  rw [behind_zero, onesOf_cons] at h
  rw [behind_zero]
  have h1 := ones_erase b' j
  have h2 := onesOf_le (b'.take j)
  simp only [List.length_take] at h2
  unfold behind at h ⊢
  cases x <;> cases y <;> cases hb : gb b' j <;> simp [hb] at h ⊢ <;> omega

theorem apart_core : ∀ (n k : Nat), 1 ≤ k → ∀ (a b : List Bool) (i j : Nat), a.length = n → b.length = n → i < n → j < n → a.eraseIdx i = b.eraseIdx j → behind k a i = behind k b j → a = b := by
  intro n
  induction n with
  | zero => intro k _ a b i j _ _ hi; omega
  | succ n ih =>
    intro k hk a b i j ha hb hi hj he ht
    cases a with
    | nil => simp at ha
    | cons x a =>
      cases b with
      | nil => simp at hb
      | cons y b =>
        simp only [List.length_cons, Nat.add_right_cancel_iff] at ha hb
        cases i with
        | zero =>
          cases j with
          | zero =>
            simp only [List.eraseIdx_cons_zero] at he
            subst he
            rw [behind_zero, behind_zero] at ht
            cases x <;> cases y <;> simp at ht ⊢ <;> omega
          | succ j =>
            simp only [List.eraseIdx_cons_zero, List.eraseIdx_cons_succ] at he
            subst he
            rw [behind_succ] at ht
            obtain ⟨hxy, h2⟩ := apart_zero k hk b j x y ht
            have := ih (k + 1) (by omega) (y :: b.eraseIdx j) b 0 j (by simpa using ha) hb (by omega) (by omega) (by simp) h2
            rw [hxy, this]
        | succ i =>
          cases j with
          | zero =>
            simp only [List.eraseIdx_cons_zero, List.eraseIdx_cons_succ] at he
            subst he
            rw [behind_succ] at ht
            obtain ⟨hxy, h2⟩ := apart_zero k hk a i y x ht.symm
            have := ih (k + 1) (by omega) (x :: a.eraseIdx i) a 0 i (by simpa using hb) ha (by omega) (by omega) (by simp) h2
            subst hxy
            rw [this]
          | succ j =>
            simp only [List.eraseIdx_cons_succ, List.cons.injEq] at he
            rw [behind_succ, behind_succ] at ht
            rw [he.1, ih (k + 1) (by omega) a b i j ha hb (by omega) (by omega) he.2 ht]

theorem drop_apart (a b : List Bool) (i j : Nat) (hl : a.length = b.length) (hs : sumOf a = sumOf b) (hi : i < a.length) (hj : j < b.length) (he : a.eraseIdx i = b.eraseIdx j) : a = b := by
  unfold sumOf at hs
  rw [weigh_wsum, weigh_wsum, wsum_erase a 1 i hi, wsum_erase b 1 j hj, he, ← hl] at hs
  have h1 := behind_le a i hi
  have h2 := behind_le b j hj
  have h3 : behind 1 a i = behind 1 b j := by
    have e := Nat.sub_mod_eq_zero_of_mod_eq hs
    rcases Nat.le_total (behind 1 a i) (behind 1 b j) with h | h
    · have e := Nat.sub_mod_eq_zero_of_mod_eq hs.symm
      rw [Nat.add_sub_add_left] at e
      rw [Nat.mod_eq_of_lt (by omega)] at e
      omega
    · rw [Nat.add_sub_add_left] at e
      rw [Nat.mod_eq_of_lt (by omega)] at e
      omega
  exact apart_core a.length 1 (by omega) a b i j rfl hl.symm hi (by omega) he h3
end Go.Proofs.Ytpogedmkmplckaa
