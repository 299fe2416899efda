/-
  Plain: words of at most 32 bits: how many bits are set, which, and when a list of words fits.
-/
import Derived.Test.YtnaebllojkodbaaVbase
namespace Go.Proofs.Ytnaebllojkodbaa
open Go V

/-- may so many bits be, and these words? -/
def OkW (n : Int) (l : List Nat) : Prop := 0 ≤ n ∧ n ≤ 12 ∧ ∀ w ∈ l, w < 2 ^ n.toNat
theorem okW_nil (n : Int) : OkW n [] ↔ 0 ≤ n ∧ n ≤ 12 := by simp [OkW]
theorem okW_cons (n : Int) (x : Nat) (l : List Nat) : OkW n (x :: l) ↔ OkW n l ∧ x < 2 ^ n.toNat := by
  simp only [OkW, List.mem_cons, forall_eq_or_imp]
  constructor
  · rintro ⟨a, b, c, d⟩; exact ⟨⟨a, b, d⟩, c⟩
  · rintro ⟨⟨a, b, d⟩, c⟩; exact ⟨a, b, c, d⟩

/-- how many of the first k bits are set -/
def popTo (w : Nat) : Nat → Nat := iter (fun i s => if w.testBit i = true then s + 1 else s) 0
def popc (w : Nat) : Nat := popTo w 32
theorem popTo_succ (w k : Nat) : popTo w (k + 1) = if w.testBit k = true then popTo w k + 1 else popTo w k := rfl
theorem popTo_le (w k : Nat) : popTo w k ≤ k := by
  induction k with
  | zero => exact Nat.le_refl _
  | succ k ih => rw [popTo_succ]; split <;> omega
theorem popTo_or_and (a b k : Nat) : popTo (a ||| b) k = popTo (a ^^^ b) k + popTo (a &&& b) k := by
  induction k with
  | zero => rfl
  | succ k ih =>
    simp only [popTo_succ, Nat.testBit_or, Nat.testBit_xor, Nat.testBit_and, ih]
    cases a.testBit k <;> cases b.testBit k <;> simp <;> omega

theorem popTo_add (w a : Nat) : ∀ b, popTo w (a + b) = popTo w a + popTo (w >>> a) b := by
  intro b
  induction b with
  | zero => rfl
  | succ b ih =>
    rw [← Nat.add_assoc, popTo_succ, popTo_succ, ih, Nat.testBit_shiftRight]
    split <;> omega
theorem popTo_and (w n : Nat) : ∀ k, k ≤ n → popTo (w &&& (2 ^ n - 1)) k = popTo w k := by
  intro k
  induction k with
  | zero => intro _; rfl
  | succ k ih =>
    intro h
    rw [popTo_succ, popTo_succ, ih (by omega), Nat.testBit_and, Nat.testBit_two_pow_sub_one]
    simp [show k < n from h]
theorem popc_bytes (x : Nat) : popTo (x >>> 24) 8 + popTo ((x >>> 16) &&& 255) 8 + popTo ((x >>> 8) &&& 255) 8 + popTo (x &&& 255) 8 = popc x := by
  have h1 := popTo_add x 8 24
  have h2 := popTo_add (x >>> 8) 8 16
  have h3 := popTo_add (x >>> 16) 8 8
  rw [← Nat.shiftRight_add] at h2 h3
  have e1 := popTo_and x 8 8 (by omega)
  have e2 := popTo_and (x >>> 8) 8 8 (by omega)
  have e3 := popTo_and (x >>> 16) 8 8 (by omega)
  simp only [Nat.reduceAdd, Nat.reducePow, Nat.reduceSub] at h1 h2 h3 e1 e2 e3
  unfold popc
  omega

theorem popTo_tri (x y k : Nat) : popTo (x ^^^ y) k ≤ popTo x k + popTo y k := by
  induction k with
  | zero => exact Nat.le_refl _
  | succ k ih =>
    simp only [popTo_succ, Nat.testBit_xor]
    cases x.testBit k <;> cases y.testBit k <;> simp <;> omega
theorem popTo_zero {x k : Nat} (h : popTo x k = 0) : ∀ j, j < k → x.testBit j = false := by
  induction k with
  | zero => intro j hj; omega
  | succ k ih =>
    rw [popTo_succ] at h
    intro j hj
    cases hb : x.testBit k with
    | true => rw [hb, if_pos rfl] at h; omega
    | false =>
      rw [hb, if_neg (by simp)] at h
      by_cases e : j = k
      · rw [e]; exact hb
      · exact ih h j (by omega)
theorem popTo_of_zero (k : Nat) : popTo 0 k = 0 := by
  induction k with
  | zero => rfl
  | succ k ih => rw [popTo_succ, Nat.zero_testBit, if_neg (by simp)]; exact ih
theorem popc_eq_zero {x : Nat} (h : x < 4294967296) : popc x = 0 ↔ x = 0 := by
  constructor
  · intro h0
    apply Nat.eq_of_testBit_eq
    intro j
    rw [Nat.zero_testBit]
    by_cases hj : j < 32
    · exact popTo_zero h0 j hj
    · exact Nat.testBit_lt_two_pow (Nat.lt_of_lt_of_le (show x < 2 ^ 32 by omega) (Nat.pow_le_pow_right (by omega) (by omega)))
  · rintro rfl; exact popTo_of_zero 32
theorem xor_eq_zero {a b : Nat} : a ^^^ b = 0 ↔ a = b := by
  constructor
  · intro h
    have : a ^^^ b ^^^ b = 0 ^^^ b := by rw [h]
    rwa [Nat.xor_assoc, Nat.xor_self, Nat.xor_zero, Nat.zero_xor] at this
  · rintro rfl; exact Nat.xor_self a
theorem popc_comm (a b : Nat) : popc (a ^^^ b) = popc (b ^^^ a) := by rw [Nat.xor_comm]
theorem popc_tri (a b c : Nat) : popc (a ^^^ c) ≤ popc (a ^^^ b) + popc (b ^^^ c) := by
  have := popTo_tri (a ^^^ b) (b ^^^ c) 32
  rw [Nat.xor_assoc, ← Nat.xor_assoc b b c, Nat.xor_self, Nat.zero_xor] at this
  exact this
theorem xor_shift (a b c : Nat) : (a ^^^ c) ^^^ (b ^^^ c) = a ^^^ b := by
  rw [Nat.xor_assoc, Nat.xor_comm b c, ← Nat.xor_assoc c c b, Nat.xor_self, Nat.zero_xor]
theorem popc_dist_zero {a b : Nat} (ha : a < 4294967296) (hb : b < 4294967296) : popc (a ^^^ b) = 0 ↔ a = b := by
  rw [popc_eq_zero (by have := Nat.xor_lt_two_pow (n := 32) (x := a) (y := b) (by omega) (by omega); omega), xor_eq_zero]

theorem not_eq_err {b : Bool} {e : Nat} {p : Prop} (h1 : b = true ↔ p) (h2 : e = 0 ↔ p) : decide ((!b) = decide ((e : Int) ≠ 0)) = true := by
  cases b with
  | true =>
    have : e = 0 := h2.2 (h1.1 rfl)
    simp [this]
  | false =>
    have : e ≠ 0 := fun h => by have := h1.2 (h2.1 h); cases this
    simp
    omega

theorem two_pow_32 : (2 : Nat) ^ 32 = 4294967296 := by decide
theorem shl_one_lt {i : Nat} (h : i < 32) : 1 <<< i ≤ 4294967295 := by
  rw [Nat.one_shiftLeft]
  have : 2 ^ i ≤ 2 ^ 31 := Nat.pow_le_pow_right (by omega) (by omega)
  omega
theorem and_two_pow' (w i : Nat) : w &&& 2 ^ i = if w.testBit i = true then 2 ^ i else 0 := by
  apply Nat.eq_of_testBit_eq
  intro j
  rw [Nat.testBit_and, Nat.testBit_two_pow]
  by_cases e : i = j
  · subst e
    cases h : w.testBit i <;> simp
  · cases h : w.testBit i <;> simp [e]
theorem and_shl_ne (w i : Nat) : decide (((w &&& (1 <<< i) : Nat) : Int) ≠ 0) = w.testBit i := by
  rw [Nat.one_shiftLeft, and_two_pow']
  have : 0 < 2 ^ i := Nat.two_pow_pos i
  cases w.testBit i
  · simp
  · simp only [if_true]
    generalize 2 ^ i = r at *
    exact decide_eq_true (by omega)
theorem lt_of_not_shl {m x : Nat} (h : ¬ ((1 <<< m : Nat) : Int) ≤ (x : Int)) : x < 2 ^ m := by
  rw [Nat.one_shiftLeft] at h; omega
theorem not_lt_of_shl {m x : Nat} (h : ((1 <<< m : Nat) : Int) ≤ (x : Int)) : ¬ x < 2 ^ m := by
  rw [Nat.one_shiftLeft] at h; omega
theorem shr_zero {m x : Nat} : x >>> m = 0 ↔ x < 2 ^ m := by
  rw [Nat.shiftRight_eq_div_pow]
  exact Nat.div_eq_zero_iff_lt (Nat.two_pow_pos m)
theorem lt_of_shr {m x : Nat} (h : ¬ (((x >>> m : Nat) : Int) ≠ 0)) : x < 2 ^ m := by
  have : x >>> m = 0 := by omega
  exact shr_zero.1 this
theorem not_lt_of_shr {m x : Nat} (h : ((x >>> m : Nat) : Int) ≠ 0) : ¬ x < 2 ^ m := by
  intro h2; have := shr_zero.2 h2; omega
end Go.Proofs.Ytnaebllojkodbaa
