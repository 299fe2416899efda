/-
  Plain: the rest of a text by a polynomial.
-/
import Derived.Test.YtnaebllojkodbaaLenPlain
import Derived.Test.YtnaebllojkodbaaDigsPlain
import Derived.Test.YtnaebllojkodbaaWordsPlain
namespace Go.Proofs.Ytnaebllojkodbaa
open Go V

def stepR (g d r : Nat) (b : Bool) : Nat := if shiftIn r b >>> d = 1 then shiftIn r b ^^^ g else shiftIn r b
def restTo (g d : Nat) (bs : List Bool) : Nat → Nat := iter (fun i r => stepR g d r (gb bs i)) 0
theorem restTo_succ (g d : Nat) (bs : List Bool) (k : Nat) : restTo g d bs (k + 1) = stepR g d (restTo g d bs k) (gb bs k) := rfl
def restOf (g d : Nat) (bs : List Bool) : Nat := restTo g d bs bs.length
def OkG (g : Nat) : Prop := g % 2 = 1 ∧ g ≠ 1 ∧ g < 131072
structure Deg (g d : Nat) : Prop where
  lo : 2 ^ d ≤ g
  hi : g < 2 ^ (d + 1)
  pos : 1 ≤ d
  le : d ≤ 16
theorem OkG.deg {g : Nat} (h : OkG g) : Deg g (bitLen g - 1) := by
  obtain ⟨h1, h2, h3⟩ := h
  have hl := bitLen_is g
  have h17 := bitLen_le (x := g) (k := 17) (by omega)
  have hlo : 2 ≤ bitLen g := by
    refine Classical.byContradiction fun hn => ?_
    have := hl.1
    have hp := Nat.pow_le_pow_right (n := 2) (by omega) (show bitLen g ≤ 1 by omega)
    omega
  refine ⟨?_, ?_, by omega, by omega⟩
  · rcases hl.2 with h | h
    · omega
    · exact h
  · rw [show bitLen g - 1 + 1 = bitLen g by omega]; exact hl.1
theorem Deg.zero_lt {g d : Nat} (h : Deg g d) : 0 < 2 ^ d := Nat.two_pow_pos d

theorem shr_one {s d : Nat} (h : s < 2 ^ (d + 1)) : s >>> d = 1 ↔ s.testBit d = true := by
  rw [Nat.testBit_eq_decide_div_mod_eq, decide_eq_true_iff, Nat.shiftRight_eq_div_pow]
  have : s / 2 ^ d < 2 := by
    rw [Nat.div_lt_iff_lt_mul (Nat.two_pow_pos d), ← Nat.pow_succ']; exact h
  generalize s / 2 ^ d = q at *
  omega
theorem lt_of_bit {s d : Nat} (h : s < 2 ^ (d + 1)) (hb : s.testBit d = false) : s < 2 ^ d := by
  refine Nat.lt_pow_two_of_testBit s fun j hj => ?_
  by_cases e : j = d
  · rw [e]; exact hb
  · exact Nat.testBit_lt_two_pow (Nat.lt_of_lt_of_le h (Nat.pow_le_pow_right (by omega) (by omega)))
theorem Deg.bit {g d : Nat} (h : Deg g d) : g.testBit d = true := by
  rw [← shr_one h.hi, Nat.shiftRight_eq_div_pow]
  exact Nat.div_eq_of_lt_le (by have := h.lo; omega) (by have := h.hi; rw [Nat.pow_succ] at this; omega)
theorem stepR_lt {g d r : Nat} (hg : Deg g d) (b : Bool) (h : r < 2 ^ d) : stepR g d r b < 2 ^ d := by
  have hs := shiftIn_lt b h
  unfold stepR
  split
  · rename_i e
    refine lt_of_bit (Nat.xor_lt_two_pow hs hg.hi) ?_
    rw [Nat.testBit_xor, (shr_one hs).1 e, hg.bit]; rfl
  · rename_i e
    refine lt_of_bit hs ?_
    rw [shr_one hs] at e
    simpa using e
theorem restTo_lt {g d : Nat} (hg : Deg g d) (bs : List Bool) : ∀ k, restTo g d bs k < 2 ^ d
  | 0 => Nat.two_pow_pos d
  | k + 1 => stepR_lt hg _ (restTo_lt hg bs k)
theorem shiftIn_xor (r s : Nat) (a b : Bool) : shiftIn (r ^^^ s) (a != b) = shiftIn r a ^^^ shiftIn s b := by
  refine Nat.eq_of_testBit_eq fun j => ?_
  rw [Nat.testBit_xor, shiftIn_bit, shiftIn_bit, shiftIn_bit]
  split
  · rfl
  · rw [Nat.testBit_xor]
theorem stepR_xor {g d r s : Nat} (a b : Bool) (hr : r < 2 ^ d) (hs : s < 2 ^ d) : stepR g d (r ^^^ s) (a != b) = stepR g d r a ^^^ stepR g d s b := by
  have h1 := shiftIn_lt a hr
  have h2 := shiftIn_lt b hs
  have h3 : shiftIn r a ^^^ shiftIn s b < 2 ^ (d + 1) := Nat.xor_lt_two_pow h1 h2
  unfold stepR
  rw [shiftIn_xor]
  simp only [shr_one h1, shr_one h2, shr_one h3, Nat.testBit_xor]
  cases (shiftIn r a).testBit d <;> cases (shiftIn s b).testBit d <;> simp <;> (apply Nat.eq_of_testBit_eq; intro j; simp only [Nat.testBit_xor]; cases (shiftIn r a).testBit j <;> cases (shiftIn s b).testBit j <;> cases g.testBit j <;> rfl)
theorem rest_xor {g d : Nat} (hg : Deg g d) {a b z : List Bool} {n : Nat} (hz : ∀ j, j < n → gb z j = (gb a j != gb b j)) : ∀ k, k ≤ n → restTo g d z k = restTo g d a k ^^^ restTo g d b k
  | 0, _ => by simp [restTo, iter]
  | k + 1, h => by
    rw [restTo_succ, restTo_succ, restTo_succ, rest_xor hg hz k (by omega), hz k (by omega)]
    exact stepR_xor _ _ (restTo_lt hg a k) (restTo_lt hg b k)
theorem rest_one {g d : Nat} (hg : Deg g d) : restOf g d [true] = 1 := by
  have e : restOf g d [true] = stepR g d 0 true := rfl
  rw [e]
  unfold stepR
  have h1 : shiftIn 0 true = 1 := by decide
  have h2 : ¬ (1 : Nat) >>> d = 1 := by
    rw [Nat.shiftRight_eq_div_pow, Nat.div_eq_of_lt (Nat.one_lt_two_pow (by have := hg.pos; omega))]; omega
  rw [h1, if_neg h2]

/-! ### odd and even -/
theorem popTo_xor_mod (a b : Nat) : ∀ k, popTo (a ^^^ b) k % 2 = (popTo a k + popTo b k) % 2
  | 0 => rfl
  | k + 1 => by
    have := popTo_xor_mod a b k
    rw [popTo_succ, popTo_succ, popTo_succ, Nat.testBit_xor]
    cases a.testBit k <;> cases b.testBit k <;> simp <;> omega
theorem popc_xor_mod (a b : Nat) : popc (a ^^^ b) % 2 = (popc a + popc b) % 2 := popTo_xor_mod a b 32
theorem popTo_shiftIn (r : Nat) (b : Bool) : ∀ k, popTo (shiftIn r b) (k + 1) = popTo r k + b.toNat
  | 0 => by rw [popTo_succ, shiftIn_bit]; cases b <;> rfl
  | k + 1 => by
    rw [popTo_succ, popTo_shiftIn r b k, shiftIn_bit, popTo_succ]
    simp only [Nat.add_one_ne_zero, if_false, Nat.add_sub_cancel]
    split <;> omega
theorem popc_shiftIn {r : Nat} (b : Bool) (h : r < 2 ^ 31) : popc (shiftIn r b) = popc r + b.toNat := by
  have e := popTo_shiftIn r b 31
  have e2 : popTo r (31 + 1) = popTo r 31 := by rw [popTo_succ r 31, Nat.testBit_lt_two_pow h]; rfl
  show popTo (shiftIn r b) (31 + 1) = popTo r (31 + 1) + _
  rw [e, e2]
def onesTo (bs : List Bool) : Nat → Nat := iter (fun i s => if gb bs i = true then s + 1 else s) 0
theorem onesTo_succ (bs : List Bool) (k : Nat) : onesTo bs (k + 1) = if gb bs k = true then onesTo bs k + 1 else onesTo bs k := rfl
theorem onesTo_le (bs : List Bool) : ∀ k, onesTo bs k ≤ k
  | 0 => Nat.le_refl _
  | k + 1 => by have := onesTo_le bs k; rw [onesTo_succ]; split <;> omega
theorem rest_parity {g d : Nat} (hg : Deg g d) (he : popc g % 2 = 0) (bs : List Bool) : ∀ k, popc (restTo g d bs k) % 2 = onesTo bs k % 2
  | 0 => by
    have : popc 0 = 0 := popTo_of_zero 32
    show popc 0 % 2 = 0 % 2
    rw [this]
  | k + 1 => by
    have ih := rest_parity hg he bs k
    have hlt := restTo_lt hg bs k
    have h31 : restTo g d bs k < 2 ^ 31 := Nat.lt_of_lt_of_le hlt (Nat.pow_le_pow_right (by omega) (by have := hg.le; omega))
    have hs := popc_shiftIn (gb bs k) h31
    rw [restTo_succ, onesTo_succ]
    unfold stepR
    cases hb : gb bs k
    · rw [hb] at hs
      have hx := popc_xor_mod (shiftIn (restTo g d bs k) false) g
      simp only [Bool.toNat_false] at hs
      simp only [Bool.false_eq_true, if_false]
      split <;> omega
    · rw [hb] at hs
      have hx := popc_xor_mod (shiftIn (restTo g d bs k) true) g
      simp only [Bool.toNat_true] at hs
      simp only [if_true]
      split <;> omega

/-! ### what is put is had -/
def zeros (n : Nat) : List Bool := List.replicate n false
theorem restOf_foldl (g d : Nat) (bs : List Bool) : restOf g d bs = bs.foldl (stepR g d) 0 := iter_foldl_all (stepR g d) 0 bs
theorem foldl_lt {g d : Nat} (hg : Deg g d) : ∀ (t : List Bool) (r : Nat), r < 2 ^ d → t.foldl (stepR g d) r < 2 ^ d
  | [], r, h => h
  | b :: t, r, h => foldl_lt hg t _ (stepR_lt hg b h)
theorem foldl_xor {g d : Nat} (hg : Deg g d) : ∀ (t : List Bool) (r s : Nat), r < 2 ^ d → s < 2 ^ d → t.foldl (stepR g d) (r ^^^ s) = (zeros t.length).foldl (stepR g d) r ^^^ t.foldl (stepR g d) s
  | [], r, s, _, _ => rfl
  | b :: t, r, s, hr, hs => by
    have h1 := stepR_xor (g := g) false b hr hs
    have hb : (false != b) = b := by cases b <;> rfl
    rw [hb] at h1
    rw [List.foldl_cons, h1, foldl_xor hg t _ _ (stepR_lt hg _ hr) (stepR_lt hg _ hs)]
    rfl
theorem foldl_short {g d : Nat} : ∀ (t : List Bool) (r j : Nat), r < 2 ^ j → j + t.length ≤ d → t.foldl (stepR g d) r = t.foldl shiftIn r
  | [], _, _, _, _ => rfl
  | b :: t, r, j, hr, hj => by
    rw [List.length_cons] at hj
    have h1 := shiftIn_lt b hr
    have h2 : shiftIn r b < 2 ^ d := Nat.lt_of_lt_of_le h1 (Nat.pow_le_pow_right (by omega) (by omega))
    have h3 : stepR g d r b = shiftIn r b := by
      unfold stepR
      rw [if_neg]
      rw [Nat.shiftRight_eq_div_pow, Nat.div_eq_of_lt h2]; omega
    rw [List.foldl_cons, List.foldl_cons, h3]
    exact foldl_short t _ (j + 1) h1 (by omega)
theorem rest_append {g d : Nat} (hg : Deg g d) (a t : List Bool) (ht : t.length = d) : restOf g d (a ++ t) = restOf g d (a ++ zeros d) ^^^ num t := by
  rw [restOf_foldl, restOf_foldl, List.foldl_append, List.foldl_append, num_foldl]
  have h1 := foldl_xor hg t (a.foldl (stepR g d) 0) 0 (foldl_lt hg a 0 (Nat.two_pow_pos d)) (Nat.two_pow_pos d)
  rw [Nat.xor_zero, ht, foldl_short (g := g) (d := d) t 0 0 (by decide) (by omega)] at h1
  exact h1
def putOf (g d : Nat) (bs : List Bool) : List Bool := bs ++ digs (restOf g d (bs ++ zeros d)) d d
theorem restOf_lt {g d : Nat} (hg : Deg g d) (bs : List Bool) : restOf g d bs < 2 ^ d := restTo_lt hg bs _
theorem putOf_len (g d : Nat) (bs : List Bool) : (putOf g d bs).length = bs.length + d := by rw [putOf, List.length_append, digs_len]
theorem rest_put {g d : Nat} (hg : Deg g d) (bs : List Bool) : restOf g d (putOf g d bs) = 0 := by
  unfold putOf
  rw [rest_append hg _ _ (digs_len _ _ _), num_digs (restOf_lt hg _), Nat.xor_self]
theorem put_take_len (g d : Nat) (bs : List Bool) : (putOf g d bs).take ((putOf g d bs).length - d) = bs := by
  rw [putOf_len, Nat.add_sub_cancel, putOf, List.take_left]
theorem put_get {g d : Nat} (hg : Deg g d) {bs : List Bool} (hl : d ≤ bs.length) (h0 : restOf g d bs = 0) : putOf g d (bs.take (bs.length - d)) = bs := by
  have hlen : (bs.drop (bs.length - d)).length = d := by rw [List.length_drop]; omega
  have h1 := rest_append hg (bs.take (bs.length - d)) (bs.drop (bs.length - d)) hlen
  rw [List.take_append_drop, h0] at h1
  have h2 := xor_eq_zero.1 h1.symm
  unfold putOf
  rw [h2, digs_num hlen, List.take_append_drop]
end Go.Proofs.Ytnaebllojkodbaa
