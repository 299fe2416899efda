/-
  Plain: a bit filled in by the sum of places.
-/
import Derived.Test.YtpogedmkmplckaaDropPlain
namespace Go.Proofs.Ytpogedmkmplckaa
open Go V

/-- a bit put in at a place -/
def insAt (l : List Bool) (k : Nat) (b : Bool) : List Bool := l.take k ++ b :: l.drop k
theorem insAt_len (l : List Bool) (k : Nat) (b : Bool) : (insAt l k b).length = l.length + 1 := by
  simp only [insAt, List.length_append, List.length_cons, List.length_take, List.length_drop]; omega
theorem insAt_erase (l : List Bool) (k : Nat) (b : Bool) (h : k ≤ l.length) : (insAt l k b).eraseIdx k = l := by
  have hk : (l.take k).length = k := by rw [List.length_take]; omega
  unfold insAt
  rw [List.eraseIdx_append_of_length_le (by omega), hk, Nat.sub_self, List.eraseIdx_cons_zero, List.take_append_drop]
theorem insAt_get (l : List Bool) (k : Nat) (b : Bool) (h : k ≤ l.length) : gb (insAt l k b) k = b := by
  have hk : (l.take k).length = k := by rw [List.length_take]; omega
  unfold insAt gb
  rw [List.getD_eq_getElem?_getD, List.getElem?_append_right (by omega), hk, Nat.sub_self]; rfl
theorem insAt_drop (l : List Bool) (k : Nat) (b : Bool) (h : k ≤ l.length) : (insAt l k b).drop (k + 1) = l.drop k := by
  have hk : (l.take k).length = k := by rw [List.length_take]; omega
  unfold insAt
  rw [List.drop_append, hk, List.drop_eq_nil_of_le (by omega), List.nil_append, Nat.add_sub_cancel_left]; rfl
theorem weigh_insAt (l : List Bool) (k : Nat) (b : Bool) (h : k ≤ l.length) : weigh (insAt l k b) = weigh l + ((if b = true then 1 + k else 0) + onesOf (l.drop k)) := by
  rw [weigh_wsum, weigh_wsum, wsum_erase (insAt l k b) 1 k (by rw [insAt_len]; omega), insAt_erase l k b h, behind, insAt_get l k b h, insAt_drop l k b h]
/-- what lacks -/
def lackOf (a : Int) (w n : Nat) : Int := ((a - (w : Int)).tmod (n + 1) + n + 1).tmod (n + 1)
theorem lackOf_spec (x : List Bool) (i : Nat) (hi : i < x.length) : lackOf (sumOf x) (weigh (x.eraseIdx i)) x.length = (behind 1 x i : Int) := by
  have hb := behind_le x i hi
  have hw : weigh x = weigh (x.eraseIdx i) + behind 1 x i := by rw [weigh_wsum, weigh_wsum]; exact wsum_erase x 1 i hi
  unfold lackOf sumOf
  rw [hw]
  generalize weigh (x.eraseIdx i) = u at *
  generalize behind 1 x i = v at *
  generalize x.length = n at *
  have h1 : (((u + v) % (n + 1) : Nat) : Int) = ((u : Int) + v) % (n + 1) := by simp
  rw [h1]
  have h2 := Int.emod_add_mul_ediv ((u : Int) + v) (n + 1)
  have h0 : ((((u : Int) + v) % (n + 1)) - u).tmod (n + 1) % (n + 1) = (v : Int) % (n + 1) := by
    rw [Int.tmod_eq_emod]
    have e : ((u : Int) + v) % (n + 1) - u = v - (n + 1) * (((u : Int) + v) / (n + 1)) := by omega
    split
    · rw [e]; simp [Int.sub_mul_emod_self_left]
    · have hn : ((((n : Int) + 1).natAbs : Nat) : Int) = (n : Int) + 1 := by omega
      rw [e, hn]; simp [Int.sub_mul_emod_self_left]
  have hlo := Int.lt_tmod_of_pos ((((u : Int) + v) % (n + 1)) - u) (show (0 : Int) < n + 1 by omega)
  rw [Int.tmod_eq_emod_of_nonneg (by omega)]
  rw [show ((((u : Int) + v) % (n + 1) - u).tmod (n + 1) + n + 1) = (((u : Int) + v) % (n + 1) - u).tmod (n + 1) + (n + 1) from by omega, Int.add_emod_right, h0]
  exact Int.emod_eq_of_lt (by omega) (by omega)
theorem behind_case (x : List Bool) (i : Nat) (hi : i < x.length) : (gb x i = false → behind 1 x i ≤ onesOf (x.eraseIdx i)) ∧ (gb x i = true → onesOf (x.eraseIdx i) < behind 1 x i) := by
  have h := ones_erase x i
  have h2 := onesOf_le (x.take i)
  rw [List.length_take] at h2
  constructor
  · intro e; rw [behind, e, h]; simp
  · intro e; rw [behind, e, h]; simp; omega
/-- who has the right sum and leaves the same is it -/
theorem fill_right (x : List Bool) (i k : Nat) (b : Bool) (hi : i < x.length) (hk : k ≤ (x.eraseIdx i).length) (h : (if b = true then 1 + k else 0) + onesOf ((x.eraseIdx i).drop k) = behind 1 x i) : insAt (x.eraseIdx i) k b = x := by
  have hl : (x.eraseIdx i).length + 1 = x.length := by rw [List.length_eraseIdx_of_lt hi]; omega
  have hs : sumOf (insAt (x.eraseIdx i) k b) = sumOf x := by
    unfold sumOf
    rw [weigh_insAt _ _ _ hk, h, insAt_len, hl]
    congr 1
    rw [weigh_wsum, weigh_wsum]; exact (wsum_erase x 1 i hi).symm
  exact drop_apart _ _ k i (by rw [insAt_len]; exact hl) hs (by rw [insAt_len]; omega) hi (insAt_erase _ _ _ hk)
/-- noughts of the first k and ones behind -/
theorem zeros_ones (l : List Bool) (k : Nat) (hk : k ≤ l.length) : (k - onesOf (l.take k)) + onesOf l + 1 = 1 + k + onesOf (l.drop k) := by
  have h := onesOf_append (l.take k) (l.drop k)
  rw [List.take_append_drop] at h
  have h2 := onesOf_le (l.take k)
  rw [List.length_take] at h2
  omega
theorem onesOf_take_succ (l : List Bool) (k : Nat) (h : k < l.length) : onesOf (l.take (k + 1)) = onesOf (l.take k) + (if gb l k = true then 1 else 0) := by
  rw [List.take_succ_eq_append_getElem h, onesOf_append, gb_lt h]
  cases l[k] <;> simp [onesOf]
theorem onesOf_drop_pred (l : List Bool) (k : Nat) (h : k < l.length) : onesOf (l.drop k) = (if gb l k = true then 1 else 0) + onesOf (l.drop (k + 1)) := by
  rw [List.drop_eq_getElem_cons h, onesOf_cons, gb_lt h]
end Go.Proofs.Ytpogedmkmplckaa
