/-
  Plain: which points are struck out, how many; that what is left tells the data.
-/
import Derived.Test.YtnaebllojkodbaaPoints2Plain
namespace Go.Proofs.Ytnaebllojkodbaa
open Go V
attribute [local irreducible] fmul

def bt (w j : Nat) : Bool := w.testBit j
def goneK (w n k : Nat) : List Bool := (List.range n).map fun j => decide (j < k) && bt w j
theorem goneK_len (w n k : Nat) : (goneK w n k).length = n := by simp [goneK]
theorem goneK_gb {w n k j : Nat} (h : j < n) : gb (goneK w n k) j = (decide (j < k) && bt w j) := by simp [goneK, gb, h]
theorem goneK_zero (w n : Nat) : goneK w n 0 = List.replicate n false := by
  refine List.ext_getElem (by simp [goneK]) fun m h1 h2 => ?_
  simp [goneK]
theorem goneK_step {w n k : Nat} : (goneK w n k).set k (bt w k) = goneK w n (k + 1) := by
  refine List.ext_getElem (by simp [goneK]) fun m h1 h2 => ?_
  have hm : m < n := by simpa [goneK] using h2
  rw [List.getElem_set]
  simp only [goneK, List.getElem_map, List.getElem_range]
  by_cases e : k = m
  · subst e; simp
  · rw [if_neg e, show decide (m < k) = decide (m < k + 1) from by rw [decide_eq_decide]; omega]
def lostK (xs : List Int) (w k : Nat) : List Int := (List.range xs.length).map fun j => if j < k ∧ bt w j = true then -1 else gz xs j
theorem lostK_len (xs : List Int) (w k : Nat) : (lostK xs w k).length = xs.length := by simp [lostK]
theorem lostK_gz {xs : List Int} {w k j : Nat} (h : j < xs.length) : gz (lostK xs w k) j = if j < k ∧ bt w j = true then -1 else gz xs j := by simp [lostK, gz, h]
theorem lostK_zero (xs : List Int) (w : Nat) : lostK xs w 0 = xs := by
  refine List.ext_getElem (by simp [lostK]) fun m h1 h2 => ?_
  simp only [lostK, List.getElem_map, List.getElem_range]
  rw [if_neg (by omega), gz_lt h2]
theorem lostK_yes {xs : List Int} {w k : Nat} (hb : bt w k = true) : (lostK xs w k).set k (-1) = lostK xs w (k + 1) := by
  refine List.ext_getElem (by simp [lostK]) fun m h1 h2 => ?_
  rw [List.getElem_set]
  simp only [lostK, List.getElem_map, List.getElem_range]
  by_cases e : k = m
  · subst e; rw [if_pos rfl, if_pos ⟨by omega, hb⟩]
  · rw [if_neg e]
    by_cases h : m < k ∧ bt w m = true
    · rw [if_pos h, if_pos ⟨by omega, h.2⟩]
    · rw [if_neg h, if_neg (fun h2 => h ⟨by omega, h2.2⟩)]
theorem lostK_no {xs : List Int} {w k : Nat} (hb : bt w k = false) : lostK xs w (k + 1) = lostK xs w k := by
  refine List.ext_getElem (by simp [lostK]) fun m h1 h2 => ?_
  simp only [lostK, List.getElem_map, List.getElem_range]
  by_cases h : m < k ∧ bt w m = true
  · rw [if_pos h, if_pos ⟨by omega, h.2⟩]
  · rw [if_neg h, if_neg]
    rintro ⟨h3, h4⟩
    by_cases e : m = k
    · subst e; rw [hb] at h4; cases h4
    · exact h ⟨by omega, h4⟩
def manyN (w k : Nat) : Nat := ((List.range k).filter fun j => bt w j).length
theorem manyN_succ (w k : Nat) : manyN w (k + 1) = if bt w k = true then manyN w k + 1 else manyN w k := by
  unfold manyN
  rw [List.range_succ, List.filter_append, List.length_append]
  by_cases h : bt w k = true <;> simp [h]
theorem manyN_le (w k : Nat) : manyN w k ≤ k := by
  have := List.length_filter_le (fun j => bt w j) (List.range k)
  rw [List.length_range] at this; exact this
theorem many_there (w n : Nat) : ∀ k, k ≤ n → (there (goneK w n n) k).length + manyN w k = k
  | 0, _ => rfl
  | k + 1, h => by
    have ih := many_there w n k (by omega)
    rw [there_succ, manyN_succ, goneK_gb (by omega), decide_eq_true (show k < n by omega), Bool.true_and]
    by_cases hb : bt w k = true
    · rw [if_pos hb, if_pos hb]; omega
    · rw [if_neg hb, if_neg hb, List.length_append]; simp; omega
/-- what is left of the points tells them -/
theorem lost_good {l : List Nat} {n w j : Nat} (hj : j < n) (hg : gb (goneK w n n) j = false) : gz (lostK (ci (putp n l)) w n) j = (pval l (j + 1) : Int) := by
  have hl : (ci (putp n l)).length = n := by rw [ci_len, putp_len]
  rw [lostK_gz (by omega), if_neg, ci_gz, putp_gn l hj]
  rintro ⟨_, h⟩
  rw [goneK_gb hj, h, decide_eq_true hj] at hg
  cases hg
theorem lost_small {l : List Nat} {n w : Nat} (hs : Small l) (hn : n ≤ 9) (k : Nat) : gz (lostK (ci (putp n l)) w n) k < 16 := by
  have hl : (ci (putp n l)).length = n := by rw [ci_len, putp_len]
  by_cases hk : k < n
  · rw [lostK_gz (by omega)]
    split
    · omega
    · rw [ci_gz, putp_gn l hk]; have := pval_lt (x := k + 1) hs (by omega); omega
  · unfold gz; rw [List.getD_eq_getElem?_getD, List.getElem?_eq_none (by rw [lostK_len]; omega)]; simp
theorem zn_tell {l : List Nat} {zs : List Int} {places : List Nat} (hp : ∀ j ∈ places, j < zs.length) (h9 : zs.length ≤ 9) (hnd : places.Nodup) (hs : ∀ k, gn (zs.map Int.toNat) k < 16) (hl : Small l) (hlen : l.length = places.length) (h16 : l.length ≤ 9) (h : ∀ j ∈ places, gz zs j = (pval l (j + 1) : Int)) : through (zs.map Int.toNat) places = l := by
  refine through_only (fun j hj => by have := hp j hj; omega) hnd hs hl hlen (by omega) fun m hm => ?_
  have h1 := h m hm
  have h2 := hp m hm
  unfold gz at h1
  unfold gn
  simp [h2] at h1 ⊢
  omega
end Go.Proofs.Ytnaebllojkodbaa
