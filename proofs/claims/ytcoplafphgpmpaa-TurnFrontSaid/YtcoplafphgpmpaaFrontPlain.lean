/-
  Plain: what stands at a place comes to the front (Bentley; Sleator; Tarjan; Wei).
-/
import Derived.Test.YtcoplafphgpmpaaVheap
namespace Go.Proofs.Ytcoplafphgpmpaa
open Go V

def toFront (l : List Nat) (i : Nat) : List Nat := gn l i :: (l.take i ++ l.drop (i + 1))
theorem toFront_perm {l : List Nat} {i : Nat} (h : i < l.length) : (toFront l i).Perm l := by
  unfold toFront
  rw [gn_lt h]
  have h1 : l = l.take i ++ l[i] :: l.drop (i + 1) := by rw [List.getElem_cons_drop]; exact (List.take_append_drop i l).symm
  conv => rhs; rw [h1]
  exact List.perm_middle.symm
theorem toFront_len {l : List Nat} {i : Nat} (h : i < l.length) : (toFront l i).length = l.length := (toFront_perm h).length_eq
theorem toFront_zero (l : List Nat) (i : Nat) : gn (toFront l i) 0 = gn l i := by simp [toFront, gn]
theorem toFront_cells {l : List Nat} {i : Nat} (h : i < l.length) : (l.take 1 ++ (l.take i).take (i + 1 - 1) ++ l.drop (1 + Nat.min i (i + 1 - 1))).set 0 (gn l i) = toFront l i := by
  cases l with
  | nil => simp at h
  | cons a l =>
    unfold toFront
    rw [Nat.add_sub_cancel, show Nat.min i i = i from Nat.min_self i, Nat.add_comm 1 i]
    simp [List.take_take]
/-- the first place of a byte -/
def idxB (l : List Nat) (b : Nat) : Nat := l.idxOf b
theorem idxB_of {l : List Nat} {b k : Nat} (h : k < l.length) (hk : gn l k = b) (hf : ∀ j, j < k → gn l j ≠ b) : idxB l b = k := by
  unfold idxB
  have h1 : l.idxOf b < l.length := by
    rw [List.idxOf_lt_length_iff, ← hk, gn_lt h]; exact List.getElem_mem h
  have h2 : l[l.idxOf b] = b := List.getElem_idxOf h1
  have h3 : ¬ l.idxOf b < k := fun h4 => hf _ h4 (by rw [gn_lt h1, h2])
  have h4 : ¬ k < l.idxOf b := fun h5 => by
    have := List.not_of_lt_findIdx (p := (· == b)) (xs := l) (i := k) h5
    rw [gn_lt h] at hk
    simp [hk] at this
  omega
theorem idxB_mem {l : List Nat} {b : Nat} (h : b ∈ l) : idxB l b < l.length ∧ gn l (idxB l b) = b := by
  have h1 : l.idxOf b < l.length := List.idxOf_lt_length_iff.2 h
  exact ⟨h1, by unfold idxB; rw [gn_lt h1]; exact List.getElem_idxOf h1⟩

/-- the list behind so many bytes, and the places -/
def LT (t : List Nat) : Nat → List Nat := iter (fun k l => toFront l (idxB l (gn t k))) (List.range 256)
theorem LT_succ (t : List Nat) (k : Nat) : LT t (k + 1) = toFront (LT t k) (idxB (LT t k) (gn t k)) := rfl
def pl (t : List Nat) (k : Nat) : Nat := idxB (LT t k) (gn t k)
def pls (t : List Nat) (k : Nat) : List Nat := (List.range k).map (pl t)
theorem pls_succ (t : List Nat) (k : Nat) : pls t (k + 1) = pls t k ++ [pl t k] := by simp [pls, List.range_succ]
theorem pls_len (t : List Nat) (k : Nat) : (pls t k).length = k := by simp [pls]
theorem pls_gn (t : List Nat) {k n : Nat} (h : k < n) : gn (pls t n) k = pl t k := by simp [pls, gn, h]
theorem gn_256 {t : List Nat} (h : ∀ b ∈ t, b < 256) (k : Nat) : gn t k < 256 := by
  unfold gn
  by_cases hk : k < t.length
  · rw [List.getD_eq_getElem?_getD, List.getElem?_eq_getElem hk]; exact h _ (List.getElem_mem hk)
  · rw [List.getD_eq_getElem?_getD, List.getElem?_eq_none (by omega)]; simp
theorem LT_perm {t : List Nat} (h : ∀ b ∈ t, b < 256) : ∀ k, (LT t k).Perm (List.range 256)
  | 0 => List.Perm.refl _
  | k + 1 => by
    have ih := LT_perm h k
    have hm : gn t k ∈ LT t k := ih.mem_iff.2 (List.mem_range.2 (gn_256 h k))
    exact (toFront_perm (idxB_mem hm).1).trans ih
theorem LT_len {t : List Nat} (h : ∀ b ∈ t, b < 256) (k : Nat) : (LT t k).length = 256 := by rw [(LT_perm h k).length_eq, List.length_range]
theorem LT_mem {t : List Nat} (h : ∀ b ∈ t, b < 256) (k : Nat) {b : Nat} (hb : b < 256) : b ∈ LT t k := (LT_perm h k).mem_iff.2 (List.mem_range.2 hb)
theorem pl_lt {t : List Nat} (h : ∀ b ∈ t, b < 256) (k : Nat) : pl t k < 256 := by
  have := (idxB_mem (LT_mem h k (gn_256 h k))).1
  rw [LT_len h] at this; exact this
theorem pl_gn {t : List Nat} (h : ∀ b ∈ t, b < 256) (k : Nat) : gn (LT t k) (pl t k) = gn t k := (idxB_mem (LT_mem h k (gn_256 h k))).2
theorem LT_zero {t : List Nat} (h : ∀ b ∈ t, b < 256) (k : Nat) : gn (LT t (k + 1)) 0 = gn t k := by rw [LT_succ, toFront_zero]; exact pl_gn h k
theorem pl_zero {t : List Nat} (h : ∀ b ∈ t, b < 256) {k : Nat} (hk : 0 < k) : pl t k = 0 ↔ gn t k = gn t (k - 1) := by
  obtain ⟨j, rfl⟩ : ∃ j, k = j + 1 := ⟨k - 1, by omega⟩
  rw [Nat.add_sub_cancel]
  constructor
  · intro e
    have := pl_gn h (j + 1)
    rw [e, LT_zero h] at this; exact this.symm
  · intro e
    unfold pl
    refine idxB_of (by rw [LT_len h]; omega) (by rw [LT_zero h, e]) (fun j hj => by omega)
/-- back: the list behind so many places, and the bytes -/
def LU (ps : List Nat) : Nat → List Nat := iter (fun k l => toFront l (gn ps k)) (List.range 256)
theorem LU_succ (ps : List Nat) (k : Nat) : LU ps (k + 1) = toFront (LU ps k) (gn ps k) := rfl
def ubs (ps : List Nat) (k : Nat) : List Nat := (List.range k).map fun j => gn (LU ps (j + 1)) 0
theorem ubs_succ (ps : List Nat) (k : Nat) : ubs ps (k + 1) = ubs ps k ++ [gn (LU ps (k + 1)) 0] := by simp [ubs, List.range_succ]
theorem ubs_len (ps : List Nat) (k : Nat) : (ubs ps k).length = k := by simp [ubs]
theorem LU_len {ps : List Nat} (h : ∀ k, gn ps k < 256) : ∀ k, (LU ps k).length = 256
  | 0 => by simp [LU, iter]
  | k + 1 => by rw [LU_succ, toFront_len (by rw [LU_len h k]; exact h k), LU_len h k]
theorem LU_LT (t : List Nat) {n : Nat} : ∀ {k : Nat}, k ≤ n → LU (pls t n) k = LT t k
  | 0, _ => rfl
  | k + 1, h => by rw [LU_succ, LU_LT t (by omega), pls_gn t (by omega)]; rfl
theorem pls_256 {t : List Nat} (h : ∀ b ∈ t, b < 256) (n k : Nat) : gn (pls t n) k < 256 := by
  by_cases hk : k < n
  · rw [pls_gn t hk]; exact pl_lt h k
  · unfold gn; rw [List.getD_eq_getElem?_getD, List.getElem?_eq_none (by rw [pls_len]; omega)]; simp
theorem front_back {t : List Nat} (h : ∀ b ∈ t, b < 256) : ubs (pls t t.length) t.length = t := by
  refine gn_eq_of (ubs_len _ _) fun k hk => ?_
  rw [ubs_len] at hk
  have : gn (ubs (pls t t.length) t.length) k = gn (LU (pls t t.length) (k + 1)) 0 := by simp [ubs, gn, hk]
  rw [this, LU_LT t (by omega), LT_zero h]
end Go.Proofs.Ytcoplafphgpmpaa
