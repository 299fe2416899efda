/-
  Plain: how a list goes through its places, step by step as the program takes them; what is told from what is left.
-/
import Derived.Test.YtnaebllojkodbaaRoots2Plain
namespace Go.Proofs.Ytnaebllojkodbaa
open Go V
attribute [local irreducible] fmul

theorem fcomm {a b : Nat} (ha : a < 16) (hb : b < 16) : fmul a b = fmul b a := fmul_comm ha hb
/-- the next product, as far as it stands after k of its rounds -/
def nxl (own : List Nat) (a k : Nat) : List Nat := (List.range (own.length + 1)).map fun m => (if m < k then fmul (gn own m) a else 0) ^^^ (if 1 ≤ m ∧ m ≤ k then gn own (m - 1) else 0)
theorem nxl_len (own : List Nat) (a k : Nat) : (nxl own a k).length = own.length + 1 := by simp [nxl]
theorem nxl_gn {own : List Nat} {a k m : Nat} (h : m < own.length + 1) : gn (nxl own a k) m = (if m < k then fmul (gn own m) a else 0) ^^^ (if 1 ≤ m ∧ m ≤ k then gn own (m - 1) else 0) := by
  unfold nxl; simp [gn, h]
theorem nxl_zero (own : List Nat) (a : Nat) : nxl own a 0 = List.replicate (own.length + 1) 0 := by
  refine List.ext_getElem (by simp [nxl]) fun m h1 h2 => ?_
  simp only [nxl, List.getElem_map, List.getElem_range, List.getElem_replicate]
  rw [if_neg (show ¬ m < 0 by omega), if_neg (show ¬ (1 ≤ m ∧ m ≤ 0) by omega)]
  rfl
theorem gn_set {l : List Nat} {i m v : Nat} (h : i < l.length) : gn (l.set i v) m = if m = i then v else gn l m := by
  unfold gn
  rw [List.getD_eq_getElem?_getD, List.getD_eq_getElem?_getD, List.getElem?_set]
  by_cases e : i = m
  · subst e; simp [h]
  · rw [if_neg e, if_neg (fun h => e h.symm)]
theorem gn_ext {p q : List Nat} (hl : p.length = q.length) (h : ∀ m, m < p.length → gn p m = gn q m) : p = q := by
  refine List.ext_getElem hl fun m h1 h2 => ?_
  have := h m h1
  rwa [gn_lt h1, gn_lt h2] at this
theorem nxl_step {own : List Nat} {a k : Nat} (hk : k < own.length) : ((nxl own a k).set k (gn (nxl own a k) k ^^^ fmul (gn own k) a)).set (k + 1) (gn ((nxl own a k).set k (gn (nxl own a k) k ^^^ fmul (gn own k) a)) (k + 1) ^^^ gn own k) = nxl own a (k + 1) := by
  refine gn_ext (by simp [nxl_len]) fun m hm => ?_
  have hm : m < own.length + 1 := by simpa [nxl_len] using hm
  rw [gn_set (by simp [nxl_len]; omega), gn_set (by rw [nxl_len]; omega), gn_set (by rw [nxl_len]; omega), nxl_gn hm, nxl_gn hm]
  by_cases e : m = k + 1
  · subst e
    rw [if_pos rfl, if_neg (show ¬ k + 1 = k by omega), nxl_gn (by omega), if_neg (show ¬ k + 1 < k by omega), if_neg (show ¬ (1 ≤ k + 1 ∧ k + 1 ≤ k) by omega), if_neg (show ¬ k + 1 < k + 1 by omega), if_pos (show 1 ≤ k + 1 ∧ k + 1 ≤ k + 1 by omega)]
    simp
  · rw [if_neg e]
    by_cases e2 : m = k
    · subst e2
      rw [if_pos rfl, nxl_gn (by omega), if_neg (show ¬ m < m by omega), if_pos (show m < m + 1 by omega)]
      by_cases h1 : 1 ≤ m
      · rw [if_pos (show 1 ≤ m ∧ m ≤ m by omega), if_pos (show 1 ≤ m ∧ m ≤ m + 1 by omega), Nat.zero_xor, Nat.xor_comm]
      · rw [if_neg (show ¬ (1 ≤ m ∧ m ≤ m) by omega), if_neg (show ¬ (1 ≤ m ∧ m ≤ m + 1) by omega)]; simp
    · rw [if_neg e2]
      by_cases h1 : m < k
      · rw [if_pos h1, if_pos (show m < k + 1 by omega)]
        by_cases h2 : 1 ≤ m
        · rw [if_pos (show 1 ≤ m ∧ m ≤ k by omega), if_pos (show 1 ≤ m ∧ m ≤ k + 1 by omega)]
        · rw [if_neg (show ¬ (1 ≤ m ∧ m ≤ k) by omega), if_neg (show ¬ (1 ≤ m ∧ m ≤ k + 1) by omega)]
      · rw [if_neg h1, if_neg (show ¬ m < k + 1 by omega), if_neg (show ¬ (1 ≤ m ∧ m ≤ k) by omega), if_neg (show ¬ (1 ≤ m ∧ m ≤ k + 1) by omega)]
theorem padd_gn : ∀ {p q : List Nat} {m : Nat}, p.length = q.length → gn (padd p q) m = gn p m ^^^ gn q m
  | [], [], m, _ => by simp [padd, gn]
  | a :: p, b :: q, 0, _ => by simp [padd, gn]
  | a :: p, b :: q, m + 1, h => by
    have ih := padd_gn (p := p) (q := q) (m := m) (by simpa using h)
    simpa [padd, gn] using ih
theorem psc_gn {a m : Nat} {l : List Nat} (h : m < l.length) : gn (psc a l) m = fmul a (gn l m) := by simp [psc, gn, h]
theorem gn_small {l : List Nat} (hs : Small l) (m : Nat) : gn l m < 16 := by
  by_cases h : m < l.length
  · rw [gn_lt h]; exact hs _ (List.getElem_mem h)
  · unfold gn; rw [List.getD_eq_getElem?_getD, List.getElem?_eq_none (by omega)]; simp
theorem gn_app {p q : List Nat} {m : Nat} : gn (p ++ q) m = if m < p.length then gn p m else gn q (m - p.length) := by
  unfold gn
  rw [List.getD_eq_getElem?_getD, List.getD_eq_getElem?_getD, List.getD_eq_getElem?_getD, List.getElem?_append]
  split <;> rfl
theorem nxl_end {own : List Nat} {a : Nat} (ha : a < 16) (hs : Small own) : nxl own a own.length = lmul own a := by
  refine gn_ext (by rw [nxl_len, lmul_len]) fun m hm => ?_
  rw [nxl_len] at hm
  rw [nxl_gn hm]
  unfold lmul
  rw [padd_gn (by simp [psc]), gn_app]
  congr 1
  · have hpl : (psc a own).length = own.length := by simp [psc]
    rw [hpl]
    split
    · rw [psc_gn (by omega)]; exact fcomm (gn_small hs _) ha
    · obtain rfl : m = own.length := by omega
      simp [gn]
  · cases m with
    | zero => simp [gn]
    | succ m => rw [if_pos (by omega)]; simp [gn]
/-- the sum, as far as it stands after k rounds of adding -/
def sml (sum own : List Nat) (s k : Nat) : List Nat := (List.range sum.length).map fun m => gn sum m ^^^ (if m < k then fmul (gn own m) s else 0)
theorem sml_len (sum own : List Nat) (s k : Nat) : (sml sum own s k).length = sum.length := by simp [sml]
theorem sml_gn {sum own : List Nat} {s k m : Nat} (h : m < sum.length) : gn (sml sum own s k) m = gn sum m ^^^ (if m < k then fmul (gn own m) s else 0) := by
  unfold sml; simp [gn, h]
theorem sml_zero (sum own : List Nat) (s : Nat) : sml sum own s 0 = sum := by
  refine gn_ext (sml_len ..) fun m hm => ?_
  rw [sml_len] at hm
  rw [sml_gn hm, if_neg (by omega), Nat.xor_zero]
theorem sml_step {sum own : List Nat} {s k : Nat} (hk : k < sum.length) : (sml sum own s k).set k (gn (sml sum own s k) k ^^^ fmul (gn own k) s) = sml sum own s (k + 1) := by
  refine gn_ext (by simp [sml_len]) fun m hm => ?_
  have hm : m < sum.length := by simpa [sml_len] using hm
  rw [gn_set (by rw [sml_len]; omega), sml_gn hm, sml_gn hm, sml_gn hk]
  by_cases e : m = k
  · subst e; rw [if_pos rfl, if_neg (show ¬ m < m by omega), if_pos (show m < m + 1 by omega), Nat.xor_zero]
  · rw [if_neg e]
    by_cases h : m < k
    · rw [if_pos h, if_pos (by omega)]
    · rw [if_neg h, if_neg (by omega)]
theorem sml_end {sum own : List Nat} {s : Nat} (hl : sum.length = own.length) (hs : s < 16) (ho : Small own) : sml sum own s own.length = padd sum (psc s own) := by
  refine gn_ext (by simp [sml_len, padd, psc, hl]) fun m hm => ?_
  rw [sml_len] at hm
  rw [sml_gn hm, padd_gn (by simp [psc, hl]), if_pos (by omega), psc_gn (by omega), fcomm (gn_small ho _) hs]
theorem small_nxl {own : List Nat} {a k : Nat} (ha : a < 16) (hs : Small own) (m : Nat) : gn (nxl own a k) m < 16 := by
  by_cases h : m < own.length + 1
  · rw [nxl_gn h]
    refine x16 ?_ ?_
    · split
      · exact fmul_lt (gn_small hs _) ha
      · omega
    · split
      · exact gn_small hs _
      · omega
  · unfold gn; rw [List.getD_eq_getElem?_getD, List.getElem?_eq_none (by rw [nxl_len]; omega)]; simp
theorem small_sml {sum own : List Nat} {s k : Nat} (hm : Small sum) (ho : Small own) (hs : s < 16) (m : Nat) : gn (sml sum own s k) m < 16 := by
  by_cases h : m < sum.length
  · rw [sml_gn h]
    refine x16 (gn_small hm _) ?_
    split
    · exact fmul_lt (gn_small ho _) hs
    · omega
  · unfold gn; rw [List.getD_eq_getElem?_getD, List.getElem?_eq_none (by rw [sml_len]; omega)]; simp
theorem ownp_app {i : Nat} {ps own : List Nat} {j : Nat} : ownp i (ps ++ [j]) own = if j = i then ownp i ps own else lmul (ownp i ps own) (j + 1) := by simp [ownp, List.foldl_append]
theorem scp_app {i s : Nat} {ps : List Nat} {j : Nat} : scp i (ps ++ [j]) s = if j = i then scp i ps s else fmul (scp i ps s) (finv ((i + 1) ^^^ (j + 1))) := by simp [scp, List.foldl_append]
theorem take_gn {l : List Nat} {k : Nat} (h : k < l.length) : l.take (k + 1) = l.take k ++ [gn l k] := by
  rw [List.take_add_one, List.getElem?_eq_getElem h, Option.toList_some, gn_lt h]
theorem ownp_len {i : Nat} {places : List Nat} (hnd : places.Nodup) (hi : i ∈ places) (hp : ∀ j ∈ places, j < 15) : (ownp i places [1]).length = places.length := by
  have h := (ownp_facts (i := i) (ps := places) (own := [1]) hp (by simp [Small])).2.1
  have h2 := filter_ne_len hnd hi
  rw [h]; simp at h2 ⊢; omega
theorem ownp_small {i k : Nat} {places : List Nat} (hp : ∀ j ∈ places, j < 15) : Small (ownp i (places.take k) [1]) ∧ (ownp i (places.take k) [1]).length ≤ k + 1 := by
  have h := ownp_facts (i := i) (ps := places.take k) (own := [1]) (fun j hj => hp j (List.mem_of_mem_take hj)) (by simp [Small])
  refine ⟨h.1, ?_⟩
  rw [h.2.1]
  have h2 := List.length_filter_le (fun j => decide (j ≠ i)) (places.take k)
  rw [List.length_take] at h2
  simp; simp at h2; omega
/-- the places that are not lost -/
def there (ls : List Bool) (k : Nat) : List Nat := (List.range k).filter fun i => !gb ls i
theorem there_succ (ls : List Bool) (k : Nat) : there ls (k + 1) = if gb ls k = true then there ls k else there ls k ++ [k] := by
  unfold there
  rw [List.range_succ, List.filter_append]
  by_cases h : gb ls k = true <;> simp [h]
theorem there_mem {ls : List Bool} {k j : Nat} : j ∈ there ls k ↔ j < k ∧ gb ls j = false := by simp [there]
theorem there_len (ls : List Bool) (k : Nat) : (there ls k).length ≤ k := by
  have := List.length_filter_le (fun i => !gb ls i) (List.range k)
  rw [List.length_range] at this; exact this
theorem there_nodup (ls : List Bool) (k : Nat) : (there ls k).Nodup := List.nodup_range.filter _
end Go.Proofs.Ytnaebllojkodbaa
