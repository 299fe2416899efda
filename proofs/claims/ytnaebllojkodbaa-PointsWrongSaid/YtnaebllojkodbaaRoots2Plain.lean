/-
  Plain: how many roots; at how many places two lists differ.
-/
import Derived.Test.YtnaebllojkodbaaPointsPlain
namespace Go.Proofs.Ytnaebllojkodbaa
open Go V
attribute [local irreducible] fmul

def rootsN (l : List Nat) (k : Nat) : Nat := ((List.range k).filter fun x => decide (pval l x = 0)).length
theorem rootsN_succ (l : List Nat) (k : Nat) : rootsN l (k + 1) = if pval l k = 0 then rootsN l k + 1 else rootsN l k := by
  unfold rootsN
  rw [List.range_succ, List.filter_append, List.length_append]
  by_cases h : pval l k = 0 <;> simp [h]
theorem rootsN_le (l : List Nat) (k : Nat) : rootsN l k ≤ k := by
  have := List.length_filter_le (fun x => decide (pval l x = 0)) (List.range k)
  rw [List.length_range] at this; exact this
theorem pval_zero {l : List Nat} (h : ∀ c ∈ l, c = 0) {x : Nat} (hx : x < 16) : pval l x = 0 := by
  have : l = List.replicate l.length 0 := List.eq_replicate_of_mem h
  rw [this]; exact pval_zeros hx _
theorem roots_zero {l : List Nat} (h : ∀ c ∈ l, c = 0) : ∀ k, k ≤ 16 → rootsN l k = k
  | 0, _ => rfl
  | k + 1, hk => by rw [rootsN_succ, if_pos (pval_zero h (by omega)), roots_zero h k (by omega)]
theorem roots_few {l : List Nat} (hs : Small l) (h : ¬ ∀ c ∈ l, c = 0) : rootsN l 16 < l.length := by
  refine Classical.byContradiction fun hn => h ?_
  have h16 := rootsN_le l 16
  refine roots_all l.length l rfl (by omega) hs ((List.range 16).filter fun x => decide (pval l x = 0)) (List.nodup_range.filter _) (by show l.length ≤ rootsN l 16; omega) fun x hx => ?_
  obtain ⟨h1, h2⟩ := List.mem_filter.1 hx
  exact ⟨List.mem_range.1 h1, of_decide_eq_true h2⟩
/-- at how many places two lists of numbers are not the same -/
def dfTo (xs ys : List Int) : Nat → Nat := iter (fun i s => if gz xs i ≠ gz ys i then s + 1 else s) 0
theorem dfTo_succ (xs ys : List Int) (k : Nat) : dfTo xs ys (k + 1) = if gz xs k ≠ gz ys k then dfTo xs ys k + 1 else dfTo xs ys k := rfl
theorem dfTo_le (xs ys : List Int) : ∀ k, dfTo xs ys k ≤ k
  | 0 => Nat.le_refl _
  | k + 1 => by have := dfTo_le xs ys k; rw [dfTo_succ]; split <;> omega
def agree (a b : List Nat) (n : Nat) : List Nat := (List.range n).filter fun i => decide (pval a (i + 1) = pval b (i + 1))
def ci (l : List Nat) : List Int := l.map fun x : Nat => (x : Int)
theorem ci_gz (l : List Nat) (k : Nat) : gz (ci l) k = (gn l k : Int) := by
  unfold gz gn ci
  rw [List.getD_eq_getElem?_getD, List.getD_eq_getElem?_getD, List.getElem?_map]
  cases l[k]? <;> rfl
theorem ci_len (l : List Nat) : (ci l).length = l.length := by simp [ci]
theorem nv_ci (l : List Nat) : nv l = iv (ci l) := by simp [nv, iv, ci]
theorem agree_df {a b : List Nat} {n : Nat} : ∀ {k : Nat}, k ≤ n → (agree a b k).length + dfTo (ci (putp n a)) (ci (putp n b)) k = k
  | 0, _ => rfl
  | k + 1, h => by
    have ih := agree_df (a := a) (b := b) (n := n) (k := k) (by omega)
    rw [dfTo_succ, ci_gz, ci_gz, putp_gn a (by omega), putp_gn b (by omega)]
    unfold agree at ih ⊢
    rw [List.range_succ, List.filter_append, List.length_append]
    by_cases e : pval a (k + 1) = pval b (k + 1)
    · rw [if_neg (by omega)]; simp [e]; omega
    · rw [if_pos (by omega)]; simp [e]; omega
theorem far {a b : List Nat} {n : Nat} (hl : a.length = b.length) (hn : n ≤ 9) (ha : Small a) (hb : Small b) (hal : a.length ≤ n) (hne : a ≠ b) : n - dfTo (ci (putp n a)) (ci (putp n b)) n < a.length := by
  have h := agree_df (a := a) (b := b) (n := n) (k := n) (Nat.le_refl _)
  have hlt : (agree a b n).length < a.length := by
    refine Classical.byContradiction fun hc => hne ?_
    refine poly_same hl (by omega) ha hb (xs := (agree a b n).map (· + 1)) (List.pairwise_map.2 ((List.nodup_range.filter _).imp fun h e => h (by omega))) (by simp; omega) fun x hx => ?_
    obtain ⟨i, hi, rfl⟩ := List.mem_map.1 hx
    obtain ⟨h1, h2⟩ := List.mem_filter.1 hi
    have := List.mem_range.1 h1
    exact ⟨by omega, of_decide_eq_true h2⟩
  omega
theorem okF_iff_small {zs : List Int} (h : OkF zs) : Small (zs.map Int.toNat) ∧ iv zs = nv (zs.map Int.toNat) ∧ ci (zs.map Int.toNat) = zs := by
  refine ⟨fun c hc => ?_, ?_, ?_⟩
  · obtain ⟨z, hz, rfl⟩ := List.mem_map.1 hc
    have := h z hz; omega
  · unfold iv nv; rw [List.map_map]
    exact List.map_congr_left fun z hz => by have := h z hz; simp [Int.toNat_of_nonneg this.1]
  · unfold ci; rw [List.map_map]
    conv => rhs; rw [← List.map_id zs]
    exact List.map_congr_left fun z hz => by have := h z hz; simp [Int.toNat_of_nonneg this.1]
theorem toNat_inj {a b : List Int} (ha : OkF a) (hb : OkF b) (h : a.map Int.toNat = b.map Int.toNat) : a = b := by
  rw [← (okF_iff_small ha).2.2, ← (okF_iff_small hb).2.2, h]
def allZ (zs : List Int) (k : Nat) : Bool := (List.range k).all fun j => decide (gz zs j = 0)
theorem allZ_succ (zs : List Int) (k : Nat) : allZ zs (k + 1) = (allZ zs k && decide (gz zs k = 0)) := by simp [allZ, List.range_succ]
theorem allZ_iff {zs : List Int} (hz : OkF zs) : allZ zs zs.length = true ↔ ∀ c ∈ zs.map Int.toNat, c = 0 := by
  unfold allZ
  rw [List.all_eq_true]
  refine ⟨fun h c hc => ?_, fun h j hj => ?_⟩
  · obtain ⟨z, hz2, rfl⟩ := List.mem_map.1 hc
    obtain ⟨j, hj, rfl⟩ := List.getElem_of_mem hz2
    have := of_decide_eq_true (h j (List.mem_range.2 hj))
    rw [gz_lt hj] at this; omega
  · rw [List.mem_range] at hj
    have h1 := h _ (List.mem_map.2 ⟨zs[j], List.getElem_mem hj, rfl⟩)
    have h2 := hz zs[j] (List.getElem_mem hj)
    rw [gz_lt hj]; exact decide_eq_true (by omega)
end Go.Proofs.Ytnaebllojkodbaa
