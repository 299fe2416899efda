/-
  Plain: points of which some are wrong: at most one polynomial fits; some choice of places tells it; all choices in turn.
-/
import Derived.Test.YtnaebllojkodbaaPoints3Plain
namespace Go.Proofs.Ytnaebllojkodbaa
open Go V

/-- at how many of the first places two lists differ -/
def offT (a b : List Nat) (k : Nat) : Nat := ((List.range k).filter fun i => decide (gn a i ≠ gn b i)).length
theorem offT_succ (a b : List Nat) (k : Nat) : offT a b (k + 1) = offT a b k + if gn a k ≠ gn b k then 1 else 0 := by
  unfold offT
  rw [List.range_succ, List.filter_append, List.length_append]
  by_cases h : gn a k = gn b k <;> simp [h]
theorem offT_le (a b : List Nat) : ∀ k, offT a b k ≤ k
  | 0 => Nat.le_refl _
  | k + 1 => by
    have := offT_le a b k
    rw [offT_succ]; split <;> omega
/-- where two lists are as a third one says -/
def both (a b x : List Nat) (n : Nat) : List Nat := (List.range n).filter fun i => decide (gn a i = gn x i ∧ gn b i = gn x i)
theorem both_succ (a b x : List Nat) (n : Nat) : (both a b x (n + 1)).length = (both a b x n).length + if gn a n = gn x n ∧ gn b n = gn x n then 1 else 0 := by
  unfold both
  rw [List.range_succ, List.filter_append, List.length_append]
  congr 1
  by_cases h : gn a n = gn x n ∧ gn b n = gn x n
  · rw [if_pos h, List.filter_cons, if_pos (decide_eq_true h)]; rfl
  · rw [if_neg h, List.filter_cons, if_neg (by rw [decide_eq_false h]; decide)]; rfl
theorem both_len (a b x : List Nat) : ∀ n, n ≤ (both a b x n).length + offT a x n + offT b x n
  | 0 => Nat.zero_le _
  | n + 1 => by
    have ih := both_len a b x n
    rw [offT_succ, offT_succ, both_succ]
    by_cases h1 : gn a n = gn x n <;> by_cases h2 : gn b n = gn x n <;> simp only [h1, h2, and_self, and_true, and_false, ne_eq, not_true_eq_false, not_false_eq_true, if_true, if_false] <;> omega
theorem right_len (a x : List Nat) : ∀ n, (both a a x n).length + offT a x n = n
  | 0 => rfl
  | n + 1 => by
    have ih := right_len a x n
    rw [offT_succ, both_succ]
    by_cases h1 : gn a n = gn x n <;> simp only [h1, and_self, ne_eq, not_true_eq_false, not_false_eq_true, if_true, if_false] <;> omega
/-- a choice of places, in order -/
structure Ch (n k : Nat) (ps : List Nat) : Prop where
  inc : ps.Pairwise (· < ·)
  len : ps.length = k
  lt : ∀ j ∈ ps, j < n
theorem Ch.nodup {n k : Nat} {ps : List Nat} (h : Ch n k ps) : ps.Nodup := h.inc.imp fun {a b} hab e => by omega
/-- there are so many right places -/
theorem right_places {a x : List Nat} {n k : Nat} (h : offT a x n + k ≤ n) : ∃ ps, Ch n k ps ∧ ∀ j ∈ ps, gn a j = gn x j := by
  have h2 := right_len a x n
  have hsub : ((both a a x n).take k).Sublist (List.range n) := (List.take_sublist _ _).trans List.filter_sublist
  refine ⟨(both a a x n).take k, ⟨List.pairwise_lt_range.sublist hsub, by rw [List.length_take]; omega, fun j hj => List.mem_range.1 (hsub.subset hj)⟩, fun j hj => ?_⟩
  have := (List.mem_filter.1 (List.mem_of_mem_take hj)).2
  exact (of_decide_eq_true this).1
/-- all choices that go on from here have come -/
def Cov (n k : Nat) (l : List Nat) (from_ : Nat) (ys : List (List Nat)) : Prop := ∀ qs : List Nat, qs.Pairwise (· < ·) → (∀ q ∈ qs, from_ ≤ q ∧ q < n) → (l ++ qs).length = k → l ++ qs ∈ ys
theorem Cov.full {n k : Nat} {l : List Nat} {f : Nat} {ys : List (List Nat)} (hl : l.length = k) (h : l ∈ ys) : Cov n k l f ys := fun qs _ _ hk => by
  have : qs = [] := List.length_eq_zero_iff.1 (by rw [List.length_append] at hk; omega)
  rw [this, List.append_nil]; exact h
/-- .. with a first one below i -/
def CovTo (n k : Nat) (l : List Nat) (from_ i : Nat) (ys : List (List Nat)) : Prop := ∀ q qs, (q :: qs).Pairwise (· < ·) → (∀ x ∈ q :: qs, from_ ≤ x ∧ x < n) → (l ++ q :: qs).length = k → q < i → l ++ q :: qs ∈ ys
theorem CovTo.zero {n k : Nat} {l : List Nat} {f : Nat} {ys : List (List Nat)} : CovTo n k l f f ys := fun q qs _ h _ hq => by
  have := (h q (by simp)).1; omega
theorem CovTo.step {n k : Nat} {l : List Nat} {f i : Nat} {ys zs : List (List Nat)} (h : CovTo n k l f i ys) (h2 : Cov n k (l ++ [i]) (i + 1) zs) (hz : ∀ y ∈ ys, y ∈ zs) : CovTo n k l f (i + 1) zs := fun q qs hp hq hk hi => by
  by_cases e : q = i
  · subst e
    have h3 := List.pairwise_cons.1 hp
    have := h2 qs h3.2 (fun x hx => ⟨h3.1 x hx, (hq x (List.mem_cons_of_mem _ hx)).2⟩) (by rw [List.append_assoc]; exact hk)
    rwa [List.append_assoc] at this
  · exact hz _ (h q qs hp hq hk (by omega))
theorem CovTo.all {n k : Nat} {l : List Nat} {f i : Nat} {ys : List (List Nat)} (h : CovTo n k l f i ys) (hl : l.length < k) (hi : n ≤ i) : Cov n k l f ys := fun qs hp hq hk => by
  cases qs with
  | nil => rw [List.append_nil] at hk; omega
  | cons q qs => exact h q qs hp hq hk (by have := (hq q (by simp)).2; omega)
theorem Cov.ch {n k : Nat} {ys : List (List Nat)} (h : Cov n k [] 0 ys) {ps : List Nat} (hc : Ch n k ps) : ps ∈ ys := by
  have := h ps hc.inc (fun q hq => ⟨Nat.zero_le _, hc.lt q hq⟩) (by rw [List.nil_append]; exact hc.len)
  rwa [List.nil_append] at this
/-- at most one polynomial has so few errors -/
theorem one_fits {p q x : List Nat} {n k : Nat} (hn : n ≤ 9) (hk : k ≤ n) (hp : Small p) (hq : Small q) (lp : p.length = k) (lq : q.length = k) (h1 : 2 * offT (putp n p) x n ≤ n - k) (h2 : 2 * offT (putp n q) x n ≤ n - k) : p = q := by
  have hb := both_len (putp n p) (putp n q) x n
  refine poly_same (lp.trans lq.symm) (by omega) hp hq (xs := (both (putp n p) (putp n q) x n).map (· + 1)) ?_ (by rw [List.length_map]; omega) fun z hz => ?_
  · unfold List.Nodup
    rw [List.pairwise_map]
    have hnd : (both (putp n p) (putp n q) x n).Nodup := List.nodup_range.filter _
    exact hnd.imp fun {a b} hab e => hab (by omega)
  · obtain ⟨j, hj, rfl⟩ := List.mem_map.1 hz
    obtain ⟨hr, hd⟩ := List.mem_filter.1 hj
    have hr := List.mem_range.1 hr
    obtain ⟨e1, e2⟩ := of_decide_eq_true hd
    rw [putp_gn _ hr] at e1
    rw [putp_gn _ hr] at e2
    exact ⟨by omega, e1.trans e2.symm⟩
end Go.Proofs.Ytnaebllojkodbaa
