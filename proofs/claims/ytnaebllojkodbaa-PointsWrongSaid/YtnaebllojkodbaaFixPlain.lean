/-
  Plain: what points.Fix finds, and what the statement asks of it.
-/
import Derived.Test.YtnaebllojkodbaaFixA
namespace Go.Proofs.Ytnaebllojkodbaa
open Go V

theorem dfTo_offT (a b : List Nat) : ∀ k, dfTo (ci a) (ci b) k = offT a b k
  | 0 => rfl
  | k + 1 => by
    rw [dfTo_succ, offT_succ, dfTo_offT a b k, gz_ci, gz_ci]
    by_cases h : gn a k = gn b k
    · rw [if_neg (by omega), if_neg (by simpa using h), Nat.add_zero]
    · rw [if_pos (by omega), if_pos h]
theorem ch_small {n k : Nat} {x ps : List Nat} (hn : n ≤ 9) (hs : Small x) (hC : Ch n k ps) : Small (through x ps) ∧ (through x ps).length = k := by
  have h := through_small (l := x) (places := ps) (fun j hj => by have := hC.lt j hj; omega) hC.nodup (fun j => gn_small hs j)
  exact ⟨h.1, h.2.trans hC.len⟩
/-- few errors: the right choice fits -/
theorem few_fit {n k : Nat} {D x : List Nat} (hn : n ≤ 9) (hk : k ≤ n) (hD : Small D) (hDl : D.length = k) (hs : Small x) (h : 2 * offT (putp n D) x n ≤ n - k) : ∃ ps, Ch n k ps ∧ Fits x n k ps := by
  obtain ⟨ps, hC, hr⟩ := right_places (a := putp n D) (x := x) (n := n) (k := k) (by omega)
  refine ⟨ps, hC, ?_⟩
  have e : through x ps = D := through_only (fun j hj => by have := hC.lt j hj; omega) hC.nodup (fun j => gn_small hs j) hD (hDl.trans hC.len.symm) (by omega) (fun m hm => by
    rw [← hr m hm, putp_gn _ (hC.lt m hm)])
  unfold Fits
  rw [e]; exact h
/-- few errors: what fits is the data -/
theorem few_one {n k : Nat} {D x ps : List Nat} (hn : n ≤ 9) (hk : k ≤ n) (hD : Small D) (hDl : D.length = k) (hs : Small x) (h : 2 * offT (putp n D) x n ≤ n - k) (hC : Ch n k ps) (hf : Fits x n k ps) : through x ps = D := by
  obtain ⟨h1, h2⟩ := ch_small hn hs hC
  exact one_fits hn hk h1 hD h2 hDl hf h
/-- many errors: what fits is not the data -/
theorem many_not {n k : Nat} {D x ps : List Nat} (h : ¬ 2 * offT (putp n D) x n ≤ n - k) (hf : Fits x n k ps) : through x ps ≠ D := fun e => by
  unfold Fits at hf
  rw [e] at hf
  exact h hf
end Go.Proofs.Ytnaebllojkodbaa
