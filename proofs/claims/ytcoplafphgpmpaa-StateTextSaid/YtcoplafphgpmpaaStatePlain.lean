/-
  Plain: parts, and a text as one number.
-/
import Derived.Test.YtcoplafphgpmpaaVbase
namespace Go.Proofs.Ytcoplafphgpmpaa
open Go V

def sumTo (zs : List Int) : Nat → Int := iter (fun i s => s + gz zs i) 0
theorem sumTo_succ (zs : List Int) (k : Nat) : sumTo zs (k + 1) = sumTo zs k + gz zs k := rfl
def Small (zs : List Int) : Prop := ∀ j, j < zs.length → 0 ≤ gz zs j ∧ gz zs j ≤ 16
theorem sumTo_bound {zs : List Int} : ∀ {k : Nat}, (∀ j, j < k → 0 ≤ gz zs j ∧ gz zs j ≤ 16) → 0 ≤ sumTo zs k ∧ sumTo zs k ≤ 16 * k
  | 0, _ => by simp [sumTo, iter]
  | k + 1, h => by
    have := sumTo_bound (zs := zs) (k := k) (fun j hj => h j (by omega))
    have := h k (by omega)
    rw [sumTo_succ]; omega
theorem sumTo_mono {zs : List Int} (h : Small zs) {i : Nat} : ∀ {k : Nat}, i ≤ k → k ≤ zs.length → sumTo zs i ≤ sumTo zs k
  | 0, hi, _ => by obtain rfl : i = 0 := by omega
                   exact Int.le_refl _
  | k + 1, hi, hk => by
    by_cases e : i = k + 1
    · rw [e]; exact Int.le_refl _
    · have := sumTo_mono h (i := i) (k := k) (by omega) (by omega)
      have := h k (by omega)
      rw [sumTo_succ]; omega
def OkP (zs : List Int) (x : Int) : Prop := zs.length ≤ 8 ∧ Small zs ∧ 1 ≤ sumTo zs zs.length ∧ sumTo zs zs.length ≤ 16 ∧ 0 ≤ x ∧ x ≤ 1099511627776
/-- what comes of putting symbol s to x -/
def putV (zs : List Int) (x : Int) (s : Nat) : Int := x / gz zs s * sumTo zs zs.length + sumTo zs s + x % gz zs s

theorem gz_le_total {zs : List Int} (h : Small zs) {s : Nat} (hs : s < zs.length) : gz zs s ≤ sumTo zs zs.length ∧ sumTo zs s + gz zs s ≤ sumTo zs zs.length := by
  have h1 := sumTo_mono h (show s + 1 ≤ zs.length by omega) (Nat.le_refl _)
  rw [sumTo_succ] at h1
  have h2 := (sumTo_bound (zs := zs) (k := s) (fun j hj => h j (by omega))).1
  omega

theorem put_rises {k T c x y : Int} (hk : 1 ≤ k) (hT : k ≤ T) (hx : 0 ≤ x) (h : x < y) : x / k * T + c + x % k < y / k * T + c + y % k := by
  have e1 := Int.mul_ediv_add_emod x k
  have e2 := Int.mul_ediv_add_emod y k
  have b1 := Int.emod_nonneg x (show k ≠ 0 by omega)
  have b2 := Int.emod_lt_of_pos x (show 0 < k by omega)
  have b3 := Int.emod_nonneg y (show k ≠ 0 by omega)
  have hle : x / k ≤ y / k := Int.ediv_le_ediv (by omega) (by omega)
  generalize x / k = q at *
  generalize y / k = p at *
  generalize x % k = r at *
  generalize y % k = u at *
  by_cases e : q = p
  · subst e; omega
  · have h1 : q + 1 ≤ p := by omega
    have h2 : (q + 1) * T ≤ p * T := Int.mul_le_mul_of_nonneg_right h1 (by omega)
    rw [Int.add_mul] at h2
    omega
theorem put_ge {k T c x : Int} (hk : 1 ≤ k) (hT : k ≤ T) (hx : 0 ≤ x) (hc : 0 ≤ c) : x ≤ x / k * T + c + x % k := by
  have e1 := Int.mul_ediv_add_emod x k
  have hq : 0 ≤ x / k := Int.ediv_nonneg hx (by omega)
  generalize x / k = q at *
  have h2 : q * k ≤ q * T := Int.mul_le_mul_of_nonneg_left hT hq
  rw [Int.mul_comm k q] at e1
  omega
theorem putV_rises {zs : List Int} {x y : Int} {s : Nat} (h : OkP zs x) (hs : s < zs.length) (hk : 1 ≤ gz zs s) (hxy : x < y) : putV zs x s < putV zs y s :=
  put_rises hk (gz_le_total h.2.1 hs).1 h.2.2.2.2.1 hxy
theorem putV_ge {zs : List Int} {x : Int} {s : Nat} (h : OkP zs x) (hs : s < zs.length) (hk : 1 ≤ gz zs s) : x ≤ putV zs x s :=
  put_ge hk (gz_le_total h.2.1 hs).1 h.2.2.2.2.1 (sumTo_bound (fun j hj => h.2.1 j (by omega))).1
theorem putV_parts {zs : List Int} {x : Int} {s : Nat} (h : OkP zs x) (hs : s < zs.length) (hk : 1 ≤ gz zs s) :
    0 ≤ x / gz zs s ∧ x / gz zs s ≤ 1099511627776 ∧ 0 ≤ x / gz zs s * sumTo zs zs.length ∧ x / gz zs s * sumTo zs zs.length ≤ 17592186044416 ∧ 0 ≤ sumTo zs s ∧ sumTo zs s ≤ 16 ∧ 0 ≤ x % gz zs s ∧ x % gz zs s < 16 := by
  have h1 := h.2.2.2.2.1
  have hq : 0 ≤ x / gz zs s := Int.ediv_nonneg h1 (by omega)
  have hq2 : x / gz zs s ≤ x := Int.ediv_le_self _ h1
  have h3 := h.2.2.2.2.2
  have h4 := sumTo_mono h.2.1 (show s ≤ zs.length by omega) (Nat.le_refl _)
  have h5 := (sumTo_bound (zs := zs) (k := s) (fun j hj => h.2.1 j (by omega))).1
  have h6 := h.2.1 s hs
  have h7 := h.2.2.2.1
  have h8 := h.2.2.1
  have h9 := Int.emod_nonneg x (show gz zs s ≠ 0 by omega)
  have h10 := Int.emod_lt_of_pos x (show 0 < gz zs s by omega)
  have h11 : x / gz zs s * sumTo zs zs.length ≤ 1099511627776 * 16 := Int.mul_le_mul (by omega) h7 (by omega) (by omega)
  have h12 : 0 ≤ x / gz zs s * sumTo zs zs.length := Int.mul_nonneg hq (by omega)
  refine ⟨hq, by omega, h12, by omega, h5, by omega, h9, by omega⟩
theorem rises_dec {a b y1 y2 : Int} (r1 : a < b → y1 < y2) (r2 : b < a → y2 < y1) (r3 : a = b → y1 = y2) : Value.bool (decide (decide (a < b) = decide (y1 < y2))) = .bool true := by
  refine congrArg Value.bool (decide_eq_true ?_)
  rw [decide_eq_decide]
  refine ⟨r1, fun h => Classical.byContradiction fun hn => ?_⟩
  rcases Int.lt_or_eq_of_le (show b ≤ a by omega) with h2 | h2
  · have := r2 h2; omega
  · have := r3 h2.symm; omega

end Go.Proofs.Ytcoplafphgpmpaa
