/-
  Plain: what was put is taken again, and the other way round; a text as one number.
-/
import Derived.Test.YtcoplafphgpmpaaStatePlain
namespace Go.Proofs.Ytcoplafphgpmpaa
open Go V

def takeV (zs : List Int) (x : Int) (S : Nat) : Int := x / sumTo zs zs.length * gz zs S + x % sumTo zs zs.length - sumTo zs S
theorem q_unique {T q r x : Int} (hT : 0 < T) (h : x = q * T + r) (h0 : 0 ≤ r) (h1 : r < T) : x / T = q ∧ x % T = r := by
  have e1 : (r + q * T) / T = r / T + q := Int.add_mul_ediv_right _ _ (by omega)
  have e2 : (r + q * T) % T = r % T := Int.add_mul_emod_self_right _ _ _
  rw [h, Int.add_comm (q * T) r, e1, e2, Int.ediv_eq_zero_of_lt h0 h1, Int.emod_eq_of_lt h0 h1]
  omega
theorem take_facts {zs : List Int} {x : Int} {S : Nat} (h : OkP zs x) (hS : S < zs.length) (h1 : sumTo zs S ≤ x % sumTo zs zs.length) (h2 : x % sumTo zs zs.length < sumTo zs (S + 1)) :
    1 ≤ gz zs S ∧ gz zs S ≤ 16 ∧ 0 ≤ x / sumTo zs zs.length ∧ x / sumTo zs zs.length ≤ 1099511627776 ∧ 0 ≤ x / sumTo zs zs.length * gz zs S ∧ x / sumTo zs zs.length * gz zs S ≤ 1099511627776 ∧
      0 ≤ sumTo zs S ∧ sumTo zs S ≤ 16 ∧ 0 ≤ x % sumTo zs zs.length ∧ x % sumTo zs zs.length < 16 ∧ 0 ≤ takeV zs x S ∧ takeV zs x S ≤ x ∧ putV zs (takeV zs x S) S = x := by
  have hx := h.2.2.2.2.1
  have hl := h.2.2.2.2.2
  have hT := h.2.2.1
  have hT2 := h.2.2.2.1
  have g1 := gz_le_total h.2.1 hS
  have g0 := h.2.1 S hS
  have s0 := (sumTo_bound (zs := zs) (k := S) (fun j hj => h.2.1 j (by omega))).1
  rw [sumTo_succ] at h2
  have e1 := Int.mul_ediv_add_emod x (sumTo zs zs.length)
  have m0 := Int.emod_nonneg x (show sumTo zs zs.length ≠ 0 by omega)
  have m1 := Int.emod_lt_of_pos x (show 0 < sumTo zs zs.length by omega)
  have q0 : 0 ≤ x / sumTo zs zs.length := Int.ediv_nonneg hx (by omega)
  have q1 : x / sumTo zs zs.length ≤ x := Int.ediv_le_self _ hx
  unfold putV takeV
  generalize sumTo zs zs.length = T at *
  generalize x / T = q at *
  generalize x % T = r at *
  generalize sumTo zs S = c at *
  generalize gz zs S = k at *
  have hk : 1 ≤ k := by omega
  have p0 : 0 ≤ q * k := Int.mul_nonneg q0 (by omega)
  have p1 : q * k ≤ q * T := Int.mul_le_mul_of_nonneg_left g1.1 q0
  rw [Int.mul_comm T q] at e1
  obtain ⟨u1, u2⟩ := q_unique (T := k) (q := q) (r := r - c) (x := q * k + r - c) (by omega) (by omega) (by omega) (by omega)
  refine ⟨hk, by omega, q0, by omega, p0, by omega, s0, by omega, m0, by omega, by omega, by omega, ?_⟩
  rw [u1, u2]; omega
theorem put_take {zs : List Int} {x : Int} {s S : Nat} (h : OkP zs x) (hs : s < zs.length) (hk : 1 ≤ gz zs s) (hS : S < zs.length)
    (h1 : sumTo zs S ≤ putV zs x s % sumTo zs zs.length) (h2 : putV zs x s % sumTo zs zs.length < sumTo zs (S + 1)) : S = s ∧ takeV zs (putV zs x s) S = x := by
  have hx := h.2.2.2.2.1
  have hT := h.2.2.1
  have g1 := gz_le_total h.2.1 hs
  have e1 := Int.mul_ediv_add_emod x (gz zs s)
  have m0 := Int.emod_nonneg x (show gz zs s ≠ 0 by omega)
  have m1 := Int.emod_lt_of_pos x (show 0 < gz zs s by omega)
  have s0 := (sumTo_bound (zs := zs) (k := s) (fun j hj => h.2.1 j (by omega))).1
  obtain ⟨u1, u2⟩ := q_unique (T := sumTo zs zs.length) (q := x / gz zs s) (r := sumTo zs s + x % gz zs s) (x := putV zs x s) (by omega) (by unfold putV; omega) (by omega) (by omega)
  have hSs : S = s := by
    rcases Nat.lt_trichotomy S s with hlt | he | hgt
    · exfalso
      have := sumTo_mono h.2.1 (show S + 1 ≤ s by omega) (by omega)
      omega
    · exact he
    · exfalso
      have := sumTo_mono h.2.1 (show s + 1 ≤ S by omega) (by omega)
      rw [sumTo_succ] at this
      omega
  subst hSs
  refine ⟨rfl, ?_⟩
  unfold takeV
  rw [u1, u2, Int.mul_comm]
  omega

/-- the number after the last j symbols of the text -/
def txt (zs ys : List Int) : Nat → Int := iter (fun i x => putV zs x (gz ys (ys.length - 1 - i)).toNat) 0
theorem txt_succ (zs ys : List Int) (k : Nat) : txt zs ys (k + 1) = putV zs (txt zs ys k) (gz ys (ys.length - 1 - k)).toNat := rfl
def GoodT (zs ys : List Int) (n : Nat) : Prop := ∀ i, i < n → OkP zs (txt zs ys i) ∧ 0 ≤ gz ys (ys.length - 1 - i) ∧ gz ys (ys.length - 1 - i) < zs.length ∧ 1 ≤ gz zs (gz ys (ys.length - 1 - i)).toNat ∧ txt zs ys (i + 1) ≤ 1099511627776
theorem GoodT.succ {zs ys : List Int} {n : Nat} (h : GoodT zs ys n) (h1 : OkP zs (txt zs ys n) ∧ 0 ≤ gz ys (ys.length - 1 - n) ∧ gz ys (ys.length - 1 - n) < zs.length ∧ 1 ≤ gz zs (gz ys (ys.length - 1 - n)).toNat ∧ txt zs ys (n + 1) ≤ 1099511627776) : GoodT zs ys (n + 1) := by
  intro i hi
  by_cases e : i = n
  · rw [e]; exact h1
  · exact h i (by omega)
theorem GoodT.ok {zs ys : List Int} {n : Nat} (h0 : OkP zs 0) (h : GoodT zs ys n) : ∀ i, i ≤ n → OkP zs (txt zs ys i)
  | 0, _ => h0
  | i + 1, hi => by
    obtain ⟨g1, g2, g3, g4, g5⟩ := h i (by omega)
    have := putV_ge g1 (show (gz ys (ys.length - 1 - i)).toNat < zs.length by omega) g4
    rw [← txt_succ] at this
    exact ⟨g1.1, g1.2.1, g1.2.2.1, g1.2.2.2.1, Int.le_trans g1.2.2.2.2.1 this, g5⟩
theorem iv_take_succ {ys : List Int} {k : Nat} (h : k < ys.length) : iv (ys.take (k + 1)) = iv (ys.take k) ++ [.int .i64 (gz ys k)] := by
  rw [gz_lt h, List.take_succ_eq_append_getElem h, iv, List.map_append]
  rfl
theorem read_step {zs ys : List Int} {k S : Nat} (h : GoodT zs ys ys.length) (hk : k < ys.length) (hS : S < zs.length) (h1 : sumTo zs S ≤ txt zs ys (ys.length - k) % sumTo zs zs.length) (h2 : txt zs ys (ys.length - k) % sumTo zs zs.length < sumTo zs (S + 1)) :
    gz ys k = S ∧ takeV zs (txt zs ys (ys.length - k)) S = txt zs ys (ys.length - (k + 1)) := by
  obtain ⟨i, hi⟩ : ∃ i, ys.length = k + 1 + i := ⟨ys.length - k - 1, by omega⟩
  have e1 : ys.length - k = i + 1 := by omega
  have e2 : ys.length - (k + 1) = i := by omega
  have e3 : ys.length - 1 - i = k := by omega
  rw [e1] at h1 h2 ⊢
  rw [e2]
  obtain ⟨g1, g2, g3, g4, g5⟩ := h i (by omega)
  rw [txt_succ, e3] at h1 h2 ⊢
  rw [e3] at g2 g3 g4
  obtain ⟨f1, f2⟩ := put_take g1 (show (gz ys k).toNat < zs.length by omega) g4 hS h1 h2
  exact ⟨by omega, f2⟩
end Go.Proofs.Ytcoplafphgpmpaa
