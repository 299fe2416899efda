/-
  Plain: the words of fifteen bits for seven; they differ at five places at least.
-/
import Derived.Test.YtnaebllojkodbaaRestPlain
namespace Go.Proofs.Ytnaebllojkodbaa
open Go V

theorem len465 : bitLen 465 - 1 = 8 := by decide +kernel
theorem ok465 : OkG 465 := ⟨by decide, by decide, by decide⟩
theorem deg465 : Deg 465 8 := by have h := ok465.deg; rw [len465] at h; exact h
def bput (bs : List Bool) : List Bool := putOf 465 8 bs
theorem bput_len (bs : List Bool) : (bput bs).length = bs.length + 8 := putOf_len 465 8 bs
def diffTo (a b : List Bool) : Nat → Nat := iter (fun i n => if gb a i ≠ gb b i then n + 1 else n) 0
theorem diffTo_succ (a b : List Bool) (k : Nat) : diffTo a b (k + 1) = if gb a k ≠ gb b k then diffTo a b k + 1 else diffTo a b k := rfl
theorem diffTo_le (a b : List Bool) : ∀ k, diffTo a b k ≤ k
  | 0 => Nat.le_refl _
  | k + 1 => by have := diffTo_le a b k; rw [diffTo_succ]; split <;> omega
theorem gb_app' (a b : List Bool) (j : Nat) : gb (a ++ b) j = if j < a.length then gb a j else gb b (j - a.length) := by
  unfold gb
  simp only [List.getD_eq_getElem?_getD]
  by_cases h : j < a.length
  · rw [if_pos h, List.getElem?_append_left h]
  · rw [if_neg h, List.getElem?_append_right (by omega)]
def xorB (a b : List Bool) : List Bool := (List.range a.length).map fun i => gb a i != gb b i
theorem xorB_len (a b : List Bool) : (xorB a b).length = a.length := by simp [xorB]
theorem xorB_get (a b : List Bool) (j : Nat) (h : j < a.length) : gb (xorB a b) j = (gb a j != gb b j) := by
  simp [xorB, gb, h]
theorem gb_zeros' (n j : Nat) : gb (zeros n) j = false := by
  unfold gb zeros
  rw [List.getD_eq_getElem?_getD, List.getElem?_replicate]
  split <;> rfl
theorem bput_xor (a b : List Bool) (h : a.length = b.length) (j : Nat) (hj : j < a.length + 8) : gb (bput (xorB a b)) j = (gb (bput a) j != gb (bput b) j) := by
  have hr : restOf 465 8 (xorB a b ++ zeros 8) = restOf 465 8 (a ++ zeros 8) ^^^ restOf 465 8 (b ++ zeros 8) := by
    unfold restOf
    have hl : (xorB a b ++ zeros 8).length = a.length + 8 := by simp [xorB_len, zeros]
    have hl2 : (a ++ zeros 8).length = a.length + 8 := by simp [zeros]
    have hl3 : (b ++ zeros 8).length = a.length + 8 := by simp [zeros, h]
    rw [hl, hl2, hl3]
    refine rest_xor deg465 (n := a.length + 8) (fun i hi => ?_) _ (Nat.le_refl _)
    rw [gb_app', gb_app', gb_app', xorB_len, ← h]
    by_cases hia : i < a.length
    · rw [if_pos hia, if_pos hia, if_pos hia, xorB_get a b i hia]
    · rw [if_neg hia, if_neg hia, if_neg hia, gb_zeros']; rfl
  unfold bput putOf
  rw [gb_app', gb_app', gb_app', xorB_len, ← h]
  by_cases hia : j < a.length
  · rw [if_pos hia, if_pos hia, if_pos hia, xorB_get a b j hia]
  · rw [if_neg hia, if_neg hia, if_neg hia, digs_get _ _ _ _ (by omega), digs_get _ _ _ _ (by omega), digs_get _ _ _ _ (by omega), hr, Nat.testBit_xor]
theorem bose_check : ∀ x, x < 128 → x ≠ 0 → 5 ≤ diffTo (bput (digs x 7 7)) [] 15 := by decide +kernel
theorem diffTo_xor {a b z : List Bool} : ∀ {k : Nat}, (∀ j, j < k → gb z j = (gb a j != gb b j)) → diffTo z [] k = diffTo a b k
  | 0, _ => rfl
  | k + 1, h => by
    have hk := h k (by omega)
    have e0 : gb [] k = false := rfl
    rw [diffTo_succ, diffTo_succ, diffTo_xor (k := k) fun j hj => h j (by omega), hk, e0]
    cases gb a k <;> cases gb b k <;> rfl
theorem bose_far {a b : List Bool} (ha : a.length = 7) (hb : b.length = 7) (hne : a ≠ b) : 5 ≤ diffTo (bput a) (bput b) 15 := by
  have hx : diffTo (bput (xorB a b)) [] 15 = diffTo (bput a) (bput b) 15 := diffTo_xor fun j hj => bput_xor a b (by omega) j (by omega)
  have hz : digs (num (xorB a b)) 7 7 = xorB a b := digs_num (by rw [xorB_len, ha])
  have hlt : num (xorB a b) < 128 := by
    have := numTo_lt (xorB a b) (xorB a b).length
    rw [xorB_len, ha] at this
    unfold num; rw [xorB_len, ha]; exact this
  rw [← hx, ← hz]
  refine bose_check _ hlt fun h0 => hne ?_
  rw [h0] at hz
  refine gb_eq_of (by omega) fun j hj => ?_
  have h1 := xorB_get a b j hj
  rw [← hz, digs_get _ _ _ _ (by omega)] at h1
  simp only [Nat.zero_testBit] at h1
  revert h1
  cases gb a j <;> cases gb b j <;> simp
end Go.Proofs.Ytnaebllojkodbaa
