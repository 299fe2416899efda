/-
  Plain: numbers that tell their own length (Elias).
-/
import Derived.Test.YtcoplafphgpmpaaDigsPlain
import Derived.Test.YtcoplafphgpmpaaLenPlain
namespace Go.Proofs.Ytcoplafphgpmpaa
open Go V

theorem bitLen_pos {n : Nat} (h : 1 ≤ n) : 1 ≤ bitLen n := by unfold bitLen; rw [if_neg (by omega)]; omega
theorem bitLen_spec {n : Nat} (h : 1 ≤ n) : 2 ^ (bitLen n - 1) ≤ n ∧ n < 2 ^ bitLen n := by
  have := bitLen_is n
  have hp := bitLen_pos h
  refine ⟨?_, this.1⟩
  rcases this.2 with h2 | h2
  · omega
  · exact h2
theorem isLen_of {n L : Nat} (h1 : 2 ^ L ≤ n) (h2 : n < 2 ^ (L + 1)) : IsLen n (L + 1) := ⟨h2, .inr (by rw [Nat.add_sub_cancel]; exact h1)⟩
def nul (n : Nat) : List Bool := List.replicate n false
theorem gb_nul (n j : Nat) : gb (nul n) j = false := by
  unfold gb nul
  rw [List.getD_eq_getElem?_getD, List.getElem?_replicate]
  split <;> rfl
theorem nul_len (n : Nat) : (nul n).length = n := by simp [nul]
theorem gb_cat (a b : List Bool) (j : Nat) : gb (a ++ b) j = if j < a.length then gb a j else gb b (j - a.length) := by
  unfold gb
  simp only [List.getD_eq_getElem?_getD]
  by_cases h : j < a.length
  · rw [if_pos h, List.getElem?_append_left h]
  · rw [if_neg h, List.getElem?_append_right (by omega)]
theorem gb_take (l : List Bool) (n j : Nat) (h : j < n) : gb (l.take n) j = gb l j := by
  unfold gb; simp [List.getElem?_take, h]
theorem gb_drop (l : List Bool) (n j : Nat) : gb (l.drop n) j = gb l (n + j) := by
  unfold gb; simp [List.getElem?_drop]
/-- zeros, and digits -/
def gam (n : Nat) : List Bool := nul (bitLen n - 1) ++ digs n (bitLen n) (bitLen n)
theorem gam_len {n : Nat} (h : 1 ≤ n) : (gam n).length = 2 * bitLen n - 1 := by
  have := bitLen_pos h
  rw [gam, List.length_append, nul_len, digs_len]; omega
def del (n : Nat) : List Bool := gam (bitLen n) ++ (digs n (bitLen n) (bitLen n)).drop 1
theorem del_len {n : Nat} (h : 1 ≤ n) : (del n).length = 2 * bitLen (bitLen n) - 1 + (bitLen n - 1) := by
  have := bitLen_pos h
  rw [del, List.length_append, gam_len this, List.length_drop, digs_len]
/-- k is the first place of a set bit, and 2 k + 1 bits are there -/
def IsG (l : List Bool) (k : Nat) : Prop := (∀ j, j < k → gb l j = false) ∧ gb l k = true ∧ 2 * k + 1 ≤ l.length
def numG (l : List Bool) (k : Nat) : Nat := num ((l.take (2 * k + 1)).drop k)
theorem numG_len (l : List Bool) (k : Nat) (h : 2 * k + 1 ≤ l.length) : ((l.take (2 * k + 1)).drop k).length = k + 1 := by
  rw [List.length_drop, List.length_take]; omega
theorem num_top {d : List Bool} {k : Nat} (hl : d.length = k + 1) (h : gb d 0 = true) : bitLen (num d) = k + 1 ∧ 1 ≤ num d := by
  have hlt : num d < 2 ^ (k + 1) := by have := numTo_lt d d.length; rw [hl] at this; unfold num; rw [hl]; exact this
  have hb : (num d).testBit k = true := by
    unfold num; rw [hl, numTo_bit, if_pos (by omega), show k + 1 - 1 - k = 0 by omega]; exact h
  have hge : 2 ^ k ≤ num d := Nat.ge_two_pow_of_testBit hb
  exact ⟨bitLen_unique (L := k + 1) (isLen_of hge hlt), Nat.le_trans (Nat.two_pow_pos k) hge⟩
theorem isG_gam {n : Nat} (h : 1 ≤ n) (more : List Bool) : IsG (gam n ++ more) (bitLen n - 1) ∧ numG (gam n ++ more) (bitLen n - 1) = n := by
  have hb := bitLen_pos h
  have hgl := gam_len h
  have hlen : 2 * (bitLen n - 1) + 1 = (gam n).length := by rw [hgl]; omega
  have hspec := bitLen_spec h
  refine ⟨⟨fun j hj => ?_, ?_, ?_⟩, ?_⟩
  · rw [gb_cat, if_pos (by omega), gam, gb_cat, nul_len, if_pos hj, gb_nul]
  · rw [gb_cat, if_pos (by omega), gam, gb_cat, nul_len, if_neg (by omega), Nat.sub_self, digs_get _ _ _ _ (by omega), Nat.sub_zero]
    rw [Nat.testBit_eq_decide_div_mod_eq, decide_eq_true_eq]
    have h2 : 2 ^ bitLen n = 2 * 2 ^ (bitLen n - 1) := by rw [← Nat.pow_succ']; congr 1; omega
    have : n / 2 ^ (bitLen n - 1) = 1 := by
      have h3 : n / 2 ^ (bitLen n - 1) < 2 := Nat.div_lt_of_lt_mul (by rw [Nat.mul_comm, ← h2]; exact hspec.2)
      have h4 : 1 ≤ n / 2 ^ (bitLen n - 1) := (Nat.le_div_iff_mul_le (Nat.two_pow_pos _)).2 (by rw [Nat.one_mul]; exact hspec.1)
      omega
    rw [this]
  · rw [List.length_append]; omega
  · unfold numG
    rw [hlen, List.take_append_of_le_length (Nat.le_refl _), List.take_length, gam, List.drop_append, nul_len, List.drop_eq_nil_of_le (by rw [nul_len]; omega), Nat.sub_self, List.nil_append, List.drop_zero]
    exact num_digs hspec.2
theorem IsG.one {l : List Bool} {j k : Nat} (h : IsG l j) (g : IsG l k) : j = k := by
  rcases Nat.lt_trichotomy j k with hl | e | hl
  · have := g.1 j hl; rw [h.2.1] at this; cases this
  · exact e
  · have := h.1 k hl; rw [g.2.1] at this; cases this
/-- who is read is told as what was read -/
theorem gam_back {l : List Bool} {k : Nat} (h : IsG l k) : gam (numG l k) = l.take (2 * k + 1) ∧ bitLen (numG l k) = k + 1 ∧ 1 ≤ numG l k := by
  obtain ⟨h1, h2, h3⟩ := h
  have hl := numG_len l k h3
  have h0 : gb ((l.take (2 * k + 1)).drop k) 0 = true := by rw [gb_drop, gb_take _ _ _ (by omega)]; exact h2
  obtain ⟨t1, t2⟩ := num_top hl h0
  refine ⟨?_, t1, t2⟩
  unfold numG
  rw [gam, t1, digs_num hl, Nat.add_sub_cancel]
  have e : nul k = (l.take (2 * k + 1)).take k := by
    refine gb_eq_of (by rw [nul_len, List.length_take, List.length_take]; omega) fun j hj => ?_
    rw [nul_len] at hj
    rw [gb_nul, gb_take _ _ _ hj, gb_take _ _ _ (by omega), h1 j hj]
  rw [e, List.take_append_drop]
/-- of a length that was read, and as many digits less one -/
theorem del_back {l : List Bool} {k : Nat} (h : IsG l k) (hl : 2 * k + 1 + (numG l k - 1) ≤ l.length) :
    del (num (true :: (l.drop (2 * k + 1)).take (numG l k - 1))) = l.take (2 * k + 1 + (numG l k - 1)) ∧ bitLen (num (true :: (l.drop (2 * k + 1)).take (numG l k - 1))) = numG l k := by
  obtain ⟨g1, g2, g3⟩ := gam_back h
  generalize hK : numG l k = K at *
  have hd : (true :: (l.drop (2 * k + 1)).take (K - 1)).length = (K - 1) + 1 := by
    rw [List.length_cons, List.length_take, List.length_drop]; omega
  obtain ⟨t1, t2⟩ := num_top hd rfl
  rw [show K - 1 + 1 = K by omega] at t1 hd
  refine ⟨?_, t1⟩
  rw [del, t1, digs_num hd, g1, List.drop_one, List.tail_cons]
  exact List.take_add.symm
theorem isG_del {n : Nat} (h : 1 ≤ n) (more : List Bool) : IsG (del n ++ more) (bitLen (bitLen n) - 1) ∧ numG (del n ++ more) (bitLen (bitLen n) - 1) = bitLen n ∧
    num (true :: ((del n ++ more).drop (2 * (bitLen (bitLen n) - 1) + 1)).take (bitLen n - 1)) = n ∧ 2 * (bitLen (bitLen n) - 1) + 1 + (bitLen n - 1) = (del n).length := by
  have hb := bitLen_pos h
  have hbb := bitLen_pos hb
  have hgl := gam_len hb
  have hspec := bitLen_spec h
  have hg := isG_gam hb ((digs n (bitLen n) (bitLen n)).drop 1 ++ more)
  rw [← List.append_assoc] at hg
  have hlen : 2 * (bitLen (bitLen n) - 1) + 1 = (gam (bitLen n)).length := by rw [hgl]; omega
  refine ⟨hg.1, hg.2, ?_, by rw [del_len h]; omega⟩
  rw [hlen, del, List.append_assoc, List.drop_append_of_le_length (Nat.le_refl _), List.drop_length, List.nil_append]
  have hdl : ((digs n (bitLen n) (bitLen n)).drop 1).length = bitLen n - 1 := by rw [List.length_drop, digs_len]
  rw [List.take_append_of_le_length (by omega), List.take_of_length_le (by omega)]
  have htop : gb (digs n (bitLen n) (bitLen n)) 0 = true := by
    have h1 := (isG_gam h []).1.2.1
    rw [List.append_nil, gam, gb_cat, nul_len, if_neg (by omega), Nat.sub_self] at h1
    exact h1
  have he : true :: (digs n (bitLen n) (bitLen n)).drop 1 = digs n (bitLen n) (bitLen n) := by
    cases hc : digs n (bitLen n) (bitLen n) with
    | nil => have := congrArg List.length hc; rw [digs_len] at this; simp at this; omega
    | cons x r => rw [hc] at htop; have : x = true := htop; subst this; rfl
  rw [he]; exact num_digs hspec.2
theorem shiftIn_eq (r : Nat) (b : Bool) : shiftIn r b = 2 * r + (if b = true then 1 else 0) := by
  unfold shiftIn
  rw [Nat.shiftLeft_eq]
  cases b
  · simp; omega
  · simp only [if_true]
    have : r * 2 ^ 1 ||| 1 = 2 * r + 1 := by
      have h := Nat.two_pow_add_eq_or_of_lt (i := 1) (b := 1) (by omega) r
      rw [Nat.mul_comm]
      exact h.symm
    exact this
theorem isG_bits {l : List Bool} {k : Nat} (h : IsG l k) (hn : numG l k ≤ 1048576) : k ≤ 20 := by
  obtain ⟨_, g2, g3⟩ := gam_back h
  have := bitLen_le (x := numG l k) (k := 21) (show numG l k < 2097152 by omega)
  omega
/-! ### Lengths -/
theorem bitLen_mono {a b : Nat} (ha : 1 ≤ a) (h : a ≤ b) : bitLen a ≤ bitLen b := by
  refine Nat.le_of_not_lt fun hlt => ?_
  have h1 := bitLen_spec ha
  have h2 := bitLen_spec (show 1 ≤ b by omega)
  have h3 : 2 ^ bitLen b ≤ 2 ^ (bitLen a - 1) := Nat.pow_le_pow_right (by omega) (by omega)
  omega
theorem del_gam_check : ∀ k, k < 22 → 6 ≤ k → 2 * bitLen k - 1 + (k - 1) ≤ 2 * k - 1 := by decide +kernel
/-- digits counted by halving -/
theorem bitLen_half {x : Nat} (h : 1 ≤ x) : bitLen (x / 2) = bitLen x - 1 := by
  have hs := bitLen_spec h
  have hp := bitLen_pos h
  by_cases h1 : bitLen x = 1
  · have : x < 2 := by have := hs.2; rw [h1] at this; omega
    rw [show x / 2 = 0 by omega, h1]; rfl
  · have e : bitLen x = (bitLen x - 2) + 1 + 1 := by omega
    have e1 : 2 ^ (bitLen x - 1) = 2 * 2 ^ (bitLen x - 2) := by rw [← Nat.pow_succ']; congr 1; omega
    have e2 : 2 ^ bitLen x = 2 * 2 ^ (bitLen x - 1) := by rw [← Nat.pow_succ']; congr 1; omega
    have h3 : IsLen (x / 2) (bitLen x - 2 + 1) := isLen_of (by omega) (by rw [show bitLen x - 2 + 1 = bitLen x - 1 by omega]; omega)
    rw [bitLen_unique h3]; omega
theorem del_le_gam {n : Nat} (h : 32 ≤ n) (hn : n ≤ 1048576) : 2 * bitLen (bitLen n) - 1 + (bitLen n - 1) ≤ 2 * bitLen n - 1 := by
  have h1 := bitLen_mono (a := 32) (b := n) (by omega) h
  have h2 : bitLen 32 = 6 := by decide +kernel
  have h3 := bitLen_le (x := n) (k := 21) (show n < 2097152 by omega)
  exact del_gam_check (bitLen n) (by omega) (by omega)
end Go.Proofs.Ytcoplafphgpmpaa
