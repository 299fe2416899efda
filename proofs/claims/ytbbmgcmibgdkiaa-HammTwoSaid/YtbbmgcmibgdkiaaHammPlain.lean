/-
  Plain: the code of Hamming.
-/
import Derived.Test.YtbbmgcmibgdkiaaBurstPlain
namespace Go.Proofs.Ytbbmgcmibgdkiaa
open Go V

def pw (i : Nat) : Bool := (i + 1) &&& i == 0
def ptTo (l : List Bool) : Nat → Nat := iter (fun i p => if gb l i = true then p ^^^ (i + 1) else p) 0
theorem ptTo_succ (l : List Bool) (k : Nat) : ptTo l (k + 1) = if gb l k = true then ptTo l k ^^^ (k + 1) else ptTo l k := rfl
def pt (l : List Bool) : Nat := ptTo l l.length
theorem ptTo_lt {l : List Bool} {r : Nat} : ∀ {k : Nat}, k < 2 ^ r → ptTo l k < 2 ^ r
  | 0, _ => Nat.two_pow_pos r
  | k + 1, h => by
    rw [ptTo_succ]
    have := ptTo_lt (l := l) (r := r) (k := k) (by omega)
    split
    · exact Nat.xor_lt_two_pow this h
    · exact this
theorem ptTo_set (l : List Bool) (a : Nat) (v : Bool) (ha : a < l.length) : ∀ k, ptTo (l.set a v) k = if a < k ∧ gb l a ≠ v then ptTo l k ^^^ (a + 1) else ptTo l k
  | 0 => by rw [if_neg (by omega)]; rfl
  | k + 1 => by
    have ih := ptTo_set l a v ha k
    rw [ptTo_succ, ptTo_succ, ih, gb_set _ _ _ _ ha]
    by_cases e : k = a
    · subst e
      rw [if_pos rfl]
      have h1 : ¬ (k < k ∧ gb l k ≠ v) := by omega
      rw [if_neg h1]
      cases hl : gb l k <;> cases v <;> simp [Nat.xor_assoc, Nat.xor_self]
    · rw [if_neg e]
      have h3 : (a < k + 1 ∧ gb l a ≠ v) ↔ (a < k ∧ gb l a ≠ v) := ⟨fun h => ⟨by omega, h.2⟩, fun h => ⟨by omega, h.2⟩⟩
      by_cases h2 : a < k ∧ gb l a ≠ v
      · simp only [if_pos h2, if_pos (h3.2 h2)]
        split
        · rw [Nat.xor_assoc, Nat.xor_comm (a + 1), ← Nat.xor_assoc]
        · rfl
      · simp only [if_neg h2, if_neg (fun h => h2 (h3.1 h))]
theorem pt_set {l : List Bool} {a : Nat} (v : Bool) (ha : a < l.length) : pt (l.set a v) = if gb l a ≠ v then pt l ^^^ (a + 1) else pt l := by
  unfold pt
  rw [List.length_set, ptTo_set l a v ha]
  simp [ha]
/-- the bit at a turned -/
def flipAt (l : List Bool) (a : Nat) : List Bool := l.set a (!gb l a)
theorem flipAt_len (l : List Bool) (a : Nat) : (flipAt l a).length = l.length := List.length_set ..
theorem flipAt_get {l : List Bool} {a : Nat} (ha : a < l.length) (j : Nat) : gb (flipAt l a) j = if j = a then !gb l a else gb l j := gb_set _ _ _ _ ha
theorem pt_flip {l : List Bool} {a : Nat} (ha : a < l.length) : pt (flipAt l a) = pt l ^^^ (a + 1) := by
  unfold flipAt
  rw [pt_set _ ha, if_pos]
  cases gb l a <;> decide
theorem flip_flip {l : List Bool} {a : Nat} (ha : a < l.length) : flipAt (flipAt l a) a = l := by
  refine gb_eq_of (by rw [flipAt_len, flipAt_len]) fun j _ => ?_
  rw [flipAt_get (by rw [flipAt_len]; exact ha), flipAt_get ha, flipAt_get ha]
  by_cases e : j = a
  · subst e; simp
  · simp [e]
/-- what is told: the bit at which the pointer points turned, if it points -/
def mended (l : List Bool) : List Bool := if pt l = 0 then l else flipAt l (pt l - 1)
theorem mended_len (l : List Bool) : (mended l).length = l.length := by unfold mended; split <;> simp [flipAt_len]
theorem pt_mended {l : List Bool} {r : Nat} (hl : l.length = 2 ^ r - 1) : pt (mended l) = 0 := by
  unfold mended
  split
  · assumption
  · rename_i h
    have hlt : pt l < 2 ^ r := ptTo_lt (by have := Nat.two_pow_pos r; omega)
    rw [pt_flip (by omega), show pt l - 1 + 1 = pt l by omega, Nat.xor_self]

/-! ### data -/
def cntTo : Nat → Nat := iter (fun i s => if pw i = true then s else s + 1) 0
theorem cntTo_succ (k : Nat) : cntTo (k + 1) = if pw k = true then cntTo k else cntTo k + 1 := rfl
theorem cntTo_mono {i : Nat} : ∀ {k : Nat}, i ≤ k → cntTo i ≤ cntTo k
  | 0, h => by obtain rfl : i = 0 := by omega
               exact Nat.le_refl _
  | k + 1, h => by
    by_cases e : i = k + 1
    · rw [e]; exact Nat.le_refl _
    · have := cntTo_mono (i := i) (k := k) (by omega)
      rw [cntTo_succ]; split <;> omega
theorem cntTo_le : ∀ k, cntTo k ≤ k
  | 0 => Nat.le_refl _
  | k + 1 => by have := cntTo_le k; rw [cntTo_succ]; split <;> omega
def datTo (l : List Bool) : Nat → List Bool := iter (fun i o => if pw i = true then o else o ++ [gb l i]) []
theorem datTo_succ (l : List Bool) (k : Nat) : datTo l (k + 1) = if pw k = true then datTo l k else datTo l k ++ [gb l k] := rfl
theorem datTo_len (l : List Bool) : ∀ k, (datTo l k).length = cntTo k
  | 0 => rfl
  | k + 1 => by
    rw [datTo_succ, cntTo_succ]
    split
    · exact datTo_len l k
    · rw [List.length_append, datTo_len l k]; rfl
theorem datTo_get (l : List Bool) : ∀ k j, j < k → pw j = false → gb (datTo l k) (cntTo j) = gb l j
  | 0, _, h, _ => by omega
  | k + 1, j, h, hj => by
    rw [datTo_succ]
    have hl := datTo_len l k
    by_cases e : j = k
    · subst e
      rw [hj]
      simp only [Bool.false_eq_true, if_false]
      rw [gb_append, hl, if_neg (by omega), Nat.sub_self]; rfl
    · have ih := datTo_get l k j (by omega) hj
      have h1 := cntTo_mono (i := j + 1) (k := k) (by omega)
      rw [cntTo_succ, hj] at h1
      simp only [Bool.false_eq_true, if_false] at h1
      split
      · exact ih
      · rw [gb_append, hl, if_pos (by omega)]; exact ih
def fillTo (n : Nat) (d : List Bool) : Nat → List Bool := iter (fun i l => if pw i = true then l else l.set i (gb d (cntTo i))) (zeros n)
theorem fillTo_succ (n : Nat) (d : List Bool) (k : Nat) : fillTo n d (k + 1) = if pw k = true then fillTo n d k else (fillTo n d k).set k (gb d (cntTo k)) := rfl
theorem fillTo_len (n : Nat) (d : List Bool) : ∀ k, (fillTo n d k).length = n
  | 0 => by simp [fillTo, iter, zeros]
  | k + 1 => by
    rw [fillTo_succ]
    split
    · exact fillTo_len n d k
    · rw [List.length_set, fillTo_len n d k]
theorem fillTo_get (n : Nat) (d : List Bool) : ∀ k j, k ≤ n → gb (fillTo n d k) j = if j < k ∧ pw j = false then gb d (cntTo j) else false
  | 0, j, _ => by rw [if_neg (by omega)]; exact gb_zeros n j
  | k + 1, j, h => by
    have hl := fillTo_len n d k
    have ih := fillTo_get n d k j (by omega)
    rw [fillTo_succ]
    cases hp : pw k
    · simp only [Bool.false_eq_true, if_false]
      rw [gb_set _ _ _ _ (by omega), ih]
      by_cases e : j = k
      · subst e; rw [if_pos rfl, if_pos ⟨by omega, hp⟩]
      · rw [if_neg e]
        by_cases h2 : j < k ∧ pw j = false
        · rw [if_pos h2, if_pos ⟨by omega, h2.2⟩]
        · rw [if_neg h2, if_neg (fun h3 => h2 ⟨by omega, h3.2⟩)]
    · simp only [if_true]
      rw [ih]
      by_cases h2 : j < k ∧ pw j = false
      · rw [if_pos h2, if_pos ⟨by omega, h2.2⟩]
      · rw [if_neg h2, if_neg (fun h3 => h2 ⟨by (have : j ≠ k := fun e => by rw [e, hp] at h3; cases h3.2); omega, h3.2⟩)]
def setTo (q : Nat) (l : List Bool) : Nat → List Bool := iter (fun i l => l.set (2 ^ i - 1) (q.testBit i)) l
theorem setTo_succ (q : Nat) (l : List Bool) (k : Nat) : setTo q l (k + 1) = (setTo q l k).set (2 ^ k - 1) (q.testBit k) := rfl
theorem setTo_len (q : Nat) (l : List Bool) : ∀ k, (setTo q l k).length = l.length
  | 0 => rfl
  | k + 1 => by rw [setTo_succ, List.length_set, setTo_len q l k]
theorem two_pow_inj {i j : Nat} (h : 2 ^ i - 1 = 2 ^ j - 1) : i = j := by
  have h1 := Nat.two_pow_pos i
  have h2 := Nat.two_pow_pos j
  rcases Nat.lt_trichotomy i j with h3 | h3 | h3
  · have := Nat.pow_lt_pow_right (a := 2) (by omega) h3; omega
  · exact h3
  · have := Nat.pow_lt_pow_right (a := 2) (by omega) h3; omega
theorem setTo_at (q : Nat) (l : List Bool) (r : Nat) (hl : l.length = 2 ^ r - 1) : ∀ k i, k ≤ r → i < r → gb (setTo q l k) (2 ^ i - 1) = if i < k then q.testBit i else gb l (2 ^ i - 1)
  | 0, i, _, _ => by rw [if_neg (by omega)]; rfl
  | k + 1, i, hk, hi => by
    have hlk := setTo_len q l k
    have hpk : 2 ^ k < 2 ^ r := Nat.pow_lt_pow_right (by omega) (by omega)
    have hp0 := Nat.two_pow_pos k
    rw [setTo_succ, gb_set _ _ _ _ (by omega)]
    by_cases e : i = k
    · subst e; rw [if_pos rfl, if_pos (by omega)]
    · rw [if_neg (fun h => e (two_pow_inj h)), setTo_at q l r hl k i (by omega) hi]
      by_cases h2 : i < k
      · rw [if_pos h2, if_pos (by omega)]
      · rw [if_neg h2, if_neg (by omega)]
theorem setTo_off (q : Nat) (l : List Bool) (r : Nat) (hl : l.length = 2 ^ r - 1) (j : Nat) (hj : ∀ i, i < r → j ≠ 2 ^ i - 1) : ∀ k, k ≤ r → gb (setTo q l k) j = gb l j
  | 0, _ => rfl
  | k + 1, hk => by
    have hlk := setTo_len q l k
    have hpk : 2 ^ k < 2 ^ r := Nat.pow_lt_pow_right (by omega) (by omega)
    have hp0 := Nat.two_pow_pos k
    rw [setTo_succ, gb_set _ _ _ _ (by omega), if_neg (hj k (by omega)), setTo_off q l r hl j hj k (by omega)]
theorem mod_two_pow_succ_xor (q k : Nat) : q % 2 ^ (k + 1) = (q % 2 ^ k) ^^^ (if q.testBit k = true then 2 ^ k else 0) := by
  refine Nat.eq_of_testBit_eq fun j => ?_
  rw [Nat.testBit_xor, Nat.testBit_mod_two_pow, Nat.testBit_mod_two_pow]
  by_cases e : j = k
  · subst e
    cases h : q.testBit j <;> simp [Nat.testBit_two_pow_self]
  · have h2 : (if q.testBit k = true then 2 ^ k else 0).testBit j = false := by
      split
      · exact Nat.testBit_two_pow_of_ne (Ne.symm e)
      · exact Nat.zero_testBit j
    rw [h2]
    by_cases h3 : j < k
    · simp [h3, show j < k + 1 by omega]
    · simp [h3, show ¬ j < k + 1 by omega]
theorem pt_setTo (q : Nat) (l : List Bool) (r : Nat) (hl : l.length = 2 ^ r - 1) (h0 : ∀ i, i < r → gb l (2 ^ i - 1) = false) : ∀ k, k ≤ r → pt (setTo q l k) = pt l ^^^ (q % 2 ^ k)
  | 0, _ => by rw [Nat.pow_zero, Nat.mod_one, Nat.xor_zero]; rfl
  | k + 1, hk => by
    have hlk := setTo_len q l k
    have hpk : 2 ^ k < 2 ^ r := Nat.pow_lt_pow_right (by omega) (by omega)
    have hp0 := Nat.two_pow_pos k
    have hat := setTo_at q l r hl k k (by omega) (by omega)
    rw [if_neg (by omega), h0 k (by omega)] at hat
    rw [setTo_succ, pt_set _ (by omega), hat, pt_setTo q l r hl h0 k (by omega), mod_two_pow_succ_xor, show 2 ^ k - 1 + 1 = 2 ^ k by omega]
    cases q.testBit k
    · simp
    · simp [Nat.xor_assoc]
theorem pw_facts : (List.range 16).all (fun j => (List.range 5).all fun r => decide (r < 2) || decide (2 ^ r - 1 ≤ j) || ((pw j == (List.range r).any fun i => j == 2 ^ i - 1) && cntTo (2 ^ r - 1) == 2 ^ r - 1 - r)) = true := by decide +kernel
theorem pw_iff {r j : Nat} (h2 : 2 ≤ r) (h4 : r ≤ 4) (hj : j < 2 ^ r - 1) : (pw j = true ↔ ∃ i, i < r ∧ j = 2 ^ i - 1) ∧ cntTo (2 ^ r - 1) = 2 ^ r - 1 - r := by
  have hp : 2 ^ r ≤ 2 ^ 4 := Nat.pow_le_pow_right (by omega) h4
  have := List.all_eq_true.1 (List.all_eq_true.1 pw_facts j (List.mem_range.2 (by omega))) r (List.mem_range.2 (by omega))
  simp only [Bool.or_eq_true, decide_eq_true_iff, Bool.and_eq_true, beq_iff_eq] at this
  rcases this with (h | h) | ⟨h, h'⟩
  · omega
  · omega
  · refine ⟨?_, h'⟩
    rw [h, List.any_eq_true]
    simp only [List.mem_range, beq_iff_eq]
/-- the word of the data -/
def wordOf (r : Nat) (d : List Bool) : List Bool := setTo (pt (fillTo (2 ^ r - 1) d (2 ^ r - 1))) (fillTo (2 ^ r - 1) d (2 ^ r - 1)) r
theorem wordOf_len (r : Nat) (d : List Bool) : (wordOf r d).length = 2 ^ r - 1 := by rw [wordOf, setTo_len, fillTo_len]
section
variable {r : Nat} (h2 : 2 ≤ r) (h4 : r ≤ 4)
include h2 h4
theorem fill_pw (d : List Bool) {i : Nat} (hi : i < r) : gb (fillTo (2 ^ r - 1) d (2 ^ r - 1)) (2 ^ i - 1) = false := by
  have hlt : 2 ^ i < 2 ^ r := Nat.pow_lt_pow_right (by omega) hi
  have h0 := Nat.two_pow_pos i
  rw [fillTo_get _ _ _ _ (Nat.le_refl _), if_neg]
  intro h
  have := (pw_iff h2 h4 (show 2 ^ i - 1 < 2 ^ r - 1 by omega)).1.2 ⟨i, hi, rfl⟩
  rw [h.2] at this; cases this
theorem pt_word (d : List Bool) : pt (wordOf r d) = 0 := by
  have hlt : pt (fillTo (2 ^ r - 1) d (2 ^ r - 1)) < 2 ^ r := ptTo_lt (by rw [fillTo_len]; have := Nat.two_pow_pos r; omega)
  unfold wordOf
  rw [pt_setTo _ _ r (fillTo_len _ _ _) (fun i hi => fill_pw h2 h4 d hi) r (Nat.le_refl _), Nat.mod_eq_of_lt hlt, Nat.xor_self]
theorem word_get (d : List Bool) {j : Nat} (hj : j < 2 ^ r - 1) (hp : pw j = false) : gb (wordOf r d) j = gb d (cntTo j) := by
  unfold wordOf
  rw [setTo_off _ _ r (fillTo_len _ _ _) j (fun i hi e => by
    have := (pw_iff h2 h4 hj).1.2 ⟨i, hi, e⟩
    rw [hp] at this; cases this) r (Nat.le_refl _), fillTo_get _ _ _ _ (Nat.le_refl _), if_pos ⟨hj, hp⟩]
theorem dat_word {d : List Bool} (hd : d.length = 2 ^ r - 1 - r) : datTo (wordOf r d) (2 ^ r - 1) = d := by
  have hc := (pw_iff h2 h4 (show 0 < 2 ^ r - 1 by have := Nat.pow_le_pow_right (n := 2) (by omega) h2; omega)).2
  have key : ∀ k, k ≤ 2 ^ r - 1 → datTo (wordOf r d) k = d.take (cntTo k) := by
    intro k
    induction k with
    | zero => intro _; rfl
    | succ k ih =>
      intro hk
      have hm := cntTo_mono hk
      rw [datTo_succ, ih (by omega)]
      rw [cntTo_succ] at hm ⊢
      cases hp : pw k
      · rw [hp] at hm
        simp only [Bool.false_eq_true, if_false] at hm ⊢
        rw [word_get h2 h4 d (by omega) hp, List.take_succ_eq_append_getElem (by omega), gb_lt (by omega)]
      · simp
  rw [key _ (Nat.le_refl _), hc, ← hd, List.take_length]
theorem word_dat {l : List Bool} (hl : l.length = 2 ^ r - 1) (h0 : pt l = 0) : wordOf r (datTo l (2 ^ r - 1)) = l := by
  have hfl := fillTo_len (2 ^ r - 1) (datTo l (2 ^ r - 1)) (2 ^ r - 1)
  -- the number of the bits at the powers
  have hQ : ∃ Q, Q < 2 ^ r ∧ ∀ i, i < r → Q.testBit i = gb l (2 ^ i - 1) := by
    refine ⟨num ((List.range r).map fun i => gb l (2 ^ (r - 1 - i) - 1)), ?_, ?_⟩
    · have := numTo_lt ((List.range r).map fun i => gb l (2 ^ (r - 1 - i) - 1)) r
      unfold num; simpa using this
    · intro i hi
      unfold num
      rw [numTo_bit]
      simp only [List.length_map, List.length_range, hi, if_true]
      unfold gb
      simp [show r - 1 - i < r by omega, show r - 1 - (r - 1 - i) = i by omega]
  obtain ⟨Q, hQl, hQ⟩ := hQ
  have hoff : ∀ j, j < 2 ^ r - 1 → pw j = false → gb (fillTo (2 ^ r - 1) (datTo l (2 ^ r - 1)) (2 ^ r - 1)) j = gb l j := by
    intro j hj hp
    rw [fillTo_get _ _ _ _ (Nat.le_refl _), if_pos ⟨hj, hp⟩, datTo_get l _ j hj hp]
  have hset : setTo Q (fillTo (2 ^ r - 1) (datTo l (2 ^ r - 1)) (2 ^ r - 1)) r = l := by
    refine gb_eq_of (by rw [setTo_len, hfl, hl]) fun j hj => ?_
    rw [setTo_len, hfl] at hj
    cases hp : pw j
    · rw [setTo_off _ _ r hfl j (fun i hi e => by
        have := (pw_iff h2 h4 hj).1.2 ⟨i, hi, e⟩
        rw [hp] at this; cases this) r (Nat.le_refl _)]
      exact hoff j hj hp
    · obtain ⟨i, hi, rfl⟩ := (pw_iff h2 h4 hj).1.1 hp
      rw [setTo_at _ _ r hfl r i (Nat.le_refl _) hi, if_pos hi, hQ i hi]
  have hpt := pt_setTo Q _ r hfl (fun i hi => fill_pw h2 h4 (datTo l (2 ^ r - 1)) hi) r (Nat.le_refl _)
  rw [hset, h0, Nat.mod_eq_of_lt hQl] at hpt
  have hpQ := xor_eq_zero.1 hpt.symm
  unfold wordOf
  rw [hpQ]; exact hset
end
end Go.Proofs.Ytbbmgcmibgdkiaa
