/-
  Plain: of the two sums which one or two places were turned (Bose; Ray-Chaudhuri; Hocquenghem).
-/
import Derived.Test.YtnaebllojkodbaaBosePlain
import Derived.Test.YtnaebllojkodbaaFieldPlain
namespace Go.Proofs.Ytnaebllojkodbaa
open Go V

def c1 (j : Nat) : Nat := fpow 2 (14 - j)
def c3 (j : Nat) : Nat := fpow 2 (3 * (14 - j))
def sA (l : List Bool) : Nat → Nat := iter (fun j s => if gb l j = true then s ^^^ c1 j else s) 0
def sB (l : List Bool) : Nat → Nat := iter (fun j s => if gb l j = true then s ^^^ c3 j else s) 0
theorem sA_succ (l : List Bool) (k : Nat) : sA l (k + 1) = if gb l k = true then sA l k ^^^ c1 k else sA l k := rfl
theorem sB_succ (l : List Bool) (k : Nat) : sB l (k + 1) = if gb l k = true then sB l k ^^^ c3 k else sB l k := rfl
theorem c1_lt (j : Nat) : c1 j < 16 := fpow_lt (by omega) _
theorem c3_lt (j : Nat) : c3 j < 16 := fpow_lt (by omega) _
theorem x16 {a b : Nat} (ha : a < 16) (hb : b < 16) : a ^^^ b < 16 := Nat.xor_lt_two_pow (n := 4) ha hb
theorem sA_lt (l : List Bool) : ∀ k, sA l k < 16
  | 0 => by show 0 < 16; omega
  | k + 1 => by rw [sA_succ]; split; exact x16 (sA_lt l k) (c1_lt k); exact sA_lt l k
theorem sB_lt (l : List Bool) : ∀ k, sB l k < 16
  | 0 => by show 0 < 16; omega
  | k + 1 => by rw [sB_succ]; split; exact x16 (sB_lt l k) (c3_lt k); exact sB_lt l k
/-- one place turned -/
def fl (l : List Bool) (i : Nat) : List Bool := l.set i (!gb l i)
theorem fl_len (l : List Bool) (i : Nat) : (fl l i).length = l.length := by simp [fl]
theorem gb_fl {l : List Bool} {i j : Nat} (h : i < l.length) : gb (fl l i) j = if j = i then !gb l i else gb l j := by
  unfold fl
  conv => lhs; unfold gb
  simp only [List.getD_eq_getElem?_getD, List.getElem?_set]
  by_cases e : i = j
  · subst e; simp [h, gb]
  · simp [e, Ne.symm e, gb]
theorem xs (a b c : Nat) : a ^^^ b ^^^ c = a ^^^ c ^^^ b := by rw [Nat.xor_assoc, Nat.xor_comm b c, ← Nat.xor_assoc]
theorem xx (a b : Nat) : a ^^^ b ^^^ b = a := by rw [Nat.xor_assoc, Nat.xor_self, Nat.xor_zero]
theorem sA_fl {l : List Bool} {i : Nat} (h : i < l.length) : ∀ k, sA (fl l i) k = if i < k then sA l k ^^^ c1 i else sA l k
  | 0 => by rw [if_neg (by omega)]; rfl
  | k + 1 => by
    rw [sA_succ, sA_succ, sA_fl h k, gb_fl h]
    by_cases e : k = i
    · subst e
      rw [if_pos (rfl : k = k), if_neg (show ¬ k < k by omega), if_pos (show k < k + 1 by omega)]
      cases gb l k <;> simp [xx]
    · rw [if_neg e]
      by_cases hk : i < k
      · rw [if_pos hk, if_pos (show i < k + 1 by omega)]
        cases gb l k <;> simp [xs]
      · rw [if_neg hk, if_neg (show ¬ i < k + 1 by omega)]
theorem sB_fl {l : List Bool} {i : Nat} (h : i < l.length) : ∀ k, sB (fl l i) k = if i < k then sB l k ^^^ c3 i else sB l k
  | 0 => by rw [if_neg (by omega)]; rfl
  | k + 1 => by
    rw [sB_succ, sB_succ, sB_fl h k, gb_fl h]
    by_cases e : k = i
    · subst e
      rw [if_pos (rfl : k = k), if_neg (show ¬ k < k by omega), if_pos (show k < k + 1 by omega)]
      cases gb l k <;> simp [xx]
    · rw [if_neg e]
      by_cases hk : i < k
      · rw [if_pos hk, if_pos (show i < k + 1 by omega)]
        cases gb l k <;> simp [xs]
      · rw [if_neg hk, if_neg (show ¬ i < k + 1 by omega)]
theorem fl_fl {l : List Bool} {i : Nat} (h : i < l.length) : fl (fl l i) i = l := by
  refine gb_eq_of (by rw [fl_len, fl_len]) fun j hj => ?_
  rw [gb_fl (by rw [fl_len]; exact h), gb_fl h, gb_fl h]
  by_cases e : j = i <;> simp [e]
theorem fl_comm {l : List Bool} {i j : Nat} (h : i < l.length) (h2 : j < l.length) : fl (fl l i) j = fl (fl l j) i := by
  by_cases e0 : i = j
  · rw [e0]
  · refine gb_eq_of (by simp only [fl_len]) fun k hk => ?_
    simp only [gb_fl h, gb_fl h2, gb_fl (show j < (fl l i).length by rw [fl_len]; exact h2), gb_fl (show i < (fl l j).length by rw [fl_len]; exact h)]
    by_cases e1 : k = i <;> by_cases e2 : k = j <;> simp [e1, e2, e0, Ne.symm e0] <;> (subst e1; simp_all)
def pA (i j : Nat) : Nat := if i = j then c1 i else c1 i ^^^ c1 j
def pB (i j : Nat) : Nat := if i = j then c3 i else c3 i ^^^ c3 j
def tw (i j : Nat) : List Bool := ((List.replicate 15 false).set i true).set j true
theorem sA_rep (n : Nat) : ∀ k, sA (List.replicate n false) k = 0
  | 0 => rfl
  | k + 1 => by
    have : gb (List.replicate n false) k = false := by unfold gb; simp only [List.getD_eq_getElem?_getD, List.getElem?_replicate]; split <;> rfl
    rw [sA_succ, this, sA_rep n k]; rfl
theorem sB_rep (n : Nat) : ∀ k, sB (List.replicate n false) k = 0
  | 0 => rfl
  | k + 1 => by
    have : gb (List.replicate n false) k = false := by unfold gb; simp only [List.getD_eq_getElem?_getD, List.getElem?_replicate]; split <;> rfl
    rw [sB_succ, this, sB_rep n k]; rfl
theorem tw_is {i j : Nat} (hi : i < 15) (hj : j < 15) : tw i j = if i = j then fl (List.replicate 15 false) i else fl (fl (List.replicate 15 false) i) j := by
  have g0 : ∀ k, gb (List.replicate 15 false) k = false := fun k => by unfold gb; simp only [List.getD_eq_getElem?_getD, List.getElem?_replicate]; split <;> rfl
  unfold tw
  by_cases e : i = j
  · subst e; rw [if_pos rfl, List.set_set]; unfold fl; rw [g0]; rfl
  · rw [if_neg e]
    have h1 : gb (fl (List.replicate 15 false) i) j = false := by rw [gb_fl (by simpa using hi), if_neg (Ne.symm e), g0]
    show _ = (fl (List.replicate 15 false) i).set j (!gb (fl (List.replicate 15 false) i) j)
    rw [h1]
    show _ = ((List.replicate 15 false).set i (!gb (List.replicate 15 false) i)).set j (!false)
    rw [g0]; rfl
theorem sum_tw {i j : Nat} (hi : i < 15) (hj : j < 15) : sA (tw i j) 15 = pA i j ∧ sB (tw i j) 15 = pB i j := by
  rw [tw_is hi hj]
  unfold pA pB
  by_cases e : i = j
  · rw [if_pos e, if_pos e, if_pos e, sA_fl (by simpa using hi), sB_fl (by simpa using hi), if_pos hi, if_pos hi, sA_rep, sB_rep, Nat.zero_xor, Nat.zero_xor]; exact ⟨rfl, rfl⟩
  · rw [if_neg e, if_neg e, if_neg e, sA_fl (by rw [fl_len]; simpa using hj), sB_fl (by rw [fl_len]; simpa using hj), if_pos hj, if_pos hj, sA_fl (by simpa using hi), sB_fl (by simpa using hi), if_pos hi, if_pos hi, sA_rep, sB_rep, Nat.zero_xor, Nat.zero_xor]; exact ⟨rfl, rfl⟩
def t1 : List Nat := [9, 13, 15, 14, 7, 10, 5, 11, 12, 6, 3, 8, 4, 2, 1]
def t3 : List Nat := [15, 10, 12, 8, 1, 15, 10, 12, 8, 1, 15, 10, 12, 8, 1]
theorem t1_all : (List.range 15).all (fun j => c1 j == gn t1 j && c3 j == gn t3 j) = true := by decide +kernel
theorem t1_at {j : Nat} (h : j < 15) : c1 j = gn t1 j ∧ c3 j = gn t3 j := by
  have := List.all_eq_true.1 t1_all j (List.mem_range.2 h)
  simpa using this
def key (i j : Nat) : Nat := (if i = j then gn t1 i else gn t1 i ^^^ gn t1 j) * 16 + (if i = j then gn t3 i else gn t3 i ^^^ gn t3 j)
theorem key_all : (List.range 15).all (fun a => (List.range 15).all fun b => (List.range 15).all fun i => (List.range 15).all fun j => !(decide (a < b)) || !(decide (i ≤ j)) || (decide (i = a) && decide (j = b)) || (key i j != key a b && key a b != 0)) = true := by decide +kernel
theorem key_is {i j : Nat} (hi : i < 15) (hj : j < 15) : pA i j * 16 + pB i j = key i j := by
  unfold pA pB key
  rw [(t1_at hi).1, (t1_at hi).2, (t1_at hj).1, (t1_at hj).2]
theorem pair_only {a b i j : Nat} (hb : b < 15) (hab : a < b) (hj : j < 15) (hij : i ≤ j) (h1 : pA i j = pA a b) (h2 : pB i j = pB a b) : i = a ∧ j = b := by
  have h := List.all_eq_true.1 (List.all_eq_true.1 (List.all_eq_true.1 (List.all_eq_true.1 key_all a (List.mem_range.2 (by omega))) b (List.mem_range.2 hb)) i (List.mem_range.2 (by omega))) j (List.mem_range.2 hj)
  simp only [Bool.or_eq_true, Bool.and_eq_true, Bool.not_eq_true', decide_eq_false_iff_not, decide_eq_true_eq, bne_iff_ne, ne_eq] at h
  have hk : key i j = key a b := by rw [← key_is (by omega) hj, ← key_is (by omega) hb, h1, h2]
  rcases h with ((h | h) | h) | h
  · omega
  · omega
  · exact h
  · exact absurd hk h.1
theorem pair_some {a b : Nat} (hb : b < 15) (hab : a < b) : ¬ (pA a b = 0 ∧ pB a b = 0) := by
  rintro ⟨h1, h2⟩
  have h := List.all_eq_true.1 (List.all_eq_true.1 (List.all_eq_true.1 (List.all_eq_true.1 key_all a (List.mem_range.2 (by omega))) b (List.mem_range.2 hb)) a (List.mem_range.2 (by omega))) a (List.mem_range.2 (by omega))
  simp only [Bool.or_eq_true, Bool.and_eq_true, Bool.not_eq_true', decide_eq_false_iff_not, decide_eq_true_eq, bne_iff_ne, ne_eq] at h
  have hk := key_is (i := a) (j := b) (by omega) hb
  rw [h1, h2] at hk
  rcases h with ((h | h) | h) | h
  · omega
  · omega
  · omega
  · exact h.2 hk.symm
theorem put_all : ∀ x, x < 128 → sA (bput (digs x 7 7)) 15 = 0 ∧ sB (bput (digs x 7 7)) 15 = 0 := by decide +kernel
theorem put_zero {d : List Bool} (h : d.length = 7) : sA (bput d) 15 = 0 ∧ sB (bput d) 15 = 0 := by
  have hz : digs (num d) 7 7 = d := digs_num h
  have hlt : num d < 128 := by have := numTo_lt d d.length; rw [h] at this; exact (by unfold num; rw [h]; exact this)
  have := put_all (num d) hlt
  rwa [hz] at this
def flTo (l : List Bool) (ps : List Nat) : Nat → List Bool := iter (fun t x => fl x (gn ps t)) l
theorem flTo_succ (l : List Bool) (ps : List Nat) (k : Nat) : flTo l ps (k + 1) = fl (flTo l ps k) (gn ps k) := rfl
theorem flTo_len (l : List Bool) (ps : List Nat) : ∀ k, (flTo l ps k).length = l.length
  | 0 => rfl
  | k + 1 => by rw [flTo_succ, fl_len, flTo_len l ps k]
theorem bput_take {d : List Bool} (h : d.length = 7) : (bput d).take 7 = d := by
  unfold bput putOf
  rw [← h, List.take_left]
theorem diff_two {w : List Bool} {a b : Nat} (ha : a < w.length) (hb : b < w.length) : ∀ k, diffTo w (fl (fl w a) b) k = (if a < k ∧ a ≠ b then 1 else 0) + (if b < k ∧ a ≠ b then 1 else 0)
  | 0 => by simp [diffTo, iter]
  | k + 1 => by
    rw [diffTo_succ, diff_two ha hb k]
    simp only [gb_fl ha, gb_fl (show b < (fl w a).length by rw [fl_len]; exact hb)]
    by_cases hab : a = b
    · subst hab
      by_cases e : k = a <;> simp [e]
    · by_cases e1 : k = a
      · subst e1
        have : ¬ k = b := hab
        rw [if_neg this, if_pos rfl, if_pos (by cases gb w k <;> simp)]
        by_cases hb2 : b < k
        · simp [hab, hb2, show b < k + 1 by omega]
        · simp [hab, hb2, show ¬ b < k + 1 by omega]
      · by_cases e2 : k = b
        · subst e2
          rw [if_pos rfl, if_neg e1, if_pos (by cases gb w k <;> simp)]
          by_cases ha2 : a < k
          · simp [hab, ha2, show a < k + 1 by omega]
          · simp [hab, ha2, show ¬ a < k + 1 by omega]
        · rw [if_neg e2, if_neg e1]
          simp only [ne_eq, not_true_eq_false, if_false]
          by_cases ha2 : a < k <;> by_cases hb2 : b < k
          · simp [hab, ha2, hb2, show a < k + 1 by omega, show b < k + 1 by omega]
          · simp [hab, ha2, hb2, show a < k + 1 by omega, show ¬ b < k + 1 by omega]
          · simp [hab, ha2, hb2, show ¬ a < k + 1 by omega, show b < k + 1 by omega]
          · simp [hab, ha2, hb2, show ¬ a < k + 1 by omega, show ¬ b < k + 1 by omega]
/-- what the two sums of a word with two turned places tell -/
def Told (l R : List Bool) (N : Nat) : Prop :=
  (sA l 15 = 0 ∧ sB l 15 = 0 ∧ R = l ∧ N = 0) ∨ ∃ I J, I < J ∧ J < 15 ∧ sA l 15 = pA I J ∧ sB l 15 = pB I J ∧ R = fl (fl l I) J ∧ N = 2
theorem told_two {w : List Bool} (hw : w.length = 15) (hA : sA w 15 = 0) (hB : sB w 15 = 0) {a b : Nat} (ha : a < 15) (hb : b < 15) : Told (fl (fl w a) b) w (if a = b then 0 else 2) := by
  have ha' : a < w.length := by omega
  have hb' : b < w.length := by omega
  by_cases hab : a = b
  · subst hab
    rw [fl_fl ha', if_pos rfl]
    exact .inl ⟨hA, hB, rfl, rfl⟩
  · rw [if_neg hab]
    have s1 : sA (fl (fl w a) b) 15 = c1 a ^^^ c1 b := by rw [sA_fl (by rw [fl_len]; exact hb'), if_pos hb, sA_fl ha', if_pos ha, hA, Nat.zero_xor]
    have s2 : sB (fl (fl w a) b) 15 = c3 a ^^^ c3 b := by rw [sB_fl (by rw [fl_len]; exact hb'), if_pos hb, sB_fl ha', if_pos ha, hB, Nat.zero_xor]
    refine .inr ?_
    rcases Nat.lt_or_ge a b with h | h
    · refine ⟨a, b, h, hb, by rw [s1]; unfold pA; rw [if_neg hab], by rw [s2]; unfold pB; rw [if_neg hab], ?_, rfl⟩
      rw [fl_comm ha' hb', fl_fl (by rw [fl_len]; exact ha'), fl_fl hb']
    · refine ⟨b, a, by omega, ha, by rw [s1, Nat.xor_comm]; unfold pA; rw [if_neg (Ne.symm hab)], by rw [s2, Nat.xor_comm]; unfold pB; rw [if_neg (Ne.symm hab)], ?_, rfl⟩
      rw [fl_fl (by rw [fl_len]; exact hb'), fl_fl ha']
end Go.Proofs.Ytnaebllojkodbaa
