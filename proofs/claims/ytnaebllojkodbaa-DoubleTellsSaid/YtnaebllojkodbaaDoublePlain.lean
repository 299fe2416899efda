/-
  Plain: two sums, by which any two lost numbers come again (Reed; Solomon).
-/
import Derived.Test.YtnaebllojkodbaaFieldPlain
namespace Go.Proofs.Ytnaebllojkodbaa
open Go V

/-- both sums of the first k -/
def pTo' (l : List Nat) : Nat → Nat := iter (fun i s => s ^^^ gn l i) 0
def qTo' (l : List Nat) : Nat → Nat := iter (fun i s => s ^^^ fmul (gn l i) (fpow 2 i)) 0
theorem pTo'_succ (l : List Nat) (k : Nat) : pTo' l (k + 1) = pTo' l k ^^^ gn l k := rfl
theorem qTo'_succ (l : List Nat) (k : Nat) : qTo' l (k + 1) = qTo' l k ^^^ fmul (gn l k) (fpow 2 k) := rfl
def Sm (l : List Nat) : Prop := ∀ j, gn l j < 16
theorem sm_of {l : List Nat} (h : ∀ x ∈ l, x < 16) : Sm l := fun j => by
  by_cases hj : j < l.length
  · rw [gn_lt hj]; exact h _ (List.getElem_mem hj)
  · unfold gn; rw [List.getD_eq_getElem?_getD, List.getElem?_eq_none (by omega)]; simp
theorem xor16 {a b : Nat} (ha : a < 16) (hb : b < 16) : a ^^^ b < 16 := Nat.xor_lt_two_pow (n := 4) ha hb
theorem pw2 (i : Nat) : fpow 2 i < 16 := fpow_lt (by omega) i
theorem pTo'_lt {l : List Nat} (h : Sm l) : ∀ k, pTo' l k < 16
  | 0 => by show 0 < 16; omega
  | k + 1 => xor16 (pTo'_lt h k) (h k)
theorem qTo'_lt {l : List Nat} (h : Sm l) : ∀ k, qTo' l k < 16
  | 0 => by show 0 < 16; omega
  | k + 1 => xor16 (qTo'_lt h k) (fmul_lt (h k) (pw2 k))
theorem gn_set {l : List Nat} {a j x : Nat} (h : a < l.length) : gn (l.set a x) j = if j = a then x else gn l j := by
  unfold gn
  simp only [List.getD_eq_getElem?_getD, List.getElem?_set]
  by_cases e : a = j
  · subst e; simp [h]
  · simp [e, Ne.symm e]
theorem sm_set {l : List Nat} {a x : Nat} (h : Sm l) (ha : a < l.length) (hx : x < 16) : Sm (l.set a x) := fun j => by
  rw [gn_set ha]; split
  · exact hx
  · exact h j
theorem xor_swap (a b c : Nat) : a ^^^ b ^^^ c = a ^^^ c ^^^ b := by rw [Nat.xor_assoc, Nat.xor_comm b c, ← Nat.xor_assoc]
theorem xor_out (x a b : Nat) : x ^^^ a ^^^ b ^^^ x = a ^^^ b := by rw [Nat.xor_assoc x a b, Nat.xor_comm x (a ^^^ b), Nat.xor_assoc, Nat.xor_self, Nat.xor_zero]
theorem pTo'_set {l : List Nat} {a x : Nat} (ha : a < l.length) : ∀ k, pTo' (l.set a x) k = if a < k then pTo' l k ^^^ (gn l a ^^^ x) else pTo' l k
  | 0 => by rw [if_neg (by omega)]; rfl
  | k + 1 => by
    rw [pTo'_succ, pTo'_succ, pTo'_set ha k, gn_set ha]
    by_cases e : k = a
    · subst e; rw [if_neg (by omega), if_pos rfl, if_pos (by omega), Nat.xor_assoc, ← Nat.xor_assoc (gn l k), Nat.xor_self, Nat.zero_xor]
    · rw [if_neg e]
      by_cases h : a < k
      · rw [if_pos h, if_pos (by omega), xor_swap]
      · rw [if_neg h, if_neg (by omega)]
theorem fmul_xor {a b c : Nat} (ha : a < 16) (hb : b < 16) (hc : c < 16) : fmul (a ^^^ b) c = fmul a c ^^^ fmul b c := by
  rw [fmul_comm (xor16 ha hb) hc, fmul_comm ha hc, fmul_comm hb hc]; exact (field_laws hc ha hb).2.2.1
theorem qTo'_set {l : List Nat} {a x : Nat} (hs : Sm l) (ha : a < l.length) (hx : x < 16) : ∀ k, qTo' (l.set a x) k = if a < k then qTo' l k ^^^ fmul (gn l a ^^^ x) (fpow 2 a) else qTo' l k
  | 0 => by rw [if_neg (by omega)]; rfl
  | k + 1 => by
    rw [qTo'_succ, qTo'_succ, qTo'_set hs ha hx k, gn_set ha]
    by_cases e : k = a
    · subst e
      rw [if_neg (by omega), if_pos rfl, if_pos (by omega), fmul_xor (hs k) hx (pw2 k), Nat.xor_assoc, ← Nat.xor_assoc (fmul (gn l k) (fpow 2 k)), Nat.xor_self, Nat.zero_xor]
    · rw [if_neg e]
      by_cases h : a < k
      · rw [if_pos h, if_pos (by omega), xor_swap]
      · rw [if_neg h, if_neg (by omega)]
def pS (l : List Nat) : Nat := pTo' l l.length
def qS (l : List Nat) : Nat := qTo' l l.length
/-- a, divided by b -/
def fdiv (a b : Nat) : Nat := fmul a (fpow b 14)
theorem fdiv_lt {a b : Nat} (ha : a < 16) (hb : b < 16) : fdiv a b < 16 := fmul_lt ha (fpow_lt hb 14)
theorem fdiv_mul {a b : Nat} (ha : a < 16) (hb : b < 16) (h0 : b ≠ 0) : fdiv (fmul a b) b = a := by
  unfold fdiv
  rw [fmul_assoc ha hb (fpow_lt hb 14), (inv_facts hb h0).1, fmul_one ha]
theorem pow2_all : (List.range 12).all (fun a => (List.range 12).all fun b => decide (fpow 2 a ≠ 0) && (decide (a = b) || decide (fpow 2 a ^^^ fpow 2 b ≠ 0))) = true := by decide +kernel
theorem pow2_ne {a b : Nat} (ha : a < 12) (hb : b < 12) : fpow 2 a ≠ 0 ∧ (a ≠ b → fpow 2 a ^^^ fpow 2 b ≠ 0) := by
  have h := List.all_eq_true.1 (List.all_eq_true.1 pow2_all a (List.mem_range.2 ha)) b (List.mem_range.2 hb)
  simp only [Bool.and_eq_true, Bool.or_eq_true, decide_eq_true_eq] at h
  exact ⟨h.1, fun e => h.2.resolve_left e⟩
/-- what is done with what is lacking: ins: the lost places inside -/
def dfill (l ins : List Nat) (p q : Nat) (hasP : Bool) : List Nat :=
  match ins with
  | [a] => if hasP = true then l.set a p else l.set a (fdiv q (fpow 2 a))
  | [a, b] => (l.set a (fdiv (q ^^^ fmul p (fpow 2 b)) (fpow 2 a ^^^ fpow 2 b))).set b (fdiv (q ^^^ fmul p (fpow 2 b)) (fpow 2 a ^^^ fpow 2 b) ^^^ p)
  | _ => l
/-- the lost ones made nought -/
def zap (d : List Nat) (ins : List Nat) : List Nat := ins.foldl (fun l a => l.set a 0) d
theorem set_back {d : List Nat} {a : Nat} (ha : a < d.length) : d.set a (gn d a) = d := by
  refine gn_eq_of (by simp) fun k hk => ?_
  rw [gn_set ha]; split
  · rename_i e; rw [e]
  · rfl
theorem set_set_back {d : List Nat} {a : Nat} (ha : a < d.length) : (d.set a 0).set a (gn d a) = d := by rw [List.set_set, set_back ha]
theorem fill_one {d : List Nat} {a : Nat} (hs : Sm d) (hn : d.length ≤ 12) (ha : a < d.length) : dfill (zap d [a]) [a] (pS (zap d [a]) ^^^ pS d) 0 true = d ∧ ∀ P, dfill (zap d [a]) [a] P (qS (zap d [a]) ^^^ qS d) false = d := by
  have hga := hs a
  constructor
  · simp only [zap, List.foldl_cons, List.foldl_nil, dfill, if_true]
    unfold pS
    rw [List.length_set, pTo'_set ha, if_pos ha, Nat.xor_zero, xor_swap, Nat.xor_self, Nat.zero_xor]
    exact set_set_back ha
  · intro P
    simp only [zap, List.foldl_cons, List.foldl_nil, dfill, Bool.false_eq_true, if_false]
    unfold qS
    rw [List.length_set, qTo'_set hs ha (by omega), if_pos ha, Nat.xor_zero, xor_swap, Nat.xor_self, Nat.zero_xor, fdiv_mul hga (pw2 a) (pow2_ne (a := a) (b := a) (by omega) (by omega)).1]
    exact set_set_back ha
theorem dfill_q {l : List Nat} {a p q q' : Nat} : dfill l [a] p q true = dfill l [a] p q' true := rfl
theorem fill_two {d : List Nat} {a b : Nat} (hs : Sm d) (hn : d.length ≤ 12) (ha : a < d.length) (hb : b < d.length) (hab : a ≠ b) (h : Bool) :
    dfill (zap d [a, b]) [a, b] (pS (zap d [a, b]) ^^^ pS d) (qS (zap d [a, b]) ^^^ qS d) h = d := by
  have hga := hs a; have hgb := hs b
  have hs0 : Sm (d.set a 0) := sm_set hs ha (by omega)
  have hgb0 : gn (d.set a 0) b = gn d b := by rw [gn_set ha, if_neg (Ne.symm hab)]
  have e1 : pS (zap d [a, b]) ^^^ pS d = gn d a ^^^ gn d b := by
    simp only [zap, List.foldl_cons, List.foldl_nil]
    unfold pS
    rw [List.length_set, List.length_set, pTo'_set (by rw [List.length_set]; exact hb), if_pos hb, pTo'_set ha, if_pos ha, hgb0, Nat.xor_zero, Nat.xor_zero]
    exact xor_out _ _ _
  have e2 : qS (zap d [a, b]) ^^^ qS d = fmul (gn d a) (fpow 2 a) ^^^ fmul (gn d b) (fpow 2 b) := by
    simp only [zap, List.foldl_cons, List.foldl_nil]
    unfold qS
    rw [List.length_set, List.length_set, qTo'_set hs0 (by rw [List.length_set]; exact hb) (by omega), if_pos hb, qTo'_set hs ha (by omega), if_pos ha, hgb0, Nat.xor_zero, Nat.xor_zero]
    exact xor_out _ _ _
  have hx : fdiv ((fmul (gn d a) (fpow 2 a) ^^^ fmul (gn d b) (fpow 2 b)) ^^^ fmul (gn d a ^^^ gn d b) (fpow 2 b)) (fpow 2 a ^^^ fpow 2 b) = gn d a := by
    have h1 : (fmul (gn d a) (fpow 2 a) ^^^ fmul (gn d b) (fpow 2 b)) ^^^ fmul (gn d a ^^^ gn d b) (fpow 2 b) = fmul (gn d a) (fpow 2 a ^^^ fpow 2 b) := by
      rw [fmul_xor hga hgb (pw2 b), (field_laws hga (pw2 a) (pw2 b)).2.2.1]
      generalize fmul (gn d a) (fpow 2 a) = A; generalize fmul (gn d b) (fpow 2 b) = B; generalize fmul (gn d a) (fpow 2 b) = C
      rw [Nat.xor_assoc, ← Nat.xor_assoc B, Nat.xor_comm B C, Nat.xor_assoc C, Nat.xor_self, Nat.xor_zero]
    rw [h1]
    exact fdiv_mul hga (xor16 (pw2 a) (pw2 b)) ((pow2_ne (by omega) (by omega)).2 hab)
  rw [e1, e2]
  simp only [dfill]
  rw [hx, ← Nat.xor_assoc, Nat.xor_self, Nat.zero_xor]
  simp only [zap, List.foldl_cons, List.foldl_nil]
  refine gn_eq_of (by simp) fun k hk => ?_
  rw [gn_set (by simpa using hb)]
  by_cases ekb : k = b
  · rw [if_pos ekb, ekb]
  · rw [if_neg ekb, gn_set (by simpa using ha)]
    by_cases eka : k = a
    · rw [if_pos eka, eka]
    · rw [if_neg eka, gn_set (by simpa using hb), if_neg ekb, gn_set ha, if_neg eka]
end Go.Proofs.Ytnaebllojkodbaa
