/-
  Plain: of lost numbers and both sums what was there (Reed; Solomon).
-/
import Derived.Test.YtnaebllojkodbaaDoublePlain
namespace Go.Proofs.Ytnaebllojkodbaa
open Go V

/-- the places that are marked, of the first k -/
def pos (ls : List Bool) (k : Nat) : List Nat := (List.range k).filter (gb ls)
theorem pos_succ (ls : List Bool) (k : Nat) : pos ls (k + 1) = pos ls k ++ (if gb ls k = true then [k] else []) := by
  unfold pos
  rw [List.range_succ, List.filter_append]
  by_cases h : gb ls k = true <;> simp [h]
theorem pos_mem {ls : List Bool} {k a : Nat} : a ∈ pos ls k ↔ a < k ∧ gb ls a = true := by simp [pos]
theorem pos_nodup (ls : List Bool) (k : Nat) : (pos ls k).Nodup := List.Pairwise.filter _ List.nodup_range
theorem pos_le (ls : List Bool) {k : Nat} : ∀ {m : Nat}, k ≤ m → (pos ls k).length ≤ (pos ls m).length
  | 0, h => by obtain rfl : k = 0 := by omega
               exact Nat.le_refl _
  | m + 1, h => by
    by_cases e : k = m + 1
    · rw [e]; exact Nat.le_refl _
    · have := pos_le ls (k := k) (m := m) (by omega)
      rw [pos_succ, List.length_append]; omega
theorem pos_two {ls : List Bool} {i j : Nat} (h : ∀ k, gb ls k = true → k = i ∨ k = j) : ∀ k, (pos ls k).length ≤ (if i < k then 1 else 0) + (if j < k ∧ i ≠ j then 1 else 0)
  | 0 => by simp [pos]
  | k + 1 => by
    have ih := pos_two h k
    rw [pos_succ, List.length_append]
    by_cases hk : gb ls k = true
    · rw [if_pos hk]
      have := h k hk
      simp only [List.length_cons, List.length_nil]
      split at ih <;> split at ih <;> split <;> split <;> omega
    · rw [if_neg hk]
      simp only [List.length_nil]
      split at ih <;> split at ih <;> split <;> split <;> omega
theorem pos_cut (ls : List Bool) (n : Nat) : (pos ls (n + 2)).filter (fun a => !decide (n ≤ a)) = pos ls n := by
  rw [pos_succ, pos_succ, List.filter_append, List.filter_append]
  have h1 : (pos ls n).filter (fun a => !decide (n ≤ a)) = pos ls n := List.filter_eq_self.2 fun a ha => by
    have := (pos_mem.1 ha).1
    simp; omega
  rw [h1]
  split <;> split <;> simp
theorem zap_gn : ∀ (ins : List Nat) (d : List Nat) (k : Nat), (∀ a ∈ ins, a < d.length) → (zap d ins).length = d.length ∧ gn (zap d ins) k = if k ∈ ins then 0 else gn d k
  | [], d, k, _ => ⟨rfl, by simp [zap]⟩
  | a :: ins, d, k, h => by
    have ha := h a (by simp)
    have ih := zap_gn ins (d.set a 0) k (fun b hb => by rw [List.length_set]; exact h b (by simp [hb]))
    rw [List.length_set] at ih
    refine ⟨ih.1, ?_⟩
    show gn (zap (d.set a 0) ins) k = _
    rw [ih.2, gn_set ha]
    by_cases h1 : k ∈ ins
    · simp [h1]
    · by_cases h2 : k = a
      · simp [h2]
      · simp [h1, h2]
/-- the numbers with both sums -/
def word (d : List Nat) : List Nat := d ++ [pS d, qS d]
theorem word_len (d : List Nat) : (word d).length = d.length + 2 := by simp [word]
theorem word_at {d : List Nat} {j : Nat} (h : j < d.length) : gn (word d) j = gn d j := by unfold word gn; simp [List.getElem?_append, h]
theorem word_p (d : List Nat) : gn (word d) d.length = pS d := by unfold word gn; simp
theorem word_q (d : List Nat) : gn (word d) (d.length + 1) = qS d := by unfold word gn; simp
theorem pS_lt {d : List Nat} (h : Sm d) : pS d < 16 := pTo'_lt h _
theorem qS_lt {d : List Nat} (h : Sm d) : qS d < 16 := qTo'_lt h _
theorem word_sm {d : List Nat} (h : Sm d) : Sm (word d) := sm_of fun x hx => by
  simp only [word, List.mem_append, List.mem_cons, List.not_mem_nil, or_false] at hx
  rcases hx with hx | rfl | rfl
  · obtain ⟨j, hj, rfl⟩ := List.getElem_of_mem hx
    have := h j
    rwa [gn_lt hj] at this
  · exact pS_lt h
  · exact qS_lt h
/-- what comes out -/
def solve (F : List Nat) (ls : List Bool) (n : Nat) : List Nat := dfill (F.take n) (pos ls n) (pS (F.take n) ^^^ gn F n) (qS (F.take n) ^^^ gn F (n + 1)) (!gb ls n)
def fits (F : List Nat) (ls : List Bool) (n : Nat) (D : List Nat) : Bool := (gb ls n || decide (pS D = gn F n)) && (gb ls (n + 1) || decide (qS D = gn F (n + 1)))
/-- F is the word, nought at the marks -/
def Blot (F : List Nat) (ls : List Bool) (d : List Nat) : Prop := F.length = d.length + 2 ∧ ∀ j, j < d.length + 2 → gn F j = if gb ls j = true then 0 else gn (word d) j

theorem solve_word {d F : List Nat} {ls : List Bool} (hs : Sm d) (hn : d.length ≤ 12) (h2 : (pos ls (d.length + 2)).length ≤ 2) (hF : Blot F ls d) : solve F ls d.length = d := by
  have hins : ∀ a ∈ pos ls d.length, a < d.length := fun a ha => (pos_mem.1 ha).1
  have htake : F.take d.length = zap d (pos ls d.length) := by
    have hz := fun k => zap_gn (pos ls d.length) d k hins
    refine gn_eq_of (by rw [(hz 0).1, List.length_take, hF.1]; omega) fun k hk => ?_
    have hk' : k < d.length := by rw [List.length_take] at hk; omega
    have h1 : gn (F.take d.length) k = gn F k := by unfold gn; simp [List.getElem?_take, hk']
    rw [h1, (hz k).2, hF.2 k (by omega), word_at hk']
    by_cases hb : gb ls k = true
    · rw [if_pos hb, if_pos (pos_mem.2 ⟨hk', hb⟩)]
    · rw [if_neg hb, if_neg fun h => hb (pos_mem.1 h).2]
  have hp := hF.2 d.length (by omega)
  have hq := hF.2 (d.length + 1) (by omega)
  rw [word_p] at hp
  rw [word_q] at hq
  rw [pos_succ, pos_succ, List.length_append, List.length_append] at h2
  have hnd := pos_nodup ls d.length
  unfold solve
  rw [htake]
  generalize pos ls d.length = ins at *
  match ins, hins, hnd, h2 with
  | [], _, _, _ => rfl
  | [a], hins, _, h2 =>
    have ha := hins a (by simp)
    obtain ⟨f1, f2⟩ := fill_one hs hn ha
    cases hb : gb ls d.length with
    | false =>
      rw [hb] at hp
      rw [hp]
      simp only [Bool.not_false, Bool.false_eq_true, if_false]
      exact (dfill_q (q' := 0)).trans f1
    | true =>
      have hb2 : gb ls (d.length + 1) = false := by
        cases hb2 : gb ls (d.length + 1) with
        | false => rfl
        | true => rw [hb, hb2] at h2; simp at h2
      rw [hb2] at hq
      rw [hq]
      exact f2 _
  | [a, b], hins, hnd, h2 =>
    have hab : a ≠ b := by
      intro e; subst e
      simp at hnd
    have hb : gb ls d.length = false := by
      cases hb : gb ls d.length with
      | false => rfl
      | true => rw [hb] at h2; simp at h2; omega
    have hb2 : gb ls (d.length + 1) = false := by
      cases hb2 : gb ls (d.length + 1) with
      | false => rfl
      | true => rw [hb2] at h2; simp at h2; omega
    rw [hb] at hp; rw [hb2] at hq
    rw [hp, hq]
    exact fill_two hs hn (hins a (by simp)) (hins b (by simp)) hab _
  | a :: b :: c :: r, _, _, h2 => exact absurd h2 (by simp; omega)
theorem fits_word {d F : List Nat} {ls : List Bool} (hF : Blot F ls d) : fits F ls d.length d = true := by
  have hp := hF.2 d.length (by omega)
  have hq := hF.2 (d.length + 1) (by omega)
  rw [word_p] at hp
  rw [word_q] at hq
  unfold fits
  cases h1 : gb ls d.length <;> cases h2 : gb ls (d.length + 1) <;> simp_all
theorem dfill_facts {l ins : List Nat} {p q : Nat} {h : Bool} (hs : Sm l) (hp : p < 16) (hq : q < 16) (hi : ∀ a ∈ ins, a < l.length) :
    (dfill l ins p q h).length = l.length ∧ Sm (dfill l ins p q h) ∧ ∀ j, j ∉ ins → gn (dfill l ins p q h) j = gn l j := by
  unfold dfill
  split
  · rename_i a
    have ha := hi a (by simp)
    split
    · exact ⟨by simp, sm_set hs ha hp, fun j hj => by rw [gn_set ha, if_neg (by simpa using hj)]⟩
    · exact ⟨by simp, sm_set hs ha (fdiv_lt hq (pw2 a)), fun j hj => by rw [gn_set ha, if_neg (by simpa using hj)]⟩
  · rename_i a b
    have ha := hi a (by simp)
    have hb := hi b (by simp)
    have hx := fdiv_lt (a := q ^^^ fmul p (fpow 2 b)) (b := fpow 2 a ^^^ fpow 2 b) (xor16 hq (fmul_lt hp (pw2 b))) (xor16 (pw2 a) (pw2 b))
    refine ⟨by simp, sm_set (sm_set hs ha hx) (by rw [List.length_set]; exact hb) (xor16 hx hp), fun j hj => ?_⟩
    simp only [List.mem_cons, List.not_mem_nil, or_false, not_or] at hj
    rw [gn_set (by rw [List.length_set]; exact hb), if_neg hj.2, gn_set ha, if_neg hj.1]
  · exact ⟨rfl, hs, fun _ _ => rfl⟩
theorem sm_take {F : List Nat} (h : Sm F) (n : Nat) : Sm (F.take n) := fun j => by
  have := h j
  unfold gn at *
  simp only [List.getD_eq_getElem?_getD, List.getElem?_take]
  split
  · simpa using this
  · simp
/-- what fits is what was there: a, that was not marked, is as it was -/
theorem fits_only {d F : List Nat} {ls : List Bool} {a : Nat} (hs : Sm d) (hn : d.length ≤ 12) (hFs : Sm F) (hF : F.length = d.length + 2) (ha : a < d.length + 2) (hal : gb ls a = false)
    (hz : ∀ j, j < d.length + 2 → j ≠ a → gn F j = if gb ls j = true then 0 else gn (word d) j) (h1 : (pos ls (d.length + 2)).length ≤ 1) (hl : ls.length = d.length + 2)
    (hf : fits F ls d.length (solve F ls d.length) = true) : gn F a = gn (word d) a := by
  have hFa := hFs d.length
  have hFb := hFs (d.length + 1)
  have hst := sm_take hFs d.length
  have htl : (F.take d.length).length = d.length := by rw [List.length_take]; omega
  obtain ⟨g1, g2, g3⟩ := dfill_facts (ins := pos ls d.length) (h := !gb ls d.length) hst (xor16 (pS_lt hst) hFa) (xor16 (qS_lt hst) hFb) (fun b hb => by rw [htl]; exact (pos_mem.1 hb).1)
  change (solve F ls d.length).length = _ at g1
  change Sm (solve F ls d.length) at g2
  change ∀ j, _ → gn (solve F ls d.length) j = _ at g3
  generalize solve F ls d.length = D at *
  rw [htl] at g1
  unfold fits at hf
  simp only [Bool.and_eq_true, Bool.or_eq_true, decide_eq_true_eq] at hf
  have hD : ∀ j, j < d.length + 2 → gb ls j = false → gn (word D) j = gn F j := fun j hj hb => by
    by_cases h1 : j < d.length
    · rw [word_at (by omega), g3 j (fun h => by have := (pos_mem.1 h).2; rw [hb] at this; cases this)]
      unfold gn; simp [List.getElem?_take, h1]
    · by_cases h2 : j = d.length
      · subst h2
        rw [← g1, word_p, g1]
        exact hf.1.resolve_left (by simp [hb])
      · obtain rfl : j = d.length + 1 := by omega
        rw [show d.length + 1 = D.length + 1 by omega, word_q, g1]
        exact hf.2.resolve_left (by simp [hb])
  have hset : ∀ j, gb (ls.set a true) j = if j = a then true else gb ls j := fun j => by
    unfold gb
    simp only [List.getD_eq_getElem?_getD, List.getElem?_set]
    by_cases e : a = j
    · subst e; simp [show a < ls.length by omega]
    · simp [e, Ne.symm e]
  have h2 : (pos (ls.set a true) (d.length + 2)).length ≤ 2 := by
    have : ∀ k, (pos (ls.set a true) k).length ≤ (pos ls k).length + (if a < k then 1 else 0) := fun k => by
      induction k with
      | zero => simp [pos]
      | succ k ih =>
        rw [pos_succ, pos_succ, List.length_append, List.length_append, hset]
        by_cases e : k = a
        · subst e
          rw [if_neg (by omega)] at ih
          rw [hal]; simp; omega
        · simp only [e, if_false]
          split at ih <;> split <;> split <;> simp only [List.length_cons, List.length_nil] <;> omega
    have := this (d.length + 2)
    rw [if_pos ha] at this
    omega
  have hG : ∀ (x : List Nat), x.length = d.length → (∀ j, j < d.length + 2 → gb ls j = false → j ≠ a → gn (word x) j = gn F j) →
      Blot ((List.range (d.length + 2)).map fun j => if gb (ls.set a true) j = true then 0 else gn F j) (ls.set a true) x := fun x hx hj => by
    refine ⟨by simp [hx], fun j hjl => ?_⟩
    rw [hx] at hjl
    have : gn ((List.range (d.length + 2)).map fun j => if gb (ls.set a true) j = true then 0 else gn F j) j = if gb (ls.set a true) j = true then 0 else gn F j := by
      rw [gn_lt (by simpa using hjl)]; simp
    rw [this]
    by_cases hb : gb (ls.set a true) j = true
    · rw [if_pos hb, if_pos hb]
    · rw [if_neg hb, if_neg hb]
      rw [hset] at hb
      by_cases e : j = a
      · simp [e] at hb
      · rw [if_neg e] at hb
        exact (hj j hjl (by simpa using hb) e).symm
  have e1 := solve_word hs hn h2 (hG d rfl fun j hj hb hja => by rw [hz j hj hja, hb]; simp)
  have e2 := solve_word g2 (by omega) (by rw [g1]; exact h2) (hG D g1 fun j hj hb _ => hD j hj hb)
  rw [g1, e1] at e2
  rw [← hD a ha hal, ← e2]
theorem dfill_take {l ins : List Nat} {p q n : Nat} {h : Bool} : (dfill l ins p q h).take n = dfill (l.take n) ins p q h := by
  unfold dfill
  split
  · split <;> rw [List.take_set]
  · rw [List.take_set, List.take_set]
  · rfl
theorem dfill_drop {l ins : List Nat} {p q n : Nat} {h : Bool} (hi : ∀ a ∈ ins, a < n) (j : Nat) (hj : n ≤ j) : gn (dfill l ins p q h) j = gn l j := by
  have st : ∀ (l : List Nat) (a x : Nat), a < n → gn (l.set a x) j = gn l j := fun l a x ha => by
    unfold gn; simp [List.getElem?_set, show a ≠ j by omega]
  unfold dfill
  split
  · rename_i a
    have ha := hi a (by simp)
    split <;> exact st _ _ _ ha
  · rename_i a b
    rw [st _ _ _ (hi b (by simp)), st _ _ _ (hi a (by simp))]
  · rfl
/-- the marks of one place, of two -/
theorem gb_set {l : List Bool} {a j : Nat} {x : Bool} (h : a < l.length) : gb (l.set a x) j = if j = a then x else gb l j := by
  unfold gb
  simp only [List.getD_eq_getElem?_getD, List.getElem?_set]
  by_cases e : a = j
  · subst e; simp [h]
  · simp [e, Ne.symm e]
theorem gb_rep (n j : Nat) : gb (List.replicate n false) j = false := by
  unfold gb; simp only [List.getD_eq_getElem?_getD, List.getElem?_replicate]; split <;> rfl
end Go.Proofs.Ytnaebllojkodbaa
