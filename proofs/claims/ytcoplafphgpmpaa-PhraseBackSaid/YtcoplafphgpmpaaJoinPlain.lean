/-
  Plain: joining the phrases of a text makes the text (Lempel; Ziv).
-/
import Derived.Test.YtcoplafphgpmpaaPhrasePlain
namespace Go.Proofs.Ytcoplafphgpmpaa
open Go V

theorem snoc_ind {α : Type} {P : List α → Prop} (h0 : P []) (h1 : ∀ l a, P l → P (l ++ [a])) (l : List α) : P l := by
  have key : ∀ r : List α, P r.reverse := by
    intro r
    induction r with
    | nil => exact h0
    | cons a r ih => rw [List.reverse_cons]; exact h1 _ _ ih
  have := key l.reverse
  rw [List.reverse_reverse] at this; exact this

/-- the text of each phrase; of none the first one -/
def txs (L : List (Nat × Nat)) : List (List Nat) := L.foldl (fun s p => s ++ [s.getD p.1 [] ++ [p.2]]) [[]]
theorem txs_app (L : List (Nat × Nat)) (p : Nat × Nat) : txs (L ++ [p]) = txs L ++ [(txs L).getD p.1 [] ++ [p.2]] := by simp [txs, List.foldl_append]
theorem txs_len (L : List (Nat × Nat)) : (txs L).length = L.length + 1 := by
  induction L using snoc_ind with
  | h0 => rfl
  | h1 L p ih => rw [txs_app]; simp [ih]
def joined (L : List (Nat × Nat)) : List Nat := (txs L).flatten
theorem joined_app (L : List (Nat × Nat)) (p : Nat × Nat) : joined (L ++ [p]) = joined L ++ ((txs L).getD p.1 [] ++ [p.2]) := by simp [joined, txs_app]
theorem txs_take {L : List (Nat × Nat)} {k : Nat} (h : k < L.length) : txs (L.take (k + 1)) = txs (L.take k) ++ [(txs (L.take k)).getD (gp L k).1 [] ++ [(gp L k).2]] := by
  rw [List.take_add_one, List.getElem?_eq_getElem h, Option.toList_some, txs_app, gp_lt h]
theorem joined_take {L : List (Nat × Nat)} {k : Nat} (h : k < L.length) : joined (L.take (k + 1)) = joined (L.take k) ++ ((txs (L.take k)).getD (gp L k).1 [] ++ [(gp L k).2]) := by
  rw [List.take_add_one, List.getElem?_eq_getElem h, Option.toList_some, joined_app, gp_lt h]
theorem txs_take_len {L : List (Nat × Nat)} {k : Nat} (h : k ≤ L.length) : (txs (L.take k)).length = k + 1 := by rw [txs_len, List.length_take]; omega
theorem joined_len_mono {L : List (Nat × Nat)} {k : Nat} : ∀ {n : Nat}, k ≤ n → n ≤ L.length → (joined (L.take k)).length ≤ (joined (L.take n)).length
  | 0, h, _ => by obtain rfl : k = 0 := by omega
                  exact Nat.le_refl _
  | n + 1, h, hn => by
    by_cases e : k = n + 1
    · rw [e]; exact Nat.le_refl _
    · have := joined_len_mono (L := L) (k := k) (n := n) (by omega) (by omega)
      rw [joined_take (show n < L.length by omega), List.length_append]; omega
/-- no text is longer than all of them -/
theorem txs_short {L : List (Nat × Nat)} {i : Nat} : ((txs L).getD i []).length ≤ (joined L).length := by
  unfold joined
  by_cases h : i < (txs L).length
  · rw [List.getD_eq_getElem?_getD, List.getElem?_eq_getElem h, Option.getD_some]
    have : (txs L)[i].Sublist (txs L).flatten := List.sublist_flatten_of_mem (List.getElem_mem h)
    exact this.length_le
  · rw [List.getD_eq_getElem?_getD, List.getElem?_eq_none (by omega)]; simp

/-- what holds while a text is parsed -/
structure JI (t : List Nat) (k : Nat) (s : PS) : Prop where
  text : joined s.out ++ (txs s.out).getD s.at_ [] = t.take k
  at_ : s.at_ ≤ s.out.length
  kn : ∀ p v, s.kn p = some v → v ≤ s.out.length ∧ p.1 ≤ s.out.length ∧ (txs s.out).getD v [] = (txs s.out).getD p.1 [] ++ [p.2]
  prev : ∀ (i : Nat) (p : Nat × Nat), s.out[i]? = some p → p.1 ≤ i
theorem getD_app_left {l : List (List Nat)} {x : List Nat} {i : Nat} (h : i < l.length) : (l ++ [x]).getD i [] = l.getD i [] := by
  simp [List.getD_eq_getElem?_getD, List.getElem?_append, h]
theorem getD_app_last {l : List (List Nat)} {x : List Nat} : (l ++ [x]).getD l.length [] = x := by
  simp [List.getD_eq_getElem?_getD]
theorem JI.start (t : List Nat) : JI t 0 ⟨[], 0, fun _ => none⟩ := ⟨by simp [joined, txs], by simp, by simp, by simp⟩
theorem take_next {t : List Nat} {k : Nat} (h : k < t.length) : t.take (k + 1) = t.take k ++ [gn t k] := by
  rw [List.take_add_one, List.getElem?_eq_getElem h, Option.toList_some, gn_lt h]
theorem JI.step {t : List Nat} {k : Nat} {s : PS} (h : JI t k s) (hk : k + 1 < t.length) : JI t (k + 1) (pstep t.length k (gn t k) s) := by
  have hl := txs_len s.out
  have ha := h.at_
  cases hkn : (s.kn (s.at_, gn t k)).isSome with
  | true =>
    rw [pstep_go hkn hk]
    obtain ⟨v, hv⟩ := Option.isSome_iff_exists.1 hkn
    obtain ⟨h1, h2, h3⟩ := h.kn _ v hv
    simp only [hv, Option.getD_some]
    refine ⟨?_, h1, h.kn, h.prev⟩
    simp only at h3 ⊢
    rw [h3, ← List.append_assoc, h.text, take_next (by omega)]
  | false =>
    rw [pstep_new hkn]
    refine ⟨?_, by simp, fun p v hv => ?_, fun j p hj => ?_⟩
    · simp only [joined_app, txs_app]
      rw [getD_app_left (by omega), take_next (by omega), ← h.text]
      have : (txs s.out).getD 0 [] = [] := by
        have : ∀ L : List (Nat × Nat), (txs L).getD 0 [] = [] := by
          intro L
          induction L using snoc_ind with
          | h0 => rfl
          | h1 L p ih => rw [txs_app, getD_app_left (by rw [txs_len]; omega), ih]
        exact this _
      rw [this]; simp
    · simp only [List.length_append, List.length_cons, List.length_nil, txs_app]
      simp only at hv
      split at hv
      · rename_i e
        injection hv with hv
        subst e; subst hv
        refine ⟨by omega, by simp only; omega, ?_⟩
        rw [← hl, getD_app_last, getD_app_left (by simp only; omega)]
      · obtain ⟨h1, h2, h3⟩ := h.kn p v hv
        refine ⟨by omega, by omega, ?_⟩
        rw [getD_app_left (by omega), getD_app_left (by omega), h3]
    · rw [List.getElem?_append] at hj
      split at hj
      · exact h.prev j p hj
      · have h1 := (List.getElem?_eq_some_iff.1 hj).1
        have hjl : j = s.out.length := by simp at h1; omega
        subst hjl
        simp at hj
        rw [← hj]; exact h.at_
theorem JI.all (t : List Nat) : ∀ k, k + 1 ≤ t.length → JI t k (paTo t.length t k)
  | 0, _ => JI.start t
  | k + 1, h => by rw [paTo_succ]; exact (JI.all t k (by omega)).step (by omega)
/-- the phrases of a text make it; and each one's other one lies ahead of it -/
theorem join_parse (t : List Nat) : joined (parse t) = t ∧ ∀ i, i < (parse t).length → (gp (parse t) i).1 ≤ i := by
  cases hl : t.length with
  | zero =>
    obtain rfl := List.eq_nil_of_length_eq_zero hl
    exact ⟨rfl, fun i hi => by simp [parse, paTo, iter] at hi⟩
  | succ n =>
    have hJ := JI.all t n (by omega)
    have hp : parse t = (paTo t.length t n).out ++ [((paTo t.length t n).at_, gn t n)] := by
      unfold parse; rw [hl, paTo_succ, pstep_last]
    rw [hp]
    generalize paTo t.length t n = s at hJ
    refine ⟨?_, fun i hi => ?_⟩
    · rw [joined_app, ← List.append_assoc, hJ.text, ← take_next (by omega), ← hl, List.take_length]
    · rw [List.length_append] at hi
      by_cases h1 : i < s.out.length
      · have := hJ.prev i (s.out[i]) (List.getElem?_eq_getElem h1)
        unfold gp
        rw [List.getD_eq_getElem?_getD, List.getElem?_append_left h1, List.getElem?_eq_getElem h1]
        exact this
      · have : i = s.out.length := by simp at hi; omega
        subst this
        unfold gp
        rw [List.getD_eq_getElem?_getD, List.getElem?_append_right (Nat.le_refl _), Nat.sub_self]
        exact hJ.at_
def szs (L : List (Nat × Nat)) (k : Nat) : List Nat := (txs (L.take k)).map List.length
theorem szs_len {L : List (Nat × Nat)} {k : Nat} (h : k ≤ L.length) : (szs L k).length = k + 1 := by rw [szs, List.length_map, txs_take_len h]
theorem szs_gn (L : List (Nat × Nat)) (k i : Nat) : gn (szs L k) i = ((txs (L.take k)).getD i []).length := by
  unfold gn szs
  rw [List.getD_eq_getElem?_getD, List.getD_eq_getElem?_getD, List.getElem?_map]
  cases (txs (L.take k))[i]? <;> rfl
theorem szs_succ {L : List (Nat × Nat)} {k : Nat} (h : k < L.length) : szs L (k + 1) = szs L k ++ [gn (szs L k) (gp L k).1 + 1] := by
  rw [szs_gn]; unfold szs; rw [txs_take h]; simp
theorem all_succ {L : List (Nat × Nat)} {k : Nat} (h : k < L.length) : (joined (L.take (k + 1))).length = (joined (L.take k)).length + gn (szs L (k + 1)) (k + 1) := by
  have hl := szs_len (L := L) (k := k) (by omega)
  have e : gn (szs L (k + 1)) (k + 1) = gn (szs L k) (gp L k).1 + 1 := by
    rw [szs_succ h]; unfold gn; rw [List.getD_eq_getElem?_getD, List.getElem?_append_right (by omega), hl]; simp
  rw [e, szs_gn, joined_take h]; simp
theorem parse_len (t : List Nat) : (parse t).length ≤ t.length := paTo_len _ _ _
end Go.Proofs.Ytcoplafphgpmpaa
