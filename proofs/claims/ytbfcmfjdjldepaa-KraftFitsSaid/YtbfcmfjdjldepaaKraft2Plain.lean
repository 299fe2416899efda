/-
  Plain: words one behind the other, the shortest first: none begins another one.
-/
import Derived.Test.YtbfcmfjdjldepaaKraftPlain
import Derived.Test.YtbfcmfjdjldepaaSortPlain
import Derived.Test.YtbfcmfjdjldepaaDigsPlain
namespace Go.Proofs.Ytbfcmfjdjldepaa
open Go V

def atk (ls ord : List Nat) : Nat → Nat := iter (fun i s => s + 2 ^ (8 - gn ls (gn ord i))) 0
theorem atk_succ (ls ord : List Nat) (k : Nat) : atk ls ord (k + 1) = atk ls ord k + 2 ^ (8 - gn ls (gn ord k)) := rfl
def wk (ls ord : List Nat) (k : Nat) : List Bool := digs (atk ls ord k >>> (8 - gn ls (gn ord k))) (gn ls (gn ord k)) (gn ls (gn ord k))
theorem atk_mono (ls ord : List Nat) {j : Nat} : ∀ {k}, j ≤ k → atk ls ord j ≤ atk ls ord k
  | 0, h => by obtain rfl : j = 0 := by omega
               exact Nat.le_refl _
  | k + 1, h => by
    by_cases e : j = k + 1
    · subst e; exact Nat.le_refl _
    · have h1 := atk_mono ls ord (j := j) (k := k) (by omega)
      rw [atk_succ]
      exact Nat.le_trans h1 (Nat.le_add_right _ _)
theorem atk_sum (ls ord : List Nat) : ∀ k, k ≤ ord.length → atk ls ord k = ((ord.take k).map fun i => 2 ^ (8 - gn ls i)).sum
  | 0, _ => rfl
  | k + 1, h => by
    have hk : k < ord.length := by omega
    rw [atk_succ, atk_sum ls ord k (by omega), List.take_add_one, List.getElem?_eq_getElem hk, gn_lt hk, List.map_append, List.sum_append]
    simp
theorem sumTo_range (ls : List Nat) : ∀ k, sumTo ls k = ((List.range k).map fun i => 2 ^ (8 - gn ls i)).sum
  | 0 => rfl
  | k + 1 => by rw [sumTo_succ, sumTo_range ls k, List.range_succ, List.map_append, List.sum_append]; simp
theorem atk_all {ls ord : List Nat} (hp : ord.Perm (List.range ls.length)) : atk ls ord ls.length = sumTo ls ls.length := by
  have hl : ord.length = ls.length := by rw [hp.length_eq]; simp
  rw [atk_sum ls ord _ (by omega), List.take_of_length_le (by omega), sumTo_range]
  exact (hp.map _).sum_nat
theorem take_eq_get {a b : List Bool} {n i : Nat} (h : b.take n = a) (hi : i < n) : gb b i = gb a i := by
  rw [← h]; simp [gb, List.getD_eq_getElem?_getD, List.getElem?_take, hi]
/-- an earlier word does not begin a later one -/
theorem wk_not {ls ord : List Nat} (hall : atk ls ord ls.length ≤ 256) {j k : Nat} (hjk : j < k) (hk : k < ls.length) (h8j : gn ls (gn ord j) ≤ 8) (h8k : gn ls (gn ord k) ≤ 8) (hle : gn ls (gn ord j) ≤ gn ls (gn ord k)) :
    (wk ls ord k).take (gn ls (gn ord j)) ≠ wk ls ord j := by
  intro h
  have hA := atk_mono ls ord (show j + 1 ≤ k by omega)
  have hB := atk_mono ls ord (show k + 1 ≤ ls.length by omega)
  rw [atk_succ] at hA hB
  have hpk := Nat.two_pow_pos (8 - gn ls (gn ord k))
  have hbits : ∀ i, i < gn ls (gn ord j) → (atk ls ord k >>> (8 - gn ls (gn ord k))).testBit (gn ls (gn ord k) - 1 - i) = (atk ls ord j >>> (8 - gn ls (gn ord j))).testBit (gn ls (gn ord j) - 1 - i) := by
    intro i hi
    have := take_eq_get h hi
    unfold wk at this
    rwa [digs_get _ _ _ _ (by omega), digs_get _ _ _ _ hi] at this
  generalize gn ls (gn ord j) = a at *
  generalize gn ls (gn ord k) = b at *
  generalize atk ls ord j = x at *
  generalize atk ls ord k = y at *
  have he : y >>> (8 - a) = x >>> (8 - a) := by
    apply Nat.eq_of_testBit_eq
    intro i
    by_cases hi : i < a
    · have := hbits (a - 1 - i) (by omega)
      rw [Nat.testBit_shiftRight, Nat.testBit_shiftRight] at this
      rw [Nat.testBit_shiftRight, Nat.testBit_shiftRight]
      rw [show 8 - b + (b - 1 - (a - 1 - i)) = 8 - a + i by omega, show 8 - a + (a - 1 - (a - 1 - i)) = 8 - a + i by omega] at this
      exact this
    · have hpj : 1 ≤ 2 ^ (8 - a) := Nat.two_pow_pos (8 - a)
      have hx : x < 2 ^ 8 := by have : (2:Nat) ^ 8 = 256 := rfl; omega
      have hy : y < 2 ^ 8 := by have : (2:Nat) ^ 8 = 256 := rfl; omega
      rw [Nat.testBit_shiftRight, Nat.testBit_shiftRight]
      rw [Nat.testBit_lt_two_pow (Nat.lt_of_lt_of_le hx (Nat.pow_le_pow_right (by omega) (by omega))), Nat.testBit_lt_two_pow (Nat.lt_of_lt_of_le hy (Nat.pow_le_pow_right (by omega) (by omega)))]
  rw [Nat.shiftRight_eq_div_pow, Nat.shiftRight_eq_div_pow] at he
  have h1 := Nat.div_le_div_right (c := 2 ^ (8 - a)) hA
  rw [Nat.add_div_right _ (Nat.two_pow_pos _)] at h1
  omega
/-- the order in which words are given -/
structure Ordd (ls ord : List Nat) : Prop where
  perm : ord.Perm (List.range ls.length)
  sorted : ord.Pairwise fun a b => gn ls a ≤ gn ls b
theorem Ordd.len {ls ord : List Nat} (h : Ordd ls ord) : ord.length = ls.length := by rw [h.perm.length_eq]; simp
theorem Ordd.lt {ls ord : List Nat} (h : Ordd ls ord) {k : Nat} (hk : k < ls.length) : gn ord k < ls.length := by
  have hl := h.len
  rw [gn_lt (by omega)]
  exact List.mem_range.1 (h.perm.mem_iff.1 (List.getElem_mem _))
theorem Ordd.le {ls ord : List Nat} (h : Ordd ls ord) {j k : Nat} (hj : j < k) (hk : k < ls.length) : gn ls (gn ord j) ≤ gn ls (gn ord k) := by
  have hl := h.len
  have := (List.pairwise_iff_getElem.1 h.sorted) j k (by omega) (by omega) hj
  rw [gn_lt (show j < ord.length by omega), gn_lt (show k < ord.length by omega)]; exact this
theorem Ordd.at {ls ord : List Nat} (h : Ordd ls ord) {i : Nat} (hi : i < ls.length) : ∃ k, k < ls.length ∧ gn ord k = i := by
  have hm : i ∈ ord := h.perm.mem_iff.2 (List.mem_range.2 hi)
  obtain ⟨k, hk, e⟩ := List.getElem_of_mem hm
  exact ⟨k, by rw [← h.len]; exact hk, by rw [gn_lt hk]; exact e⟩
theorem Ordd.inj {ls ord : List Nat} (h : Ordd ls ord) {j k : Nat} (hj : j < ls.length) (hk : k < ls.length) (e : gn ord j = gn ord k) : j = k := by
  have hl := h.len
  have hnd : ord.Nodup := h.perm.nodup_iff.2 List.nodup_range
  rw [gn_lt (show j < ord.length by omega), gn_lt (show k < ord.length by omega)] at e
  exact (List.getElem_inj hnd).1 e
/-- a code made so -/
theorem made_free {ls ord : List Nat} {C : Code} (h : Ordd ls ord) (h8 : ∀ i, i < ls.length → gn ls i ≤ 8) (hall : sumTo ls ls.length ≤ 256) (hC : C.length = ls.length) (hw : ∀ k, k < ls.length → gw C (gn ord k) = wk ls ord k) :
    (∀ i, i < C.length → ∀ j, j < C.length → i ≠ j → ¬ ((gw C i).length ≤ (gw C j).length ∧ (gw C j).take (gw C i).length = gw C i)) ∧ ∀ i, i < C.length → (gw C i).length = gn ls i := by
  have hlen : ∀ k, k < ls.length → (gw C (gn ord k)).length = gn ls (gn ord k) := fun k hk => by rw [hw k hk, wk, digs_len]
  refine ⟨fun i hi j hj hne => ?_, fun i hi => ?_⟩
  · obtain ⟨a, ha, rfl⟩ := h.at (i := i) (by omega)
    obtain ⟨b, hb, rfl⟩ := h.at (i := j) (by omega)
    have hab : a ≠ b := fun e => hne (by rw [e])
    rw [hlen a ha, hlen b hb, hw a ha, hw b hb]
    rintro ⟨h1, h2⟩
    have h8a := h8 _ (h.lt ha)
    have h8b := h8 _ (h.lt hb)
    have hall' := Nat.le_trans (Nat.le_of_eq (atk_all h.perm)) hall
    rcases Nat.lt_or_gt_of_ne hab with hlt | hlt
    · exact wk_not hall' hlt hb h8a h8b h1 h2
    · have hle := h.le hlt ha
      refine wk_not hall' hlt ha h8b h8a hle ?_
      have e : gn ls (gn ord a) = gn ls (gn ord b) := by omega
      rw [e, List.take_of_length_le (by rw [wk, digs_len]; omega)] at h2
      rw [List.take_of_length_le (by rw [wk, digs_len]; omega)]
      exact h2.symm
  · obtain ⟨a, ha, rfl⟩ := h.at (i := i) (by omega)
    exact hlen a ha
end Go.Proofs.Ytbfcmfjdjldepaa
