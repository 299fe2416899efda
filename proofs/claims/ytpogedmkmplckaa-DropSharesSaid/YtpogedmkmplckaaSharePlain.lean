/-
  Plain: how many words have which sum of places (Ginzburg), by adding up bit by bit.
-/
import Derived.Test.YtpogedmkmplckaaDropPlain
namespace Go.Proofs.Ytpogedmkmplckaa
open Go V

/-- the sum of the places of the set ones of the first k bits -/
def ww (w : Nat) : Nat → Nat := iter (fun i s => if w.testBit i = true then s + (i + 1) else s) 0
theorem ww_succ (w k : Nat) : ww w (k + 1) = if w.testBit k = true then ww w k + (k + 1) else ww w k := rfl
def wbits (w n : Nat) : Nat → List Bool := iter (fun i x => x.set i (w.testBit i)) (List.replicate n false)
theorem wbits_succ (w n k : Nat) : wbits w n (k + 1) = (wbits w n k).set k (w.testBit k) := rfl
theorem wbits_len (w n : Nat) : ∀ k, (wbits w n k).length = n
  | 0 => by show (List.replicate n false).length = n; simp
  | k + 1 => by rw [wbits_succ, List.length_set, wbits_len w n k]
theorem wbits_get (w n : Nat) : ∀ k j, j < k → k ≤ n → gb (wbits w n k) j = w.testBit j
  | 0, j, h, _ => by omega
  | k + 1, j, h, hn => by
    have hl := wbits_len w n k
    rw [wbits_succ]
    unfold gb
    simp only [List.getD_eq_getElem?_getD, List.getElem?_set]
    by_cases e : k = j
    · subst e; rw [if_pos rfl, if_pos (by omega)]; rfl
    · rw [if_neg e]
      have := wbits_get w n k j (by omega) (by omega)
      unfold gb at this
      rw [List.getD_eq_getElem?_getD] at this
      exact this
theorem weigh_wbits (w n : Nat) : weigh (wbits w n n) = ww w n := by
  have key : ∀ k, k ≤ n → weighTo (wbits w n n) k = ww w k := by
    intro k
    induction k with
    | zero => intro _; rfl
    | succ k ih => intro h; rw [weighTo_succ, ww_succ, ih (by omega), wbits_get w n n k (by omega) (Nat.le_refl _)]
  unfold weigh; rw [wbits_len]; exact key n (Nat.le_refl _)
theorem ww_le (w : Nat) : ∀ k, ww w k ≤ k * k
  | 0 => Nat.le_refl _
  | k + 1 => by
    have := ww_le w k
    have h : (k + 1) * (k + 1) = k * k + 2 * k + 1 := by rw [Nat.add_mul, Nat.mul_add]; omega
    rw [ww_succ]; split <;> omega
theorem ww_congr {a b : Nat} : ∀ {k : Nat}, (∀ j, j < k → a.testBit j = b.testBit j) → ww a k = ww b k
  | 0, _ => rfl
  | k + 1, h => by rw [ww_succ, ww_succ, ww_congr (k := k) fun j hj => h j (by omega), h k (by omega)]
/-- the words below k with the sum a -/
def wordsTo (n a : Nat) : Nat → List Nat := iter (fun w l => if ww w n % (n + 1) = a then l ++ [w] else l) []
theorem wordsTo_succ (n a k : Nat) : wordsTo n a (k + 1) = if ww k n % (n + 1) = a then wordsTo n a k ++ [k] else wordsTo n a k := rfl
theorem wordsTo_len (n a : Nat) : ∀ k, (wordsTo n a k).length = (List.range k).countP fun w => decide (ww w n % (n + 1) = a)
  | 0 => rfl
  | k + 1 => by
    rw [wordsTo_succ, List.range_succ, List.countP_append, ← wordsTo_len n a k]
    by_cases h : ww k n % (n + 1) = a
    · rw [if_pos h, List.length_append]; simp [h]
    · rw [if_neg h]; simp [h]
theorem wordsTo_le (n a k : Nat) : (wordsTo n a k).length ≤ k := by
  rw [wordsTo_len]; have := List.countP_le_length (p := fun w => decide (ww w n % (n + 1) = a)) (l := List.range k); simpa using this

def cnt (M j r : Nat) : Nat := (List.range (2 ^ j)).countP fun w => decide (ww w j % M = r)
def dp (M : Nat) : Nat → Nat → Nat
  | 0, r => if r = 0 then 1 else 0
  | j + 1, r => dp M j r + dp M j ((r + (M - (j + 1))) % M)
theorem shift_mod {M j r x : Nat} (hj : j + 1 ≤ M) (hr : r < M) : (x + (j + 1)) % M = r ↔ x % M = (r + (M - (j + 1))) % M := by
  constructor
  · intro h
    rw [← h, Nat.mod_add_mod, show x + (j + 1) + (M - (j + 1)) = x + M by omega, Nat.add_mod_right]
  · intro h
    rw [← Nat.mod_add_mod, h, Nat.mod_add_mod, show r + (M - (j + 1)) + (j + 1) = r + M by omega, Nat.add_mod_right, Nat.mod_eq_of_lt hr]
theorem testBit_low (j w k : Nat) (hw : w < 2 ^ j) (hk : k < j) : (2 ^ j + w).testBit k = w.testBit k := by
  rw [Nat.testBit_two_pow_add_gt hk]
theorem testBit_top (j w : Nat) (hw : w < 2 ^ j) : (2 ^ j + w).testBit j = true := by
  rw [Nat.testBit_two_pow_add_eq, Nat.testBit_lt_two_pow hw]; rfl
theorem cnt_dp (M : Nat) : ∀ j r, j < M → r < M → cnt M j r = dp M j r
  | 0, r, _, hr => by
    show (List.range 1).countP _ = _
    have h0 : ww 0 0 % M = 0 := Nat.zero_mod _
    rw [show List.range 1 = [0] from rfl]
    simp only [List.countP_cons, List.countP_nil, h0, dp]
    by_cases h : r = 0
    · subst h; simp
    · rw [if_neg h]; simp [Ne.symm h]
  | j + 1, r, hj, hr => by
    have h1 := cnt_dp M j r (by omega) hr
    have h2 := cnt_dp M j ((r + (M - (j + 1))) % M) (by omega) (Nat.mod_lt _ (by omega))
    rw [dp, ← h1, ← h2]
    unfold cnt
    rw [Nat.pow_succ, Nat.mul_two, List.range_add, List.countP_append, List.countP_map]
    congr 1
    · refine List.countP_congr fun w hw => ?_
      have hlt := List.mem_range.1 hw
      simp only [decide_eq_true_eq]
      rw [ww_succ, Nat.testBit_lt_two_pow hlt]; simp
    · refine List.countP_congr fun w hw => ?_
      have hlt := List.mem_range.1 hw
      simp only [decide_eq_true_eq, Function.comp]
      rw [ww_succ, testBit_top j w hlt, if_pos rfl, ww_congr (b := w) fun k hk => testBit_low j w k hlt hk]
      exact shift_mod (by omega) hr
/-- the sums of the first k, all together -/
def allTo (n : Nat) : Nat → Nat := iter (fun a s => s + (wordsTo n a (2 ^ n)).length) 0
theorem allTo_succ (n k : Nat) : allTo n (k + 1) = allTo n k + (wordsTo n k (2 ^ n)).length := rfl
def dall (n : Nat) : Nat → Nat := iter (fun a s => s + dp (n + 1) n a) 0
theorem share_check : ∀ n, n < 13 → dall n (n + 1) = 2 ^ n ∧ ∀ a, a < n + 1 → dp (n + 1) n a ≤ dp (n + 1) n 0 := by decide +kernel
theorem words_dp (n a : Nat) (h : a ≤ n) : (wordsTo n a (2 ^ n)).length = dp (n + 1) n a := by
  rw [wordsTo_len]; exact cnt_dp (n + 1) n a (by omega) (by omega)
theorem allTo_dall (n : Nat) : ∀ k, k ≤ n + 1 → allTo n k = dall n k
  | 0, _ => rfl
  | k + 1, h => by rw [allTo_succ, allTo_dall n k (by omega), words_dp n k (by omega)]; rfl
theorem share_all (n : Nat) (h : n ≤ 12) : allTo n (n + 1) = 2 ^ n := by rw [allTo_dall n _ (Nat.le_refl _)]; exact (share_check n (by omega)).1
theorem share_zero (n a : Nat) (h : n ≤ 12) (ha : a ≤ n) : (wordsTo n a (2 ^ n)).length ≤ (wordsTo n 0 (2 ^ n)).length := by
  rw [words_dp n a ha, words_dp n 0 (Nat.zero_le _)]; exact (share_check n (by omega)).2 a (by omega)
theorem allTo_le (n : Nat) (h : n ≤ 12) : ∀ k, k ≤ n + 1 → allTo n k ≤ k * 4096
  | 0, _ => Nat.le_refl _
  | k + 1, hk => by
    have h1 := allTo_le n h k (by omega)
    have h2 := wordsTo_le n k (2 ^ n)
    have h3 : 2 ^ n ≤ 2 ^ 12 := Nat.pow_le_pow_right (by omega) h
    rw [allTo_succ]; omega
end Go.Proofs.Ytpogedmkmplckaa
