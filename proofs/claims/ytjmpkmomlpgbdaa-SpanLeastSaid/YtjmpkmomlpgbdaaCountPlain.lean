/-
  Plain: sums, countings, balls: Hamming's and Plotkin's bounds.
-/
import Derived.Test.YtjmpkmomlpgbdaaBookPlain
import Derived.Test.YtjmpkmomlpgbdaaRankPlain
namespace Go.Proofs.Ytjmpkmomlpgbdaa
open Go V

def sm (f : Nat → Nat) : Nat → Nat := iter (fun i s => s + f i) 0
theorem sm_succ (f : Nat → Nat) (k : Nat) : sm f (k + 1) = sm f k + f k := rfl
theorem sm_congr {f g : Nat → Nat} : ∀ {k : Nat}, (∀ i, i < k → f i = g i) → sm f k = sm g k
  | 0, _ => rfl
  | k + 1, h => by rw [sm_succ, sm_succ, sm_congr (k := k) fun i hi => h i (by omega), h k (by omega)]
theorem sm_le {f g : Nat → Nat} : ∀ {k : Nat}, (∀ i, i < k → f i ≤ g i) → sm f k ≤ sm g k
  | 0, _ => Nat.le_refl _
  | k + 1, h => by rw [sm_succ, sm_succ]; exact Nat.add_le_add (sm_le fun i hi => h i (by omega)) (h k (by omega))
theorem sm_add (f g : Nat → Nat) : ∀ k, sm (fun i => f i + g i) k = sm f k + sm g k
  | 0 => rfl
  | k + 1 => by rw [sm_succ, sm_succ, sm_succ, sm_add f g k]; omega
theorem sm_mul (c : Nat) (f : Nat → Nat) : ∀ k, sm (fun i => c * f i) k = c * sm f k
  | 0 => rfl
  | k + 1 => by rw [sm_succ, sm_succ, sm_mul c f k, Nat.mul_add]
theorem sm_const (c : Nat) : ∀ k, sm (fun _ => c) k = k * c
  | 0 => (Nat.zero_mul c).symm
  | k + 1 => by rw [sm_succ, sm_const c k, Nat.succ_mul]
theorem sm_zero {f : Nat → Nat} {k : Nat} (h : ∀ i, i < k → f i = 0) : sm f k = 0 := by rw [sm_congr h, sm_const, Nat.mul_zero]
theorem sm_swap (f : Nat → Nat → Nat) (n : Nat) : ∀ m, sm (fun i => sm (fun j => f i j) n) m = sm (fun j => sm (fun i => f i j) m) n
  | 0 => (sm_zero fun _ _ => rfl).symm
  | m + 1 => by
    rw [sm_succ, sm_swap f n m, ← sm_add]
    rfl
theorem sm_one {p : Nat → Bool} : ∀ {k : Nat}, (∀ i, i < k → ∀ j, j < k → p i = true → p j = true → i = j) → sm (fun i => if p i = true then 1 else 0) k ≤ 1
  | 0, _ => Nat.zero_le _
  | k + 1, h => by
    rw [sm_succ]
    by_cases hp : p k = true
    · have hz : sm (fun i => if p i = true then 1 else 0) k = 0 := sm_zero fun i hi => if_neg fun hpi => by
        have := h i (by omega) k (by omega) hpi hp
        omega
      rw [hz, if_pos hp]; exact Nat.le_refl _
    · rw [if_neg hp]
      exact sm_one fun i hi j hj => h i (by omega) j (by omega)
theorem sm_but {i d : Nat} : ∀ {k : Nat}, i < k → sm (fun j => if j = i then 0 else d) k = (k - 1) * d
  | 0, h => by omega
  | k + 1, h => by
    rw [sm_succ]
    by_cases e : k = i
    · subst e
      rw [if_pos rfl, sm_congr (g := fun _ => d) fun j hj => if_neg (by omega), sm_const]; rfl
    · rw [if_neg e, sm_but (by omega)]
      obtain ⟨q, rfl⟩ : ∃ q, k = q + 1 := ⟨k - 1, by omega⟩
      simp only [Nat.add_sub_cancel]
      rw [Nat.succ_mul]

/-! ### balls -/
def ballN (n r : Nat) : Nat := (List.range (2 ^ n)).countP fun w => decide (popc w ≤ r)
theorem popTo_high {v n : Nat} (hv : v < 2 ^ n) : ∀ k, popTo (2 ^ n + v) k = (if n < k then 1 else 0) + popTo v k
  | 0 => by simp [popTo, iter]
  | k + 1 => by
    rw [popTo_succ, popTo_succ, popTo_high hv k]
    by_cases e : k = n
    · subst e
      rw [Nat.testBit_two_pow_add_eq, Nat.testBit_lt_two_pow hv]
      simp; omega
    · rcases Nat.lt_or_gt_of_ne e with h | h
      · rw [Nat.testBit_two_pow_add_gt h]
        simp only [show ¬ n < k by omega, show ¬ n < k + 1 by omega, if_false]
        split <;> omega
      · have h1 : (2 ^ n + v).testBit k = false := Nat.testBit_lt_two_pow (Nat.lt_of_lt_of_le (show 2 ^ n + v < 2 ^ (n + 1) by rw [Nat.pow_succ]; omega) (Nat.pow_le_pow_right (by omega) (by omega)))
        have h2 : v.testBit k = false := Nat.testBit_lt_two_pow (Nat.lt_of_lt_of_le hv (Nat.pow_le_pow_right (by omega) (by omega)))
        rw [h1, h2]
        simp [h, show n < k + 1 by omega]
theorem popc_high {v n : Nat} (hn : n < 32) (hv : v < 2 ^ n) : popc (2 ^ n + v) = 1 + popc v := by
  unfold popc; rw [popTo_high hv, if_pos hn]
theorem ballN_succ (n : Nat) (hn : n < 32) (r : Nat) : ballN (n + 1) (r + 1) = ballN n (r + 1) + ballN n r := by
  unfold ballN
  rw [Nat.pow_succ, Nat.mul_two, List.range_add, List.countP_append, List.countP_map]
  congr 1
  refine List.countP_congr fun w hw => ?_
  simp only [Function.comp, decide_eq_true_iff]
  rw [popc_high hn (List.mem_range.1 hw)]
  omega
theorem ballN_zero_r (n : Nat) (hn : n ≤ 32) : ballN n 0 = 1 := by
  induction n with
  | zero => decide +kernel
  | succ n ih =>
    have := ih (by omega)
    unfold ballN at *
    rw [Nat.pow_succ, Nat.mul_two, List.range_add, List.countP_append, this, List.countP_map, List.countP_eq_zero.2]
    intro w hw
    simp only [Function.comp, decide_eq_true_iff]
    rw [popc_high (by omega) (List.mem_range.1 hw)]
    omega
theorem ballN_zero_n (r : Nat) : ballN 0 r = 1 := by
  unfold ballN
  simp [popc, popTo_of_zero]
/-- 1 + n + .. to the r'th -/
def choSum (n : Nat) : Nat → Nat := iter (fun k s => s + cho n k) 0
theorem choSum_facts : (List.range 12).all (fun n => (List.range 12).all fun r => decide (choSum (n + 1) (r + 2) = choSum n (r + 2) + choSum n (r + 1)) && decide (choSum 0 (r + 1) = 1) && decide (choSum (n + 1) 1 = 1)) = true := by decide +kernel
theorem choSum_bound : (List.range 13).all (fun n => (List.range 14).all fun r => decide (choSum n r ≤ 4096) && decide (cho n r ≤ 4096)) = true := by decide +kernel
theorem choSum_le {n r : Nat} (hn : n ≤ 12) (hr : r ≤ 13) : choSum n r ≤ 4096 ∧ cho n r ≤ 4096 := by
  have := List.all_eq_true.1 (List.all_eq_true.1 choSum_bound n (List.mem_range.2 (by omega))) r (List.mem_range.2 (by omega))
  simpa using this
theorem choSum_ball : ∀ (n r : Nat), n ≤ 12 → r ≤ 12 → choSum n (r + 1) = ballN n r
  | 0, r, _, hr => by
    rw [ballN_zero_n]
    by_cases e : r = 12
    · subst e; decide +kernel
    · have := List.all_eq_true.1 (List.all_eq_true.1 choSum_facts 0 (by decide)) r (List.mem_range.2 (by omega))
      simp at this; exact this.1.2
  | n + 1, 0, hn, _ => by
    rw [ballN_zero_r _ (by omega)]
    have := List.all_eq_true.1 (List.all_eq_true.1 choSum_facts n (List.mem_range.2 (by omega))) 0 (by decide)
    simp at this; exact this.2
  | n + 1, r + 1, hn, hr => by
    rw [ballN_succ n (by omega), ← choSum_ball n (r + 1) (by omega) hr, ← choSum_ball n r (by omega) (by omega)]
    have := List.all_eq_true.1 (List.all_eq_true.1 choSum_facts n (List.mem_range.2 (by omega))) r (List.mem_range.2 (by omega))
    simp at this; exact this.1.1
theorem xor_perm {n a : Nat} (ha : a < 2 ^ n) : ((List.range (2 ^ n)).map (· ^^^ a)).Perm (List.range (2 ^ n)) := by
  have inj : ∀ x y : Nat, x ^^^ a = y ^^^ a → x = y := fun x y h => by
    have := congrArg (· ^^^ a) h
    simpa [Nat.xor_assoc] using this
  rw [List.perm_ext_iff_of_nodup ?_ List.nodup_range]
  · intro x
    simp only [List.mem_map, List.mem_range]
    constructor
    · rintro ⟨y, hy, rfl⟩; exact Nat.xor_lt_two_pow hy ha
    · intro hx; exact ⟨x ^^^ a, Nat.xor_lt_two_pow hx ha, by simp [Nat.xor_assoc]⟩
  · rw [List.nodup_iff_pairwise_ne, List.pairwise_map]
    exact List.Pairwise.imp (fun h e => h (inj _ _ e)) (List.nodup_iff_pairwise_ne.1 List.nodup_range)
theorem ball_any_centre {n a r : Nat} (ha : a < 2 ^ n) : (List.range (2 ^ n)).countP (fun w => decide (popc (w ^^^ a) ≤ r)) = ballN n r := by
  have := (xor_perm ha).countP_eq (fun w => decide (popc w ≤ r))
  rw [List.countP_map] at this
  exact this
theorem ballN_all {n r : Nat} (h : n ≤ r) : ballN n r = 2 ^ n := by
  unfold ballN
  rw [List.countP_eq_length.2, List.length_range]
  intro w hw
  exact decide_eq_true (Nat.le_trans (popc_le (List.mem_range.1 hw)) h)
theorem ballN_pos (n r : Nat) : 1 ≤ ballN n r := by
  unfold ballN
  refine List.countP_pos_iff.2 ⟨0, List.mem_range.2 (Nat.two_pow_pos n), ?_⟩
  simp [popc, popTo_of_zero]
/-- balls that nothing has in common are no more than all -/
theorem disjoint_le (f : Nat → Nat → Bool) (k : Nat) : ∀ (L : List Nat), (∀ w ∈ L, ∀ i, i < k → ∀ j, j < k → f i w = true → f j w = true → i = j) → sm (fun i => L.countP (f i)) k ≤ L.length
  | [], _ => Nat.le_of_eq (sm_zero fun _ _ => rfl)
  | w :: L, h => by
    have h1 := disjoint_le f k L fun v hv => h v (List.mem_cons_of_mem _ hv)
    have h2 := sm_one (p := fun i => f i w) (k := k) (h w List.mem_cons_self)
    have h3 : sm (fun i => (w :: L).countP (f i)) k = sm (fun i => L.countP (f i)) k + sm (fun i => if f i w = true then 1 else 0) k := by
      rw [← sm_add]
      exact sm_congr fun i _ => List.countP_cons
    rw [h3, List.length_cons]; omega
theorem hamming {m d : Nat} {ws : List Nat} (hw : ∀ j, j < ws.length → gn ws j < 2 ^ m) (h : LeastB m ws d) : ws.length * ballN m ((d - 1) / 2) ≤ 2 ^ m := by
  have h1 := disjoint_le (fun i w => decide (popc (w ^^^ gn ws i) ≤ (d - 1) / 2)) ws.length (List.range (2 ^ m)) ?_
  · rw [List.length_range, sm_congr (g := fun _ => ballN m ((d - 1) / 2)) fun i hi => ball_any_centre (hw i hi), sm_const] at h1
    exact h1
  · have key : ∀ w i j, i < ws.length → j < i → popc (w ^^^ gn ws i) ≤ (d - 1) / 2 → popc (w ^^^ gn ws j) ≤ (d - 1) / 2 → False := by
      intro w i j hi hj p1 p2
      have t := popc_tri (gn ws i) w (gn ws j)
      rw [popc_comm (gn ws i) w] at t
      have := h.2.2 i hi j hj
      have := h.1
      omega
    intro w _ i hi j hj p1 p2
    have p1 := of_decide_eq_true p1
    have p2 := of_decide_eq_true p2
    rcases Nat.lt_trichotomy i j with hl | he | hg
    · exact (key w j i hj hl p2 p1).elim
    · exact he
    · exact (key w i j hi hg p1 p2).elim

/-! ### Plotkin -/
theorem popTo_sm (x : Nat) : ∀ k, popTo x k = sm (fun b => if x.testBit b = true then 1 else 0) k
  | 0 => rfl
  | k + 1 => by rw [popTo_succ, sm_succ, popTo_sm x k]; split <;> rfl
theorem popc_sm {x m : Nat} (h : x < 2 ^ m) (hm : m ≤ 32) : popc x = sm (fun b => if x.testBit b = true then 1 else 0) m := by
  rw [← popTo_sm]
  unfold popc
  have e : popTo x 32 = popTo x m + popTo (x >>> m) (32 - m) := by rw [← popTo_add, show m + (32 - m) = 32 by omega]
  rw [e, Nat.shiftRight_eq_div_pow, Nat.div_eq_of_lt h, popTo_of_zero, Nat.add_zero]
theorem differ_row (p : Nat → Bool) (b : Bool) (k : Nat) : sm (fun j => if (b != p j) = true then 1 else 0) k = if b = true then k - sm (fun j => if p j = true then 1 else 0) k else sm (fun j => if p j = true then 1 else 0) k := by
  have hle : ∀ k, sm (fun j => if p j = true then 1 else 0) k ≤ k := fun k => by
    have := sm_le (f := fun j => if p j = true then 1 else 0) (g := fun _ => 1) (k := k) fun i _ => by split <;> omega
    rw [sm_const] at this; omega
  induction k with
  | zero => cases b <;> rfl
  | succ k ih =>
    have := hle k
    rw [sm_succ, sm_succ, ih]
    cases b <;> cases p k <;> simp <;> omega
theorem differ_all (p : Nat → Bool) (k : Nat) : sm (fun i => sm (fun j => if (p i != p j) = true then 1 else 0) k) k = 2 * (sm (fun j => if p j = true then 1 else 0) k * (k - sm (fun j => if p j = true then 1 else 0) k)) := by
  rw [sm_congr fun i _ => differ_row p (p i) k]
  generalize hS : sm (fun j => if p j = true then 1 else 0) k = S
  have : ∀ n, sm (fun i => if p i = true then k - S else S) n = sm (fun j => if p j = true then 1 else 0) n * (k - S) + (n - sm (fun j => if p j = true then 1 else 0) n) * S := by
    intro n
    have hle : ∀ k, sm (fun j => if p j = true then 1 else 0) k ≤ k := fun k => by
      have := sm_le (f := fun j => if p j = true then 1 else 0) (g := fun _ => 1) (k := k) fun i _ => by split <;> omega
      rw [sm_const] at this; omega
    induction n with
    | zero => simp [sm, iter]
    | succ n ih =>
      have := hle n
      rw [sm_succ, sm_succ, ih]
      cases p n
      · simp only [Bool.false_eq_true, if_false, Nat.add_zero]
        rw [show n + 1 - sm (fun j => if p j = true then 1 else 0) n = (n - sm (fun j => if p j = true then 1 else 0) n) + 1 by omega, Nat.succ_mul]
        omega
      · simp only [if_true]
        rw [show n + 1 - (sm (fun j => if p j = true then 1 else 0) n + 1) = n - sm (fun j => if p j = true then 1 else 0) n by omega, Nat.succ_mul]
        omega
  rw [this k, hS, Nat.mul_comm (k - S) S]; omega
theorem four_prod (o k : Nat) (h : o ≤ k) : 4 * (o * (k - o)) ≤ k * k - k % 2 := by
  obtain ⟨z, rfl⟩ : ∃ z, k = o + z := ⟨k - o, by omega⟩
  rw [Nat.add_sub_cancel_left]
  have key : ∀ o z : Nat, o ≤ z → 4 * (o * z) ≤ (o + z) * (o + z) - (o + z) % 2 := by
    intro o z hz
    obtain ⟨e, rfl⟩ : ∃ e, z = o + e := ⟨z - o, by omega⟩
    have h1 : (o + (o + e)) * (o + (o + e)) = 4 * (o * (o + e)) + e * e := by
      simp only [Nat.add_mul, Nat.mul_add, Nat.mul_comm e o]; omega
    rw [h1]
    have : (o + (o + e)) % 2 ≤ e * e := by
      by_cases h0 : e = 0
      · subst h0; simp; omega
      · have := Nat.mul_le_mul (show 1 ≤ e by omega) (show 1 ≤ e by omega)
        omega
    omega
  rcases Nat.le_total o z with hz | hz
  · exact key o z hz
  · have := key z o hz
    rw [Nat.mul_comm z o, Nat.add_comm z o] at this
    exact this
theorem plotkin_sum {m d : Nat} {ws : List Nat} (hm : m ≤ 12) (hw : ∀ j, j < ws.length → gn ws j < 2 ^ m) (h : LeastB m ws d) :
    2 * (ws.length * ((ws.length - 1) * d)) ≤ m * (ws.length * ws.length - ws.length % 2) := by
  have lower : ws.length * ((ws.length - 1) * d) ≤ sm (fun i => sm (fun j => popc (gn ws i ^^^ gn ws j)) ws.length) ws.length := by
    rw [← sm_const]
    refine sm_le fun i hi => ?_
    rw [← sm_but hi]
    refine sm_le fun j hj => ?_
    split
    · exact Nat.zero_le _
    · rcases Nat.lt_or_gt_of_ne ‹¬ j = i› with hl | hg
      · exact h.2.2 i hi j hl
      · rw [popc_comm]; exact h.2.2 j hj i hg
  have e : sm (fun i => sm (fun j => popc (gn ws i ^^^ gn ws j)) ws.length) ws.length = sm (fun b => sm (fun i => sm (fun j => if ((gn ws i).testBit b != (gn ws j).testBit b) = true then 1 else 0) ws.length) ws.length) m := by
    rw [sm_swap (fun b i => sm (fun j => if ((gn ws i).testBit b != (gn ws j).testBit b) = true then 1 else 0) ws.length) ws.length m]
    refine sm_congr fun i hi => ?_
    rw [sm_swap (fun b j => if ((gn ws i).testBit b != (gn ws j).testBit b) = true then 1 else 0) ws.length m]
    refine sm_congr fun j hj => ?_
    rw [popc_sm (Nat.xor_lt_two_pow (hw i hi) (hw j hj)) (by omega)]
    refine sm_congr fun b _ => ?_
    rw [Nat.testBit_xor]
  have upper : 2 * sm (fun b => sm (fun i => sm (fun j => if ((gn ws i).testBit b != (gn ws j).testBit b) = true then 1 else 0) ws.length) ws.length) m ≤ m * (ws.length * ws.length - ws.length % 2) := by
    rw [← sm_mul, ← sm_const]
    refine sm_le fun b _ => ?_
    rw [differ_all (fun i => (gn ws i).testBit b)]
    have hle : sm (fun j => if (gn ws j).testBit b = true then 1 else 0) ws.length ≤ ws.length := by
      have := sm_le (f := fun j => if (gn ws j).testBit b = true then 1 else 0) (g := fun _ => 1) (k := ws.length) fun i _ => by split <;> omega
      rw [sm_const] at this; omega
    have := four_prod _ _ hle
    omega
  rw [← e] at upper
  omega
theorem plotkin {m d : Nat} {ws : List Nat} (hm : m ≤ 12) (h2 : 2 ≤ ws.length) (hw : ∀ j, j < ws.length → gn ws j < 2 ^ m) (h : LeastB m ws d) (hd : m < 2 * d) : ws.length ≤ 2 * (d / (2 * d - m)) := by
  have h1 := plotkin_sum hm hw h
  generalize ws.length = k at *
  have hq : ∀ q : Nat, q * (2 * d - m) ≤ d → q ≤ d / (2 * d - m) := fun q hq => (Nat.le_div_iff_mul_le (by omega)).2 hq
  by_cases hk : k % 2 = 0
  · obtain ⟨q, rfl⟩ : ∃ q, k = 2 * q := ⟨k / 2, by omega⟩
    refine Nat.mul_le_mul_left 2 (hq q ?_)
    rw [hk, Nat.sub_zero] at h1
    -- 2 * (2q * ((2q-1) * d)) ≤ m * (2q * 2q)
    have h3 : (2 * q) * (2 * ((2 * q - 1) * d)) ≤ (2 * q) * (m * (2 * q)) := by
      rw [Nat.mul_left_comm, ← Nat.mul_left_comm m]
      exact h1
    have h4 := Nat.le_of_mul_le_mul_left h3 (by omega)
    obtain ⟨x, hx⟩ : ∃ x, 2 * d = m + x := ⟨2 * d - m, by omega⟩
    rw [show 2 * d - m = x by omega]
    obtain ⟨y, rfl⟩ : ∃ y, q = y + 1 := ⟨q - 1, by omega⟩
    have e1 : 2 * ((2 * (y + 1) - 1) * d) = (2 * y + 1) * (m + x) := by rw [← hx, show 2 * (y + 1) - 1 = 2 * y + 1 by omega, Nat.mul_left_comm]
    rw [e1] at h4
    have e2 : (2 * y + 1) * (m + x) = 2 * (y * m) + m + (2 * (y * x) + x) := by
      rw [Nat.add_mul, Nat.one_mul, Nat.mul_add, Nat.mul_assoc, Nat.mul_assoc]; omega
    have e3 : m * (2 * (y + 1)) = 2 * (y * m) + 2 * m := by
      rw [Nat.mul_comm m, Nat.mul_assoc, Nat.add_mul, Nat.one_mul]; omega
    rw [e2, e3] at h4
    rw [Nat.add_mul, Nat.one_mul]
    omega
  · obtain ⟨q, rfl⟩ : ∃ q, k = 2 * q + 1 := ⟨k / 2, by omega⟩
    have hgoal : q + 1 ≤ d / (2 * d - m) := by
      refine hq (q + 1) ?_
      have e0 : (2 * q + 1) * (2 * q + 1) - (2 * q + 1) % 2 = 2 * q * (2 * q + 2) := by
        rw [show (2 * q + 1) % 2 = 1 by omega]
        rw [show (2 * q + 1) * (2 * q + 1) = 2 * q * (2 * q + 2) + 1 by simp only [Nat.add_mul, Nat.mul_add]; omega]
        omega
      rw [e0] at h1
      have h3 : (2 * q) * (2 * ((2 * q + 1) * d)) ≤ (2 * q) * (m * (2 * q + 2)) := by
        have a1 : 2 * ((2 * q + 1) * ((2 * q + 1 - 1) * d)) = (2 * q) * (2 * ((2 * q + 1) * d)) := by
          rw [Nat.add_sub_cancel, Nat.mul_left_comm (2 * q + 1), Nat.mul_left_comm 2]
        have a2 : m * (2 * q * (2 * q + 2)) = (2 * q) * (m * (2 * q + 2)) := Nat.mul_left_comm _ _ _
        rw [← a1, ← a2]; exact h1
      have h4 := Nat.le_of_mul_le_mul_left h3 (by omega)
      obtain ⟨x, hx⟩ : ∃ x, 2 * d = m + x := ⟨2 * d - m, by omega⟩
      rw [show 2 * d - m = x by omega]
      have e1 : 2 * ((2 * q + 1) * d) = (2 * q + 1) * (m + x) := by rw [← hx, Nat.mul_left_comm]
      rw [e1] at h4
      have e2 : (2 * q + 1) * (m + x) = 2 * (q * m) + m + (2 * (q * x) + x) := by
        rw [Nat.add_mul, Nat.one_mul, Nat.mul_add, Nat.mul_assoc, Nat.mul_assoc]; omega
      have e3 : m * (2 * q + 2) = 2 * (q * m) + 2 * m := by
        rw [Nat.mul_comm m, Nat.add_mul, Nat.mul_assoc]
      rw [e2, e3] at h4
      rw [Nat.add_mul, Nat.one_mul]
      omega
    omega
end Go.Proofs.Ytjmpkmomlpgbdaa
