/-
  Plain: codes whose words rise cost no less than the best, little more, and nothing more where weights rise.
-/
import Derived.Test.YtohflgcbpmoinaaHuffPlain2
namespace Go.Proofs.Ytohflgcbpmoinaa
open Go V

def sumR (ws : List Nat) (i s : Nat) : Nat := ((ws.drop i).take s).sum
structure Dp (ws : List Nat) (n : Nat) (T : Nat → Nat → Nat) (s : Nat) : Prop where
  zero : ∀ i j, j < i + 2 → T i j = 0
  att : ∀ i j, i + 2 ≤ j → j ≤ n → j < i + s → ∃ k, i < k ∧ k < j ∧ T i j = T i k + T k j + sumR ws i (j - i)
  le : ∀ i j k, i < k → k < j → j ≤ n → j < i + s → T i j ≤ T i k + T k j + sumR ws i (j - i)
theorem kr_up : ∀ ls : List Nat, (∀ x ∈ ls, x ≤ 7) → 2 * kr (ls.map (· + 1)) = kr ls
  | [], _ => rfl
  | x :: ls, h => by
    rw [List.map_cons, kr_cons, kr_cons]
    have h1 := kr_up ls fun y hy => h y (List.mem_cons_of_mem _ hy)
    have h2 := half_pow (L := x + 1) (by omega) (by have := h x (by simp); omega)
    rw [Nat.add_sub_cancel] at h2
    omega
theorem cost_up : ∀ ws ls : List Nat, ls.length = ws.length → cost ws (ls.map (· + 1)) = cost ws ls + ws.sum
  | [], [], _ => rfl
  | w :: ws, l :: ls, h => by
    rw [List.map_cons, cost_cons, cost_cons, List.sum_cons, cost_up ws ls (by simpa using h), Nat.mul_add]; omega
theorem cost_app : ∀ (a b c d : List Nat), c.length = a.length → cost (a ++ b) (c ++ d) = cost a c + cost b d
  | [], b, [], d, _ => by simp [cost]
  | x :: a, b, y :: c, d, h => by
    rw [List.cons_append, List.cons_append, cost_cons, cost_cons, cost_app a b c d (by simpa using h)]; omega
theorem kr_app (a b : List Nat) : kr (a ++ b) = kr a + kr b := by simp [kr]
theorem cut_two (ws : List Nat) (i a b : Nat) : (ws.drop i).take (a + b) = (ws.drop i).take a ++ (ws.drop (i + a)).take b := by
  rw [List.take_add, List.drop_drop]
theorem Dp.tree {ws : List Nat} {n : Nat} {T : Nat → Nat → Nat} (h : Dp ws n T (n + 1)) (hn : ws.length = n) (hn8 : n ≤ 8) : ∀ N s i, s ≤ N → 1 ≤ s → i + s ≤ n → ∃ ls : List Nat, ls.length = s ∧ (∀ x ∈ ls, x + 1 ≤ s) ∧ kr ls = 256 ∧ cost ((ws.drop i).take s) ls = T i (i + s) := by
  intro N
  induction N with
  | zero => intro s i h1 h2; omega
  | succ N ih =>
    intro s i hsN hs hi
    by_cases e : s = 1
    · subst e
      refine ⟨[0], rfl, by simp, rfl, ?_⟩
      rw [h.zero i (i + 1) (by omega)]
      generalize (ws.drop i).take 1 = q
      cases q <;> simp [cost]
    · obtain ⟨k, hk1, hk2, hT⟩ := h.att i (i + s) (by omega) hi (by omega)
      obtain ⟨a, ha1, ha2, ha3, ha4⟩ := ih (k - i) i (by omega) (by omega) (by omega)
      obtain ⟨b, hb1, hb2, hb3, hb4⟩ := ih (i + s - k) k (by omega) (by omega) (by omega)
      have e1 : i + (k - i) = k := by omega
      have e2 : k + (i + s - k) = i + s := by omega
      rw [e1] at ha4; rw [e2] at hb4
      have e3 : (ws.drop i).take s = (ws.drop i).take (k - i) ++ (ws.drop k).take (i + s - k) := by
        have := cut_two ws i (k - i) (i + s - k)
        rw [e1, show k - i + (i + s - k) = s by omega] at this; exact this
      have l1 : ((ws.drop i).take (k - i)).length = k - i := by rw [List.length_take, List.length_drop]; omega
      have l2 : ((ws.drop k).take (i + s - k)).length = i + s - k := by rw [List.length_take, List.length_drop]; omega
      refine ⟨(a ++ b).map (· + 1), by rw [List.length_map, List.length_append]; omega, fun x hx => ?_, ?_, ?_⟩
      · obtain ⟨y, hy, rfl⟩ := List.mem_map.1 hx
        rcases List.mem_append.1 hy with hy | hy
        · have := ha2 y hy; omega
        · have := hb2 y hy; omega
      · have h1 := kr_up (a ++ b) fun y hy => by
          rcases List.mem_append.1 hy with hy | hy
          · have := ha2 y hy; omega
          · have := hb2 y hy; omega
        rw [kr_app] at h1; omega
      · rw [cost_up _ _ (by rw [List.length_append, e3, List.length_append, l1, l2]; omega)]
        conv => lhs; rw [e3]
        rw [cost_app _ _ _ _ (by rw [l1]; exact ha1), ha4, hb4, ← e3, hT]
        unfold sumR; rw [show i + s - i = s by omega]
theorem Dp.low {ws l : List Nat} {n : Nat} {T : Nat → Nat → Nat} (h : Dp ws n T (n + 1)) (hl : Opt ws l) (hn : ws.length = n) (hn8 : n ≤ 8) : cost ws l ≤ T 0 n := by
  by_cases e : n = 0
  · subst e; have : ws = [] := List.eq_nil_of_length_eq_zero hn
    subst this; simp [cost]
  · obtain ⟨ls, h1, h2, h3, h4⟩ := h.tree hn hn8 n n 0 (Nat.le_refl _) (by omega) (by omega)
    rw [Nat.zero_add, List.drop_zero, List.take_of_length_le (by omega)] at h4
    rw [← h4]
    exact hl.low ls (by omega) (fun x hx => by have := h2 x hx; omega) (by omega)
/-- points of symbols; whoever is not alone at a place is longer -/
structure Pts (n : Nat) (x L : Nat → Nat) : Prop where
  up : ∀ m, m + 1 < n → x m < x (m + 1)
  top : ∀ m, m < n → x m < 256
  l8 : ∀ m, m < n → L m ≤ 8
  far : ∀ d a m m', d ≤ 8 → m < n → m' < n → m ≠ m' → a * 2 ^ (8 - d) ≤ x m → x m < (a + 1) * 2 ^ (8 - d) → a * 2 ^ (8 - d) ≤ x m' → x m' < (a + 1) * 2 ^ (8 - d) → d + 1 ≤ L m
theorem Pts.mono {n : Nat} {x L : Nat → Nat} (h : Pts n x L) : ∀ k m, m + k < n → x m ≤ x (m + k)
  | 0, m, _ => Nat.le_refl _
  | k + 1, m, hm => Nat.le_trans (h.mono k m (by omega)) (Nat.le_of_lt (h.up (m + k) (by omega)))
def wsum (ws : List Nat) (L : Nat → Nat) (i : Nat) : Nat → Nat
  | 0 => 0
  | s + 1 => gn ws i * L i + wsum ws L (i + 1) s
theorem wsum_add (ws : List Nat) (L : Nat → Nat) : ∀ a i b, wsum ws L i (a + b) = wsum ws L i a + wsum ws L (i + a) b
  | 0, i, b => by simp [wsum]
  | a + 1, i, b => by
    rw [Nat.add_right_comm, wsum, wsum, wsum_add ws L a (i + 1) b, show i + 1 + a = i + (a + 1) by omega]; omega
theorem sumR_succ (ws : List Nat) (i s : Nat) : sumR ws i (s + 1) = gn ws i + sumR ws (i + 1) s := by
  unfold sumR gn
  by_cases h : i < ws.length
  · rw [List.drop_eq_getElem_cons h, List.take_succ_cons, List.sum_cons, List.getD_eq_getElem?_getD, List.getElem?_eq_getElem h]; rfl
  · rw [List.drop_of_length_le (by omega), List.drop_of_length_le (by omega), List.getD_eq_getElem?_getD, List.getElem?_eq_none (by omega)]; simp
theorem sumR_add (ws : List Nat) (i a b : Nat) : sumR ws i (a + b) = sumR ws i a + sumR ws (i + a) b := by
  unfold sumR; rw [cut_two, List.sum_append]
theorem split_at (x : Nat → Nat) (y i : Nat) : ∀ s, (∀ m, i ≤ m → m + 1 < i + s → x m ≤ x (m + 1)) → ∃ k, i ≤ k ∧ k ≤ i + s ∧ (∀ m, i ≤ m → m < k → x m < y) ∧ ∀ m, k ≤ m → m < i + s → y ≤ x m
  | 0, _ => ⟨i, Nat.le_refl _, Nat.le_refl _, fun m h1 h2 => by omega, fun m h1 h2 => by omega⟩
  | s + 1, h => by
    obtain ⟨k, h1, h2, h3, h4⟩ := split_at x y i s fun m a b => h m a (by omega)
    by_cases e : k = i + s
    · by_cases e2 : x (i + s) < y
      · exact ⟨i + s + 1, by omega, by omega, fun m a b => by
          by_cases e3 : m = i + s
          · subst e3; exact e2
          · exact h3 m a (by omega), fun m a b => by omega⟩
      · exact ⟨k, h1, by omega, h3, fun m a b => by
          have : m = i + s := by omega
          subst this; omega⟩
    · refine ⟨k, h1, by omega, h3, fun m a b => ?_⟩
      by_cases e3 : m = i + s
      · subst e3
        have h5 := h4 (i + s - 1) (by omega) (by omega)
        have h6 := h (i + s - 1) (by omega) (by omega)
        rw [show i + s - 1 + 1 = i + s by omega] at h6
        omega
      · exact h4 m a (by omega)
theorem Dp.up {ws : List Nat} {n : Nat} {T : Nat → Nat → Nat} {x L : Nat → Nat} (h : Dp ws n T (n + 1)) (hp : Pts n x L) : ∀ f d a i s, f + d = 8 → i + s ≤ n → (∀ m, i ≤ m → m < i + s → a * 2 ^ (8 - d) ≤ x m ∧ x m < (a + 1) * 2 ^ (8 - d)) → (∀ m, i ≤ m → m < i + s → d ≤ L m) → T i (i + s) + d * sumR ws i s ≤ wsum ws L i s := by
  intro f
  induction f with
  | zero =>
    intro d a i s hd hi hx hL
    obtain rfl : d = 8 := by omega
    by_cases hs : 2 ≤ s
    · exfalso
      have h1 := hx i (by omega) (by omega)
      have h2 := hx (i + 1) (by omega) (by omega)
      have h3 := hp.up i (by omega)
      simp only [Nat.sub_self, Nat.pow_zero, Nat.mul_one] at h1 h2
      omega
    · rw [h.zero i (i + s) (by omega)]
      rcases (by omega : s = 0 ∨ s = 1) with rfl | rfl
      · simp [sumR, wsum]
      · have := hL i (by omega) (by omega)
        rw [sumR_succ]; simp only [wsum, sumR, List.take_zero, List.sum_nil, Nat.add_zero, Nat.zero_add]
        rw [Nat.mul_comm]; exact Nat.mul_le_mul_left _ this
  | succ f ih =>
    intro d a i s hd hi hx hL
    by_cases hs : 2 ≤ s
    · have hL2 : ∀ m, i ≤ m → m < i + s → d + 1 ≤ L m := fun m h1 h2 => by
        have e1 := hx m h1 h2
        by_cases e : m = i
        · have e2 := hx (i + 1) (by omega) (by omega)
          exact hp.far d a m (i + 1) (by omega) (by omega) (by omega) (by omega) e1.1 e1.2 e2.1 e2.2
        · have e2 := hx i (by omega) (by omega)
          exact hp.far d a m i (by omega) (by omega) (by omega) (by omega) e1.1 e1.2 e2.1 e2.2
      have hpow : 2 ^ (8 - d) = 2 * 2 ^ (8 - (d + 1)) := by rw [show 8 - d = (8 - (d + 1)) + 1 by omega, Nat.pow_succ, Nat.mul_comm]
      generalize hq : 2 ^ (8 - (d + 1)) = q at *
      obtain ⟨k, hk1, hk2, hk3, hk4⟩ := split_at x ((2 * a + 1) * q) i s fun m h1 h2 => Nat.le_of_lt (hp.up m (by omega))
      have m1 : a * (2 * q) = 2 * (a * q) := by rw [Nat.mul_left_comm]
      have m2 : (2 * a) * q = 2 * (a * q) := Nat.mul_assoc _ _ _
      have ea : ∀ m, i ≤ m → m < i + (k - i) → (2 * a) * q ≤ x m ∧ x m < (2 * a + 1) * q := fun m h1 h2 => by
        have := hx m h1 (by omega); rw [hpow] at this
        exact ⟨by omega, hk3 m h1 (by omega)⟩
      have eb : ∀ m, k ≤ m → m < k + (i + s - k) → (2 * a + 1) * q ≤ x m ∧ x m < (2 * a + 1 + 1) * q := fun m h1 h2 => by
        have := hx m (by omega) (by omega); rw [hpow] at this
        refine ⟨hk4 m h1 (by omega), ?_⟩
        have h5 := this.2
        rw [Nat.add_mul] at h5
        simp only [Nat.add_mul, Nat.one_mul] at h5 ⊢
        omega
      have ia := ih (d + 1) (2 * a) i (k - i) (by omega) (by omega) (by rw [hq]; exact ea) (fun m h1 h2 => hL2 m h1 (by omega))
      have ib := ih (d + 1) (2 * a + 1) k (i + s - k) (by omega) (by omega) (by rw [hq]; exact eb) (fun m h1 h2 => hL2 m (by omega) (by omega))
      rw [show i + (k - i) = k by omega] at ia
      rw [show k + (i + s - k) = i + s by omega] at ib
      have hs1 := sumR_add ws i (k - i) (i + s - k)
      have hw1 := wsum_add ws L (k - i) i (i + s - k)
      rw [show i + (k - i) = k by omega, show k - i + (i + s - k) = s by omega] at hs1 hw1
      rw [hs1, hw1]
      simp only [Nat.add_mul, Nat.one_mul, Nat.mul_add] at ia ib ⊢
      by_cases c1 : k = i
      · subst c1
        have z1 : sumR ws k (k - k) = 0 := by rw [Nat.sub_self]; simp [sumR]
        rw [z1, Nat.mul_zero]
        omega
      · by_cases c2 : k = i + s
        · subst c2
          have z1 : sumR ws (i + s) (i + s - (i + s)) = 0 := by rw [Nat.sub_self]; simp [sumR]
          rw [z1, Nat.mul_zero]
          omega
        · have hle := h.le i (i + s) k (by omega) (by omega) hi (by omega)
          rw [show i + s - i = s by omega, hs1] at hle
          omega
    · rw [h.zero i (i + s) (by omega)]
      rcases (by omega : s = 0 ∨ s = 1) with rfl | rfl
      · simp [sumR, wsum]
      · have := hL i (by omega) (by omega)
        rw [sumR_succ]; simp only [wsum, sumR, List.take_zero, List.sum_nil, Nat.add_zero, Nat.zero_add]
        rw [Nat.mul_comm]; exact Nat.mul_le_mul_left _ this
theorem wsum_cost : ∀ (s i : Nat) (ws ls : List Nat) (L : Nat → Nat), ls.length = s → (∀ m, m < s → L (i + m) = gn ls m) → wsum ws L i s = cost ((ws.drop i).take s) ls ∨ ws.length < i + s
  | 0, i, ws, ls, L, h, _ => by
    have : ls = [] := List.eq_nil_of_length_eq_zero h
    subst this; left; simp [wsum, cost]
  | s + 1, i, ws, l :: ls, L, h, hL => by
    by_cases e : ws.length < i + (s + 1)
    · exact .inr e
    · left
      have h1 := wsum_cost s (i + 1) ws ls L (by simpa using h) fun m hm => by
        have := hL (m + 1) (by omega)
        rw [show i + 1 + m = i + (m + 1) by omega, this]; simp [gn]
      have hi : i < ws.length := by omega
      rw [wsum, List.drop_eq_getElem_cons hi, List.take_succ_cons, cost_cons, gn_lt hi, (show L i = gn (l :: ls) 0 from hL 0 (by omega))]
      rcases h1 with h1 | h1
      · rw [h1]; simp [gn]
      · omega
theorem Dp.pts {ws ls : List Nat} {n : Nat} {T : Nat → Nat → Nat} {x : Nat → Nat} (h : Dp ws n T (n + 1)) (hn : ws.length = n) (hl : ls.length = n) (hp : Pts n x (gn ls)) : T 0 n ≤ cost ws ls := by
  have h1 := h.up hp 8 0 0 0 n rfl (by omega) (fun m _ hm => by
    have := hp.top m (by omega); exact ⟨by simp, by simpa using this⟩) (fun m _ _ => Nat.zero_le _)
  rcases wsum_cost n 0 ws ls (gn ls) hl (fun m _ => by rw [Nat.zero_add]) with h2 | h2
  · rw [h2, List.drop_zero, List.take_of_length_le (by omega)] at h1
    simpa using h1
  · omega
theorem kr_take (ls : List Nat) (m : Nat) (h : m < ls.length) : kr (ls.take (m + 1)) = kr (ls.take m) + 2 ^ (8 - gn ls m) := by
  rw [List.take_succ_eq_append_getElem h, kr_app, gn_lt h]; simp [kr]
theorem kr_take_le (ls : List Nat) : ∀ k m, m + k ≤ ls.length → kr (ls.take m) ≤ kr (ls.take (m + k))
  | 0, m, _ => Nat.le_refl _
  | k + 1, m, h => Nat.le_trans (kr_take_le ls k m (by omega)) (by rw [← Nat.add_assoc, kr_take ls (m + k) (by omega)]; exact Nat.le_add_right _ _)
theorem pow_step {q l d : Nat} (h : l < d) (hd : d ≤ 8) (hq : 2 ^ (8 - d) = q) : q ≤ 2 ^ (7 - l) := by
  rw [← hq]; exact Nat.pow_le_pow_right (by omega) (by omega)
theorem gm_pts {ls : List Nat} {n : Nat} (hl : ls.length = n) (h7 : ∀ m, m < n → gn ls m ≤ 7) (hk : kr ls ≤ 256) : Pts n (fun m => kr (ls.take m) + 2 ^ (7 - gn ls m)) (gn (ls.map (· + 1))) := by
  have hL : ∀ m, m < n → gn (ls.map (· + 1)) m = gn ls m + 1 := fun m hm => by
    rw [gn_lt (by rw [List.length_map]; omega), gn_lt (show m < ls.length by omega), List.getElem_map]
  have hs : ∀ m, m < n → kr (ls.take (m + 1)) = kr (ls.take m) + 2 * 2 ^ (7 - gn ls m) := fun m hm => by
    rw [kr_take ls m (by omega), show 8 - gn ls m = (7 - gn ls m) + 1 by have := h7 m hm; omega, Nat.pow_succ, Nat.mul_comm 2]
  have hp : ∀ m, 0 < 2 ^ (7 - gn ls m) := fun m => Nat.pow_pos (by omega)
  have hle : ∀ m m', m < m' → m' < n → kr (ls.take (m + 1)) ≤ kr (ls.take m') := fun m m' h1 h2 => by
    have := kr_take_le ls (m' - (m + 1)) (m + 1) (by omega)
    rwa [show m + 1 + (m' - (m + 1)) = m' by omega] at this
  have hend : ∀ m, m < n → kr (ls.take (m + 1)) ≤ 256 := fun m hm => by
    have := kr_take_le ls (n - (m + 1)) (m + 1) (by omega)
    have e9 : ls.take n = ls := List.take_of_length_le (by omega)
    rw [show m + 1 + (n - (m + 1)) = n by omega, e9] at this
    omega
  refine ⟨fun m hm => ?_, fun m hm => ?_, fun m hm => ?_, fun d a m m' hd hm hm' hne h1 h2 h3 h4 => ?_⟩
  · have e1 := hs m (by omega); have e2 := hp m; have e3 := hp (m + 1)
    try simp only
    omega
  · have e1 := hs m hm; have e2 := hp m; have e3 := hend m hm
    try simp only
    omega
  · rw [hL m hm]; have := h7 m hm; omega
  · rw [hL m hm]
    refine Nat.succ_le_succ (Nat.le_of_not_lt fun hlt => ?_)
    have hq := pow_step hlt hd rfl
    generalize 2 ^ (8 - d) = q at *
    try simp only at h1 h2 h3 h4
    rw [Nat.add_mul, Nat.one_mul] at h2 h4
    have e1 := hs m hm; have e2 := hp m'; have e3 := hs m' hm'
    rcases Nat.lt_or_gt_of_ne hne with c | c
    · have := hle m m' c hm'; omega
    · have := hle m' m c hm; omega
theorem Dp.gm {ws l : List Nat} {n : Nat} {T : Nat → Nat → Nat} (h : Dp ws n T (n + 1)) (hl : Opt ws l) (hn : ws.length = n) (hn8 : n ≤ 8) : T 0 n ≤ cost ws l + ws.sum := by
  have hll := hl.len
  have h1 := h.pts hn (ls := l.map (· + 1)) (by rw [List.length_map]; omega) (gm_pts (n := n) (by omega) (fun m hm => by
    have := hl.deep (gn l m) (by rw [gn_lt (show m < l.length by omega)]; exact List.getElem_mem _)
    omega) hl.fits)
  rwa [cost_up ws l hll] at h1
theorem kr_dvd2 {L : Nat} (hL : L ≤ 8) : ∀ lr : List Nat, (∀ l ∈ lr, l ≤ L) → 2 ^ (8 - L) ∣ kr lr
  | [], _ => ⟨0, rfl⟩
  | x :: lr, h => by
    rw [kr_cons]
    refine Nat.dvd_add ?_ (kr_dvd2 hL lr fun y hy => h y (List.mem_cons_of_mem _ hy))
    exact Nat.pow_dvd_pow 2 (by have := h x (by simp); omega)
theorem kr_drop (ls : List Nat) (m : Nat) (h : m < ls.length) : kr (ls.drop m) = 2 ^ (8 - gn ls m) + kr (ls.drop (m + 1)) := by
  rw [List.drop_eq_getElem_cons h, kr_cons, gn_lt h]
theorem desc_le {ls : List Nat} (h : ls.Pairwise (· ≥ ·)) {m : Nat} (hm : m < ls.length) : ∀ x ∈ ls.drop m, x ≤ gn ls m := by
  intro x hx
  obtain ⟨j, hj, rfl⟩ := List.getElem_of_mem hx
  rw [List.length_drop] at hj
  rw [List.getElem_drop, gn_lt hm]
  by_cases e : j = 0
  · subst e; simp
  · exact List.pairwise_iff_getElem.1 h m (m + j) hm (by omega) (by omega)
theorem desc_pts {ls : List Nat} {n : Nat} (hl : ls.length = n) (h8 : ∀ x ∈ ls, x ≤ 8) (hk : kr ls ≤ 256) (hd : ls.Pairwise (· ≥ ·)) : Pts n (fun m => 256 - kr (ls.drop m)) (gn ls) := by
  have hL : ∀ m, m < n → gn ls m ≤ 8 := fun m hm => h8 _ (by rw [gn_lt (show m < ls.length by omega)]; exact List.getElem_mem _)
  have hs : ∀ m, m < n → kr (ls.drop m) = 2 ^ (8 - gn ls m) + kr (ls.drop (m + 1)) := fun m hm => kr_drop ls m (by omega)
  have hp : ∀ m, 0 < 2 ^ (8 - gn ls m) := fun m => Nat.pow_pos (by omega)
  have hmono : ∀ k m, m + k ≤ n → kr (ls.drop (m + k)) ≤ kr (ls.drop m) := by
    intro k
    induction k with
    | zero => intro m _; exact Nat.le_refl _
    | succ k ih =>
      intro m h
      have e1 := ih m (by omega)
      have e2 := hs (m + k) (by omega)
      have e3 := hp (m + k)
      rw [← Nat.add_assoc]; omega
  have hall : ∀ m, m ≤ n → kr (ls.drop m) ≤ 256 := fun m hm => by
    have := hmono m 0 (by omega)
    rw [Nat.zero_add, List.drop_zero] at this; omega
  refine ⟨fun m hm => ?_, fun m hm => ?_, hL, fun d a m m' hd8 hm hm' hne h1 h2 h3 h4 => Nat.succ_le_of_lt (Nat.lt_of_not_le fun hlt => ?_)⟩
  · have e1 := hs m (by omega); have e2 := hp m; have e3 := hall m (by omega)
    try simp only
    omega
  · have e1 := hs m hm; have e2 := hp m; have e3 := hall m (by omega)
    try simp only
    omega
  · have hdv : 2 ^ (8 - d) ∣ 256 - kr (ls.drop m) := by
      refine Nat.dvd_trans (Nat.pow_dvd_pow 2 (show 8 - d ≤ 8 - gn ls m by omega)) (Nat.dvd_sub ?_ (kr_dvd2 (hL m hm) _ (desc_le hd (by omega))))
      exact Nat.pow_dvd_pow 2 (show 8 - gn ls m ≤ 8 by omega)
    have hq : 2 ^ (8 - d) ≤ 2 ^ (8 - gn ls m) := Nat.pow_le_pow_right (by omega) (by omega)
    have hq0 : 0 < 2 ^ (8 - d) := Nat.pow_pos (by omega)
    generalize 2 ^ (8 - d) = q at *
    try simp only at h1 h2 h3 h4
    obtain ⟨t, ht⟩ := hdv
    have hta : t = a := by
      rw [ht, Nat.mul_comm q t] at h1 h2
      have i1 := Nat.le_of_mul_le_mul_right h1 hq0
      have i2 := Nat.lt_of_mul_lt_mul_right h2
      omega
    subst hta
    rw [Nat.mul_comm] at ht
    rw [Nat.add_mul, Nat.one_mul] at h4
    have e0 := hs m hm; have e3 := hall m (by omega)
    have e4 := hall m' (by omega)
    rcases Nat.lt_or_gt_of_ne hne with c | c
    · have := hmono (m' - (m + 1)) (m + 1) (by omega)
      rw [show m + 1 + (m' - (m + 1)) = m' by omega] at this
      omega
    · have := hmono (m - (m' + 1)) (m' + 1) (by omega)
      rw [show m' + 1 + (m - (m' + 1)) = m by omega] at this
      have e5 := hs m' hm'; have e6 := hp m'
      omega
theorem max_at : ∀ l : List Nat, l ≠ [] → ∃ p, p < l.length ∧ ∀ x ∈ l, x ≤ gn l p
  | [x], _ => ⟨0, by simp, by simp [gn]⟩
  | x :: y :: l, _ => by
    obtain ⟨p, hp, hm⟩ := max_at (y :: l) (by simp)
    by_cases c : gn (y :: l) p ≤ x
    · exact ⟨0, by simp, fun z hz => by
        rcases List.mem_cons.1 hz with rfl | hz
        · simp [gn]
        · exact Nat.le_trans (hm z hz) (by simpa [gn] using c)⟩
    · refine ⟨p + 1, by simp only [List.length_cons] at hp ⊢; omega, fun z hz => ?_⟩
      have e : gn (x :: y :: l) (p + 1) = gn (y :: l) p := by simp [gn]
      rw [e]
      rcases List.mem_cons.1 hz with rfl | hz
      · omega
      · exact hm z hz
theorem resort : ∀ ws l : List Nat, l.length = ws.length → ws.Pairwise (· ≤ ·) → ∃ ls : List Nat, ls.length = l.length ∧ (∀ x ∈ ls, x ∈ l) ∧ kr ls = kr l ∧ ls.Pairwise (· ≥ ·) ∧ cost ws ls ≤ cost ws l
  | [], l, h, _ => ⟨[], by simp at h; simp [h], by simp, by simp at h; simp [h], List.Pairwise.nil, by simp [cost]⟩
  | w :: ws, l, h, hs => by
    have hne : l ≠ [] := fun e => by subst e; simp at h
    obtain ⟨p, hp, hmax⟩ := max_at l hne
    rw [List.pairwise_cons] at hs
    have hlen : l.length = ws.length + 1 := by simpa using h
    have h0 : 0 < l.length := by omega
    have c1 := cost_set (ws := w :: ws) h (i := p) (by simp only [List.length_cons]; omega) (gn l 0)
    have c2 := cost_set (ws := w :: ws) (l := l.set p (gn l 0)) (by rw [List.length_set]; exact h) (i := 0) (by simp) (gn l p)
    have k1 := kr_set (l := l) hp (gn l 0)
    have k2 := kr_set (l := l.set p (gn l 0)) (i := 0) (by rw [List.length_set]; omega) (gn l p)
    have hg : gn (l.set p (gn l 0)) 0 = gn l 0 := by rw [gn_set]; split <;> rename_i q <;> simp_all
    rw [hg] at c2 k2
    have m0 : ∀ i, i < l.length → gn l i ∈ l := fun i hi => by rw [gn_lt hi]; exact List.getElem_mem _
    have hmem : ∀ x ∈ (l.set p (gn l 0)).set 0 (gn l p), x ∈ l := fun x hx => by
      rcases List.mem_or_eq_of_mem_set hx with hx | rfl
      · rcases List.mem_or_eq_of_mem_set hx with hx | rfl
        · exact hx
        · exact m0 0 h0
      · exact m0 p hp
    have hwp : w ≤ gn (w :: ws) p := by
      by_cases e : p = 0
      · subst e; simp [gn]
      · obtain ⟨p', rfl⟩ := Nat.exists_eq_succ_of_ne_zero e
        rw [show gn (w :: ws) p'.succ = gn ws p' by simp [gn], gn_lt (show p' < ws.length by omega)]
        exact hs.1 _ (List.getElem_mem _)
    have hw0 : gn (w :: ws) 0 = w := by simp [gn]
    rw [hw0] at c2
    have hcost : cost (w :: ws) ((l.set p (gn l 0)).set 0 (gn l p)) ≤ cost (w :: ws) l := by
      have hm0 := hmax _ (m0 0 h0)
      generalize cost (w :: ws) ((l.set p (gn l 0)).set 0 (gn l p)) = C2 at *
      generalize cost (w :: ws) (l.set p (gn l 0)) = C1 at *
      obtain ⟨a, ha⟩ := Nat.exists_eq_add_of_le hwp
      obtain ⟨b, hb⟩ := Nat.exists_eq_add_of_le hm0
      rw [ha, hb] at c1
      rw [hb] at c2
      simp only [Nat.add_mul, Nat.mul_add] at c1 c2
      omega
    have hkr : kr ((l.set p (gn l 0)).set 0 (gn l p)) = kr l := by omega
    have hll : ((l.set p (gn l 0)).set 0 (gn l p)).length = l.length := by rw [List.length_set, List.length_set]
    have hhd : ∃ t, (l.set p (gn l 0)).set 0 (gn l p) = gn l p :: t := by
      cases hq : l.set p (gn l 0) with
      | nil => exfalso; have h9 := congrArg List.length hq; rw [List.length_set] at h9; simp only [List.length_nil] at h9; omega
      | cons y t => exact ⟨t, rfl⟩
    obtain ⟨t, ht⟩ := hhd
    rw [ht] at hcost hkr hll hmem
    obtain ⟨t', a1, a2, a3, a4, a5⟩ := resort ws t (by simp only [List.length_cons] at hll; omega) hs.2
    refine ⟨gn l p :: t', by simp only [List.length_cons] at hll ⊢; omega, fun x hx => ?_, ?_, ?_, ?_⟩
    · rcases List.mem_cons.1 hx with rfl | hx
      · exact m0 p hp
      · exact hmem x (List.mem_cons_of_mem _ (a2 x hx))
    · rw [kr_cons] at hkr ⊢; omega
    · rw [List.pairwise_cons]
      exact ⟨fun x hx => hmax x (hmem x (List.mem_cons_of_mem _ (a2 x hx))), a4⟩
    · rw [cost_cons] at hcost ⊢; omega
theorem Dp.sorted {ws l : List Nat} {n : Nat} {T : Nat → Nat → Nat} (h : Dp ws n T (n + 1)) (hl : Opt ws l) (hn : ws.length = n) (hn8 : n ≤ 8) (hs : ws.Pairwise (· ≤ ·)) : T 0 n = cost ws l := by
  refine Nat.le_antisymm ?_ (h.low hl hn hn8)
  obtain ⟨ls, h1, h2, h3, h4, h5⟩ := resort ws l hl.len hs
  have hll := hl.len
  exact Nat.le_trans (h.pts hn (ls := ls) (by omega) (desc_pts (by omega) (fun x hx => hl.l8 (by omega) x (h2 x hx)) (by rw [h3]; exact hl.fits) h4)) h5
theorem Dp.first {ws : List Nat} {n : Nat} {T : Nat → Nat → Nat} (h : Dp ws n T (n + 1)) (hn : 2 ≤ n) (hT : T 0 n = 0) : gn ws 0 = 0 := by
  obtain ⟨k, _, _, hk⟩ := h.att 0 n (by omega) (Nat.le_refl _) (by omega)
  obtain ⟨m, rfl⟩ : ∃ m, n = m + 1 := ⟨n - 1, by omega⟩
  rw [Nat.sub_zero, sumR_succ] at hk
  omega
end Go.Proofs.Ytohflgcbpmoinaa
