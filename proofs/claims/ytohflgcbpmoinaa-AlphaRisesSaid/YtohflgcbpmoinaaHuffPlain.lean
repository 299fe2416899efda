/-
  Plain: short words for what comes often: no lengths that fit cost less than what the two least ones, made one, tell.
-/
import Derived.Test.YtohflgcbpmoinaaSortPlain
namespace Go.Proofs.Ytohflgcbpmoinaa
open Go V

def cost (ws ls : List Nat) : Nat := (List.zipWith (· * ·) ws ls).sum
def kr (ls : List Nat) : Nat := (ls.map fun l => 2 ^ (8 - l)).sum
def LB (ws : List Nat) (c : Nat) : Prop := ∀ ls : List Nat, ls.length = ws.length → (∀ l ∈ ls, l ≤ 8) → kr ls ≤ 256 → c ≤ cost ws ls
theorem cost_cons (w l : Nat) (ws ls : List Nat) : cost (w :: ws) (l :: ls) = w * l + cost ws ls := by simp [cost]
theorem kr_cons (l : Nat) (ls : List Nat) : kr (l :: ls) = 2 ^ (8 - l) + kr ls := by simp [kr]
theorem kr_perm {a b : List Nat} (h : a.Perm b) : kr a = kr b := (h.map _).sum_nat
theorem cost_perm {ws ws' : List Nat} (h : ws.Perm ws') : ∀ ls', ls'.length = ws'.length → ∃ ls, ls.Perm ls' ∧ cost ws ls = cost ws' ls' := by
  induction h with
  | nil => intro ls' h; exact ⟨ls', List.Perm.refl _, rfl⟩
  | cons x h ih =>
    intro ls' hl
    cases ls' with
    | nil => simp at hl
    | cons a t =>
      obtain ⟨t2, h1, h2⟩ := ih t (by simpa using hl)
      exact ⟨a :: t2, h1.cons a, by rw [cost_cons, cost_cons, h2]⟩
  | swap x y l =>
    intro ls' hl
    match ls', hl with
    | a :: b :: t, _ => exact ⟨b :: a :: t, List.Perm.swap _ _ _, by rw [cost_cons, cost_cons, cost_cons, cost_cons]; omega⟩
  | trans h1 h2 ih1 ih2 =>
    intro ls' hl
    obtain ⟨t, a1, a2⟩ := ih2 ls' hl
    obtain ⟨u, b1, b2⟩ := ih1 t (by rw [a1.length_eq, hl, h2.length_eq])
    exact ⟨u, b1.trans a1, b2.trans a2⟩
theorem LB.perm {ws ws' : List Nat} {c : Nat} (h : LB ws c) (hp : ws.Perm ws') : LB ws' c := by
  intro ls' hl h8 hk
  obtain ⟨ls, h1, h2⟩ := cost_perm hp ls' hl
  rw [← h2]
  exact h ls (by rw [h1.length_eq, hl, hp.length_eq]) (fun l hl => h8 l (h1.mem_iff.1 hl)) (by rw [kr_perm h1]; exact hk)
theorem cost_mid (a a' : List Nat) (r y : Nat) (b b' : List Nat) (h : a'.length = a.length) : cost (a' ++ r :: b') (a ++ y :: b) = cost a' a + r * y + cost b' b := by
  unfold cost
  rw [List.zipWith_append h, List.sum_append, List.zipWith_cons_cons, List.sum_cons]; omega
theorem kr_mid (a b : List Nat) (y : Nat) : kr (a ++ y :: b) = kr a + 2 ^ (8 - y) + kr b := by
  unfold kr; rw [List.map_append, List.sum_append, List.map_cons, List.sum_cons]; omega
theorem kr_dvd {L : Nat} (hL : L ≤ 8) : ∀ lr : List Nat, (∀ l ∈ lr, l < L) → 2 ^ (8 - L + 1) ∣ kr lr
  | [], _ => by simp [kr]
  | l :: lr, h => by
    rw [kr_cons]
    refine Nat.dvd_add ?_ (kr_dvd hL lr fun x hx => h x (by simp [hx]))
    have := h l (by simp)
    exact Nat.pow_dvd_pow 2 (by omega)
theorem half_pow {L : Nat} (h1 : 1 ≤ L) (h8 : L ≤ 8) : 2 ^ (8 - (L - 1)) = 2 * 2 ^ (8 - L) := by
  rw [show 8 - (L - 1) = 8 - L + 1 by omega, Nat.pow_succ]; omega
/-- one longest word may be shorter by one -/
theorem fits_less {L : Nat} {lr : List Nat} (h1 : 1 ≤ L) (h8 : L ≤ 8) (hlr : ∀ l ∈ lr, l < L) (hk : 2 ^ (8 - L) + kr lr ≤ 256) : 2 ^ (8 - (L - 1)) + kr lr ≤ 256 := by
  rw [half_pow h1 h8]
  obtain ⟨m, hm⟩ := kr_dvd h8 lr hlr
  have h256 : (256 : Nat) = 2 ^ (8 - L + 1) * 2 ^ (L - 1) := by rw [← Nat.pow_add, show 8 - L + 1 + (L - 1) = 8 by omega]
  have hp : 2 ^ (8 - L + 1) = 2 * 2 ^ (8 - L) := by rw [Nat.pow_succ]; omega
  have hpos := Nat.two_pow_pos (8 - L)
  generalize 2 ^ (8 - L) = P at *
  rw [hp] at h256 hm
  generalize 2 ^ (L - 1) = q at *
  have hmq : m < q := by
    refine Classical.byContradiction fun hn => ?_
    have : 2 * P * q ≤ 2 * P * m := Nat.mul_le_mul_left _ (by omega)
    omega
  have : 2 * P * (m + 1) ≤ 2 * P * q := Nat.mul_le_mul_left _ (by omega)
  rw [Nat.mul_add] at this
  omega
theorem LB.merge {w0 w1 c : Nat} {rest : List Nat} (h : LB ((w0 + w1) :: rest) c) (h0 : ∀ x ∈ rest, w0 ≤ x) (h1 : ∀ x ∈ rest, w1 ≤ x) : LB (w0 :: w1 :: rest) (c + w0 + w1) := by
  have key : ∀ (N l0 l1 : Nat) (lr : List Nat), l0 + l1 + 2 * lr.sum ≤ N → lr.length = rest.length → l0 ≤ 8 → l1 ≤ 8 → (∀ l ∈ lr, l ≤ 8) → 2 ^ (8 - l0) + (2 ^ (8 - l1) + kr lr) ≤ 256 → c + w0 + w1 ≤ w0 * l0 + (w1 * l1 + cost rest lr) := by
    intro N
    induction N with
    | zero =>
      intro l0 l1 lr hN hlen h08 h18 hr8 hk
      have e0 : l0 = 0 := by omega
      have e1 : l1 = 0 := by omega
      subst e0; subst e1
      simp at hk; omega
    | succ N ih =>
      intro l0 l1 lr hN hlen h08 h18 hr8 hk
      by_cases hA : ∃ y ∈ lr, l0 < y
      · obtain ⟨y, hy, hly⟩ := hA
        obtain ⟨a, b, rfl⟩ := List.append_of_mem hy
        obtain ⟨a', r, b', rfl, hal⟩ : ∃ a' r b', rest = a' ++ r :: b' ∧ a'.length = a.length := by
          have hlt : a.length < rest.length := by rw [← hlen]; simp
          exact ⟨rest.take a.length, rest[a.length], rest.drop (a.length + 1), by simp, by simp; omega⟩
        have hw := h0 r (by simp)
        have hsum : ∀ q : Nat, (a ++ q :: b).sum = a.sum + q + b.sum := fun q => by simp; omega
        have h8y := hr8 y (by simp)
        have := ih y l1 (a ++ l0 :: b) (by rw [hsum] at hN ⊢; omega) (by simpa using hlen) h8y h18 (fun l hl => by
          rcases List.mem_append.1 hl with hl | hl
          · exact hr8 l (by simp [hl])
          · rcases List.mem_cons.1 hl with rfl | hl
            · exact h08
            · exact hr8 l (by simp [hl])) (by rw [kr_mid] at hk ⊢; omega)
        rw [cost_mid a a' r _ b b' hal] at this ⊢
        have hx : w0 * y + r * l0 ≤ w0 * l0 + r * y := by
          obtain ⟨u, rfl⟩ := Nat.exists_eq_add_of_lt hly
          obtain ⟨v, rfl⟩ := Nat.exists_eq_add_of_le hw
          simp only [Nat.mul_add, Nat.add_mul]; omega
        omega
      by_cases hB : ∃ y ∈ lr, l1 < y
      · obtain ⟨y, hy, hly⟩ := hB
        obtain ⟨a, b, rfl⟩ := List.append_of_mem hy
        obtain ⟨a', r, b', rfl, hal⟩ : ∃ a' r b', rest = a' ++ r :: b' ∧ a'.length = a.length := by
          have hlt : a.length < rest.length := by rw [← hlen]; simp
          exact ⟨rest.take a.length, rest[a.length], rest.drop (a.length + 1), by simp, by simp; omega⟩
        have hw := h1 r (by simp)
        have hsum : ∀ q : Nat, (a ++ q :: b).sum = a.sum + q + b.sum := fun q => by simp; omega
        have h8y := hr8 y (by simp)
        have := ih l0 y (a ++ l1 :: b) (by rw [hsum] at hN ⊢; omega) (by simpa using hlen) h08 h8y (fun l hl => by
          rcases List.mem_append.1 hl with hl | hl
          · exact hr8 l (by simp [hl])
          · rcases List.mem_cons.1 hl with rfl | hl
            · exact h18
            · exact hr8 l (by simp [hl])) (by rw [kr_mid] at hk ⊢; omega)
        rw [cost_mid a a' r _ b b' hal] at this ⊢
        have hx : w1 * y + r * l1 ≤ w1 * l1 + r * y := by
          obtain ⟨u, rfl⟩ := Nat.exists_eq_add_of_lt hly
          obtain ⟨v, rfl⟩ := Nat.exists_eq_add_of_le hw
          simp only [Nat.mul_add, Nat.add_mul]; omega
        omega
      have hA' : ∀ l ∈ lr, l ≤ l0 := fun l hl => Nat.le_of_not_lt fun hn => hA ⟨l, hl, hn⟩
      have hB' : ∀ l ∈ lr, l ≤ l1 := fun l hl => Nat.le_of_not_lt fun hn => hB ⟨l, hl, hn⟩
      rcases Nat.lt_trichotomy l0 l1 with hlt | heq | hlt
      · have hk2 := fits_less (L := l1) (lr := l0 :: lr) (by omega) h18 (fun l hl => by
          rcases List.mem_cons.1 hl with rfl | hl
          · exact hlt
          · have := hA' l hl; omega) (by rw [kr_cons]; omega)
        rw [kr_cons] at hk2
        have := ih l0 (l1 - 1) lr (by omega) hlen h08 (by omega) hr8 (by omega)
        have : w1 * (l1 - 1) ≤ w1 * l1 := Nat.mul_le_mul_left _ (by omega)
        omega
      · subst heq
        have hL : 1 ≤ l0 := by
          refine Classical.byContradiction fun hn => ?_
          have : l0 = 0 := by omega
          subst this
          simp at hk; omega
        have := h ((l0 - 1) :: lr) (by simp [hlen]) (fun l hl => by
          rcases List.mem_cons.1 hl with rfl | hl
          · omega
          · exact hr8 l hl) (by rw [kr_cons, half_pow hL h08]; omega)
        rw [cost_cons] at this
        obtain ⟨L, rfl⟩ := Nat.exists_eq_add_of_le hL
        rw [show 1 + L - 1 = L by omega, Nat.add_mul] at this
        simp only [Nat.mul_add, Nat.mul_one]
        omega
      · have hk2 := fits_less (L := l0) (lr := l1 :: lr) (by omega) h08 (fun l hl => by
          rcases List.mem_cons.1 hl with rfl | hl
          · exact hlt
          · have := hB' l hl; omega) (by rw [kr_cons]; omega)
        rw [kr_cons] at hk2
        have := ih (l0 - 1) l1 lr (by omega) hlen (by omega) h18 hr8 (by omega)
        have : w0 * (l0 - 1) ≤ w0 * l0 := Nat.mul_le_mul_left _ (by omega)
        omega
  intro ls hl h8 hk
  match ls, hl with
  | l0 :: l1 :: lr, hl =>
    rw [kr_cons, kr_cons] at hk
    rw [cost_cons, cost_cons]
    exact key _ l0 l1 lr (Nat.le_refl _) (by simpa using hl) (h8 _ (by simp)) (h8 _ (by simp)) (fun l hl => h8 l (by simp [hl])) hk
theorem LB.one (w : Nat) : LB [w] 0 := fun _ _ _ _ => Nat.zero_le _
theorem LB.nil : LB [] 0 := fun _ _ _ _ => Nat.zero_le _

/-! sums over places -/
def sumI (s : List Nat) (g : Nat → Nat) : Nat := (s.map g).sum
theorem sumI_app (a b : List Nat) (g : Nat → Nat) : sumI (a ++ b) g = sumI a g + sumI b g := by simp [sumI]
theorem sumI_perm {a b : List Nat} (h : a.Perm b) (g : Nat → Nat) : sumI a g = sumI b g := (h.map _).sum_nat
theorem sumI_congr {s : List Nat} {f g : Nat → Nat} (h : ∀ i ∈ s, f i = g i) : sumI s f = sumI s g := by unfold sumI; rw [List.map_congr_left h]
theorem sumI_add (s : List Nat) (f g : Nat → Nat) : sumI s (fun i => f i + g i) = sumI s f + sumI s g := by
  induction s with
  | nil => rfl
  | cons a s ih => simp only [sumI, List.map_cons, List.sum_cons] at ih ⊢; omega
theorem sumI_succ (k : Nat) (g : Nat → Nat) : sumI (List.range (k + 1)) g = sumI (List.range k) g + g k := by
  rw [List.range_succ, sumI_app]; simp [sumI]
theorem cost_range {ws ls : List Nat} (h : ls.length = ws.length) : cost ws ls = sumI (List.range ws.length) fun i => gn ws i * gn ls i := by
  unfold cost sumI
  congr 1
  refine List.ext_getElem (by simp [h]) fun i h1 h2 => ?_
  have h3 : i < ws.length := by simpa using h2
  simp [gn, h3, h]
theorem kr_range (ls : List Nat) : kr ls = sumI (List.range ls.length) fun i => 2 ^ (8 - gn ls i) := by
  unfold kr sumI
  congr 1
  refine List.ext_getElem (by simp) fun i h1 h2 => ?_
  have h3 : i < ls.length := by simpa using h2
  simp [gn, h3]
/-- a part of the sum -/
theorem sumI_mem (n : Nat) : ∀ (s : List Nat) (g : Nat → Nat), s.Nodup → (∀ i ∈ s, i < n) → sumI (List.range n) (fun i => if i ∈ s then g i else 0) = sumI s g := by
  induction n with
  | zero =>
    intro s g hs hlt
    cases s with
    | nil => rfl
    | cons a s => have := hlt a (by simp); omega
  | succ n ih =>
    intro s g hs hlt
    rw [sumI_succ]
    by_cases hn : n ∈ s
    · rw [if_pos hn]
      obtain ⟨a, b, rfl⟩ := List.append_of_mem hn
      have hp : (a ++ n :: b).Perm (n :: (a ++ b)) := List.perm_middle
      have hnd := hp.nodup_iff.1 hs
      rw [List.nodup_cons] at hnd
      have := ih (a ++ b) g hnd.2 (fun i hi => by
        have h1 := hlt i (hp.mem_iff.2 (List.mem_cons_of_mem _ hi))
        have h2 : i ≠ n := fun e => hnd.1 (e ▸ hi)
        omega)
      rw [sumI_perm hp, show sumI (n :: (a ++ b)) g = g n + sumI (a ++ b) g from by simp [sumI], ← this]
      rw [Nat.add_comm]
      congr 1
      refine sumI_congr fun i hi => ?_
      have hin : i ≠ n := by have := List.mem_range.1 hi; omega
      simp [hin]
    · rw [if_neg hn, Nat.add_zero]
      exact ih s g hs fun i hi => by
        have h1 := hlt i hi
        have h2 : i ≠ n := fun e => hn (e ▸ hi)
        omega
/-- so many symbols have a bit more -/
def incL (l : List Nat) (ss : List Nat) : List Nat := ss.foldl (fun l i => l.set i (gn l i + 1)) l
theorem incL_len (l ss : List Nat) : (incL l ss).length = l.length := by
  unfold incL
  induction ss generalizing l with
  | nil => rfl
  | cons a ss ih => rw [List.foldl_cons, ih, List.length_set]
theorem gn_set (l : List Nat) (i j v : Nat) : gn (l.set i v) j = if i = j ∧ i < l.length then v else gn l j := by
  unfold gn
  rw [List.getD_eq_getElem?_getD, List.getD_eq_getElem?_getD, List.getElem?_set]
  by_cases h : i = j
  · subst h
    by_cases h2 : i < l.length
    · simp [h2]
    · simp [h2]
  · simp [h]
theorem gn_incL : ∀ (ss l : List Nat) (i : Nat), ss.Nodup → (∀ j ∈ ss, j < l.length) → gn (incL l ss) i = gn l i + if i ∈ ss then 1 else 0
  | [], l, i, _, _ => by simp [incL]
  | a :: ss, l, i, hnd, hlt => by
    rw [List.nodup_cons] at hnd
    have h1 : incL l (a :: ss) = incL (l.set a (gn l a + 1)) ss := rfl
    rw [h1, gn_incL ss _ i hnd.2 (fun j hj => by rw [List.length_set]; exact hlt j (by simp [hj])), gn_set]
    have ha := hlt a (by simp)
    by_cases e : a = i
    · subst e
      rw [if_pos ⟨rfl, ha⟩, if_neg hnd.1]; simp
    · rw [if_neg (fun h => e h.1)]
      have : (i ∈ a :: ss) ↔ i ∈ ss := by
        rw [List.mem_cons]; exact ⟨fun h => h.resolve_left fun h => e h.symm, .inr⟩
      simp only [this]
/-- a tree: what its symbols weigh together, and the symbols -/
abbrev Tr := Nat × List Nat
structure HI (ws : List Nat) (F : List Tr) (l : List Nat) : Prop where
  len : l.length = ws.length
  syms : (F.flatMap (·.2)).Perm (List.range ws.length)
  wt : ∀ t ∈ F, t.1 = sumI t.2 (gn ws)
  full : ∀ t ∈ F, sumI t.2 (fun i => 2 ^ (8 - gn l i)) = 256
  deep : ∀ t ∈ F, ∀ i ∈ t.2, gn l i + 1 ≤ t.2.length
  low : ∀ c, LB (F.map (·.1)) c → LB ws (c + cost ws l)
theorem gn_rep0' (n i : Nat) : gn (List.replicate n 0) i = 0 := by
  unfold gn; rw [List.getD_eq_getElem?_getD, List.getElem?_replicate]; split <;> rfl
def leaves (ws : List Nat) (k : Nat) : List Tr := (List.range k).map fun i => (gn ws i, [i])
theorem leaves_succ (ws : List Nat) (k : Nat) : leaves ws (k + 1) = leaves ws k ++ [(gn ws k, [k])] := by simp [leaves, List.range_succ]
theorem leaves_len (ws : List Nat) (k : Nat) : (leaves ws k).length = k := by simp [leaves]
theorem HI.start (ws : List Nat) : HI ws (leaves ws ws.length) (List.replicate ws.length 0) := by
  have hm : ∀ t ∈ leaves ws ws.length, ∃ i, t = (gn ws i, [i]) := fun t ht => by
    obtain ⟨i, _, rfl⟩ := List.mem_map.1 ht; exact ⟨i, rfl⟩
  refine ⟨by simp, ?_, fun t ht => ?_, fun t ht => ?_, fun t ht i hi => ?_, fun c hc => ?_⟩
  · have : (leaves ws ws.length).flatMap (·.2) = List.range ws.length := by
      unfold leaves
      induction ws.length with
      | zero => rfl
      | succ k ih => rw [List.range_succ, List.map_append, List.flatMap_append, ih]; simp
    rw [this]
  · obtain ⟨i, rfl⟩ := hm t ht; simp [sumI]
  · obtain ⟨i, rfl⟩ := hm t ht; simp [sumI, gn_rep0']
  · obtain ⟨j, rfl⟩ := hm t ht; simp [gn_rep0']
  · have hw : (leaves ws ws.length).map (·.1) = ws := by
      refine List.ext_getElem (by simp [leaves]) fun i h1 h2 => ?_
      simp [leaves, gn, h2]
    rw [hw] at hc
    have h0 : cost ws (List.replicate ws.length 0) = 0 := by
      rw [cost_range (by simp)]
      rw [sumI_congr (g := fun _ => 0) fun i _ => by rw [gn_rep0', Nat.mul_zero]]
      unfold sumI
      induction ws.length with
      | zero => rfl
      | succ k ih => rw [List.range_succ, List.map_append, List.sum_append, ih]; rfl
    rw [h0]; exact hc
theorem flatMap_perm {F G : List Tr} (h : F.Perm G) : (F.flatMap (·.2)).Perm (G.flatMap (·.2)) := by
  induction h with
  | nil => exact List.Perm.refl _
  | cons x h ih => simp only [List.flatMap_cons]; exact ih.append_left _
  | swap x y l =>
    simp only [List.flatMap_cons]
    rw [← List.append_assoc, ← List.append_assoc]
    exact List.perm_append_comm.append_right _
  | trans _ _ h1 h2 => exact h1.trans h2
theorem HI.perm {ws : List Nat} {F G : List Tr} {l : List Nat} (h : HI ws F l) (hp : F.Perm G) : HI ws G l :=
  ⟨h.len, (flatMap_perm hp).symm.trans h.syms, fun t ht => h.wt t (hp.mem_iff.2 ht), fun t ht => h.full t (hp.mem_iff.2 ht), fun t ht => h.deep t (hp.mem_iff.2 ht), fun c hc => h.low c (hc.perm (hp.map _).symm)⟩
/-- the two lightest become one -/
theorem HI.step {ws : List Nat} {t0 t1 : Tr} {R : List Tr} {l : List Nat} (h : HI ws (t0 :: t1 :: R) l) (hn : ws.length ≤ 8) (h0 : ∀ t ∈ R, t0.1 ≤ t.1) (h1 : ∀ t ∈ R, t1.1 ≤ t.1) : HI ws (R ++ [(t0.1 + t1.1, t0.2 ++ t1.2)]) (incL l (t0.2 ++ t1.2)) := by
  have hsy := h.syms
  simp only [List.flatMap_cons] at hsy
  have hnd : (t0.2 ++ (t1.2 ++ R.flatMap (·.2))).Nodup := hsy.nodup_iff.2 List.nodup_range
  rw [← List.append_assoc] at hnd hsy
  have hnd2 := List.nodup_append.1 hnd
  have hlt : ∀ j ∈ t0.2 ++ t1.2, j < ws.length := fun j hj => List.mem_range.1 (hsy.mem_iff.1 (List.mem_append_left _ hj))
  have hlt' : ∀ j ∈ t0.2 ++ t1.2, j < l.length := fun j hj => by rw [h.len]; exact hlt j hj
  have hg := fun i => gn_incL (t0.2 ++ t1.2) l i hnd2.1 hlt'
  have hin : ∀ i ∈ t0.2 ++ t1.2, gn (incL l (t0.2 ++ t1.2)) i = gn l i + 1 := fun i hi => by rw [hg, if_pos hi]
  have hout : ∀ t ∈ R, ∀ i ∈ t.2, gn (incL l (t0.2 ++ t1.2)) i = gn l i := fun t ht i hi => by
    rw [hg, if_neg (fun hx => hnd2.2.2 i hx i (List.mem_flatMap.2 ⟨t, ht, hi⟩) rfl)]; rfl
  have hl0 : ∀ t ∈ t0 :: t1 :: R, t.2.length ≤ 8 := fun t ht => by
    have h1 : t.2.length ≤ ((t0 :: t1 :: R).flatMap (·.2)).length := by
      obtain ⟨a, b, hab⟩ := List.append_of_mem ht
      rw [hab, List.flatMap_append, List.flatMap_cons, List.length_append, List.length_append]; omega
    rw [h.syms.length_eq, List.length_range] at h1; omega
  have hdeep : ∀ t ∈ t0 :: t1 :: R, ∀ i ∈ t.2, gn l i ≤ 7 := fun t ht i hi => by
    have := h.deep t ht i hi; have := hl0 t ht; omega
  have hhalf : ∀ t ∈ t0 :: t1 :: R, (∀ i ∈ t.2, i ∈ t0.2 ++ t1.2) → 2 * sumI t.2 (fun i => 2 ^ (8 - gn (incL l (t0.2 ++ t1.2)) i)) = 256 := fun t ht hsub => by
    rw [← h.full t ht, Nat.two_mul, ← sumI_add]
    refine sumI_congr fun i hi => ?_
    have := hdeep t ht i hi
    rw [hin i (hsub i hi), show 8 - gn l i = 8 - (gn l i + 1) + 1 by omega, Nat.pow_succ]; omega
  refine ⟨by rw [incL_len]; exact h.len, ?_, fun t ht => ?_, fun t ht => ?_, fun t ht i hi => ?_, fun c hc => ?_⟩
  · rw [List.flatMap_append]
    simp only [List.flatMap_cons, List.flatMap_nil, List.append_nil]
    exact List.perm_append_comm.trans hsy
  · rcases List.mem_append.1 ht with ht | ht
    · exact h.wt t (by simp [ht])
    · rw [List.mem_singleton] at ht; subst ht
      simp only
      rw [sumI_app, h.wt t0 (by simp), h.wt t1 (by simp)]
  · rcases List.mem_append.1 ht with ht | ht
    · rw [← h.full t (by simp [ht])]
      exact sumI_congr fun i hi => by rw [hout t ht i hi]
    · rw [List.mem_singleton] at ht; subst ht
      simp only
      rw [sumI_app]
      have a0 := hhalf t0 (by simp) (fun i hi => List.mem_append_left _ hi)
      have a1 := hhalf t1 (by simp) (fun i hi => List.mem_append_right _ hi)
      omega
  · rcases List.mem_append.1 ht with ht | ht
    · rw [hout t ht i hi]; exact h.deep t (by simp [ht]) i hi
    · rw [List.mem_singleton] at ht; subst ht
      simp only at hi ⊢
      rw [hin i hi, List.length_append]
      have p0 : 1 ≤ t0.2.length := by
        cases hq : t0.2 with
        | nil => have := h.full t0 (by simp); rw [hq] at this; simp [sumI] at this
        | cons a b => simp
      have p1 : 1 ≤ t1.2.length := by
        cases hq : t1.2 with
        | nil => have := h.full t1 (by simp); rw [hq] at this; simp [sumI] at this
        | cons a b => simp
      rcases List.mem_append.1 hi with hi | hi
      · have := h.deep t0 (by simp) i hi; omega
      · have := h.deep t1 (by simp) i hi; omega
  · rw [List.map_append] at hc
    simp only [List.map_cons, List.map_nil] at hc
    have hc2 : LB ((t0.1 + t1.1) :: R.map (·.1)) c := hc.perm List.perm_append_comm
    have hc3 := hc2.merge (fun x hx => by obtain ⟨t, ht, rfl⟩ := List.mem_map.1 hx; exact h0 t ht) (fun x hx => by obtain ⟨t, ht, rfl⟩ := List.mem_map.1 hx; exact h1 t ht)
    have hc4 := h.low _ hc3
    have hcost : cost ws (incL l (t0.2 ++ t1.2)) = cost ws l + (t0.1 + t1.1) := by
      rw [cost_range (by rw [incL_len]; exact h.len), cost_range h.len]
      rw [sumI_congr (g := fun i => gn ws i * gn l i + if i ∈ t0.2 ++ t1.2 then gn ws i else 0) fun i _ => by
        rw [hg, Nat.mul_add]
        split <;> simp]
      rw [sumI_add, sumI_mem _ _ _ hnd2.1 hlt, sumI_app, ← h.wt t0 (by simp), ← h.wt t1 (by simp)]
    rw [hcost, show c + (cost ws l + (t0.1 + t1.1)) = c + t0.1 + t1.1 + cost ws l by omega]
    exact hc4
/-- the least cost, by lengths that fit -/
structure Opt (ws : List Nat) (l : List Nat) : Prop where
  len : l.length = ws.length
  low : LB ws (cost ws l)
  fits : kr l ≤ 256
  deep : ∀ x ∈ l, x + 1 ≤ ws.length
theorem HI.done {ws : List Nat} {F : List Tr} {l : List Nat} (h : HI ws F l) (hF : F.length ≤ 1) : Opt ws l := by
  have hlow : LB ws (cost ws l) := by
    have := h.low 0 (by
      match F, hF with
      | [], _ => exact LB.nil
      | [t], _ => exact LB.one _)
    rwa [Nat.zero_add] at this
  match F, hF with
  | [], _ =>
    have h0 : ws.length = 0 := by have := h.syms.length_eq; simpa using this.symm
    have hl : l = [] := List.eq_nil_of_length_eq_zero (by rw [h.len, h0])
    subst hl
    exact ⟨h.len, hlow, by simp [kr], by simp⟩
  | [t], _ =>
    have hs := h.syms
    simp only [List.flatMap_cons, List.flatMap_nil, List.append_nil] at hs
    refine ⟨h.len, hlow, ?_, fun x hx => ?_⟩
    · rw [kr_range, h.len, ← sumI_perm hs, h.full t (by simp)]; exact Nat.le_refl _
    · obtain ⟨i, hi, rfl⟩ := List.getElem_of_mem hx
      have := h.deep t (by simp) i (hs.mem_iff.2 (List.mem_range.2 (by rw [← h.len]; exact hi)))
      rw [hs.length_eq, List.length_range, gn_lt hi] at this
      exact this
end Go.Proofs.Ytohflgcbpmoinaa
