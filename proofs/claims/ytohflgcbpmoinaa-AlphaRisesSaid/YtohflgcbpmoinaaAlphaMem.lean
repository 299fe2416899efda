/-
  The memory of the table of package alpha: the struct, the row of the rows, each row an own block.
-/
import Derived.Test.YtohflgcbpmoinaaAlphaPlain
import Derived.Test.YtohflgcbpmoinaaVz4
import Derived.Test.YtohflgcbpmoinaaVheap
namespace Go.Proofs.Ytohflgcbpmoinaa
open Go Go.RowKit V

structure Tx where
  p : Option Addr
  c : Nat
  l : List Nat
def tv (T : List Tx) : List Value := T.map fun x => .slice x.p x.l.length x.c
def gT (T : List Tx) (k : Nat) : Tx := T.getD k ⟨none, 0, []⟩
def tz (T : List Tx) : List Oz := T.map fun x => ⟨2, 1, x.p, x.l.length, x.c, nv x.l⟩
theorem gT_lt {T : List Tx} {k : Nat} (h : k < T.length) : gT T k = T[k] := by simp [gT, h]
theorem gT_mem {T : List Tx} {k : Nat} (h : k < T.length) : gT T k ∈ T := by rw [gT_lt h]; exact List.getElem_mem h
theorem tv_len (T : List Tx) : (tv T).length = T.length := by simp [tv]
theorem tv_at {T : List Tx} {k : Nat} (h : k < T.length) : (tv T)[k]? = some (.slice (gT T k).p (gT T k).l.length (gT T k).c) := by simp [tv, gT, h]
theorem perm_at {T : List Tx} {j : Nat} (hj : j < T.length) : (tz T).Perm (⟨2, 1, (gT T j).p, (gT T j).l.length, (gT T j).c, nv (gT T j).l⟩ :: tz (T.eraseIdx j)) := by
  have h : T.Perm (gT T j :: T.eraseIdx j) := by
    rw [gT_lt hj, List.eraseIdx_eq_take_drop_succ]
    have e : T = T.take j ++ T[j] :: T.drop (j + 1) := by simp
    conv => lhs; rw [e]
    exact List.perm_middle
  exact h.map _
theorem gT_set {T : List Tx} {i j : Nat} (hi : i < T.length) (x : Tx) : gT (T.set i x) j = if i = j then x else gT T j := by
  unfold gT
  rw [List.getD_eq_getElem?_getD, List.getD_eq_getElem?_getD, List.getElem?_set]
  by_cases e : i = j
  · subst e; rw [if_pos rfl, if_pos rfl, if_pos hi]; rfl
  · rw [if_neg e, if_neg e]
theorem front {w : World} {B : Nat} {a b : Oz} {T : List Tx} {j : Nat} (h : Mz w B (a :: b :: tz T)) (hj : j < T.length) :
    Mz w B (⟨2, 1, (gT T j).p, (gT T j).l.length, (gT T j).c, nv (gT T j).l⟩ :: a :: b :: tz (T.eraseIdx j)) := by
  refine h.perm ?_
  refine (List.Perm.swap _ _ _).trans (List.Perm.cons _ ((List.Perm.swap _ _ _).trans (List.Perm.cons _ ?_)))
  exact (perm_at hj).symm
theorem unfront {w : World} {B : Nat} {a b : Oz} {T : List Tx} {j : Nat} (h : Mz w B (⟨2, 1, (gT T j).p, (gT T j).l.length, (gT T j).c, nv (gT T j).l⟩ :: a :: b :: tz (T.eraseIdx j))) (hj : j < T.length) : Mz w B (a :: b :: tz T) := by
  refine h.perm (List.Perm.symm ?_)
  refine (List.Perm.swap _ _ _).trans (List.Perm.cons _ ((List.Perm.swap _ _ _).trans (List.Perm.cons _ ?_)))
  exact (perm_at hj).symm
def putT (T : List Tx) (j : Nat) (l : List Nat) : List Tx := T.set j ⟨(gT T j).p, (gT T j).c, l⟩
theorem putT_len (T : List Tx) (j : Nat) (l : List Nat) : (putT T j l).length = T.length := by simp [putT]
theorem tv_put {T : List Tx} {j : Nat} {l : List Nat} (hj : j < T.length) (hl : l.length = (gT T j).l.length) : tv (putT T j l) = tv T := by
  unfold tv putT
  refine List.ext_getElem (by simp) fun i h1 h2 => ?_
  rw [List.getElem_map, List.getElem_map, List.getElem_set]
  by_cases e : j = i
  · subst e; rw [if_pos rfl]; simp only [hl, gT_lt hj]
  · rw [if_neg e]
theorem back {w : World} {B : Nat} {a : Oz} {eo co : Nat} {po : Option Addr} {T : List Tx} {j n : Nat} {l : List Nat} (hj : j < T.length) (hl : l.length = (gT T j).l.length)
    (h : Mz w B (⟨2, 1, (gT T j).p, (gT T j).l.length, (gT T j).c, nv l⟩ :: a :: ⟨eo, 1, po, n, co, tv T⟩ :: tz (T.eraseIdx j))) : Mz w B (a :: ⟨eo, 1, po, n, co, tv (putT T j l)⟩ :: tz (putT T j l)) := by
  have hg : gT (putT T j l) j = ⟨(gT T j).p, (gT T j).c, l⟩ := by unfold putT; rw [gT_set hj, if_pos rfl]
  have e : (⟨2, 1, (gT T j).p, (gT T j).l.length, (gT T j).c, nv l⟩ : Oz) = ⟨2, 1, (gT (putT T j l) j).p, (gT (putT T j l) j).l.length, (gT (putT T j l) j).c, nv (gT (putT T j l) j).l⟩ := by
    rw [hg, hl]
  have e2 : T.eraseIdx j = (putT T j l).eraseIdx j := by simp [putT, List.eraseIdx_set_eq]
  rw [e, e2] at h
  rw [tv_put hj hl]
  exact unfront h (by rw [putT_len]; exact hj)
theorem txR {w : World} {B : Nat} {a b : Oz} {T : List Tx} {k : Nat} (h : Mz w B (a :: b :: tz T)) (hk : k < T.length) : Rd w (gT T k).p (nv (gT T k).l) := (front h hk).o0.rd
theorem txF {w : World} {B : Nat} {a b : Oz} {T : List Tx} {j k : Nat} (hj : j < T.length) (hk : k < T.length) (h : Mz w B (⟨2, 1, (gT T j).p, (gT T j).l.length, (gT T j).c, nv (gT T j).l⟩ :: a :: b :: tz (T.eraseIdx j))) : Rd w (gT T k).p (nv (gT T k).l) := txR (unfront h hj) hk
def nilT (n : Nat) : List Tx := List.replicate n ⟨none, 0, []⟩
theorem tv_nil (n : Nat) : List.replicate n (.slice none 0 0) = tv (nilT n) := by simp [tv, nilT]
theorem tv_set (T : List Tx) (i : Nat) (x : Tx) : (tv T).set i (.slice x.p x.l.length x.c) = tv (T.set i x) := by simp [tv, List.map_set]
theorem Mz.nils {w : World} {B : Nat} {S : List Oz} (h : Mz w B S) : ∀ n, Mz w B (tz (nilT n) ++ S)
  | 0 => h
  | n + 1 => (Mz.nils h n).addNil 2 1
/-- a row is laid at a place; what was there is let go -/
theorem putNew {w : World} {B : Nat} {eo co m : Nat} {po : Option Addr} {a : Oz} {T : List Tx} {i : Nat} (x : Tx) (n : Nat) (hn : x.l.length = n) (hi : i < T.length) (h : Mz w B (⟨2, 1, x.p, n, x.c, nv x.l⟩ :: a :: ⟨eo, 1, po, m, co, (tv T).set i (.slice x.p n x.c)⟩ :: tz T)) : Mz w B (a :: ⟨eo, 1, po, m, co, tv (T.set i x)⟩ :: tz (T.set i x)) := by
  subst hn
  rw [tv_set] at h
  have h1 := h.perm ((((perm_at hi).symm.cons _).cons _).cons _)
  have h2 := Mz.er3 h1
  have e1 : (T.set i x).eraseIdx i = T.eraseIdx i := List.eraseIdx_set_eq
  have e2 := front (j := i) (T := T.set i x) (a := a) (b := ⟨eo, 1, po, m, co, tv (T.set i x)⟩) (w := w) (B := B)
  have hl : i < (T.set i x).length := by rw [List.length_set]; exact hi
  refine unfront (j := i) ?_ hl
  rw [gT_set hi, if_pos rfl, e1]
  exact h2
/-- the table -/
def tab (T : List Tx) (i j : Nat) : Nat := gn (gT T i).l j
theorem tab_put {T : List Tx} {i j a b v : Nat} (hi : i < T.length) (hj : j < (gT T i).l.length) : tab (putT T i ((gT T i).l.set j v)) a b = if i = a ∧ j = b then v else tab T a b := by
  unfold tab putT
  rw [gT_set hi]
  by_cases e : i = a
  · subst e
    rw [if_pos rfl, gn_set]
    by_cases e2 : j = b
    · subst e2; rw [if_pos ⟨rfl, hj⟩, if_pos ⟨rfl, rfl⟩]
    · rw [if_neg (fun h => e2 h.1), if_neg (fun h => e2 h.2)]
  · rw [if_neg e, if_neg (fun h => e h.1)]
/-- stretches shorter than s are done, and of those of s the ones that begin before i0 -/
structure Dq (ws : List Nat) (n : Nat) (T : List Tx) (s i0 : Nat) : Prop where
  len : T.length = n + 1
  rows : ∀ k, k < n + 1 → (gT T k).l.length = n + 1
  zero : ∀ i j, j < i + 2 → tab T i j = 0
  att : ∀ i j, i + 2 ≤ j → j ≤ n → (j < i + s ∨ (j = i + s ∧ i < i0)) → ∃ k, i < k ∧ k < j ∧ tab T i j = tab T i k + tab T k j + sumR ws i (j - i)
  le : ∀ i j k, i < k → k < j → j ≤ n → (j < i + s ∨ (j = i + s ∧ i < i0)) → tab T i j ≤ tab T i k + tab T k j + sumR ws i (j - i)
  small : ∀ i j, j ≤ n → (j < i + s ∨ (j = i + s ∧ i < i0)) → tab T i j ≤ (j - i) * (j - i) * 1048576
theorem Dq.next {ws : List Nat} {n s i0 : Nat} {T : List Tx} (h : Dq ws n T s i0) (hd : n < i0 + s) : Dq ws n T (s + 1) 0 :=
  ⟨h.len, h.rows, h.zero, fun i j h1 h2 h3 => h.att i j h1 h2 (by omega), fun i j k h1 h2 h3 h4 => h.le i j k h1 h2 h3 (by omega), fun i j h1 h2 => h.small i j h1 (by omega)⟩
theorem Dq.done {ws : List Nat} {n s i0 : Nat} {T : List Tx} (h : Dq ws n T s i0) (hs : n < s) : Dp ws n (tab T) (n + 1) :=
  ⟨h.zero, fun i j h1 h2 _ => h.att i j h1 h2 (by omega), fun i j k h1 h2 h3 _ => h.le i j k h1 h2 h3 (by omega)⟩
theorem sumR_le {ws : List Nat} (hw : ∀ x ∈ ws, x ≤ 1048576) (i : Nat) : ∀ s, sumR ws i s ≤ s * 1048576
  | 0 => by simp [sumR]
  | s + 1 => by
    rw [sumR_add ws i s 1]
    have h1 := sumR_le hw i s
    have h2 : sumR ws (i + s) 1 ≤ 1048576 := by
      rw [sumR_succ]; simp only [sumR, List.take_zero, List.sum_nil, Nat.add_zero]
      by_cases e : i + s < ws.length
      · exact hw _ (by rw [gn_lt e]; exact List.getElem_mem _)
      · unfold gn; rw [List.getD_eq_getElem?_getD, List.getElem?_eq_none (by omega)]; simp
    rw [Nat.add_mul, Nat.one_mul]; omega
theorem sumR_last (ws : List Nat) (i k : Nat) : sumR ws i (k + 1) = sumR ws i k + gn (ws.drop i) k := by
  rw [sumR_add ws i k 1, sumR_succ]
  have : gn (ws.drop i) k = gn ws (i + k) := by simp [gn, List.getElem?_drop]
  rw [this]; simp [sumR]
theorem quad {a b : Nat} (ha : 1 ≤ a) (hb : 1 ≤ b) : a * a * 1048576 + b * b * 1048576 + (a + b) * 1048576 ≤ (a + b) * (a + b) * 1048576 := by
  rw [← Nat.add_mul, ← Nat.add_mul]
  refine Nat.mul_le_mul_right _ ?_
  have h1 : a ≤ a * b := Nat.le_mul_of_pos_right a hb
  have h2 : b ≤ a * b := Nat.le_mul_of_pos_left b ha
  have h3 : (a + b) * (a + b) = a * a + a * b + (a * b + b * b) := by
    rw [Nat.add_mul, Nat.mul_add, Nat.mul_add, Nat.mul_comm b a]
  omega
theorem Dq.lt {ws : List Nat} {n s i0 : Nat} {T : List Tx} (h : Dq ws n T s i0) {i j : Nat} (hj : j ≤ n) (hn : n ≤ 8) (hs : j < i + s) : tab T i j ≤ 67108864 := by
  have h1 := h.small i j hj (.inl hs)
  have h2 : (j - i) * (j - i) ≤ 8 * 8 := Nat.mul_le_mul (by omega) (by omega)
  have h3 : (j - i) * (j - i) * 1048576 ≤ 8 * 8 * 1048576 := Nat.mul_le_mul_right _ h2
  omega
theorem Dq.start {ws : List Nat} {n : Nat} {T : List Tx} (hl : T.length = n + 1) (h : ∀ k, k < n + 1 → (gT T k).l = List.replicate (n + 1) 0) : Dq ws n T 2 0 := by
  have hz : ∀ i j, tab T i j = 0 := fun i j => by
    unfold tab
    by_cases e : i < n + 1
    · rw [h i e]; exact gn_rep0' _ _
    · rw [show gT T i = ⟨none, 0, []⟩ by unfold gT; rw [List.getD_eq_getElem?_getD, List.getElem?_eq_none (by omega)]; rfl]; rfl
  exact ⟨hl, fun k hk => by rw [h k hk]; simp, fun i j _ => hz i j, fun i j _ _ _ => by omega, fun i j k _ _ _ _ => by omega, fun i j _ _ => by rw [hz]; exact Nat.zero_le _⟩
theorem Dq.step {ws : List Nat} {n s i v : Nat} {T : List Tx} (h : Dq ws n T s i) (hs : 2 ≤ s) (hn : n ≤ 8) (hw : ∀ x ∈ ws, x ≤ 1048576) (hi : i + s ≤ n) (hle : ∀ k, i < k → k < i + s → v ≤ tab T i k + tab T k (i + s)) (hat : ∃ k, i < k ∧ k < i + s ∧ v = tab T i k + tab T k (i + s)) : Dq ws n (putT T i ((gT T i).l.set (i + s) (v + sumR ws i s))) s (i + 1) := by
  have hiT : i < T.length := by rw [h.len]; omega
  have hjT : i + s < (gT T i).l.length := by rw [h.rows i (by omega)]; omega
  have ht : ∀ a b, tab (putT T i ((gT T i).l.set (i + s) (v + sumR ws i s))) a b = if i = a ∧ i + s = b then v + sumR ws i s else tab T a b := fun a b => tab_put hiT hjT
  have hlow : ∀ a b, b < i + s ∨ i < a → tab (putT T i ((gT T i).l.set (i + s) (v + sumR ws i s))) a b = tab T a b := fun a b hab => by rw [ht, if_neg (by omega)]
  refine ⟨by rw [putT_len]; exact h.len, fun k hk => ?_, fun a b hab => ?_, fun a b h1 h2 h3 => ?_, fun a b k h1 h2 h3 h4 => ?_, fun a b h1 h2 => ?_⟩
  · unfold putT; rw [gT_set hiT]; split
    · rename_i e; simp only [List.length_set]; exact h.rows i (by omega)
    · exact h.rows k hk
  · rw [ht, if_neg (by omega)]; exact h.zero a b hab
  · by_cases e : i = a ∧ i + s = b
    · obtain ⟨rfl, rfl⟩ := e
      obtain ⟨k, hk1, hk2, hk3⟩ := hat
      refine ⟨k, hk1, hk2, ?_⟩
      rw [ht, if_pos ⟨rfl, rfl⟩, hlow _ _ (.inl (by omega)), hlow _ _ (.inr (by omega)), hk3, show i + s - i = s by omega]
    · obtain ⟨k, hk1, hk2, hk3⟩ := h.att a b h1 h2 (by omega)
      refine ⟨k, hk1, hk2, ?_⟩
      rw [ht, if_neg e, ht, if_neg (by omega), ht, if_neg (by omega), hk3]
  · by_cases e : i = a ∧ i + s = b
    · obtain ⟨rfl, rfl⟩ := e
      have := hle k h1 h2
      rw [ht, if_pos ⟨rfl, rfl⟩, hlow _ _ (.inl (by omega)), hlow _ _ (.inr (by omega)), show i + s - i = s by omega]; omega
    · have := h.le a b k h1 h2 h3 (by omega)
      rw [ht, if_neg e, ht, if_neg (by omega), ht, if_neg (by omega)]; exact this
  · by_cases e : i = a ∧ i + s = b
    · obtain ⟨rfl, rfl⟩ := e
      rw [ht, if_pos ⟨rfl, rfl⟩]
      obtain ⟨k, hk1, hk2, hk3⟩ := hat
      have e1 := h.small i k (by omega) (by omega)
      have e2 := h.small k (i + s) (by omega) (by omega)
      have e3 := sumR_le hw i s
      generalize ha : k - i = a at *
      generalize hb : i + s - k = b at *
      rw [show i + s - i = a + b by omega]
      rw [show s = a + b by omega] at e3 ⊢
      have q := quad (a := a) (b := b) (by omega) (by omega)
      omega
    · rw [ht, if_neg e]; exact h.small a b h1 (by omega)
end Go.Proofs.Ytohflgcbpmoinaa
