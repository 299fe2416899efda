/-
  Plain: what is cheapest is in order, and comes from the two least.
-/
import Derived.Test.YtohflgcbpmoinaaHuffPlain
namespace Go.Proofs.Ytohflgcbpmoinaa
open Go V

theorem sumI_upd {n i : Nat} (hi : i < n) (f g : Nat → Nat) (h : ∀ k, k ≠ i → f k = g k) : sumI (List.range n) f + g i = sumI (List.range n) g + f i := by
  induction n with
  | zero => omega
  | succ n ih =>
    rw [sumI_succ, sumI_succ]
    by_cases e : i = n
    · subst e
      have : sumI (List.range i) f = sumI (List.range i) g := sumI_congr fun k hk => h k (by have := List.mem_range.1 hk; omega)
      omega
    · have h1 := ih (by omega)
      have h2 := h n (fun h => e h.symm)
      omega
theorem cost_set {ws l : List Nat} (hl : l.length = ws.length) {i : Nat} (hi : i < ws.length) (v : Nat) : cost ws (l.set i v) + gn ws i * gn l i = cost ws l + gn ws i * v := by
  rw [cost_range (by rw [List.length_set]; exact hl), cost_range hl]
  have := sumI_upd hi (fun k => gn ws k * gn (l.set i v) k) (fun k => gn ws k * gn l k) (fun k hk => by show gn ws k * gn (l.set i v) k = gn ws k * gn l k; rw [gn_set, if_neg (fun h => hk h.1.symm)])
  simp only [gn_set, hl] at this
  rw [if_pos ⟨trivial, hi⟩] at this
  simpa only [gn_set, hl] using this
theorem kr_set {l : List Nat} {i : Nat} (hi : i < l.length) (v : Nat) : kr (l.set i v) + 2 ^ (8 - gn l i) = kr l + 2 ^ (8 - v) := by
  rw [kr_range, kr_range, List.length_set]
  have := sumI_upd hi (fun k => 2 ^ (8 - gn (l.set i v) k)) (fun k => 2 ^ (8 - gn l k)) (fun k hk => by show 2 ^ (8 - gn (l.set i v) k) = 2 ^ (8 - gn l k); rw [gn_set, if_neg (fun h => hk h.1.symm)])
  simp only [gn_set] at this
  rw [if_pos ⟨trivial, hi⟩] at this
  simpa only [gn_set] using this
theorem Opt.l8 {ws l : List Nat} (h : Opt ws l) (hn : ws.length ≤ 8) : ∀ x ∈ l, x ≤ 8 := fun x hx => by have := h.deep x hx; omega
theorem Opt.uniq {ws a b : List Nat} (ha : Opt ws a) (hb : Opt ws b) (hn : ws.length ≤ 8) : cost ws a = cost ws b :=
  Nat.le_antisymm (ha.low b hb.len (hb.l8 hn) hb.fits) (hb.low a ha.len (ha.l8 hn) ha.fits)
theorem Opt.order {ws l : List Nat} (h : Opt ws l) (hn : ws.length ≤ 8) {i j : Nat} (hi : i < ws.length) (hj : j < ws.length) (hw : gn ws j < gn ws i) : gn l i ≤ gn l j := by
  refine Nat.le_of_not_lt fun hlt => ?_
  have hij : i ≠ j := fun e => by subst e; omega
  have hll := h.len
  have c1 := cost_set hll hi (gn l j)
  have c2 := cost_set (ws := ws) (l := l.set i (gn l j)) (by rw [List.length_set]; exact hll) hj (gn l i)
  have k1 := kr_set (l := l) (i := i) (by omega) (gn l j)
  have k2 := kr_set (l := l.set i (gn l j)) (i := j) (by rw [List.length_set]; omega) (gn l i)
  rw [gn_set, if_neg (fun h => hij h.1)] at c2 k2
  have h8 := h.l8 hn
  have m1 : gn l i ≤ 8 := h8 _ (by rw [gn_lt (show i < l.length by omega)]; exact List.getElem_mem _)
  have m2 : gn l j ≤ 8 := h8 _ (by rw [gn_lt (show j < l.length by omega)]; exact List.getElem_mem _)
  have hlow := h.low ((l.set i (gn l j)).set j (gn l i)) (by rw [List.length_set, List.length_set]; exact hll) (fun x hx => by
    rcases List.mem_or_eq_of_mem_set hx with hx | rfl
    · rcases List.mem_or_eq_of_mem_set hx with hx | rfl
      · exact h8 x hx
      · exact m2
    · exact m1) (by have := h.fits; omega)
  obtain ⟨a, ha⟩ := Nat.exists_eq_add_of_lt hw
  obtain ⟨b, hb⟩ := Nat.exists_eq_add_of_lt hlt
  generalize cost ws ((l.set i (gn l j)).set j (gn l i)) = C2 at *
  generalize cost ws (l.set i (gn l j)) = C1 at *
  rw [ha, hb] at c1
  rw [hb] at c2
  simp only [Nat.add_mul, Nat.mul_add, Nat.mul_one, Nat.one_mul] at c1 c2
  omega
theorem Opt.merges {ws rest l d : List Nat} {w0 w1 : Nat} (hp : ws.Perm (w0 :: w1 :: rest)) (h0 : ∀ x ∈ rest, w0 ≤ x) (h1 : ∀ x ∈ rest, w1 ≤ x) (hl : Opt ws l) (hd : Opt (rest ++ [w0 + w1]) d) (hn : ws.length ≤ 8) : cost ws l = w0 + w1 + cost (rest ++ [w0 + w1]) d := by
  have hlen := hp.length_eq
  simp only [List.length_cons] at hlen
  have hdl := hd.len
  rw [List.length_append, List.length_singleton] at hdl
  refine Nat.le_antisymm ?_ ?_
  · have hLB := hl.low.perm hp
    have hdn : d ≠ [] := fun e => by rw [e] at hdl; simp at hdl
    have hde := List.dropLast_concat_getLast hdn
    generalize d.getLast hdn = x at hde
    generalize hdd : d.dropLast = r at hde
    have hx := hd.deep x (by rw [← hde]; simp)
    rw [List.length_append, List.length_singleton] at hx
    have hrl : r.length = rest.length := by have := congrArg List.length hde; rw [List.length_append, List.length_singleton] at this; omega
    have h3 := hLB ((x + 1) :: (x + 1) :: r) (by simp [hrl]) (fun y hy => by
      rcases List.mem_cons.1 hy with rfl | hy
      · omega
      · rcases List.mem_cons.1 hy with rfl | hy
        · omega
        · have := hd.deep y (by rw [← hde]; exact List.mem_append_left _ hy)
          rw [List.length_append, List.length_singleton] at this; omega) (by
      have h4 := hd.fits
      rw [← hde] at h4
      have h5 := kr_mid r [] x
      rw [h5] at h4
      rw [kr_cons, kr_cons]
      have h6 := half_pow (L := x + 1) (by omega) (by omega)
      rw [Nat.add_sub_cancel] at h6
      have h7 : kr [] = 0 := rfl
      omega)
    rw [cost_cons, cost_cons] at h3
    have h8 := cost_mid r rest (w0 + w1) x [] [] hrl.symm
    rw [hde] at h8
    have h9 : cost [] [] = 0 := rfl
    simp only [Nat.mul_add, Nat.mul_one, Nat.add_mul] at h3 h8
    omega
  · have hc : LB ((w0 + w1) :: rest) (cost (rest ++ [w0 + w1]) d) := hd.low.perm (List.perm_append_comm)
    have h3 := (LB.merge hc h0 h1).perm hp.symm
    have h4 := h3 l hl.len (hl.l8 hn) hl.fits
    omega
/-- the least ones are taken out -/
structure Mg (ws : List Nat) (t : Nat) (A : List Nat) (sum : Nat) (M : List Nat) : Prop where
  len : M.length = t
  sum : sum = M.sum
  perm : ws.Perm (M ++ A)
  le : ∀ m ∈ M, ∀ x ∈ A, m ≤ x
theorem Mg.start (ws : List Nat) : Mg ws 0 ws 0 [] := ⟨rfl, rfl, List.Perm.refl _, fun _ h => by cases h⟩
theorem Mg.alen {ws A M : List Nat} {t s : Nat} (h : Mg ws t A s M) : A.length + t = ws.length := by
  have := h.perm.length_eq; rw [List.length_append, h.len] at this; omega
theorem Mg.step {ws A M : List Nat} {t s a : Nat} (h : Mg ws t A s M) (ha : a < A.length) (hm : ∀ j, j < A.length → gn A a ≤ gn A j) : Mg ws (t + 1) (A.eraseIdx a) (s + gn A a) (M ++ [gn A a]) := by
  have hp : A.Perm (gn A a :: A.eraseIdx a) := by
    rw [gn_lt ha, List.eraseIdx_eq_take_drop_succ]
    have e : A = A.take a ++ A[a] :: A.drop (a + 1) := by simp
    conv => lhs; rw [e]
    exact List.perm_middle
  refine ⟨by rw [List.length_append, h.len]; rfl, by rw [h.sum, List.sum_append]; simp, ?_, ?_⟩
  · rw [List.append_assoc]
    exact h.perm.trans (hp.append_left M)
  · intro m hmm x hx
    have hxa : x ∈ A := List.mem_of_mem_eraseIdx hx
    rcases List.mem_append.1 hmm with h1 | h1
    · exact h.le m h1 x hxa
    · rw [List.mem_singleton.1 h1]
      obtain ⟨j, hj, rfl⟩ := List.getElem_of_mem hxa
      rw [← gn_lt hj]; exact hm j hj
theorem Mg.done {ws A M l d : List Nat} {s : Nat} (h : Mg ws 2 A s M) (hl : Opt ws l) (hd : Opt (A ++ [s]) d) (hn : ws.length ≤ 8) : cost ws l = s + cost (A ++ [s]) d := by
  obtain ⟨a, b, rfl⟩ : ∃ a b, M = [a, b] := by
    match M, h.len with
    | [a, b], _ => exact ⟨a, b, rfl⟩
  have hs : s = a + b := by rw [h.sum]; simp
  subst hs
  exact Opt.merges h.perm (fun x hx => h.le a (by simp) x hx) (fun x hx => h.le b (by simp) x hx) hl hd hn
theorem Mg.mem {ws A M : List Nat} {t s : Nat} (h : Mg ws t A s M) : ∀ x ∈ A, x ∈ ws := fun x hx => h.perm.mem_iff.2 (List.mem_append_right _ hx)
theorem sum_small {W : Nat} : ∀ M : List Nat, (∀ m ∈ M, m ≤ W) → M.sum ≤ M.length * W
  | [], _ => by simp
  | m :: M, h => by
    have h1 := sum_small M fun x hx => h x (List.mem_cons_of_mem _ hx)
    have h2 := h m (by simp)
    rw [List.sum_cons, List.length_cons, Nat.add_mul, Nat.one_mul]; omega
theorem Mg.small {ws A M : List Nat} {t s : Nat} (h : Mg ws t A s M) (hw : ∀ x ∈ ws, x ≤ 1048576) (ht : t ≤ 2) : M.sum ≤ 2097152 := by
  have h1 := sum_small M fun m hm => hw m (h.perm.mem_iff.2 (List.mem_append_left _ hm))
  have h2 := h.len
  have h3 : M.length * 1048576 ≤ 2 * 1048576 := Nat.mul_le_mul_right _ (by omega)
  omega
theorem cost_bound : ∀ ws ls : List Nat, (∀ x ∈ ws, x ≤ 1048576) → (∀ x ∈ ls, x ≤ 8) → cost ws ls ≤ ws.length * 8388608
  | [], _, _, _ => by simp [cost]
  | _ :: _, [], _, _ => by simp [cost]
  | w :: ws, l :: ls, h1, h2 => by
    have h3 := cost_bound ws ls (fun x hx => h1 x (List.mem_cons_of_mem _ hx)) fun x hx => h2 x (List.mem_cons_of_mem _ hx)
    have h4 : w * l ≤ 1048576 * 8 := Nat.mul_le_mul (h1 w (by simp)) (h2 l (by simp))
    rw [cost_cons, List.length_cons, Nat.add_mul, Nat.one_mul]; omega
theorem cost_small {ws l : List Nat} (h : Opt ws l) (hn : ws.length < 2) : cost ws l = 0 := by
  have h1 : ∀ x ∈ l, x = 0 := fun x hx => by have := h.deep x hx; omega
  have h2 := h.len
  match ws, l, hn, h1, h2 with
  | [], [], _, _, _ => rfl
  | [w], [x], _, h1, _ => rw [h1 x (by simp)]; simp [cost]
theorem map_nat_int (l : List Nat) : (l.map fun x : Nat => (x : Int)).map Int.toNat = l := by
  rw [List.map_map]; conv => rhs; rw [← List.map_id l]
  exact List.map_congr_left fun x _ => by simp
end Go.Proofs.Ytohflgcbpmoinaa
