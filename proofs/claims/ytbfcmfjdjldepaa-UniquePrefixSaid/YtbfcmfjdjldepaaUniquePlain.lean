/-
  Plain: codes of which no two texts are alike: what lies ahead decides; McMillan's room; words backwards.
-/
import Derived.Test.YtbfcmfjdjldepaaPrefixPlain
namespace Go.Proofs.Ytbfcmfjdjldepaa
open Go V

/-- no two texts are alike -/
def UD (C : Code) : Prop := ∀ a b, Syms C a → Syms C b → wrtn C a = wrtn C b → a = b
/-- one list is ahead of the other one by so many bits -/
structure StOk (C : Code) (r : List Bool) (a b : List Nat) : Prop where
  sa : Syms C a
  sb : Syms C b
  eq : wrtn C a = wrtn C b ++ r
  hd : ∃ x y a' b', a = x :: a' ∧ b = y :: b' ∧ x ≠ y
theorem pre_drop {a b : List Bool} (h : a <+: b) : b = a ++ b.drop a.length := by
  obtain ⟨t, rfl⟩ := h; simp
theorem syms_one {C : Code} {i : Nat} (hi : i < C.length) : Syms C [i] := fun s hs => by rw [List.mem_singleton.1 hs]; exact hi
theorem syms_app {C : Code} {a b : List Nat} (ha : Syms C a) (hb : Syms C b) : Syms C (a ++ b) := fun s hs => by
  rcases List.mem_append.1 hs with h | h
  · exact ha s h
  · exact hb s h
theorem wrtn_one (C : Code) (i : Nat) : wrtn C [i] = gw C i := by simp [wrtn]
theorem StOk.start {C : Code} {i j : Nat} (hi : i < C.length) (hj : j < C.length) (hne : i ≠ j) (h : gw C j <+: gw C i) : StOk C ((gw C i).drop (gw C j).length) [i] [j] :=
  ⟨syms_one hi, syms_one hj, by rw [wrtn_one, wrtn_one]; exact pre_drop h, ⟨i, j, [], [], rfl, rfl, hne⟩⟩
theorem StOk.one {C : Code} {r : List Bool} {a b : List Nat} {i : Nat} (h : StOk C r a b) (hi : i < C.length) (hp : gw C i <+: r) : StOk C (r.drop (gw C i).length) a (b ++ [i]) := by
  obtain ⟨x, y, a', b', h1, h2, h3⟩ := h.hd
  refine ⟨h.sa, syms_app h.sb (syms_one hi), ?_, ⟨x, y, a', b' ++ [i], h1, by rw [h2]; rfl, h3⟩⟩
  rw [wrtn_app1, List.append_assoc, ← pre_drop hp]; exact h.eq
theorem StOk.two {C : Code} {r : List Bool} {a b : List Nat} {i : Nat} (h : StOk C r a b) (hi : i < C.length) (hp : r <+: gw C i) : StOk C ((gw C i).drop r.length) (b ++ [i]) a := by
  obtain ⟨x, y, a', b', h1, h2, h3⟩ := h.hd
  refine ⟨syms_app h.sb (syms_one hi), h.sa, ?_, ⟨y, x, b' ++ [i], a', by rw [h2]; rfl, h1, fun e => h3 e.symm⟩⟩
  rw [wrtn_app1, h.eq, List.append_assoc, ← pre_drop hp]
theorem StOk.not {C : Code} {a b : List Nat} (h : StOk C [] a b) : a ≠ b ∧ ¬ UD C := by
  obtain ⟨x, y, a', b', h1, h2, h3⟩ := h.hd
  have hne : a ≠ b := fun e => by rw [h1, h2] at e; exact h3 (List.cons.inj e).1
  exact ⟨hne, fun hu => hne (hu a b h.sa h.sb (by have := h.eq; rwa [List.append_nil] at this))⟩
theorem bare_not {C : Code} {i : Nat} (hi : i < C.length) (h : gw C i = []) : ¬ UD C := fun hu => by
  have := hu [i] [] (syms_one hi) (fun _ h => by simp at h) (by rw [wrtn_one, h]; rfl)
  cases this
/-- what lies ahead stays in a set -/
structure Clo (C : Code) (R : List Bool → Prop) : Prop where
  start : ∀ i j, i < C.length → j < C.length → i ≠ j → gw C j <+: gw C i → R ((gw C i).drop (gw C j).length)
  one : ∀ r, R r → ∀ i, i < C.length → gw C i <+: r → R (r.drop (gw C i).length)
  two : ∀ r, R r → ∀ i, i < C.length → ¬ gw C i <+: r → r <+: gw C i → R ((gw C i).drop r.length)
  ne : ¬ R []
theorem Clo.run {C : Code} {R : List Bool → Prop} (h : Clo C R) : ∀ (k : Nat) (r : List Bool) (a b : List Nat), R r → a.length + b.length ≤ k → Syms C a → Syms C b → r ++ wrtn C a = wrtn C b → False := by
  intro k
  induction k with
  | zero =>
    intro r a b hr hk _ _ e
    have h1 : a = [] := List.length_eq_zero_iff.1 (by omega)
    have h2 : b = [] := List.length_eq_zero_iff.1 (by omega)
    subst h1; subst h2
    have : r = [] := by simpa [wrtn] using e
    rw [this] at hr; exact h.ne hr
  | succ k ih =>
    intro r a b hr hk sa sb e
    cases b with
    | nil =>
      have : r = [] := by
        have := congrArg List.length e
        rw [List.length_append, show wrtn C [] = [] from rfl, List.length_nil] at this
        exact List.length_eq_zero_iff.1 (by omega)
      rw [this] at hr; exact h.ne hr
    | cons y b =>
      have hy : y < C.length := sb y (by simp)
      have sb2 : Syms C b := fun s hs => sb s (List.mem_cons_of_mem _ hs)
      rw [List.length_cons] at hk
      rw [wrtn_cons] at e
      by_cases hp : gw C y <+: r
      · refine ih _ a b (h.one r hr y hy hp) (by omega) sa sb2 ?_
        rw [pre_drop hp, List.append_assoc] at e
        have := List.append_cancel_left e
        exact this
      · have hp2 : r <+: gw C y := by
          rcases two_begin (c := r ++ wrtn C a) ⟨wrtn C a, rfl⟩ (by rw [e]; exact ⟨wrtn C b, rfl⟩) with h9 | h9
          · exact h9
          · exact absurd h9 hp
        refine ih _ b a (h.two r hr y hy hp hp2) (by omega) sb2 sa ?_
        have e2 := pre_drop hp2
        rw [e2, List.append_assoc] at e
        exact (List.append_cancel_left e).symm
theorem Clo.ud {C : Code} {R : List Bool → Prop} (h : Clo C R) (hn : NoBare C) : UD C := by
  intro a
  induction a with
  | nil =>
    intro b _ sb e
    cases b with
    | nil => rfl
    | cons y b =>
      exfalso
      rw [wrtn_cons] at e
      have h1 := congrArg List.length e
      rw [show wrtn C [] = [] from rfl, List.length_nil, List.length_append] at h1
      exact hn y (sb y (by simp)) (List.length_eq_zero_iff.1 (by omega))
  | cons x a ih =>
    intro b sa sb e
    have sa2 : Syms C a := fun s hs => sa s (List.mem_cons_of_mem _ hs)
    have hx : x < C.length := sa x (by simp)
    cases b with
    | nil =>
      exfalso
      rw [wrtn_cons] at e
      have h1 := congrArg List.length e
      rw [show wrtn C [] = [] from rfl, List.length_nil, List.length_append] at h1
      exact hn x hx (List.length_eq_zero_iff.1 (by omega))
    | cons y b =>
      have sb2 : Syms C b := fun s hs => sb s (List.mem_cons_of_mem _ hs)
      have hy : y < C.length := sb y (by simp)
      rw [wrtn_cons, wrtn_cons] at e
      by_cases hxy : x = y
      · subst hxy
        rw [ih b sa2 sb2 (List.append_cancel_left e)]
      · exfalso
        rcases two_begin (c := gw C x ++ wrtn C a) ⟨wrtn C a, rfl⟩ (by rw [e]; exact ⟨wrtn C b, rfl⟩) with h9 | h9
        · have e2 := pre_drop h9
          rw [e2, List.append_assoc] at e
          exact h.run _ _ b a (h.start y x hy hx (fun e => hxy e.symm) h9) (Nat.le_refl _) sb2 sa2 (List.append_cancel_left e).symm
        · have e2 := pre_drop h9
          rw [e2, List.append_assoc] at e
          exact h.run _ _ a b (h.start x y hx hy hxy h9) (Nat.le_refl _) sa2 sb2 (List.append_cancel_left e)
theorem free_ud {C : Code} (hf : Free C) (hn : NoBare C) : UD C :=
  Clo.ud (R := fun _ => False) ⟨fun i j hi hj hne h => hf j i hj hi (fun e => hne e.symm) h, fun _ h => h.elim, fun _ h => h.elim, fun h => h⟩ hn

/-! ### Words backwards -/
def backC (C : Code) : Code := C.map List.reverse
theorem backC_len (C : Code) : (backC C).length = C.length := by simp [backC]
theorem gw_back (C : Code) (i : Nat) : gw (backC C) i = (gw C i).reverse := by
  unfold gw backC
  rw [List.getD_eq_getElem?_getD, List.getD_eq_getElem?_getD, List.getElem?_map]
  cases C[i]? <;> rfl
theorem wrtn_back (C : Code) : ∀ l : List Nat, wrtn (backC C) l = (wrtn C l.reverse).reverse
  | [] => rfl
  | x :: l => by rw [wrtn_cons, wrtn_back C l, gw_back, List.reverse_cons, wrtn_app1, List.reverse_append]
theorem backC_back (C : Code) : backC (backC C) = C := by
  unfold backC; rw [List.map_map]
  conv => rhs; rw [← List.map_id C]
  exact List.map_congr_left fun w _ => by simp
theorem ud_back1 {C : Code} (h : UD C) : UD (backC C) := by
  intro a b sa sb e
  rw [wrtn_back, wrtn_back] at e
  have h1 : ∀ {l : List Nat}, Syms (backC C) l → Syms C l.reverse := fun {l} hl s hs => by rw [← backC_len]; exact hl s (List.mem_reverse.1 hs)
  have := h a.reverse b.reverse (h1 sa) (h1 sb) (List.reverse_inj.1 e)
  exact List.reverse_inj.1 this
theorem ud_back {C : Code} : UD (backC C) ↔ UD C := ⟨fun h => by have := ud_back1 h; rwa [backC_back] at this, ud_back1⟩
theorem nobare_back {C : Code} : NoBare (backC C) ↔ NoBare C := by
  unfold NoBare; rw [backC_len]
  refine forall_congr' fun i => forall_congr' fun _ => not_congr ?_
  rw [gw_back]; simp
theorem coded_back {C : Code} : Coded (backC C) ↔ Coded C := by
  unfold Coded; rw [backC_len]
  refine and_congr_right fun _ => ⟨fun h w hw => ?_, fun h w hw => ?_⟩
  · have := h w.reverse (List.mem_map.2 ⟨w, hw, rfl⟩); rwa [List.length_reverse] at this
  · obtain ⟨v, hv, rfl⟩ := List.mem_map.1 hw
    rw [List.length_reverse]; exact h v hv

/-! ### McMillan -/
theorem nodup_sub {α : Type} [DecidableEq α] : ∀ (l m : List α), l.Nodup → (∀ x ∈ l, x ∈ m) → l.length ≤ m.length
  | [], _, _, _ => Nat.zero_le _
  | a :: l, m, hn, hs => by
    rw [List.nodup_cons] at hn
    have ha := hs a (by simp)
    have h := nodup_sub l (m.erase a) hn.2 fun x hx => (List.mem_erase_of_ne (fun e : x = a => hn.1 (by rw [← e]; exact hx))).2 (hs x (by simp [hx]))
    rw [List.length_erase_of_mem ha] at h
    have : 0 < m.length := List.length_pos_of_mem ha
    rw [List.length_cons]; omega
def seqs (n : Nat) : Nat → List (List Nat)
  | 0 => [[]]
  | m + 1 => (List.range n).flatMap fun i => (seqs n m).map (i :: ·)
theorem seqs_len {n : Nat} : ∀ {m : Nat}, ∀ a ∈ seqs n m, a.length = m ∧ ∀ s ∈ a, s < n
  | 0, a, h => by rw [List.mem_singleton.1 h]; simp
  | m + 1, a, h => by
    obtain ⟨i, hi, h2⟩ := List.mem_flatMap.1 h
    obtain ⟨b, hb, rfl⟩ := List.mem_map.1 h2
    obtain ⟨h3, h4⟩ := seqs_len (m := m) b hb
    refine ⟨by rw [List.length_cons, h3], fun s hs => ?_⟩
    rcases List.mem_cons.1 hs with e | hs
    · rw [e]; exact List.mem_range.1 hi
    · exact h4 s hs
theorem seqs_nodup (n : Nat) : ∀ m, (seqs n m).Nodup
  | 0 => by simp [seqs]
  | m + 1 => by
    unfold seqs List.Nodup
    rw [List.pairwise_flatMap]
    refine ⟨fun i _ => ?_, List.nodup_range.imp fun {i j} hij x hx y hy e => ?_⟩
    · rw [List.pairwise_map]
      exact (seqs_nodup n m).imp fun {a b} hab e => hab (List.cons.inj e).2
    · obtain ⟨a, _, rfl⟩ := List.mem_map.1 hx
      obtain ⟨b, _, rfl⟩ := List.mem_map.1 hy
      exact hij (List.cons.inj e).1
theorem sum_const_mul (c : Nat) : ∀ l : List Nat, (l.map fun x => c * x).sum = c * l.sum
  | [] => rfl
  | x :: l => by rw [List.map_cons, List.sum_cons, List.sum_cons, sum_const_mul c l, Nat.mul_add]
theorem sum_flat {α : Type} (f : α → List Nat) : ∀ l : List α, (l.flatMap f).sum = (l.map fun x => (f x).sum).sum
  | [] => rfl
  | x :: l => by rw [List.flatMap_cons, List.sum_append, List.map_cons, List.sum_cons, sum_flat f l]
theorem map_gw_range (C : Code) : (List.range C.length).map (gw C) = C := by
  refine List.ext_getElem (by simp) fun i h1 h2 => ?_
  simp [gw_lt h2]
theorem room_pow {C : Code} (h8 : ∀ w ∈ C, w.length ≤ 8) : ∀ m, room (8 * m) ((seqs C.length m).map (wrtn C)) = (room 8 C) ^ m
  | 0 => by simp [seqs, room, wrtn]
  | m + 1 => by
    have ih := room_pow h8 m
    unfold room at ih ⊢
    rw [List.map_map] at ih ⊢
    unfold seqs
    rw [List.map_flatMap, sum_flat]
    have e : ∀ i ∈ List.range C.length, (((seqs C.length m).map (i :: ·)).map ((fun w : List Bool => 2 ^ (8 * (m + 1) - w.length)) ∘ wrtn C)).sum = 2 ^ (8 - (gw C i).length) * ((C.map fun w => 2 ^ (8 - w.length)).sum) ^ m := by
      intro i hi
      rw [← ih, ← sum_const_mul, List.map_map, List.map_map]
      congr 1
      refine List.map_congr_left fun a ha => ?_
      have hw := h8 _ (gw_mem (List.mem_range.1 hi))
      have hl : (wrtn C a).length ≤ 8 * m := by
        have h9 : ∀ l : List Nat, (wrtn C l).length ≤ 8 * l.length := by
          intro l
          induction l with
          | nil => simp [wrtn]
          | cons x l ih2 =>
            rw [wrtn_cons, List.length_append, List.length_cons]
            have : (gw C x).length ≤ 8 := by
              by_cases hx : x < C.length
              · exact h8 _ (gw_mem hx)
              · rw [gw, List.getD_eq_getElem?_getD, List.getElem?_eq_none (by omega)]; simp
            omega
        have := h9 a
        rwa [(seqs_len a ha).1] at this
      show 2 ^ (8 * (m + 1) - (wrtn C (i :: a)).length) = 2 ^ (8 - (gw C i).length) * 2 ^ (8 * m - (wrtn C a).length)
      rw [wrtn_cons, List.length_append, ← Nat.pow_add]
      congr 1; omega
    rw [List.map_congr_left e, Nat.pow_succ, Nat.mul_comm]
    generalize (C.map fun w => 2 ^ (8 - w.length)).sum ^ m = q
    conv => rhs; rw [← map_gw_range C]
    rw [Nat.mul_comm _ q, ← sum_const_mul, List.map_map, List.map_map]
    congr 1
    refine List.map_congr_left fun i _ => ?_
    rw [Nat.mul_comm]; rfl
theorem sum_le_mul {α : Type} {X : List α} {f : α → Nat} {B : Nat} (h : ∀ x ∈ X, f x ≤ B) : (X.map f).sum ≤ X.length * B := by
  induction X with
  | nil => simp
  | cons x X ih =>
    have h1 := h x (by simp)
    have h2 := ih fun y hy => h y (List.mem_cons_of_mem _ hy)
    rw [List.map_cons, List.sum_cons, List.length_cons, Nat.add_mul]; omega
theorem allBits_mem : ∀ (d : Nat), ∀ x ∈ allBits d, x.length = d
  | 0, x, h => by
    have : x = [] := by simpa [allBits] using h
    rw [this]; rfl
  | d + 1, x, h => by
    simp only [allBits, List.mem_append, List.mem_map] at h
    rcases h with ⟨y, hy, rfl⟩ | ⟨y, hy, rfl⟩ <;> rw [List.length_cons, allBits_mem d y hy]
theorem mcmillan_big : (8 * 4096 + 1) * 256 ^ 4096 < 257 ^ 4096 := by decide +kernel
theorem mcmillan_end (S M : Nat) (hM : M = 4096) (hS : 257 ≤ S) (h : S ^ M ≤ 2 ^ (8 * M) * (8 * M + 1)) : False := by
  have h2 := Nat.pow_le_pow_left hS M
  have h3 : (8 * M + 1) * 256 ^ M < 257 ^ M := by rw [hM]; exact mcmillan_big
  rw [Nat.pow_mul, Nat.mul_comm] at h
  exact absurd (Nat.lt_of_lt_of_le h3 (Nat.le_trans h2 h)) (Nat.lt_irrefl _)
theorem mcmillan {C : Code} (hu : UD C) (h8 : ∀ w ∈ C, w.length ≤ 8) : room 8 C ≤ 256 := by
  refine Classical.byContradiction fun hbig => ?_
  have hS : 257 ≤ room 8 C := by omega
  obtain ⟨M, hM⟩ : ∃ M, M = 4096 := ⟨4096, rfl⟩
  have hnd : ((seqs C.length M).map (wrtn C)).Nodup := by
    unfold List.Nodup
    rw [List.pairwise_map]
    refine List.Pairwise.imp_of_mem (fun {a b} ha hb hab e => hab ?_) (seqs_nodup C.length M)
    exact hu a b (seqs_len a ha).2 (seqs_len b hb).2 e
  generalize hD : (seqs C.length M).map (wrtn C) = D at hnd
  have hpow := room_pow h8 M
  rw [hD] at hpow
  have hlen : ∀ w ∈ D, w.length ≤ 8 * M := by
    intro w hw
    rw [← hD] at hw
    obtain ⟨a, ha, rfl⟩ := List.mem_map.1 hw
    have h9 : ∀ l : List Nat, (∀ s ∈ l, s < C.length) → (wrtn C l).length ≤ 8 * l.length := by
      intro l
      induction l with
      | nil => intro _; simp [wrtn]
      | cons x l ih2 =>
        intro hl
        rw [wrtn_cons, List.length_append, List.length_cons]
        have := h8 _ (gw_mem (hl x (by simp)))
        have := ih2 fun s hs => hl s (List.mem_cons_of_mem _ hs)
        omega
    have := h9 a (seqs_len a ha).2
    rwa [(seqs_len a ha).1] at this
  have h1 : room (8 * M) D ≤ 2 ^ (8 * M) * (8 * M + 1) := by
    have e : room (8 * M) D = (D.map fun w => (allBits (8 * M)).countP (w.isPrefixOf ·)).sum := by
      unfold room
      congr 1
      exact List.map_congr_left fun w hw => (count_begins _ w (hlen w hw)).symm
    rw [e, count_swap, ← allBits_len (8 * M)]
    refine sum_le_mul fun x hx => ?_
    have hxl := allBits_mem _ x hx
    rw [List.countP_eq_length_filter]
    refine Nat.le_trans (nodup_sub _ ((List.range (8 * M + 1)).map fun q => x.take q) (hnd.sublist List.filter_sublist) fun w hw => ?_) (by simp)
    obtain ⟨_, hp⟩ := List.mem_filter.1 hw
    have hp := List.isPrefixOf_iff_prefix.1 hp
    refine List.mem_map.2 ⟨w.length, List.mem_range.2 (by have := hp.length_le; omega), ?_⟩
    exact (List.prefix_iff_eq_take.1 hp).symm
  rw [hpow] at h1
  exact mcmillan_end _ M hM hS h1
/-! ### What is still to be looked at -/
def sufs (C : Code) : List (List Bool) := C.flatMap fun w => (List.range (w.length + 1)).map w.drop
theorem sufs_len {C : Code} (h : Coded C) : (sufs C).length ≤ 72 := by
  have : ∀ D : Code, (∀ w ∈ D, w.length ≤ 8) → (sufs D).length ≤ 9 * D.length := by
    intro D
    induction D with
    | nil => intro _; simp [sufs]
    | cons w D ih =>
      intro hw
      have h1 := ih fun v hv => hw v (List.mem_cons_of_mem _ hv)
      have h2 := hw w (by simp)
      have e : sufs (w :: D) = (List.range (w.length + 1)).map w.drop ++ sufs D := by simp [sufs]
      rw [e, List.length_append, List.length_map, List.length_range, List.length_cons]; omega
  have h9 := this C h.2
  have := h.1
  omega
theorem sufs_gw {C : Code} {i : Nat} (hi : i < C.length) (k : Nat) : (gw C i).drop k ∈ sufs C := by
  refine List.mem_flatMap.2 ⟨gw C i, gw_mem hi, List.mem_map.2 ?_⟩
  by_cases hk : k ≤ (gw C i).length
  · exact ⟨k, List.mem_range.2 (by omega), rfl⟩
  · exact ⟨(gw C i).length, List.mem_range.2 (by omega), by rw [List.drop_length, List.drop_of_length_le (by omega)]⟩
theorem sufs_drop {C : Code} {r : List Bool} (h : r ∈ sufs C) (k : Nat) : r.drop k ∈ sufs C := by
  obtain ⟨w, hw, h2⟩ := List.mem_flatMap.1 h
  obtain ⟨q, _, rfl⟩ := List.mem_map.1 h2
  obtain ⟨i, hi, rfl⟩ := List.getElem_of_mem hw
  rw [List.drop_drop, ← gw_lt hi]
  exact sufs_gw hi _
/-- what was looked at leads to what was looked at or waits -/
structure PenG (C : Code) (ok : List Bool → Nat → Prop) (Q S : List (List Bool)) : Prop where
  start : ∀ i j, i < C.length → j < C.length → i ≠ j → gw C j <+: gw C i → (gw C i).drop (gw C j).length ∈ S ++ Q
  one : ∀ r ∈ S, ∀ i, ok r i → i < C.length → gw C i <+: r → r.drop (gw C i).length ∈ S ++ Q
  two : ∀ r ∈ S, ∀ i, ok r i → i < C.length → ¬ gw C i <+: r → r <+: gw C i → (gw C i).drop r.length ∈ S ++ Q
  ne : [] ∉ S
  nd : S.Nodup
  ss : ∀ r ∈ S, r ∈ sufs C
  qs : ∀ r ∈ Q, r ∈ sufs C
abbrev Pen (C : Code) (Q S : List (List Bool)) : Prop := PenG C (fun _ _ => True) Q S
abbrev PenI (C : Code) (r : List Bool) (k : Nat) (Q S : List (List Bool)) : Prop := PenG C (fun q i => q ≠ r ∨ i < k) Q S
theorem PenG.few {C : Code} {ok : List Bool → Nat → Prop} {Q S : List (List Bool)} (h : PenG C ok Q S) (hc : Coded C) : S.length ≤ 72 := Nat.le_trans (nodup_sub S (sufs C) h.nd h.ss) (sufs_len hc)
theorem Pen.skip {C : Code} {Q S : List (List Bool)} {r : List Bool} (h : Pen C (r :: Q) S) (hr : r ∈ S) : Pen C Q S := by
  have hm : ∀ x, x ∈ S ++ (r :: Q) → x ∈ S ++ Q := fun x hx => by
    rcases List.mem_append.1 hx with h1 | h1
    · exact List.mem_append_left _ h1
    · rcases List.mem_cons.1 h1 with e | h1
      · rw [e]; exact List.mem_append_left _ hr
      · exact List.mem_append_right _ h1
  exact ⟨fun i j a b c d => hm _ (h.start i j a b c d), fun q hq i o a b => hm _ (h.one q hq i o a b), fun q hq i o a b c => hm _ (h.two q hq i o a b c), h.ne, h.nd, h.ss, fun q hq => h.qs q (List.mem_cons_of_mem _ hq)⟩
theorem Pen.open_ {C : Code} {Q S : List (List Bool)} {r : List Bool} (h : Pen C (r :: Q) S) (hr : r ∉ S) (h0 : r ≠ []) : PenI C r 0 Q (S ++ [r]) := by
  have hm : ∀ x, x ∈ S ++ (r :: Q) → x ∈ (S ++ [r]) ++ Q := fun x hx => by
    rw [List.append_assoc]; exact hx
  have hs : ∀ q, q ∈ S ++ [r] → q ≠ r ∨ False → q ∈ S := fun q hq ho => by
    rcases List.mem_append.1 hq with h1 | h1
    · exact h1
    · rcases ho with ho | ho
      · exact absurd (List.mem_singleton.1 h1) ho
      · exact ho.elim
  refine ⟨fun i j a b c d => hm _ (h.start i j a b c d), fun q hq i o a b => hm _ (h.one q (hs q hq (o.imp id (by omega))) i trivial a b), fun q hq i o a b c => hm _ (h.two q (hs q hq (o.imp id (by omega))) i trivial a b c), fun h9 => ?_, ?_, fun q hq => ?_, fun q hq => h.qs q (List.mem_cons_of_mem _ hq)⟩
  · rcases List.mem_append.1 h9 with h1 | h1
    · exact h.ne h1
    · exact h0 (List.mem_singleton.1 h1).symm
  · exact List.nodup_append.2 ⟨h.nd, by simp, fun a ha b hb e => hr (by rw [← List.mem_singleton.1 hb, ← e]; exact ha)⟩
  · rcases List.mem_append.1 hq with h1 | h1
    · exact h.ss q h1
    · rw [List.mem_singleton.1 h1]; exact h.qs r (by simp)
theorem PenI.step {C : Code} {Q Q2 S : List (List Bool)} {r : List Bool} {k : Nat} (h : PenI C r k Q S) (hr : r ∈ S) (hQ : ∀ x ∈ Q, x ∈ Q2) (hq2 : ∀ x ∈ Q2, x ∈ sufs C)
    (h1 : gw C k <+: r → r.drop (gw C k).length ∈ Q2) (h2 : ¬ gw C k <+: r → r <+: gw C k → (gw C k).drop r.length ∈ Q2) : PenI C r (k + 1) Q2 S := by
  have hm : ∀ x, x ∈ S ++ Q → x ∈ S ++ Q2 := fun x hx => by
    rcases List.mem_append.1 hx with h3 | h3
    · exact List.mem_append_left _ h3
    · exact List.mem_append_right _ (hQ x h3)
  refine ⟨fun i j a b c d => hm _ (h.start i j a b c d), fun q hq i o a b => ?_, fun q hq i o a b c => ?_, h.ne, h.nd, h.ss, hq2⟩
  · by_cases e : q = r ∧ i = k
    · rw [e.1, e.2]; exact List.mem_append_right _ (h1 (by rw [← e.1, ← e.2]; exact b))
    · refine hm _ (PenG.one h q hq i ?_ a b)
      by_cases e2 : q = r
      · exact .inr (by rcases o with o | o; exact absurd e2 o; exact Nat.lt_of_le_of_ne (by omega) fun e3 => e ⟨e2, e3⟩)
      · exact .inl e2
  · by_cases e : q = r ∧ i = k
    · rw [e.1, e.2]; exact List.mem_append_right _ (h2 (by rw [← e.1, ← e.2]; exact b) (by rw [← e.1, ← e.2]; exact c))
    · refine hm _ (PenG.two h q hq i ?_ a b c)
      by_cases e2 : q = r
      · exact .inr (by rcases o with o | o; exact absurd e2 o; exact Nat.lt_of_le_of_ne (by omega) fun e3 => e ⟨e2, e3⟩)
      · exact .inl e2
theorem PenI.one {C : Code} {Q S : List (List Bool)} {r : List Bool} {k : Nat} (h : PenI C r k Q S) (hr : r ∈ S) (hp : gw C k <+: r) : PenI C r (k + 1) (Q ++ [r.drop (gw C k).length]) S :=
  h.step hr (fun x hx => List.mem_append_left _ hx) (fun x hx => by
    rcases List.mem_append.1 hx with h3 | h3
    · exact h.qs x h3
    · rw [List.mem_singleton.1 h3]; exact sufs_drop (h.ss r hr) _) (fun _ => by simp) (fun h9 => absurd hp h9)
theorem PenI.two {C : Code} {Q S : List (List Bool)} {r : List Bool} {k : Nat} (h : PenI C r k Q S) (hr : r ∈ S) (hk : k < C.length) (hp : ¬ gw C k <+: r) : PenI C r (k + 1) (Q ++ [(gw C k).drop r.length]) S :=
  h.step hr (fun x hx => List.mem_append_left _ hx) (fun x hx => by
    rcases List.mem_append.1 hx with h3 | h3
    · exact h.qs x h3
    · rw [List.mem_singleton.1 h3]; exact sufs_gw hk _) (fun h9 => absurd h9 hp) (fun _ _ => by simp)
theorem PenI.no {C : Code} {Q S : List (List Bool)} {r : List Bool} {k : Nat} (h : PenI C r k Q S) (hr : r ∈ S) (hp : ¬ gw C k <+: r) (hp2 : ¬ r <+: gw C k) : PenI C r (k + 1) Q S :=
  h.step hr (fun _ hx => hx) h.qs (fun h9 => absurd h9 hp) (fun _ h9 => absurd h9 hp2)
theorem PenI.all {C : Code} {Q S : List (List Bool)} {r : List Bool} (h : PenI C r C.length Q S) : Pen C Q S :=
  ⟨h.start, fun q hq i _ a b => PenG.one h q hq i (.inr a) a b, fun q hq i _ a b c => PenG.two h q hq i (.inr a) a b c, h.ne, h.nd, h.ss, h.qs⟩
theorem Pen.ud {C : Code} {S : List (List Bool)} (h : Pen C [] S) (hn : NoBare C) : UD C :=
  Clo.ud (R := (· ∈ S)) ⟨fun i j a b c d => by have := h.start i j a b c d; rwa [List.append_nil] at this, fun q hq i a b => by have := h.one q hq i trivial a b; rwa [List.append_nil] at this, fun q hq i a b c => by have := h.two q hq i trivial a b c; rwa [List.append_nil] at this, h.ne⟩ hn
/-- the first ones -/
structure StI (C : Code) (i j : Nat) (Q : List (List Bool)) : Prop where
  all : ∀ a b, a < C.length → b < C.length → (a < i ∨ a = i ∧ b < j) → a ≠ b → gw C b <+: gw C a → (gw C a).drop (gw C b).length ∈ Q
  qs : ∀ r ∈ Q, r ∈ sufs C
  few : Q.length ≤ 8 * i + j
theorem StI.zero (C : Code) : StI C 0 0 [] := ⟨fun a b _ _ h => by omega, fun _ h => by simp at h, by simp⟩
theorem StI.add {C : Code} {i j : Nat} {Q : List (List Bool)} (h : StI C i j Q) (hi : i < C.length) : StI C i (j + 1) (Q ++ [(gw C i).drop (gw C j).length]) :=
  ⟨fun a b ha hb ho hne hp => by
    by_cases e : a = i ∧ b = j
    · rw [e.1, e.2]; simp
    · exact List.mem_append_left _ (h.all a b ha hb (by omega) hne hp), fun r hr => by
    rcases List.mem_append.1 hr with h1 | h1
    · exact h.qs r h1
    · rw [List.mem_singleton.1 h1]; exact sufs_gw hi _, by have := h.few; rw [List.length_append, List.length_singleton]; omega⟩
theorem StI.no {C : Code} {i j : Nat} {Q : List (List Bool)} (h : StI C i j Q) (hno : i = j ∨ ¬ gw C j <+: gw C i) : StI C i (j + 1) Q :=
  ⟨fun a b ha hb ho hne hp => h.all a b ha hb (by
    rcases ho with ho | ⟨ho, ho2⟩
    · exact .inl ho
    · by_cases e : b = j
      · exfalso; subst e; subst ho
        rcases hno with h9 | h9
        · exact hne h9
        · exact h9 hp
      · exact .inr ⟨ho, by omega⟩) hne hp, h.qs, by have := h.few; omega⟩
theorem StI.next {C : Code} {i : Nat} {Q : List (List Bool)} (h : StI C i C.length Q) (h8 : C.length ≤ 8) : StI C (i + 1) 0 Q :=
  ⟨fun a b ha hb ho hne hp => h.all a b ha hb (by omega) hne hp, h.qs, by have := h.few; omega⟩
theorem StI.pen {C : Code} {Q : List (List Bool)} (h : StI C C.length 0 Q) : Pen C Q [] :=
  ⟨fun i j a b c d => by rw [List.nil_append]; exact h.all i j a b (.inl a) c d, fun _ h9 => by simp at h9, fun _ h9 => by simp at h9, by simp, List.nodup_nil, fun _ h9 => by simp at h9, h.qs⟩
end Go.Proofs.Ytbfcmfjdjldepaa
