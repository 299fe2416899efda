/-
  Plain: codes of words, of which none begins another one; Kraft's inequality.
-/
import Derived.Test.YtbfcmfjdjldepaaVheap
namespace Go.Proofs.Ytbfcmfjdjldepaa
open Go V

abbrev Code := List (List Bool)
def gw (C : Code) (k : Nat) : List Bool := C.getD k []
theorem gw_lt {C : Code} {k : Nat} (h : k < C.length) : gw C k = C[k] := by simp [gw, h]
theorem gw_mem {C : Code} {k : Nat} (h : k < C.length) : gw C k ∈ C := by rw [gw_lt h]; exact List.getElem_mem h
/-- no word begins another one -/
def Free (C : Code) : Prop := ∀ i j, i < C.length → j < C.length → i ≠ j → ¬ gw C i <+: gw C j
def NoBare (C : Code) : Prop := ∀ i, i < C.length → gw C i ≠ []
def Coded (C : Code) : Prop := C.length ≤ 8 ∧ ∀ w ∈ C, w.length ≤ 8
/-- begins: as the program asks it -/
def begins (a b : List Bool) : Bool := decide (a.length ≤ b.length) && decide (a = b.take a.length)
theorem begins_iff {a b : List Bool} : begins a b = true ↔ a <+: b := by
  unfold begins
  rw [Bool.and_eq_true, decide_eq_true_eq, decide_eq_true_eq, List.prefix_iff_eq_take]
  exact ⟨fun h => h.2, fun h => ⟨by rw [h, List.length_take]; omega, h⟩⟩
theorem begins_false {a b : List Bool} : begins a b = false ↔ ¬ a <+: b := by rw [← begins_iff]; simp
def wrtn (C : Code) (l : List Nat) : List Bool := l.flatMap (gw C)
theorem wrtn_app1 (C : Code) (l : List Nat) (s : Nat) : wrtn C (l ++ [s]) = wrtn C l ++ gw C s := by simp [wrtn]
theorem wrtn_take {C : Code} {l : List Nat} {k : Nat} (h : k < l.length) : wrtn C (l.take (k + 1)) = wrtn C (l.take k) ++ gw C (gn l k) := by
  rw [List.take_add_one, List.getElem?_eq_getElem h, Option.toList_some, wrtn_app1, gn_lt h]
def Syms (C : Code) (l : List Nat) : Prop := ∀ s ∈ l, s < C.length
/-- what stands when so much is read -/
structure RdI (C : Code) (bits : List Bool) (out : List Nat) (rest : List Bool) : Prop where
  syms : Syms C out
  all : wrtn C out ++ rest = bits
  only : ∀ l, Syms C l → wrtn C l = bits → ∃ m, l = out ++ m
theorem RdI.start (C : Code) (bits : List Bool) : RdI C bits [] bits := ⟨by simp [Syms], by simp [wrtn], fun l _ _ => ⟨l, rfl⟩⟩
theorem two_begin {a b c : List Bool} (h1 : a <+: c) (h2 : b <+: c) : a <+: b ∨ b <+: a := by
  rcases Nat.le_total a.length b.length with h | h
  · exact .inl (List.prefix_of_prefix_length_le h1 h2 h)
  · exact .inr (List.prefix_of_prefix_length_le h2 h1 h)
theorem free_same {C : Code} (hf : Free C) {i j : Nat} {c : List Bool} (hi : i < C.length) (hj : j < C.length) (h1 : gw C i <+: c) (h2 : gw C j <+: c) : i = j := by
  by_cases e : i = j
  · exact e
  · rcases two_begin h1 h2 with h | h
    · exact absurd h (hf i j hi hj e)
    · exact absurd h (hf j i hj hi fun h => e h.symm)
theorem wrtn_cons (C : Code) (s : Nat) (l : List Nat) : wrtn C (s :: l) = gw C s ++ wrtn C l := by simp [wrtn]
theorem wrtn_app (C : Code) (l m : List Nat) : wrtn C (l ++ m) = wrtn C l ++ wrtn C m := by simp [wrtn]
theorem RdI.step {C : Code} {bits : List Bool} {out : List Nat} {rest : List Bool} (h : RdI C bits out rest) (hf : Free C) {s : Nat} (hs : s < C.length) (hb : gw C s <+: rest) (hr : rest ≠ []) :
    RdI C bits (out ++ [s]) (rest.drop (gw C s).length) := by
  obtain ⟨r, rfl⟩ := hb
  rw [List.drop_left]
  refine ⟨fun x hx => ?_, by rw [wrtn_app1, List.append_assoc]; exact h.all, fun l hl hw => ?_⟩
  · rcases List.mem_append.1 hx with hx | hx
    · exact h.syms x hx
    · rw [List.mem_singleton] at hx; rw [hx]; exact hs
  · obtain ⟨m, rfl⟩ := h.only l hl hw
    rw [wrtn_app, ← h.all, List.append_cancel_left_eq] at hw
    cases m with
    | nil => exact absurd hw.symm hr
    | cons x m =>
      have hx : x < C.length := hl x (by simp)
      rw [wrtn_cons] at hw
      have := free_same hf hx hs (c := gw C s ++ r) ⟨_, hw⟩ ⟨_, rfl⟩
      subst this
      exact ⟨m, by simp⟩
/-- read to the end: it alone is written so -/
theorem RdI.done {C : Code} {bits : List Bool} {out : List Nat} (h : RdI C bits out []) (hn : NoBare C) {l : List Nat} (hl : Syms C l) (hw : wrtn C l = bits) : l = out := by
  obtain ⟨m, rfl⟩ := h.only l hl hw
  have := h.all
  rw [wrtn_app, ← this, List.append_cancel_left_eq] at hw
  cases m with
  | nil => simp
  | cons x m =>
    rw [wrtn_cons, List.append_eq_nil_iff] at hw
    exact absurd hw.1 (hn x (hl x (by simp)))
/-- no word begins what is left: nothing is written so -/
theorem RdI.stuck {C : Code} {bits : List Bool} {out : List Nat} {rest : List Bool} (h : RdI C bits out rest) (hr : rest ≠ []) (hno : ∀ i, i < C.length → ¬ gw C i <+: rest) {l : List Nat} (hl : Syms C l) : wrtn C l ≠ bits := by
  intro hw
  obtain ⟨m, rfl⟩ := h.only l hl hw
  have := h.all
  rw [wrtn_app, ← this, List.append_cancel_left_eq] at hw
  cases m with
  | nil => exact hr hw.symm
  | cons x m =>
    rw [wrtn_cons] at hw
    exact hno x (hl x (by simp)) ⟨_, hw⟩

/-! ### Kraft -/
def room (d : Nat) (C : Code) : Nat := (C.map fun w => 2 ^ (d - w.length)).sum
def allBits : Nat → List (List Bool)
  | 0 => [[]]
  | d + 1 => (allBits d).map (false :: ·) ++ (allBits d).map (true :: ·)
theorem allBits_len (d : Nat) : (allBits d).length = 2 ^ d := by
  induction d with
  | zero => rfl
  | succ d ih => simp [allBits, ih]; omega
theorem countP_map {α β : Type} (f : α → β) (p : β → Bool) (l : List α) : (l.map f).countP p = l.countP (p ∘ f) := by simp [List.countP_map]
theorem count_begins : ∀ (d : Nat) (w : List Bool), w.length ≤ d → (allBits d).countP (w.isPrefixOf ·) = 2 ^ (d - w.length)
  | d, [], _ => by
    have : (allBits d).countP (fun x => ([] : List Bool).isPrefixOf x) = (allBits d).length := List.countP_eq_length.2 fun x _ => by cases x <;> rfl
    rw [this, allBits_len]; simp
  | 0, b :: w, h => by simp at h
  | d + 1, b :: w, h => by
    have ih := count_begins d w (by simpa using h)
    have hz : ∀ l : List (List Bool), l.countP (fun _ => false) = 0 := fun l => List.countP_eq_zero.2 fun _ _ => by simp
    simp only [allBits, List.countP_append, countP_map]
    cases b with
    | false =>
      have e1 : ((fun x => (false :: w).isPrefixOf x) ∘ (false :: ·)) = fun x => w.isPrefixOf x := by funext x; simp [List.isPrefixOf]
      have e2 : ((fun x => (false :: w).isPrefixOf x) ∘ (true :: ·)) = fun _ => false := by funext x; simp [List.isPrefixOf]
      rw [e1, e2, ih, hz]; simp
    | true =>
      have e1 : ((fun x => (true :: w).isPrefixOf x) ∘ (true :: ·)) = fun x => w.isPrefixOf x := by funext x; simp [List.isPrefixOf]
      have e2 : ((fun x => (true :: w).isPrefixOf x) ∘ (false :: ·)) = fun _ => false := by funext x; simp [List.isPrefixOf]
      rw [e1, e2, ih, hz]; simp
theorem count_swap (C : Code) (X : List (List Bool)) : (C.map fun w => X.countP (w.isPrefixOf ·)).sum = (X.map fun x => C.countP (·.isPrefixOf x)).sum := by
  induction C with
  | nil => induction X with
    | nil => rfl
    | cons x X ih => simpa using ih
  | cons w C ih =>
    rw [List.map_cons, List.sum_cons, ih]
    clear ih
    induction X with
    | nil => rfl
    | cons x X ih =>
      simp only [List.map_cons, List.sum_cons, List.countP_cons] at ih ⊢
      omega
theorem sum_le_len {X : List (List Bool)} {f : List Bool → Nat} (h : ∀ x ∈ X, f x ≤ 1) : (X.map f).sum ≤ X.length := by
  induction X with
  | nil => simp
  | cons x X ih =>
    have := h x (by simp)
    have := ih fun y hy => h y (by simp [hy])
    simp; omega
theorem free_count {C : Code} (hf : Free C) (x : List Bool) : C.countP (·.isPrefixOf x) ≤ 1 := by
  have key : ∀ C : Code, C.Pairwise (fun a b => ¬ a <+: b ∧ ¬ b <+: a) → C.countP (·.isPrefixOf x) ≤ 1 := by
    intro C hp
    induction C with
    | nil => simp
    | cons a C ih =>
      rw [List.pairwise_cons] at hp
      rw [List.countP_cons]
      by_cases ha : a.isPrefixOf x = true
      · have hz : C.countP (·.isPrefixOf x) = 0 := List.countP_eq_zero.2 fun b hb hbx => by
          rcases two_begin (List.isPrefixOf_iff_prefix.1 ha) (List.isPrefixOf_iff_prefix.1 hbx) with h | h
          · exact (hp.1 b hb).1 h
          · exact (hp.1 b hb).2 h
        rw [hz, if_pos ha]; omega
      · rw [if_neg ha]; have := ih hp.2; omega
  refine key C (List.pairwise_iff_getElem.2 fun i j hi hj hij => ?_)
  have h1 := hf i j hi hj (by omega)
  have h2 := hf j i hj hi (by omega)
  rw [gw_lt hi, gw_lt hj] at h1 h2
  exact ⟨h1, h2⟩
theorem kraft {C : Code} {d : Nat} (hf : Free C) (hd : ∀ w ∈ C, w.length ≤ d) : room d C ≤ 2 ^ d := by
  have h1 : room d C = (C.map fun w => (allBits d).countP (w.isPrefixOf ·)).sum := by
    unfold room
    congr 1
    exact List.map_congr_left fun w hw => (count_begins d w (hd w hw)).symm
  rw [h1, count_swap, ← allBits_len d]
  exact sum_le_len fun x _ => free_count hf x
theorem room_pos {C : Code} {d : Nat} (h : C ≠ []) : 0 < room d C := by
  cases C with
  | nil => exact absurd rfl h
  | cons w C =>
    have : 0 < 2 ^ (d - w.length) := Nat.two_pow_pos _
    simp [room]; omega
end Go.Proofs.Ytbfcmfjdjldepaa
