/-
  Plain: insertion sort: what it does to a list.
-/
import Derived.Test.YtohflgcbpmoinaaVbase
namespace Go.Proofs.Ytohflgcbpmoinaa
open Go V

section
variable {α : Type} (lt : α → α → Bool) (d : α)
/-- the element at a place sinks as long as it is less than the one ahead of it -/
def bub : List α → Nat → List α
  | l, 0 => l
  | l, j + 1 => if lt (l.getD (j + 1) d) (l.getD j d) = true then bub ((l.set (j + 1) (l.getD j d)).set j (l.getD (j + 1) d)) j else l
/-- behind so many elements -/
def isortTo (l : List α) : Nat → List α
  | 0 => l
  | i + 1 => bub lt d (isortTo l i) i
def insR (x : α) : List α → List α
  | [] => [x]
  | y :: ys => if lt x y = true then y :: insR x ys else x :: y :: ys
def isort (l : List α) : List α := (l.foldl (fun acc x => insR lt x acc) []).reverse
theorem bub_len : ∀ (j : Nat) (l : List α), (bub lt d l j).length = l.length
  | 0, l => rfl
  | j + 1, l => by
    unfold bub
    split
    · rw [bub_len j]; simp
    · rfl
theorem isortTo_len (l : List α) : ∀ i, (isortTo lt d l i).length = l.length
  | 0 => rfl
  | i + 1 => by rw [isortTo, bub_len, isortTo_len l i]
theorem bub_eq (x : α) : ∀ (rp rest : List α), bub lt d (rp.reverse ++ x :: rest) rp.length = (insR lt x rp).reverse ++ rest
  | [], rest => by simp [bub, insR]
  | y :: ys, rest => by
    have e : (y :: ys).reverse ++ x :: rest = ys.reverse ++ y :: x :: rest := by simp
    rw [e, List.length_cons, bub]
    have h1 : (ys.reverse ++ y :: x :: rest).getD (ys.length + 1) d = x := by
      rw [List.getD_eq_getElem?_getD, List.getElem?_append_right (by simp)]; simp
    have h2 : (ys.reverse ++ y :: x :: rest).getD ys.length d = y := by
      rw [List.getD_eq_getElem?_getD, List.getElem?_append_right (by simp)]; simp
    rw [h1, h2, insR]
    have h3 : ((ys.reverse ++ y :: x :: rest).set (ys.length + 1) y).set ys.length x = ys.reverse ++ x :: y :: rest := by
      rw [List.set_append_right _ _ (by simp), List.set_append_right _ _ (by simp)]; simp
    rw [h3]
    split
    · rw [bub_eq x ys (y :: rest)]; simp
    · simp
theorem isortTo_eq (l : List α) : ∀ i, i ≤ l.length → isortTo lt d l i = ((l.take i).foldl (fun acc x => insR lt x acc) []).reverse ++ l.drop i
  | 0, _ => by simp [isortTo]
  | i + 1, h => by
    have hi : i < l.length := by omega
    have hlen : ∀ (t acc : List α), (t.foldl (fun acc x => insR lt x acc) acc).length = t.length + acc.length := by
      intro t
      induction t with
      | nil => intro acc; simp
      | cons a t ih =>
        intro acc
        have hI : ∀ (x : α) (q : List α), (insR lt x q).length = q.length + 1 := by
          intro x q
          induction q with
          | nil => rfl
          | cons y q ih2 => unfold insR; split <;> simp [ih2]
        rw [List.foldl_cons, ih, hI, List.length_cons]; omega
    rw [isortTo, isortTo_eq l i (by omega), List.take_succ_eq_append_getElem hi, List.foldl_append, List.foldl_cons, List.foldl_nil]
    have h1 : l.drop i = l[i] :: l.drop (i + 1) := List.drop_eq_getElem_cons hi
    have h2 : ((l.take i).foldl (fun acc x => insR lt x acc) []).length = i := by rw [hlen]; simp; omega
    rw [h1]
    conv => lhs; arg 4; rw [← h2]
    exact bub_eq lt d _ _ _
theorem isortTo_all (l : List α) : isortTo lt d l l.length = isort lt l := by
  rw [isortTo_eq lt d l _ (Nat.le_refl _), List.take_length, List.drop_length, List.append_nil]; rfl
theorem isortTo_end (l : List α) {i : Nat} (h1 : l.length ≤ i) (h2 : i ≤ l.length ∨ i = 1) : isortTo lt d l i = isort lt l := by
  rcases h2 with h2 | rfl
  · rw [show i = l.length by omega]; exact isortTo_all lt d l
  · match l, h1 with
    | [], _ => rfl
    | [x], _ => rfl
theorem insR_perm (x : α) : ∀ q : List α, (insR lt x q).Perm (x :: q)
  | [] => List.Perm.refl _
  | y :: q => by
    unfold insR; split
    · exact ((insR_perm x q).cons y).trans (List.Perm.swap _ _ _)
    · exact List.Perm.refl _
theorem isort_perm (l : List α) : (isort lt l).Perm l := by
  have h : ∀ (t acc : List α), (t.foldl (fun acc x => insR lt x acc) acc).Perm (t ++ acc) := by
    intro t
    induction t with
    | nil => intro acc; exact List.Perm.refl _
    | cons a t ih =>
      intro acc
      rw [List.foldl_cons]
      refine (ih _).trans ?_
      refine ((insR_perm lt a acc).append_left t).trans ?_
      exact List.perm_middle
  unfold isort
  refine (List.reverse_perm _).trans ?_
  have := h l []
  rwa [List.append_nil] at this
theorem isort_len (l : List α) : (isort lt l).length = l.length := (isort_perm lt l).length_eq
end
/-- sorted by a key -/
theorem insR_sorted {α : Type} {lt : α → α → Bool} (key : α → Int) (hk : ∀ a b, lt a b = true ↔ key a < key b) (x : α) : ∀ q : List α, q.Pairwise (fun a b => key b ≤ key a) → (insR lt x q).Pairwise (fun a b => key b ≤ key a)
  | [], _ => List.pairwise_singleton _ _
  | y :: q, h => by
    rw [List.pairwise_cons] at h
    unfold insR; split
    · rename_i hl
      have hl := (hk x y).1 hl
      refine List.pairwise_cons.2 ⟨fun z hz => ?_, insR_sorted key hk x q h.2⟩
      rcases List.mem_cons.1 ((insR_perm lt x q).mem_iff.1 hz) with rfl | hz
      · omega
      · exact h.1 z hz
    · rename_i hl
      have hl : ¬ key x < key y := fun h => hl ((hk x y).2 h)
      refine List.pairwise_cons.2 ⟨fun z hz => ?_, List.pairwise_cons.2 h⟩
      rcases List.mem_cons.1 hz with rfl | hz
      · omega
      · have := h.1 z hz; omega
theorem isort_sorted {α : Type} {lt : α → α → Bool} (key : α → Int) (hk : ∀ a b, lt a b = true ↔ key a < key b) (l : List α) : (isort lt l).Pairwise (fun a b => key a ≤ key b) := by
  unfold isort
  rw [List.pairwise_reverse]
  have h : ∀ (t acc : List α), acc.Pairwise (fun a b => key b ≤ key a) → (t.foldl (fun acc x => insR lt x acc) acc).Pairwise (fun a b => key b ≤ key a) := by
    intro t
    induction t with
    | nil => intro acc h; exact h
    | cons a t ih => intro acc h; exact ih _ (insR_sorted key hk a acc h)
  exact h l [] List.Pairwise.nil
end Go.Proofs.Ytohflgcbpmoinaa
