/-
  Plain: each next bit is a one where that gives a new word; for up to six bits all words occur once (Martin).
-/
import Derived.Test.YtpogedmkmplckaaDigsPlain
import Derived.Test.YtpogedmkmplckaaVmap
namespace Go.Proofs.Ytpogedmkmplckaa
open Go V

def rstep (n : Nat) (s : List Bool × List Nat) : List Bool × List Nat :=
  (s.1 ++ [!(s.2.contains (num (s.1.drop (s.1.length - n + 1) ++ [true])))], num (s.1.drop (s.1.length - n + 1) ++ [!(s.2.contains (num (s.1.drop (s.1.length - n + 1) ++ [true])))]) :: s.2)
def rTo (n : Nat) : Nat → List Bool × List Nat := iter (fun _ s => rstep n s) (List.replicate n false, [0])
theorem rTo_succ (n k : Nat) : rTo n (k + 1) = rstep n (rTo n k) := rfl
theorem rTo_len (n : Nat) : ∀ k, (rTo n k).1.length = n + k
  | 0 => by simp [rTo, iter]
  | k + 1 => by
    rw [rTo_succ]
    have := rTo_len n k
    simp only [rstep, List.length_append, List.length_cons, List.length_nil, this]
    omega
/-- what the map tells: which words were there -/
def seenF (S : List Nat) : Nat → Option Value := fun m => if S.contains m = true then some (.bool true) else none
theorem seenF_getD (S : List Nat) (m : Nat) : (seenF S m).getD (.bool false) = .bool (S.contains m) := by
  unfold seenF
  cases S.contains m <;> rfl
theorem seenF_cons (S : List Nat) (a : Nat) : upd (seenF S) a (.bool true) = seenF (a :: S) := by
  funext m
  unfold upd seenF
  by_cases e : m = a
  · subst e; simp
  · simp [e]
theorem seenF_nil : upd (fun _ => none) 0 (.bool true) = seenF [0] := by
  rw [← seenF_cons]; rfl
def winTo (n : Nat) (L : List Bool) (i : Nat) : Nat → Nat := iter (fun j w => 2 * w + (if gb L ((i + j) % L.length) = true then 1 else 0)) 0
theorem winTo_succ (n : Nat) (L : List Bool) (i k : Nat) : winTo n L i (k + 1) = 2 * winTo n L i k + (if gb L ((i + k) % L.length) = true then 1 else 0) := rfl
theorem winTo_lt (n : Nat) (L : List Bool) (i : Nat) : ∀ k, winTo n L i k < 2 ^ k
  | 0 => by show 0 < 1; omega
  | k + 1 => by
    have := winTo_lt n L i k
    rw [winTo_succ, Nat.pow_succ]
    split <;> omega
def nodupB : List Nat → Bool
  | [] => true
  | a :: l => !(l.contains a) && nodupB l
def rCheck (n : Nat) : Bool :=
  (fun L : List Bool => nodupB ((List.range (2 ^ n)).map fun i => winTo n L i n)) (rTo n (2 ^ n - n)).1
theorem round_all : (List.range 6).all (fun i => rCheck (i + 1)) = true := by decide +kernel
theorem nodupB_at : ∀ (l : List Nat), nodupB l = true → ∀ i j, j < i → i < l.length → gn l j ≠ gn l i
  | [], _, i, j, _, h2 => by simp at h2
  | a :: l, h, i, j, h1, h2 => by
    simp only [nodupB, Bool.and_eq_true, Bool.not_eq_true', List.contains_eq_mem, decide_eq_false_iff_not] at h
    obtain ⟨i, rfl⟩ : ∃ i', i = i' + 1 := ⟨i - 1, by omega⟩
    have hi : i < l.length := by simpa using h2
    cases j with
    | zero =>
      intro e
      have e2 : a = gn l i := by simpa [gn] using e
      exact h.1 (by rw [e2, gn_lt hi]; exact List.getElem_mem hi)
    | succ j =>
      have := nodupB_at l h.2 i j (by omega) hi
      simpa [gn] using this
theorem round_ok {n : Nat} (h1 : 1 ≤ n) (h6 : n ≤ 6) {i j : Nat} (hj : j < i) (hi : i < 2 ^ n) : winTo n (rTo n (2 ^ n - n)).1 j n ≠ winTo n (rTo n (2 ^ n - n)).1 i n := by
  have h := List.all_eq_true.1 round_all (n - 1) (List.mem_range.2 (by omega))
  rw [show n - 1 + 1 = n by omega] at h
  have := nodupB_at _ h i j hj (by simpa using hi)
  rw [gn_lt (by simp; omega), gn_lt (by simpa using hi)] at this
  simpa using this
theorem set_last {t : List Bool} {n : Nat} {b : Bool} (h : t.length + 1 = n) : (t ++ [true]).set (n - 1) b = t ++ [b] := by
  subst h
  rw [List.set_append_right _ _ (by omega)]; simp
theorem shiftIn_two (r : Nat) (b : Bool) : shiftIn r b = 2 * r + (if b = true then 1 else 0) := by
  unfold shiftIn
  rw [Nat.shiftLeft_eq]
  cases b
  · simp; omega
  · simp only [if_true]
    have : r * 2 ^ 1 ||| 1 = 2 * r + 1 := by
      have h := Nat.two_pow_add_eq_or_of_lt (i := 1) (b := 1) (by omega) r
      rw [Nat.mul_comm]
      exact h.symm
    exact this
end Go.Proofs.Ytpogedmkmplckaa
