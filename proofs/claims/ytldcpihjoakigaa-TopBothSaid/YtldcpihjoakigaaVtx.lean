/-
  Slices of slices of bytes of the call's own: each inner slice is an own block of its own.
-/
import Derived.Test.YtldcpihjoakigaaVz3
import Derived.Test.YtldcpihjoakigaaVheap
namespace Go.Proofs.Ytldcpihjoakigaa.V
open Go Go.RowKit

structure Tx where
  p : Option Addr
  c : Nat
  l : List Nat
def tv (T : List Tx) : List Value := T.map fun x => .slice x.p x.l.length x.c
def gT (T : List Tx) (k : Nat) : Tx := T.getD k ⟨none, 0, []⟩
/-- the blocks of the inner ones -/
def tz (e : TypeId) (T : List Tx) : List Oz := T.map fun x => ⟨e, 1, x.p, x.l.length, x.c, yv x.l⟩
theorem gT_lt {T : List Tx} {k : Nat} (h : k < T.length) : gT T k = T[k] := by simp [gT, h]
theorem gT_mem {T : List Tx} {k : Nat} (h : k < T.length) : gT T k ∈ T := by rw [gT_lt h]; exact List.getElem_mem h
theorem tv_len (T : List Tx) : (tv T).length = T.length := by simp [tv]
theorem tv_at {T : List Tx} {k : Nat} (h : k < T.length) : (tv T)[k]? = some (.slice (gT T k).p (gT T k).l.length (gT T k).c) := by simp [tv, gT, h]
theorem tv_app1 (T : List Tx) (x : Tx) : tv T ++ [.slice x.p x.l.length x.c] = tv (T ++ [x]) := by simp [tv]
theorem tz_app1 (e : TypeId) (T : List Tx) (x : Tx) : tz e (T ++ [x]) = tz e T ++ [⟨e, 1, x.p, x.l.length, x.c, yv x.l⟩] := by simp [tz]
theorem Mz.tx {w : World} {B : Nat} {S : List Oz} {e : TypeId} {T : List Tx} {k : Nat} (h : Mz w B S) (hk : k < T.length) (hin : ∀ o ∈ tz e T, o ∈ S) : Rd w (gT T k).p (yv (gT T k).l) :=
  (h.at (hin ⟨e, 1, (gT T k).p, (gT T k).l.length, (gT T k).c, yv (gT T k).l⟩ (List.mem_map.2 ⟨_, gT_mem hk, rfl⟩))).rd
/-- the newest one goes behind all -/
theorem Mz.last {w : World} {B : Nat} {S : List Oz} {o a b : Oz} (h : Mz w B (o :: a :: b :: S)) : Mz w B (a :: b :: (S ++ [o])) := by
  refine h.perm ?_
  have : (a :: b :: (S ++ [o])) = (a :: b :: S) ++ [o] := rfl
  rw [this]
  exact List.perm_append_comm (l₁ := a :: b :: S) (l₂ := [o])
theorem Mz.nil2 {w : World} {B : Nat} {a : Oz} (e : TypeId) (h : Mz w B [a]) : Mz w B [a, ⟨e, 1, none, 0, 0, []⟩, ⟨e, 1, none, 0, 0, []⟩] := ((h.addNil e 1).addNil e 1).perm (List.perm_append_comm (l₁ := [a]) (l₂ := [⟨e, 1, none, 0, 0, []⟩, ⟨e, 1, none, 0, 0, []⟩]))
theorem in2 {a b : Oz} {S : List Oz} : ∀ o ∈ S, o ∈ a :: b :: S := fun _ h => List.mem_cons_of_mem _ (List.mem_cons_of_mem _ h)
theorem in3 {a b c : Oz} {S : List Oz} : ∀ o ∈ S, o ∈ a :: b :: c :: S := fun _ h => List.mem_cons_of_mem _ (List.mem_cons_of_mem _ (List.mem_cons_of_mem _ h))
end Go.Proofs.Ytldcpihjoakigaa.V
