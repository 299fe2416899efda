/-
  Memory of structs, fourth: own blocks in another order, some of them dropped; pointers into a block; functions whose first result stands in a block.
-/
import Derived.Test.YtbfcmfjdjldepaaVz3
import Derived.Laws.ResultCell
namespace Go.Proofs.Ytbfcmfjdjldepaa.V
open Go Go.RowKit

section
variable {w w' : World} {B : Nat} {S : List Oz} {e : TypeId} {z : Nat} {p : Option Addr} {m c : Nat} {xs : List Value} {a0 a1 a2 a3 a4 a5 a6 a7 a8 a9 a10 a11 a12 a13 a14 a15 a16 a17 a18 a19 a20 a21 : Oz}
theorem Mz.er0 (h : Mz w B (a0 :: S)) : Mz w B (S) := h.sub (by repeat (first | exact List.sublist_cons_self _ _ | apply List.Sublist.cons_cons))
theorem Mz.sw0 (h : Mz w B (a0 :: a1 :: S)) : Mz w B (a1 :: a0 :: S) := h.perm (by repeat (first | exact List.Perm.swap _ _ _ | apply List.Perm.cons))
theorem Mz.er1 (h : Mz w B (a0 :: a1 :: S)) : Mz w B (a0 :: S) := h.sub (by repeat (first | exact List.sublist_cons_self _ _ | apply List.Sublist.cons_cons))
theorem Mz.sw1 (h : Mz w B (a0 :: a1 :: a2 :: S)) : Mz w B (a0 :: a2 :: a1 :: S) := h.perm (by repeat (first | exact List.Perm.swap _ _ _ | apply List.Perm.cons))
theorem Mz.er2 (h : Mz w B (a0 :: a1 :: a2 :: S)) : Mz w B (a0 :: a1 :: S) := h.sub (by repeat (first | exact List.sublist_cons_self _ _ | apply List.Sublist.cons_cons))
theorem Mz.sw2 (h : Mz w B (a0 :: a1 :: a2 :: a3 :: S)) : Mz w B (a0 :: a1 :: a3 :: a2 :: S) := h.perm (by repeat (first | exact List.Perm.swap _ _ _ | apply List.Perm.cons))
theorem Mz.er3 (h : Mz w B (a0 :: a1 :: a2 :: a3 :: S)) : Mz w B (a0 :: a1 :: a2 :: S) := h.sub (by repeat (first | exact List.sublist_cons_self _ _ | apply List.Sublist.cons_cons))
theorem Mz.sw3 (h : Mz w B (a0 :: a1 :: a2 :: a3 :: a4 :: S)) : Mz w B (a0 :: a1 :: a2 :: a4 :: a3 :: S) := h.perm (by repeat (first | exact List.Perm.swap _ _ _ | apply List.Perm.cons))
theorem Mz.er4 (h : Mz w B (a0 :: a1 :: a2 :: a3 :: a4 :: S)) : Mz w B (a0 :: a1 :: a2 :: a3 :: S) := h.sub (by repeat (first | exact List.sublist_cons_self _ _ | apply List.Sublist.cons_cons))
theorem Mz.sw4 (h : Mz w B (a0 :: a1 :: a2 :: a3 :: a4 :: a5 :: S)) : Mz w B (a0 :: a1 :: a2 :: a3 :: a5 :: a4 :: S) := h.perm (by repeat (first | exact List.Perm.swap _ _ _ | apply List.Perm.cons))
theorem Mz.er5 (h : Mz w B (a0 :: a1 :: a2 :: a3 :: a4 :: a5 :: S)) : Mz w B (a0 :: a1 :: a2 :: a3 :: a4 :: S) := h.sub (by repeat (first | exact List.sublist_cons_self _ _ | apply List.Sublist.cons_cons))
theorem Mz.sw5 (h : Mz w B (a0 :: a1 :: a2 :: a3 :: a4 :: a5 :: a6 :: S)) : Mz w B (a0 :: a1 :: a2 :: a3 :: a4 :: a6 :: a5 :: S) := h.perm (by repeat (first | exact List.Perm.swap _ _ _ | apply List.Perm.cons))
theorem Mz.er6 (h : Mz w B (a0 :: a1 :: a2 :: a3 :: a4 :: a5 :: a6 :: S)) : Mz w B (a0 :: a1 :: a2 :: a3 :: a4 :: a5 :: S) := h.sub (by repeat (first | exact List.sublist_cons_self _ _ | apply List.Sublist.cons_cons))
theorem Mz.sw6 (h : Mz w B (a0 :: a1 :: a2 :: a3 :: a4 :: a5 :: a6 :: a7 :: S)) : Mz w B (a0 :: a1 :: a2 :: a3 :: a4 :: a5 :: a7 :: a6 :: S) := h.perm (by repeat (first | exact List.Perm.swap _ _ _ | apply List.Perm.cons))
theorem Mz.er7 (h : Mz w B (a0 :: a1 :: a2 :: a3 :: a4 :: a5 :: a6 :: a7 :: S)) : Mz w B (a0 :: a1 :: a2 :: a3 :: a4 :: a5 :: a6 :: S) := h.sub (by repeat (first | exact List.sublist_cons_self _ _ | apply List.Sublist.cons_cons))
theorem Mz.sw7 (h : Mz w B (a0 :: a1 :: a2 :: a3 :: a4 :: a5 :: a6 :: a7 :: a8 :: S)) : Mz w B (a0 :: a1 :: a2 :: a3 :: a4 :: a5 :: a6 :: a8 :: a7 :: S) := h.perm (by repeat (first | exact List.Perm.swap _ _ _ | apply List.Perm.cons))
theorem Mz.er8 (h : Mz w B (a0 :: a1 :: a2 :: a3 :: a4 :: a5 :: a6 :: a7 :: a8 :: S)) : Mz w B (a0 :: a1 :: a2 :: a3 :: a4 :: a5 :: a6 :: a7 :: S) := h.sub (by repeat (first | exact List.sublist_cons_self _ _ | apply List.Sublist.cons_cons))
theorem Mz.sw8 (h : Mz w B (a0 :: a1 :: a2 :: a3 :: a4 :: a5 :: a6 :: a7 :: a8 :: a9 :: S)) : Mz w B (a0 :: a1 :: a2 :: a3 :: a4 :: a5 :: a6 :: a7 :: a9 :: a8 :: S) := h.perm (by repeat (first | exact List.Perm.swap _ _ _ | apply List.Perm.cons))
theorem Mz.er9 (h : Mz w B (a0 :: a1 :: a2 :: a3 :: a4 :: a5 :: a6 :: a7 :: a8 :: a9 :: S)) : Mz w B (a0 :: a1 :: a2 :: a3 :: a4 :: a5 :: a6 :: a7 :: a8 :: S) := h.sub (by repeat (first | exact List.sublist_cons_self _ _ | apply List.Sublist.cons_cons))
theorem Mz.sw9 (h : Mz w B (a0 :: a1 :: a2 :: a3 :: a4 :: a5 :: a6 :: a7 :: a8 :: a9 :: a10 :: S)) : Mz w B (a0 :: a1 :: a2 :: a3 :: a4 :: a5 :: a6 :: a7 :: a8 :: a10 :: a9 :: S) := h.perm (by repeat (first | exact List.Perm.swap _ _ _ | apply List.Perm.cons))
theorem Mz.er10 (h : Mz w B (a0 :: a1 :: a2 :: a3 :: a4 :: a5 :: a6 :: a7 :: a8 :: a9 :: a10 :: S)) : Mz w B (a0 :: a1 :: a2 :: a3 :: a4 :: a5 :: a6 :: a7 :: a8 :: a9 :: S) := h.sub (by repeat (first | exact List.sublist_cons_self _ _ | apply List.Sublist.cons_cons))
theorem Mz.sw10 (h : Mz w B (a0 :: a1 :: a2 :: a3 :: a4 :: a5 :: a6 :: a7 :: a8 :: a9 :: a10 :: a11 :: S)) : Mz w B (a0 :: a1 :: a2 :: a3 :: a4 :: a5 :: a6 :: a7 :: a8 :: a9 :: a11 :: a10 :: S) := h.perm (by repeat (first | exact List.Perm.swap _ _ _ | apply List.Perm.cons))
theorem Mz.er11 (h : Mz w B (a0 :: a1 :: a2 :: a3 :: a4 :: a5 :: a6 :: a7 :: a8 :: a9 :: a10 :: a11 :: S)) : Mz w B (a0 :: a1 :: a2 :: a3 :: a4 :: a5 :: a6 :: a7 :: a8 :: a9 :: a10 :: S) := h.sub (by repeat (first | exact List.sublist_cons_self _ _ | apply List.Sublist.cons_cons))
theorem Mz.sw11 (h : Mz w B (a0 :: a1 :: a2 :: a3 :: a4 :: a5 :: a6 :: a7 :: a8 :: a9 :: a10 :: a11 :: a12 :: S)) : Mz w B (a0 :: a1 :: a2 :: a3 :: a4 :: a5 :: a6 :: a7 :: a8 :: a9 :: a10 :: a12 :: a11 :: S) := h.perm (by repeat (first | exact List.Perm.swap _ _ _ | apply List.Perm.cons))
theorem Mz.er12 (h : Mz w B (a0 :: a1 :: a2 :: a3 :: a4 :: a5 :: a6 :: a7 :: a8 :: a9 :: a10 :: a11 :: a12 :: S)) : Mz w B (a0 :: a1 :: a2 :: a3 :: a4 :: a5 :: a6 :: a7 :: a8 :: a9 :: a10 :: a11 :: S) := h.sub (by repeat (first | exact List.sublist_cons_self _ _ | apply List.Sublist.cons_cons))
theorem Mz.sw12 (h : Mz w B (a0 :: a1 :: a2 :: a3 :: a4 :: a5 :: a6 :: a7 :: a8 :: a9 :: a10 :: a11 :: a12 :: a13 :: S)) : Mz w B (a0 :: a1 :: a2 :: a3 :: a4 :: a5 :: a6 :: a7 :: a8 :: a9 :: a10 :: a11 :: a13 :: a12 :: S) := h.perm (by repeat (first | exact List.Perm.swap _ _ _ | apply List.Perm.cons))
theorem Mz.er13 (h : Mz w B (a0 :: a1 :: a2 :: a3 :: a4 :: a5 :: a6 :: a7 :: a8 :: a9 :: a10 :: a11 :: a12 :: a13 :: S)) : Mz w B (a0 :: a1 :: a2 :: a3 :: a4 :: a5 :: a6 :: a7 :: a8 :: a9 :: a10 :: a11 :: a12 :: S) := h.sub (by repeat (first | exact List.sublist_cons_self _ _ | apply List.Sublist.cons_cons))
theorem Mz.sw13 (h : Mz w B (a0 :: a1 :: a2 :: a3 :: a4 :: a5 :: a6 :: a7 :: a8 :: a9 :: a10 :: a11 :: a12 :: a13 :: a14 :: S)) : Mz w B (a0 :: a1 :: a2 :: a3 :: a4 :: a5 :: a6 :: a7 :: a8 :: a9 :: a10 :: a11 :: a12 :: a14 :: a13 :: S) := h.perm (by repeat (first | exact List.Perm.swap _ _ _ | apply List.Perm.cons))
theorem Mz.er14 (h : Mz w B (a0 :: a1 :: a2 :: a3 :: a4 :: a5 :: a6 :: a7 :: a8 :: a9 :: a10 :: a11 :: a12 :: a13 :: a14 :: S)) : Mz w B (a0 :: a1 :: a2 :: a3 :: a4 :: a5 :: a6 :: a7 :: a8 :: a9 :: a10 :: a11 :: a12 :: a13 :: S) := h.sub (by repeat (first | exact List.sublist_cons_self _ _ | apply List.Sublist.cons_cons))
theorem Mz.sw14 (h : Mz w B (a0 :: a1 :: a2 :: a3 :: a4 :: a5 :: a6 :: a7 :: a8 :: a9 :: a10 :: a11 :: a12 :: a13 :: a14 :: a15 :: S)) : Mz w B (a0 :: a1 :: a2 :: a3 :: a4 :: a5 :: a6 :: a7 :: a8 :: a9 :: a10 :: a11 :: a12 :: a13 :: a15 :: a14 :: S) := h.perm (by repeat (first | exact List.Perm.swap _ _ _ | apply List.Perm.cons))
theorem Mz.er15 (h : Mz w B (a0 :: a1 :: a2 :: a3 :: a4 :: a5 :: a6 :: a7 :: a8 :: a9 :: a10 :: a11 :: a12 :: a13 :: a14 :: a15 :: S)) : Mz w B (a0 :: a1 :: a2 :: a3 :: a4 :: a5 :: a6 :: a7 :: a8 :: a9 :: a10 :: a11 :: a12 :: a13 :: a14 :: S) := h.sub (by repeat (first | exact List.sublist_cons_self _ _ | apply List.Sublist.cons_cons))
theorem Mz.sw15 (h : Mz w B (a0 :: a1 :: a2 :: a3 :: a4 :: a5 :: a6 :: a7 :: a8 :: a9 :: a10 :: a11 :: a12 :: a13 :: a14 :: a15 :: a16 :: S)) : Mz w B (a0 :: a1 :: a2 :: a3 :: a4 :: a5 :: a6 :: a7 :: a8 :: a9 :: a10 :: a11 :: a12 :: a13 :: a14 :: a16 :: a15 :: S) := h.perm (by repeat (first | exact List.Perm.swap _ _ _ | apply List.Perm.cons))
theorem Mz.er16 (h : Mz w B (a0 :: a1 :: a2 :: a3 :: a4 :: a5 :: a6 :: a7 :: a8 :: a9 :: a10 :: a11 :: a12 :: a13 :: a14 :: a15 :: a16 :: S)) : Mz w B (a0 :: a1 :: a2 :: a3 :: a4 :: a5 :: a6 :: a7 :: a8 :: a9 :: a10 :: a11 :: a12 :: a13 :: a14 :: a15 :: S) := h.sub (by repeat (first | exact List.sublist_cons_self _ _ | apply List.Sublist.cons_cons))
theorem Mz.sw16 (h : Mz w B (a0 :: a1 :: a2 :: a3 :: a4 :: a5 :: a6 :: a7 :: a8 :: a9 :: a10 :: a11 :: a12 :: a13 :: a14 :: a15 :: a16 :: a17 :: S)) : Mz w B (a0 :: a1 :: a2 :: a3 :: a4 :: a5 :: a6 :: a7 :: a8 :: a9 :: a10 :: a11 :: a12 :: a13 :: a14 :: a15 :: a17 :: a16 :: S) := h.perm (by repeat (first | exact List.Perm.swap _ _ _ | apply List.Perm.cons))
theorem Mz.er17 (h : Mz w B (a0 :: a1 :: a2 :: a3 :: a4 :: a5 :: a6 :: a7 :: a8 :: a9 :: a10 :: a11 :: a12 :: a13 :: a14 :: a15 :: a16 :: a17 :: S)) : Mz w B (a0 :: a1 :: a2 :: a3 :: a4 :: a5 :: a6 :: a7 :: a8 :: a9 :: a10 :: a11 :: a12 :: a13 :: a14 :: a15 :: a16 :: S) := h.sub (by repeat (first | exact List.sublist_cons_self _ _ | apply List.Sublist.cons_cons))
theorem Mz.sw17 (h : Mz w B (a0 :: a1 :: a2 :: a3 :: a4 :: a5 :: a6 :: a7 :: a8 :: a9 :: a10 :: a11 :: a12 :: a13 :: a14 :: a15 :: a16 :: a17 :: a18 :: S)) : Mz w B (a0 :: a1 :: a2 :: a3 :: a4 :: a5 :: a6 :: a7 :: a8 :: a9 :: a10 :: a11 :: a12 :: a13 :: a14 :: a15 :: a16 :: a18 :: a17 :: S) := h.perm (by repeat (first | exact List.Perm.swap _ _ _ | apply List.Perm.cons))
theorem Mz.er18 (h : Mz w B (a0 :: a1 :: a2 :: a3 :: a4 :: a5 :: a6 :: a7 :: a8 :: a9 :: a10 :: a11 :: a12 :: a13 :: a14 :: a15 :: a16 :: a17 :: a18 :: S)) : Mz w B (a0 :: a1 :: a2 :: a3 :: a4 :: a5 :: a6 :: a7 :: a8 :: a9 :: a10 :: a11 :: a12 :: a13 :: a14 :: a15 :: a16 :: a17 :: S) := h.sub (by repeat (first | exact List.sublist_cons_self _ _ | apply List.Sublist.cons_cons))
theorem Mz.sw18 (h : Mz w B (a0 :: a1 :: a2 :: a3 :: a4 :: a5 :: a6 :: a7 :: a8 :: a9 :: a10 :: a11 :: a12 :: a13 :: a14 :: a15 :: a16 :: a17 :: a18 :: a19 :: S)) : Mz w B (a0 :: a1 :: a2 :: a3 :: a4 :: a5 :: a6 :: a7 :: a8 :: a9 :: a10 :: a11 :: a12 :: a13 :: a14 :: a15 :: a16 :: a17 :: a19 :: a18 :: S) := h.perm (by repeat (first | exact List.Perm.swap _ _ _ | apply List.Perm.cons))
theorem Mz.er19 (h : Mz w B (a0 :: a1 :: a2 :: a3 :: a4 :: a5 :: a6 :: a7 :: a8 :: a9 :: a10 :: a11 :: a12 :: a13 :: a14 :: a15 :: a16 :: a17 :: a18 :: a19 :: S)) : Mz w B (a0 :: a1 :: a2 :: a3 :: a4 :: a5 :: a6 :: a7 :: a8 :: a9 :: a10 :: a11 :: a12 :: a13 :: a14 :: a15 :: a16 :: a17 :: a18 :: S) := h.sub (by repeat (first | exact List.sublist_cons_self _ _ | apply List.Sublist.cons_cons))
theorem Mz.sw19 (h : Mz w B (a0 :: a1 :: a2 :: a3 :: a4 :: a5 :: a6 :: a7 :: a8 :: a9 :: a10 :: a11 :: a12 :: a13 :: a14 :: a15 :: a16 :: a17 :: a18 :: a19 :: a20 :: S)) : Mz w B (a0 :: a1 :: a2 :: a3 :: a4 :: a5 :: a6 :: a7 :: a8 :: a9 :: a10 :: a11 :: a12 :: a13 :: a14 :: a15 :: a16 :: a17 :: a18 :: a20 :: a19 :: S) := h.perm (by repeat (first | exact List.Perm.swap _ _ _ | apply List.Perm.cons))
theorem Mz.o8 (h : Mz w B (a0 :: a1 :: a2 :: a3 :: a4 :: a5 :: a6 :: a7 :: ⟨e, z, p, m, c, xs⟩ :: S)) : OwnZ w B e z p m c xs := h.all ⟨e, z, p, m, c, xs⟩ (by simp)
theorem Mz.o9 (h : Mz w B (a0 :: a1 :: a2 :: a3 :: a4 :: a5 :: a6 :: a7 :: a8 :: ⟨e, z, p, m, c, xs⟩ :: S)) : OwnZ w B e z p m c xs := h.all ⟨e, z, p, m, c, xs⟩ (by simp)
theorem Mz.o10 (h : Mz w B (a0 :: a1 :: a2 :: a3 :: a4 :: a5 :: a6 :: a7 :: a8 :: a9 :: ⟨e, z, p, m, c, xs⟩ :: S)) : OwnZ w B e z p m c xs := h.all ⟨e, z, p, m, c, xs⟩ (by simp)
theorem Mz.o11 (h : Mz w B (a0 :: a1 :: a2 :: a3 :: a4 :: a5 :: a6 :: a7 :: a8 :: a9 :: a10 :: ⟨e, z, p, m, c, xs⟩ :: S)) : OwnZ w B e z p m c xs := h.all ⟨e, z, p, m, c, xs⟩ (by simp)
theorem Mz.o12 (h : Mz w B (a0 :: a1 :: a2 :: a3 :: a4 :: a5 :: a6 :: a7 :: a8 :: a9 :: a10 :: a11 :: ⟨e, z, p, m, c, xs⟩ :: S)) : OwnZ w B e z p m c xs := h.all ⟨e, z, p, m, c, xs⟩ (by simp)
theorem Mz.o13 (h : Mz w B (a0 :: a1 :: a2 :: a3 :: a4 :: a5 :: a6 :: a7 :: a8 :: a9 :: a10 :: a11 :: a12 :: ⟨e, z, p, m, c, xs⟩ :: S)) : OwnZ w B e z p m c xs := h.all ⟨e, z, p, m, c, xs⟩ (by simp)
theorem Mz.o14 (h : Mz w B (a0 :: a1 :: a2 :: a3 :: a4 :: a5 :: a6 :: a7 :: a8 :: a9 :: a10 :: a11 :: a12 :: a13 :: ⟨e, z, p, m, c, xs⟩ :: S)) : OwnZ w B e z p m c xs := h.all ⟨e, z, p, m, c, xs⟩ (by simp)
theorem Mz.o15 (h : Mz w B (a0 :: a1 :: a2 :: a3 :: a4 :: a5 :: a6 :: a7 :: a8 :: a9 :: a10 :: a11 :: a12 :: a13 :: a14 :: ⟨e, z, p, m, c, xs⟩ :: S)) : OwnZ w B e z p m c xs := h.all ⟨e, z, p, m, c, xs⟩ (by simp)
theorem Mz.o16 (h : Mz w B (a0 :: a1 :: a2 :: a3 :: a4 :: a5 :: a6 :: a7 :: a8 :: a9 :: a10 :: a11 :: a12 :: a13 :: a14 :: a15 :: ⟨e, z, p, m, c, xs⟩ :: S)) : OwnZ w B e z p m c xs := h.all ⟨e, z, p, m, c, xs⟩ (by simp)
theorem Mz.o17 (h : Mz w B (a0 :: a1 :: a2 :: a3 :: a4 :: a5 :: a6 :: a7 :: a8 :: a9 :: a10 :: a11 :: a12 :: a13 :: a14 :: a15 :: a16 :: ⟨e, z, p, m, c, xs⟩ :: S)) : OwnZ w B e z p m c xs := h.all ⟨e, z, p, m, c, xs⟩ (by simp)
theorem Mz.o18 (h : Mz w B (a0 :: a1 :: a2 :: a3 :: a4 :: a5 :: a6 :: a7 :: a8 :: a9 :: a10 :: a11 :: a12 :: a13 :: a14 :: a15 :: a16 :: a17 :: ⟨e, z, p, m, c, xs⟩ :: S)) : OwnZ w B e z p m c xs := h.all ⟨e, z, p, m, c, xs⟩ (by simp)
theorem Mz.o19 (h : Mz w B (a0 :: a1 :: a2 :: a3 :: a4 :: a5 :: a6 :: a7 :: a8 :: a9 :: a10 :: a11 :: a12 :: a13 :: a14 :: a15 :: a16 :: a17 :: a18 :: ⟨e, z, p, m, c, xs⟩ :: S)) : OwnZ w B e z p m c xs := h.all ⟨e, z, p, m, c, xs⟩ (by simp)
theorem Mz.s7 {p' : Option Addr} {m' c' z' : Nat} {xs' : List Value} {e' : TypeId} (h : Mz w B (a0 :: a1 :: a2 :: a3 :: a4 :: a5 :: a6 :: ⟨e', z, p, m, c, xs⟩ :: S)) (hg : w.grownBy w' (Value.ownBlock (.slice p m c))) (ho : OwnZ w' B e z' p' m' c' xs') (hk : ∀ b, p' = some ⟨b, 0, none⟩ → p = some ⟨b, 0, none⟩ ∨ w.heap.size ≤ b) : Mz w' B (a0 :: a1 :: a2 :: a3 :: a4 :: a5 :: a6 :: ⟨e, z', p', m', c', xs'⟩ :: S) :=
  Mz.turn (S1 := [a0, a1, a2, a3, a4, a5, a6]) (o := ⟨e', z, p, m, c, xs⟩) h hg ho hk
theorem Mz.s8 {p' : Option Addr} {m' c' z' : Nat} {xs' : List Value} {e' : TypeId} (h : Mz w B (a0 :: a1 :: a2 :: a3 :: a4 :: a5 :: a6 :: a7 :: ⟨e', z, p, m, c, xs⟩ :: S)) (hg : w.grownBy w' (Value.ownBlock (.slice p m c))) (ho : OwnZ w' B e z' p' m' c' xs') (hk : ∀ b, p' = some ⟨b, 0, none⟩ → p = some ⟨b, 0, none⟩ ∨ w.heap.size ≤ b) : Mz w' B (a0 :: a1 :: a2 :: a3 :: a4 :: a5 :: a6 :: a7 :: ⟨e, z', p', m', c', xs'⟩ :: S) :=
  Mz.turn (S1 := [a0, a1, a2, a3, a4, a5, a6, a7]) (o := ⟨e', z, p, m, c, xs⟩) h hg ho hk
theorem Mz.s9 {p' : Option Addr} {m' c' z' : Nat} {xs' : List Value} {e' : TypeId} (h : Mz w B (a0 :: a1 :: a2 :: a3 :: a4 :: a5 :: a6 :: a7 :: a8 :: ⟨e', z, p, m, c, xs⟩ :: S)) (hg : w.grownBy w' (Value.ownBlock (.slice p m c))) (ho : OwnZ w' B e z' p' m' c' xs') (hk : ∀ b, p' = some ⟨b, 0, none⟩ → p = some ⟨b, 0, none⟩ ∨ w.heap.size ≤ b) : Mz w' B (a0 :: a1 :: a2 :: a3 :: a4 :: a5 :: a6 :: a7 :: a8 :: ⟨e, z', p', m', c', xs'⟩ :: S) :=
  Mz.turn (S1 := [a0, a1, a2, a3, a4, a5, a6, a7, a8]) (o := ⟨e', z, p, m, c, xs⟩) h hg ho hk
end
section
variable {P : Program} {S : World → Prop} {L : Loc} {x y : Operand} {n : Nat} {w : World} {R : Value → World → Prop}
theorem Val.nilCheckP {g j : Nat} (h1 : ev L x = some (.pointer ((some (⟨g, 0, none⟩ : Addr)).map (·.add j)))) : Val P S (.nilCheck x) L (.pointer ((some (⟨g, 0, none⟩ : Addr)).map (·.add j))) := by
  intro ρ ha w _ dst ty pos after guard
  have e1 := ha h1
  simp [execOp, e1, go_sem]

/-- one result in a block, another one in a slot -/
def resultsC2 (P : Program) (t : Nat) (ty : TypeId) (u : Nat) (R : Value → World → Prop) : Post := fun e L w => (e = .normal ∨ e = .ret) ∧ ∃ g k xs y, look L t = some (.pointer (some ⟨g, 0, none⟩)) ∧ look L u = some y ∧ Agg P ty k ∧ Rd w (some ⟨g, 0, none⟩) xs ∧ xs.length = k ∧ 0 < k ∧ R (.tuple #[.agg xs.toArray, y]) w
theorem retC2 {e : Exit} {t u k g : Nat} {ty : TypeId} {y : Value} {xs : List Value} (he : e = .normal ∨ e = .ret) (ht : look L t = some (.pointer (some ⟨g, 0, none⟩))) (hu : look L u = some y) (hA : Agg P ty k) (hr : Rd w (some ⟨g, 0, none⟩) xs) (hk : xs.length = k) (h0 : 0 < k)
    (h : R (.tuple #[.agg xs.toArray, y]) w) : resultsC2 P t ty u R e L w := ⟨he, g, k, xs, y, ht, hu, hA, hr, hk, h0, h⟩
theorem enterC2 {f : FuncId} {fn : Func} {c : Code} {args : List Value} {t u : Nat} {ty : TypeId} (hf : P.funcs[f]? = some fn) (hb : fn.body = some c) (hn : fn.ntmps = n) (hl : args.length ≤ n)
    (hr : fn.results = #[.cell t ty, .tmp u]) (h : W P n c (resultsC2 P t ty u R) (argLoc 0 args) w) : CallsV P f args.toArray w R := by
  refine enter_gen hf hb hn hl (fun e L a w ha q => ?_) h
  obtain ⟨he, g, k, xs, y, ht, hu, hA, hrd, hk, h0, hR⟩ := q
  have hrun : (results fn a.tmps).run P w = .ok (.tuple #[.agg xs.toArray, y]) w := by
    rw [results_cell_tmp hr, ha.at_ t _ ht, ha.at_ u y hu]
    have hl := run_loadAgg hA (p := some ⟨g, 0, none⟩) (j := 0) hrd (by rw [List.drop_zero, List.take_of_length_le (by omega)]) hk h0
    rw [Option.map_some, Addr.add_lit] at hl
    have hl2 : (loadVar ty ⟨g, 0, none⟩).run P w = .ok (.agg xs.toArray) w := by
      simpa only [Instr.loadAt, Instr.sureAddr, Sem.run_bind, Sem.run_pure, Result.andThen_ok] using hl
    have hz : (⟨g, 0 + 0, none⟩ : Addr) = ⟨g, 0, none⟩ := rfl
    simp only [asAddr, Sem.run_pure, Result.andThen_ok, hl2]
  have : a.defers = [] ∧ ∃ v, (results fn a.tmps).run P w = .ok v w ∧ ∃ v', Ending.returned v = .returned v' ∧ R v' w := ⟨ha.def0, _, hrun, _, rfl, hR⟩
  rcases he with rfl | rfl <;> exact this
end
end Go.Proofs.Ytbfcmfjdjldepaa.V
