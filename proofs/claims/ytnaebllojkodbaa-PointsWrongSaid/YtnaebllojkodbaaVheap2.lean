/-
  Own slices in another order, some of them dropped.
-/
import Derived.Test.YtnaebllojkodbaaVheap
namespace Go.Proofs.Ytnaebllojkodbaa.V
open Go Go.RowKit

section
variable {w : World} {B : Nat} {S : List Ob} {a0 a1 a2 a3 a4 a5 a6 a7 a8 a9 a10 a11 a12 a13 : Ob}
theorem Mem.er0 (h : Mem w B (a0 :: S)) : Mem w B (S) := h.sub (by repeat (first | exact List.sublist_cons_self _ _ | apply List.Sublist.cons_cons))
theorem Mem.sw0 (h : Mem w B (a0 :: a1 :: S)) : Mem w B (a1 :: a0 :: S) := h.perm (by repeat (first | exact List.Perm.swap _ _ _ | apply List.Perm.cons))
theorem Mem.er1 (h : Mem w B (a0 :: a1 :: S)) : Mem w B (a0 :: S) := h.sub (by repeat (first | exact List.sublist_cons_self _ _ | apply List.Sublist.cons_cons))
theorem Mem.sw1 (h : Mem w B (a0 :: a1 :: a2 :: S)) : Mem w B (a0 :: a2 :: a1 :: S) := h.perm (by repeat (first | exact List.Perm.swap _ _ _ | apply List.Perm.cons))
theorem Mem.er2 (h : Mem w B (a0 :: a1 :: a2 :: S)) : Mem w B (a0 :: a1 :: S) := h.sub (by repeat (first | exact List.sublist_cons_self _ _ | apply List.Sublist.cons_cons))
theorem Mem.sw2 (h : Mem w B (a0 :: a1 :: a2 :: a3 :: S)) : Mem w B (a0 :: a1 :: a3 :: a2 :: S) := h.perm (by repeat (first | exact List.Perm.swap _ _ _ | apply List.Perm.cons))
theorem Mem.er3 (h : Mem w B (a0 :: a1 :: a2 :: a3 :: S)) : Mem w B (a0 :: a1 :: a2 :: S) := h.sub (by repeat (first | exact List.sublist_cons_self _ _ | apply List.Sublist.cons_cons))
theorem Mem.sw3 (h : Mem w B (a0 :: a1 :: a2 :: a3 :: a4 :: S)) : Mem w B (a0 :: a1 :: a2 :: a4 :: a3 :: S) := h.perm (by repeat (first | exact List.Perm.swap _ _ _ | apply List.Perm.cons))
theorem Mem.er4 (h : Mem w B (a0 :: a1 :: a2 :: a3 :: a4 :: S)) : Mem w B (a0 :: a1 :: a2 :: a3 :: S) := h.sub (by repeat (first | exact List.sublist_cons_self _ _ | apply List.Sublist.cons_cons))
theorem Mem.sw4 (h : Mem w B (a0 :: a1 :: a2 :: a3 :: a4 :: a5 :: S)) : Mem w B (a0 :: a1 :: a2 :: a3 :: a5 :: a4 :: S) := h.perm (by repeat (first | exact List.Perm.swap _ _ _ | apply List.Perm.cons))
theorem Mem.er5 (h : Mem w B (a0 :: a1 :: a2 :: a3 :: a4 :: a5 :: S)) : Mem w B (a0 :: a1 :: a2 :: a3 :: a4 :: S) := h.sub (by repeat (first | exact List.sublist_cons_self _ _ | apply List.Sublist.cons_cons))
theorem Mem.sw5 (h : Mem w B (a0 :: a1 :: a2 :: a3 :: a4 :: a5 :: a6 :: S)) : Mem w B (a0 :: a1 :: a2 :: a3 :: a4 :: a6 :: a5 :: S) := h.perm (by repeat (first | exact List.Perm.swap _ _ _ | apply List.Perm.cons))
theorem Mem.er6 (h : Mem w B (a0 :: a1 :: a2 :: a3 :: a4 :: a5 :: a6 :: S)) : Mem w B (a0 :: a1 :: a2 :: a3 :: a4 :: a5 :: S) := h.sub (by repeat (first | exact List.sublist_cons_self _ _ | apply List.Sublist.cons_cons))
theorem Mem.sw6 (h : Mem w B (a0 :: a1 :: a2 :: a3 :: a4 :: a5 :: a6 :: a7 :: S)) : Mem w B (a0 :: a1 :: a2 :: a3 :: a4 :: a5 :: a7 :: a6 :: S) := h.perm (by repeat (first | exact List.Perm.swap _ _ _ | apply List.Perm.cons))
theorem Mem.er7 (h : Mem w B (a0 :: a1 :: a2 :: a3 :: a4 :: a5 :: a6 :: a7 :: S)) : Mem w B (a0 :: a1 :: a2 :: a3 :: a4 :: a5 :: a6 :: S) := h.sub (by repeat (first | exact List.sublist_cons_self _ _ | apply List.Sublist.cons_cons))
theorem Mem.sw7 (h : Mem w B (a0 :: a1 :: a2 :: a3 :: a4 :: a5 :: a6 :: a7 :: a8 :: S)) : Mem w B (a0 :: a1 :: a2 :: a3 :: a4 :: a5 :: a6 :: a8 :: a7 :: S) := h.perm (by repeat (first | exact List.Perm.swap _ _ _ | apply List.Perm.cons))
theorem Mem.er8 (h : Mem w B (a0 :: a1 :: a2 :: a3 :: a4 :: a5 :: a6 :: a7 :: a8 :: S)) : Mem w B (a0 :: a1 :: a2 :: a3 :: a4 :: a5 :: a6 :: a7 :: S) := h.sub (by repeat (first | exact List.sublist_cons_self _ _ | apply List.Sublist.cons_cons))
theorem Mem.sw8 (h : Mem w B (a0 :: a1 :: a2 :: a3 :: a4 :: a5 :: a6 :: a7 :: a8 :: a9 :: S)) : Mem w B (a0 :: a1 :: a2 :: a3 :: a4 :: a5 :: a6 :: a7 :: a9 :: a8 :: S) := h.perm (by repeat (first | exact List.Perm.swap _ _ _ | apply List.Perm.cons))
theorem Mem.er9 (h : Mem w B (a0 :: a1 :: a2 :: a3 :: a4 :: a5 :: a6 :: a7 :: a8 :: a9 :: S)) : Mem w B (a0 :: a1 :: a2 :: a3 :: a4 :: a5 :: a6 :: a7 :: a8 :: S) := h.sub (by repeat (first | exact List.sublist_cons_self _ _ | apply List.Sublist.cons_cons))
theorem Mem.sw9 (h : Mem w B (a0 :: a1 :: a2 :: a3 :: a4 :: a5 :: a6 :: a7 :: a8 :: a9 :: a10 :: S)) : Mem w B (a0 :: a1 :: a2 :: a3 :: a4 :: a5 :: a6 :: a7 :: a8 :: a10 :: a9 :: S) := h.perm (by repeat (first | exact List.Perm.swap _ _ _ | apply List.Perm.cons))
end
end Go.Proofs.Ytnaebllojkodbaa.V
