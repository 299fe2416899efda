/-
  Slices of slices of truth values of the call's own: each inner slice is an own block of its own.
-/
import Derived.Test.YtbfcmfjdjldepaaVww
namespace Go.Proofs.Ytbfcmfjdjldepaa.V
open Go Go.RowKit

/-- the blocks of the inner ones -/
def tb (e : TypeId) (C : List Wd) : List Ob := C.map fun x => ⟨e, x.p, x.l.length, x.c, bv x.l⟩
theorem tb_app1 (e : TypeId) (C : List Wd) (x : Wd) : tb e (C ++ [x]) = tb e C ++ [⟨e, x.p, x.l.length, x.c, bv x.l⟩] := by simp [tb]
theorem wv_app1 (C : List Wd) (x : Wd) : wv C ++ [.slice x.p x.l.length x.c] = wv (C ++ [x]) := by simp [wv]
theorem Mem.rdW {w : World} {B : Nat} {S : List Ob} {eo e : TypeId} {p : Option Addr} {m c : Nat} {C : List Wd} (h : Mem w B (⟨eo, p, m, c, wv C⟩ :: S)) (hin : ∀ o ∈ tb e C, o ∈ S) : RdW w p C := by
  refine ⟨h.o0.rd, fun x hx => ?_, fun x hx => ?_⟩
  · exact (h.all _ (List.mem_cons_of_mem _ (hin ⟨e, x.p, x.l.length, x.c, bv x.l⟩ (List.mem_map.2 ⟨x, hx, rfl⟩)))).rd
  · have ho := h.all _ (List.mem_cons_of_mem _ (hin ⟨e, x.p, x.l.length, x.c, bv x.l⟩ (List.mem_map.2 ⟨x, hx, rfl⟩)))
    exact ⟨ho.le_cap, ho.cap_max⟩
/-- the newest one goes behind all -/
theorem Mem.last1 {w : World} {B : Nat} {S : List Ob} {o a : Ob} (h : Mem w B (o :: a :: S)) : Mem w B (a :: (S ++ [o])) := by
  refine h.perm ?_
  have : (a :: (S ++ [o])) = (a :: S) ++ [o] := rfl
  rw [this]
  exact List.perm_append_comm (l₁ := a :: S) (l₂ := [o])
end Go.Proofs.Ytbfcmfjdjldepaa.V
