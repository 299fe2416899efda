/-
  Variables that are arrays of one-cell elements, as own memory.
-/
import Derived.Test.YtbbmgcmibgdkiaaVz2
import Derived.Test.YtbbmgcmibgdkiaaVheap
namespace Go.Proofs.Ytbbmgcmibgdkiaa.V
open Go Go.RowKit

section
variable {P : Program} {S : World → Prop} {L : Loc} {x y : Operand} {t e : TypeId} {n d : Nat} {K : Loc → World → Prop} {w : World} {o : Oper} {B : Nat}

theorem OwnZ.cells {k : Nat} {p : Option Addr} {xs : List Value} (h : OwnZ w B e k p 1 1 xs) (hk : k ≤ maxLen) : Own w B e p k k xs := by
  have hl := h.length
  rcases h.2 with ⟨hv, _⟩ | ⟨g, cap, cur, hv, hb, hg, hnc, hcm, hcs, ht⟩
  · cases hv
  · cases hv
    refine ⟨by omega, .inr ⟨g, k, cur, rfl, hb, hg, Nat.le_refl _, hk, by omega, ?_⟩⟩
    rw [Nat.mul_one]
    rw [Nat.one_mul] at ht
    exact ht

theorem Step.allocArr {k bytes : Nat} {z0 : Value} {xs : List Value} (hop : o.op = .alloc t) (hd : o.dst = some d) (hlt : d < n) (hE : Elem P t k bytes z0) (hz : z0.cells = xs.toArray) (hl : xs.length = k) (hk : k ≤ 1000000)
    (h : ∀ w', Own w' w.heap.size t (some ⟨w.heap.size, 0, none⟩) k k xs → w.grownBy w' none → Below w.heap.size w w' → w'.heap.size = w.heap.size + 1 → K ((d, .pointer (some ⟨w.heap.size, 0, none⟩)) :: L) w') : Step P n o L w K := by
  subst hl
  exact Step.allocZ hop hd hlt hE hz hk fun w' h1 h2 h3 h4 => h w' (h1.cells (by unfold maxLen; omega)) h2 h3 h4

theorem Val.indexArr {bytes m g j : Nat} {z0 : Value} {k : IntKind} (ht : P.underlying t = some (.array m e)) (hE : Elem P e 1 bytes z0)
    (h1 : ev L x = some (.pointer (some ⟨g, 0, none⟩))) (h2 : ev L y = some (.int k (j : Int))) (hj : j < m) :
    Val P S (.indexAddr t x y) L (.pointer ((some (⟨g, 0, none⟩ : Addr)).map (·.add j))) := by
  intro ρ ha w _ dst ty pos after guard
  have e1 := ha h1; have e2 := ha h2
  obtain ⟨i, hi, hz, hs, _⟩ := hE.parts
  simp [execOp, e1, e2, Instr.indexAt, asIntOf, run_underlying ht, run_sizeOf hi, hs, hj, go_sem]

theorem Val.sliceArr {bytes m g : Nat} {z0 : Value} (ht : P.underlying t = some (.array m e)) (hE : Elem P e 1 bytes z0) (h1 : ev L x = some (.pointer (some ⟨g, 0, none⟩))) :
    Val P S (.slice t x none none none) L (.slice (some ⟨g, 0, none⟩) m m) := by
  intro ρ ha w _ dst ty pos after guard
  have e1 := ha h1
  obtain ⟨i, hi, hz, hs, _⟩ := hE.parts
  simp [execOp, e1, Instr.sliceAt, Instr.sliceBounds, Instr.sureAddr, run_underlying ht, run_sizeOf hi, hs, go_sem, Addr.add]
end
end Go.Proofs.Ytbbmgcmibgdkiaa.V
