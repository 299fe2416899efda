/-
  Memory, fourth: the append of so many zeros to the nil slice (slices.Grow), comparing a slice with nil.
-/
import Derived.Test.YtnaebllojkodbaaVmem3
import Derived.Lib.AppendZerosOnto
import Derived.Laws.Cover3
namespace Go.Proofs.Ytnaebllojkodbaa.V
open Go Go.RowKit

section
variable {P : Program} {L : Loc} {x y z : Operand} {u v : Value} {t t' e tn : TypeId} {n : Nat} {K : Loc → World → Prop} {w : World} {o : Oper} {d : Nat}

theorem Step.growNil {B bytes k : Nat} {z0 : Value} {kn : IntKind} (hop : o.op = .call { callee := .builtin .append, args := #[x, y], argTypes := #[t, tn] }) (hd : o.dst = some d) (hlt : d < n)
    (ht : P.underlying t = some (.slice e)) (htn : P.underlying tn = some (.int kn)) (hE : Elem P e 1 bytes z0) (hz : z0.oneCell' = true)
    (h1 : ev L x = some (.slice none 0 0)) (h2 : ev L y = some (.int .i64 (k : Int))) (h0 : 0 < k) (hk : k ≤ 1000000) (hby : bytes ≤ 64) (hB : B ≤ w.heap.size)
    (h : ∀ w' G, Own w' B e (some ⟨w.heap.size, 0, none⟩) 0 G [] → k ≤ G → Below w.heap.size w w' → K ((d, .slice (some ⟨w.heap.size, 0, none⟩) k G) :: L) w') : Step P n o L w K := by
  obtain ⟨i, hi, hz0, hs, hb⟩ := hE.parts
  subst hb
  have hbk : k * i.bytes ≤ 1000000 * 64 := Nat.mul_le_mul hk hby
  have hold : (Builtin.firstCells i.size 0 (.slice none 0 0)).run P w.drew = .ok ([] : List Value).toArray w.drew := by
    simp [Builtin.firstCells, go_sem]
  have hrun := Lib.run_append_grow_zeros (P := P) w t tn o.type e i z0 .i64 kn ht htn hi hz0 none 0 0 [] hold k h0 (by omega) (by omega) (by omega) (by omega)
    (growslice_fits (need := 0 + k) (old := 0) (bytes := i.bytes) (by omega) (by rw [Nat.zero_add]; omega))
  have hGn : k ≤ grownCap w (0 + k) 0 e := by have := grownCap_ge w (0 + k) 0 e; omega
  have hG63 := grownCap_le_maxLen w (0 + k) 0 e (by unfold maxLen; omega)
  generalize grownCap w (0 + k) 0 e = G at hrun hGn hG63
  rw [Nat.zero_add] at hrun
  have hzs : ∀ q, (Builtin.zeroCells z0.cells q).size = q := fun q => by
    rw [cells_one hz]; simp [Builtin.zeroCells]
  have hown : Own (w.drew.alloc (.cells (#[] ++ Builtin.zeroCells z0.cells k ++ Builtin.zeroCells z0.cells (G - k)) e)) B e (some ⟨w.heap.size, 0, none⟩) 0 G [] := by
    refine ⟨rfl, .inr ⟨w.heap.size, G, _, rfl, hB, heap_alloc_new w.drew _, Nat.zero_le _, hG63, ?_, by simp⟩⟩
    simp only [Array.size_append, hzs]
    simp
    omega
  intro a hk2 Q
  have e1 := hk2.ev h1; have e2 := hk2.ev h2
  unfold Oper.wp
  have hex : (execOp a.eval o).run P w = .ok (.value (.slice (some ⟨w.heap.size, 0, none⟩) k G)) (w.drew.alloc (.cells (#[] ++ Builtin.zeroCells z0.cells k ++ Builtin.zeroCells z0.cells (G - k)) e)) := by
    simp only [execOp, hop, resolve, invoke, builtin, List.map_toArray, List.map_cons, List.map_nil, e1, e2]
    simp [hrun, Result.andThen]
  rw [hex, Oper.upon_value, hd]
  exact ⟨_, hk2.put hlt _, h _ G hown hGn ((Below.refl _ w).drew.alloc (Nat.le_refl _) _)⟩

theorem Val.eqlNil {S : World → Prop} {p : Option Addr} {m c : Nat} {q1 : TypeId} (ht : P.underlying t = some (.slice e)) (h1 : ev L x = some (.slice p m c)) (h2 : ev L y = some (.slice none 0 0)) :
    Val P S (.binOp .eql t x y q1) L (.bool p.isNone) := by
  intro ρ ha w _ dst ty pos after guard
  have e1 := ha h1; have e2 := ha h2
  have hq := run_equal_slice_nil (P := P) w t e p m c ht
  simp only [execOp, e1, e2, eqGuard]
  simp only [binOp]
  simp [go_sem, hq]
end
end Go.Proofs.Ytnaebllojkodbaa.V
