/-
  The builtin clear on an own slice, from some place on.
-/
import Derived.Test.YtldcpihjoakigaaVgrow
import Derived.Laws.CopyRow
namespace Go.Proofs.Ytldcpihjoakigaa.V
open Go Go.RowKit

section
variable {P : Program} {L : Loc} {x : Operand} {t e : TypeId} {n : Nat} {K : Loc → World → Prop} {w : World} {o : Oper}

theorem Step.clear {B bytes m c l : Nat} {z0 : Value} {p : Option Addr} {xs : List Value} (hop : o.op = .call { callee := .builtin .clear, args := #[x], argTypes := #[t] }) (hd : o.dst = none)
    (ht : P.underlying t = some (.slice e)) (hE : Elem P e 1 bytes z0) (hz : z0.cells = #[z0]) (h1c : z0.oneCell' = true)
    (h1 : ev L x = some (.slice (cutAt p c l) (m - l) (c - l))) (hlm : l ≤ m) (hO : Own w B e p m c xs) (hB : B ≤ w.heap.size)
    (h : ∀ w', Own w' B e p m c (xs.take l ++ List.replicate (m - l) z0) → w.grownBy w' (Value.ownBlock (.slice p m c)) → Below B w w' → w'.heap.size = w.heap.size → K L w') : Step P n o L w K := by
  have hlx := hO.length
  have hcap := hO.le_cap
  have fin : ∀ w', (Builtin.clear_ #[t] o.type #[.slice (cutAt p c l) (m - l) (c - l)]).run P w = .ok (.tuple #[]) w' → K L w' → Step P n o L w K := by
    intro w' hrun hK a hk Q
    have e1 := hk.ev h1
    unfold Oper.wp
    have hex : (execOp a.eval o).run P w = .ok (.value (.tuple #[])) w' := by
      simp [execOp, hop, resolve, invoke, builtin, e1, hrun, Result.andThen]
    rw [hex, Oper.upon_value, hd]
    exact ⟨_, hk, hK⟩
  by_cases h0 : m - l = 0
  · refine fin w ?_ (h w ?_ ⟨rfl, rfl, rfl, Nat.le_refl _, fun _ _ _ => rfl⟩ (Below.refl _ _) rfl)
    · rw [h0]
      cases cutAt p c l <;> simp [Builtin.clear_, run_underlying ht, go_sem]
    · rw [h0, List.replicate_zero, List.append_nil, List.take_of_length_le (by omega)]; exact hO
  · obtain ⟨g, rfl⟩ := hO.head (by omega)
    rcases hO.2 with ⟨hv, _⟩ | ⟨g', cap, cur, hv, hb, hg, hnc, hcm, hcs, htk⟩
    · cases hv
    · cases hv
      simp only [Nat.mul_one] at hcs htk
      have hcut : cutAt (some ⟨g, 0, none⟩) c l = some ⟨g, l, none⟩ := by
        unfold cutAt
        rw [if_neg (by omega), Option.map_some, Addr.add_lit, Nat.zero_add]
      have hst := run_storeCells_at (P := P) g l e (List.replicate (m - l) z0) 0 cur w hg (by simp; omega) (fun v hv => by rw [List.eq_of_mem_replicate hv]; exact h1c)
      rw [Nat.add_zero, List.length_replicate] at hst
      have hzc : (Builtin.zeroCells z0.cells (m - l)).toList = List.replicate (m - l) z0 := by
        rw [hz]
        simp [Builtin.zeroCells]
        apply List.ext_getElem
        · simp
        · intro i h1 h2
          simp [Nat.mod_one]
      have hgrow : w.grownBy (w.setRow g (cur.toList.take l ++ List.replicate (m - l) z0 ++ cur.toList.drop (l + (m - l))).toArray) (some g) :=
        ⟨rfl, rfl, rfl, by rw [setRow_size]; exact Nat.le_refl _, fun k _ hk => setRow_other w g k _ fun e => hk (by rw [e])⟩
      have hown : Own (w.setRow g (cur.toList.take l ++ List.replicate (m - l) z0 ++ cur.toList.drop (l + (m - l))).toArray) B e (some ⟨g, 0, none⟩) m c (xs.take l ++ List.replicate (m - l) z0) := by
        refine ⟨by simp; omega, .inr ⟨g, c, _, rfl, hb, setRow_heap w g cur _ e (0, 0) hg, hnc, hcm, ?_, ?_⟩⟩
        · simp only [List.size_toArray, List.length_append, List.length_take, List.length_drop, List.length_replicate, Array.length_toList]; omega
        · rw [List.toList_toArray, ← htk, Nat.mul_one]
          refine List.ext_getElem? fun i => ?_
          simp only [List.getElem?_take, List.getElem?_append, List.getElem?_drop, List.length_append, List.length_take, Array.length_toList, List.length_replicate, List.getElem?_replicate]
          rw [Nat.min_eq_left (show l ≤ cur.size by omega), Nat.min_eq_left (show m ≤ cur.size by omega), Nat.min_eq_left (show l ≤ m by omega)]
          by_cases hi : i < m
          · rw [if_pos hi, if_pos (by omega)]
            by_cases h2 : i < l
            · rw [if_pos h2, if_pos h2, if_pos h2]; simp [hi, h2]
            · rw [if_neg h2, if_neg h2]
          · rw [if_neg hi, if_neg (by omega), if_neg (by omega)]
      refine fin _ ?_ (h _ hown hgrow (below_of_own hO hgrow hB) (by simp))
      rw [hcut]
      obtain ⟨i, hi, hz0, hs, _⟩ := hE.parts
      have hzv : (zeroValue e).run P w = .ok z0 w := by simp [zeroValue, typeInfo, hi, hz0, go_sem]
      obtain ⟨k, hk⟩ : ∃ k, m - l = k + 1 := ⟨m - l - 1, by omega⟩
      rw [hk] at hst hzc ⊢
      simp [Builtin.clear_, run_underlying ht, hzv, hzc, hst]
end
end Go.Proofs.Ytldcpihjoakigaa.V
