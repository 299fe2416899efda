/-
  The builtin copy into an own slice, from some place on; the source may be the slice itself.
-/
import Derived.Test.YtpogedmkmplckaaVgrow
import Derived.Laws.CopyRow
namespace Go.Proofs.Ytpogedmkmplckaa.V
open Go Go.RowKit

section
variable {P : Program} {L : Loc} {x y : Operand} {t t' e : TypeId} {n : Nat} {K : Loc → World → Prop} {w : World} {o : Oper}

theorem Step.copyOwn {d B bytes m c l dl dc k kc : Nat} {z0 : Value} {p q : Option Addr} {xs cs : List Value} (hop : o.op = .call { callee := .builtin .copy, args := #[x, y], argTypes := #[t, t'] }) (hd : o.dst = some d) (hlt : d < n)
    (ht : P.underlying t = some (.slice e)) (hE : Elem P e 1 bytes z0)
    (h1 : ev L x = some (.slice (cutAt p c l) dl dc)) (h2 : ev L y = some (.slice q k kc)) (hr : Rd w q cs) (hk : cs.length = k) (h1c : ∀ u ∈ cs, u.oneCell' = true)
    (hlm : l + dl ≤ m) (hO : Own w B e p m c xs) (hB : B ≤ w.heap.size)
    (h : ∀ w', Own w' B e p m c (xs.take l ++ cs.take dl ++ xs.drop (l + Nat.min k dl)) → w.grownBy w' (Value.ownBlock (.slice p m c)) → Below B w w' → w'.heap.size = w.heap.size → K ((d, .int .i64 (Nat.min k dl : Nat)) :: L) w') : Step P n o L w K := by
  have hlx := hO.length
  have hcap := hO.le_cap
  have fin : ∀ v w', (Builtin.copy_ #[t, t'] o.type #[.slice (cutAt p c l) dl dc, .slice q k kc]).run P w = .ok v w' → v = .int .i64 (Nat.min k dl : Nat) → K ((d, .int .i64 (Nat.min k dl : Nat)) :: L) w' → Step P n o L w K := by
    intro v w' hrun hv hK a hka Q
    subst hv
    have e1 := hka.ev h1; have e2 := hka.ev h2
    unfold Oper.wp
    have hex : (execOp a.eval o).run P w = .ok (.value (.int .i64 (Nat.min k dl : Nat))) w' := by
      simp [execOp, hop, resolve, invoke, builtin, e1, e2, hrun, Result.andThen]
    rw [hex, Oper.upon_value, hd]
    exact ⟨_, hka.put hlt _, hK⟩
  obtain ⟨i, hi, hz0, hs, _⟩ := hE.parts
  have hmin : Nat.min k dl = k ∨ Nat.min k dl = dl := by
    rcases Nat.le_total k dl with h | h
    · exact .inl (Nat.min_eq_left h)
    · exact .inr (Nat.min_eq_right h)
  by_cases h0 : Nat.min k dl = 0
  · have hnone : (Builtin.copy_ #[t, t'] o.type #[.slice (cutAt p c l) dl dc, .slice q k kc]).run P w = .ok (goInt 0) w := by
      cases hc : cutAt p c l <;> cases q <;> simp [Builtin.copy_, run_underlying ht, Builtin.lenOf, sizeOf, typeInfo, hi, h0, Builtin.firstCells, storeCells, loadCells, go_sem]
    refine fin _ w hnone (by rw [h0]; rfl) (h w ?_ ⟨rfl, rfl, rfl, Nat.le_refl _, fun _ _ _ => rfl⟩ (Below.refl _ _) rfl)
    have hct : cs.take dl = [] := by
      rcases Nat.eq_zero_or_pos dl with hdl | hdl
      · rw [hdl]; rfl
      · have : k = 0 := by
          rcases hmin with hkd | hkd <;> omega
        rw [List.eq_nil_of_length_eq_zero (hk.trans this)]; simp
    rw [hct, h0, Nat.add_zero, List.append_nil, List.take_append_drop]; exact hO
  · have hkd : 0 < k ∧ 0 < dl := by
      constructor
      · rcases Nat.eq_zero_or_pos k with e | e
        · subst e; simp at h0
        · exact e
      · rcases Nat.eq_zero_or_pos dl with e | e
        · subst e; simp at h0
        · exact e
    obtain ⟨g, rfl⟩ := hO.head (by omega)
    cases q with
    | none => have := hr.none_nil; subst this; simp at hk; omega
    | some ad =>
      rcases hO.2 with ⟨hv, _⟩ | ⟨g', cap, cur, hv, hb, hg, hnc, hcm, hcs, htk⟩
      · cases hv
      · cases hv
        simp only [Nat.mul_one] at hcs htk
        have hcut : cutAt (some ⟨g, 0, none⟩) c l = some ⟨g, l, none⟩ := by
          unfold cutAt
          rw [if_neg (by omega), Option.map_some, Addr.add_lit, Nat.zero_add]
        have hlt : (cs.take dl).length = Nat.min k dl := by rw [List.length_take, hk]; exact Nat.min_comm _ _
        have hle : Nat.min k dl ≤ dl := Nat.min_le_right _ _
        have hrun := run_copy_row P w t t' o.type e g l dl dc ad k kc cur e (cs.take dl) ht (by rw [hi]; simp [hs]) hg hlt
          (fun j v hj => by
            rw [List.getElem?_take] at hj
            split at hj
            · exact hr.cells j v hj
            · cases hj) (by rw [hlt]; omega) (fun v hv => h1c v (List.mem_of_mem_take hv))
        rw [hlt] at hrun
        have hgrow : w.grownBy (w.setRow g (cur.toList.take l ++ cs.take dl ++ cur.toList.drop (l + Nat.min k dl)).toArray) (some g) :=
          ⟨rfl, rfl, rfl, by rw [setRow_size]; exact Nat.le_refl _, fun k _ hk => setRow_other w g k _ fun e => hk (by rw [e])⟩
        have hown : Own (w.setRow g (cur.toList.take l ++ cs.take dl ++ cur.toList.drop (l + Nat.min k dl)).toArray) B e (some ⟨g, 0, none⟩) m c (xs.take l ++ cs.take dl ++ xs.drop (l + Nat.min k dl)) := by
          refine ⟨by simp only [List.length_append, List.length_take, List.length_drop, hlt] at *; omega, .inr ⟨g, c, _, rfl, hb, setRow_heap w g cur _ e (0, 0) hg, hnc, hcm, ?_, ?_⟩⟩
          · simp only [List.size_toArray, List.length_append, List.length_take, List.length_drop, Array.length_toList] at *; omega
          · rw [List.toList_toArray, ← htk, Nat.mul_one]
            refine List.ext_getElem? fun i => ?_
            simp only [List.getElem?_take, List.getElem?_append, List.getElem?_drop, List.length_append, List.length_take, Array.length_toList, hlt, hk]
            rw [Nat.min_eq_left (show l ≤ cur.size by omega), Nat.min_eq_left (show m ≤ cur.size by omega), Nat.min_eq_left (show l ≤ m by omega)]
            by_cases hi : i < m
            · rw [if_pos hi]
              by_cases h2 : i < l
              · simp [h2, hi, show i < l + Nat.min k dl by omega]
              · by_cases h3 : i < l + Nat.min k dl
                · simp [h2, h3]
                · rw [if_neg h3, if_neg h3, if_pos (by omega)]
            · rw [if_neg hi, if_neg (by omega), if_neg (by omega)]
        refine fin _ _ ?_ rfl (h _ hown hgrow (below_of_own hO hgrow hB) (by simp))
        rw [hcut]
        exact hrun
end
end Go.Proofs.Ytpogedmkmplckaa.V
