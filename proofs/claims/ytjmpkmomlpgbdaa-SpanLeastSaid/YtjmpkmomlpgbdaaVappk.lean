/-
  Append: what was there before is still read at the old place.
-/
import Derived.Test.YtjmpkmomlpgbdaaVmem5
namespace Go.Proofs.Ytjmpkmomlpgbdaa.V
open Go Go.RowKit

section
variable {P : Program} {L : Loc} {x y z : Operand} {u v : Value} {t t' e : TypeId} {n : Nat} {K : Loc → World → Prop} {w : World} {o : Oper}

theorem append_keep {B bytes : Nat} {z0 : Value} {p p' : Option Addr} {m c k c' c'' : Nat} {xs news : List Value} {ty : TypeId} {w' : World} {ad : Addr} {i : TypeInfo} (ht : P.underlying t = some (.slice e)) (hi : P.info? e = some i) (hz0 : i.zero = some z0) (hsz : i.size = 1) (hbs : i.bytes = bytes)
    (hown : Own w B e p m c xs) (hr : Rd w (some ad) news) (hl : news.length = k) (h1c : ∀ u ∈ news, u.oneCell' = true) (hmax : m + k ≤ 1099511627776) (hby : bytes ≤ 64)
    (hrun : (Builtin.append_ #[t, t] ty #[.slice p m c, .slice (some ad) k c']).run P w = .ok (.slice p' (m + k) c'') w') (hown' : Own w' B e p' (m + k) c'' (xs ++ news)) : Rd w' p xs := by
  subst hbs
  have hbytes : (m + k) * i.bytes ≤ 140737488355328 := by
    have : (m + k) * i.bytes ≤ 1099511627776 * 64 := Nat.mul_le_mul hmax hby
    omega
  rcases hown.2 with ⟨hv, rfl⟩ | ⟨g, cap, cur, hv, hb0, hg, hnc, hcm, hcs, hx⟩
  · have hx : xs = [] := List.eq_nil_of_length_eq_zero (by have := hown.1; simpa using this)
    rw [hx]; exact Rd.nil _ _
  · cases hv
    by_cases hroom : m + k ≤ c
    · obtain ⟨w2, hrun2, _, _⟩ := run_append_fits (P := P) w B t ty e i 1 ht hi hsz g m c xs hown ad k c' news (by omega) hr.cells h1c hroom
      rw [hrun] at hrun2
      cases hrun2
      have h := hown'.rd.take xs.length
      rwa [List.take_left] at h
    · have hgrow := run_append_grow (P := P) w t ty e i z0 ht hi hz0 ⟨g, 0, none⟩ m c xs (by rw [hsz]; exact hown.1) (fun j v hj => by
        have := hown.rd.cells j v hj; exact this) ad k c' news (by rw [hsz]; omega) hr.cells (by omega) (by omega) (growslice_fits (by omega) hbytes)
      rw [hrun] at hgrow
      cases hgrow
      exact hown.rd.drew.below ((Below.refl _ w.drew).alloc (Nat.le_refl _) _)

theorem Step.append4 {d B bytes : Nat} {z0 : Value} {p q : Option Addr} {m c k c' : Nat} {xs news : List Value} {tys : Array TypeId}
    (hop : o.op = .call { callee := .builtin .append, args := #[x, y], argTypes := #[t, t] }) (hd : o.dst = some d) (hlt : d < n)
    (ht : P.underlying t = some (.slice e)) (hE : Elem P e 1 bytes z0) (hz : z0.cells.size = 1) (_htys : tys = #[t, t])
    (h1 : ev L x = some (.slice p m c)) (h2 : ev L y = some (.slice q k c')) (hown : Own w B e p m c xs) (hr : Rd w q news) (hl : news.length = k) (h1c : ∀ u ∈ news, u.oneCell' = true)
    (hmax : m + k ≤ 1099511627776) (hby : bytes ≤ 64) (hB : B ≤ w.heap.size)
    (h : ∀ p' c' w', Own w' B e p' (m + k) c' (xs ++ news) → w.grownBy w' (Value.ownBlock (.slice p m c)) → Below B w w' → (∀ b, p' = some ⟨b, 0, none⟩ → p = some ⟨b, 0, none⟩ ∨ w.heap.size ≤ b) → Rd w' p xs → K ((d, .slice p' (m + k) c') :: L) w') : Step P n o L w K := by
  obtain ⟨i, hi, hz0, hsz, hbs⟩ := hE.parts
  have hbytes : (m + k) * bytes ≤ 140737488355328 := by
    have : (m + k) * bytes ≤ 1099511627776 * 64 := Nat.mul_le_mul hmax hby
    omega
  intro a hk Q
  have e1 := hk.ev h1; have e2 := hk.ev h2
  cases q with
  | some ad =>
    obtain ⟨v', w', hrun, r1, r2, _⟩ := run_append_own (P := P) w B t o.type e i z0 1 bytes ht hi hz0 hsz hbs hz (by omega) (.slice p m c) m xs hown ad k c' news (by omega) hr.cells h1c
      (by unfold maxLen; omega) hbytes hB
    have hshape : ∃ p' c'', v' = .slice p' (m + k) c'' := by
      rcases r1.2 with ⟨hv, hn⟩ | ⟨g, cap, cur, hv, _⟩
      · exact ⟨none, 0, by rw [hv, ← hn]⟩
      · exact ⟨_, _, hv⟩
    obtain ⟨p', c'', rfl⟩ := hshape
    unfold Oper.wp
    have hex : (execOp a.eval o).run P w = .ok (.value (.slice p' (m + k) c'')) w' := by
      simp [execOp, hop, resolve, invoke, builtin, e1, e2, hrun, Result.andThen]
    rw [hex, Oper.upon_value, hd]
    exact ⟨_, hk.put hlt _, h _ _ _ r1 r2 (below_of_own hown r2 hB) (append_block ht hi hz0 hsz hbs hz hown hr hl h1c hmax hby hrun) (append_keep ht hi hz0 hsz hbs hown hr hl h1c hmax hby hrun r1)⟩
  | none =>
    have hnews := hr.none_nil
    subst hnews
    obtain rfl : k = 0 := by simpa using hl.symm
    have hrun : (Builtin.append_ #[t, t] o.type #[.slice p m c, .slice none 0 c']).run P w = .ok (.slice p m c) w := by
      rcases hown.2 with ⟨hv, rfl⟩ | ⟨g, cap, cur, hv, _, _, hnc, _⟩
      · cases hv
        simp [Builtin.append_, run_underlying ht, sizeOf, typeInfo, hi, Builtin.lenOf, Builtin.firstCells]
      · cases hv
        simp [Builtin.append_, run_underlying ht, sizeOf, typeInfo, hi, Builtin.lenOf, Builtin.firstCells, hnc, storeCells]
    unfold Oper.wp
    have hex : (execOp a.eval o).run P w = .ok (.value (.slice p m c)) w := by
      simp [execOp, hop, resolve, invoke, builtin, e1, e2, hrun, Result.andThen]
    rw [hex, Oper.upon_value, hd]
    refine ⟨_, hk.put hlt _, h p c w ?_ ⟨rfl, rfl, rfl, Nat.le_refl _, fun _ _ _ => rfl⟩ (Below.refl _ _) (fun b hb => .inl hb) hown.rd⟩
    simpa using hown
end
/-- an older view of the slice is still read -/
theorem keep_old {w w' : World} {B g1 m c : Nat} {e : TypeId} {p : Option Addr} {L0 xs : List Value} (hO : Own w B e p m c xs) (hpre : L0 <+: xs) (hrd : Rd w (some ⟨g1, 0, none⟩) L0) (hg : w.grownBy w' (Value.ownBlock (.slice p m c))) (hK : Rd w' p xs) : Rd w' (some ⟨g1, 0, none⟩) L0 := by
  by_cases e1 : p = some ⟨g1, 0, none⟩
  · subst e1
    have h := hK.take L0.length
    obtain ⟨t, rfl⟩ := hpre
    rwa [List.take_left] at h
  · refine hrd.grown hg fun b off hb => ?_
    injection hb with hb
    injection hb with hb1 hb2
    subst hb1
    rcases hO.2 with ⟨hv, _⟩ | ⟨g, cap, cur, hv, _⟩
    · cases hv; simp [Value.ownBlock]
    · cases hv
      simp only [Value.ownBlock]
      intro h
      injection h with h
      subst h
      exact e1 rfl
end Go.Proofs.Ytjmpkmomlpgbdaa.V
