/-
  Memory, fifth: append, and where its answer lies: in the old block or in a fresh one.
-/
import Derived.Test.YtnaebllojkodbaaVtree
namespace Go.Proofs.Ytnaebllojkodbaa.V
open Go Go.RowKit

section
variable {P : Program} {L : Loc} {x y z : Operand} {u v : Value} {t t' e : TypeId} {n : Nat} {K : Loc → World → Prop} {w : World} {o : Oper}

theorem append_block {B bytes : Nat} {z0 : Value} {p p' : Option Addr} {m c k c' c'' : Nat} {xs news : List Value} {ty : TypeId} {w' : World} {ad : Addr} {i : TypeInfo} (ht : P.underlying t = some (.slice e)) (hi : P.info? e = some i) (hz0 : i.zero = some z0) (hsz : i.size = 1) (hbs : i.bytes = bytes) (hz : z0.cells.size = 1)
    (hown : Own w B e p m c xs) (hr : Rd w (some ad) news) (hl : news.length = k) (h1c : ∀ u ∈ news, u.oneCell' = true) (hmax : m + k ≤ 1099511627776) (hby : bytes ≤ 64)
    (hrun : (Builtin.append_ #[t, t] ty #[.slice p m c, .slice (some ad) k c']).run P w = .ok (.slice p' (m + k) c'') w') :
    ∀ b, p' = some ⟨b, 0, none⟩ → p = some ⟨b, 0, none⟩ ∨ w.heap.size ≤ b := by
  subst hbs
  have hbytes : (m + k) * i.bytes ≤ 140737488355328 := by
    have : (m + k) * i.bytes ≤ 1099511627776 * 64 := Nat.mul_le_mul hmax hby
    omega
  intro b hb
  rcases hown.2 with ⟨hv, rfl⟩ | ⟨g, cap, cur, hv, hb0, hg, hnc, hcm, hcs, hx⟩
  · cases hv
    obtain ⟨v2, w2, hrun2, r1, _, _⟩ := run_append_own (P := P) w w.heap.size t ty e i z0 1 i.bytes ht hi hz0 hsz rfl hz (by omega) (.slice none 0 0) 0 xs (by
      have hx : xs = [] := List.eq_nil_of_length_eq_zero (by have := hown.1; simpa using this)
      rw [hx]; exact World.ownsRow_nil w w.heap.size e 1) ad k c' news (by omega) hr.cells h1c (by unfold maxLen; omega) (by omega) (Nat.le_refl _)
    rw [hrun] at hrun2
    cases hrun2
    right
    exact (Own.block (w := w') (B := w.heap.size) (e := e) (xs := xs ++ news) r1 hb).1
  · cases hv
    by_cases hroom : m + k ≤ c
    · left
      obtain ⟨w2, hrun2, _, _⟩ := run_append_fits (P := P) w B t ty e i 1 ht hi hsz g m c xs hown ad k c' news (by omega) hr.cells h1c hroom
      rw [hrun] at hrun2
      cases hrun2
      exact hb
    · right
      have hgrow := run_append_grow (P := P) w t ty e i z0 ht hi hz0 ⟨g, 0, none⟩ m c xs (by rw [hsz]; exact hown.1) (fun j v hj => by
        have := hown.rd.cells j v hj; exact this) ad k c' news (by rw [hsz]; omega) hr.cells (by omega) (by omega) (growslice_fits (by omega) hbytes)
      rw [hrun] at hgrow
      cases hgrow
      cases hb
      exact Nat.le_refl _

theorem Step.append2 {d B bytes : Nat} {z0 : Value} {p q : Option Addr} {m c k c' : Nat} {xs news : List Value} {tys : Array TypeId}
    (hop : o.op = .call { callee := .builtin .append, args := #[x, y], argTypes := #[t, t] }) (hd : o.dst = some d) (hlt : d < n)
    (ht : P.underlying t = some (.slice e)) (hE : Elem P e 1 bytes z0) (hz : z0.cells.size = 1) (_htys : tys = #[t, t])
    (h1 : ev L x = some (.slice p m c)) (h2 : ev L y = some (.slice q k c')) (hown : Own w B e p m c xs) (hr : Rd w q news) (hl : news.length = k) (h1c : ∀ u ∈ news, u.oneCell' = true)
    (hmax : m + k ≤ 1099511627776) (hby : bytes ≤ 64) (hB : B ≤ w.heap.size)
    (h : ∀ p' c' w', Own w' B e p' (m + k) c' (xs ++ news) → w.grownBy w' (Value.ownBlock (.slice p m c)) → Below B w w' → (∀ b, p' = some ⟨b, 0, none⟩ → p = some ⟨b, 0, none⟩ ∨ w.heap.size ≤ b) → K ((d, .slice p' (m + k) c') :: L) w') : Step P n o L w K := by
  obtain ⟨i, hi, hz0, hsz, hbs⟩ := hE.parts
  have hbytes : (m + k) * bytes ≤ 140737488355328 := by
    have : (m + k) * bytes ≤ 1099511627776 * 64 := Nat.mul_le_mul hmax hby
    omega
  intro a hk Q
  have e1 := hk.ev h1; have e2 := hk.ev h2
  cases q with
  | some ad =>
    obtain ⟨v', w', hrun, r1, r2, _⟩ := run_append_own (P := P) w B t o.type e i z0 1 bytes ht hi hz0 hsz hbs hz (by omega) (.slice p m c) m xs hown ad k c' news (by omega) hr.cells h1c
      (by unfold maxLen; omega) hbytes hB
    have hshape : ∃ p' c'', v' = .slice p' (m + k) c'' := by
      rcases r1.2 with ⟨hv, hn⟩ | ⟨g, cap, cur, hv, _⟩
      · exact ⟨none, 0, by rw [hv, ← hn]⟩
      · exact ⟨_, _, hv⟩
    obtain ⟨p', c'', rfl⟩ := hshape
    unfold Oper.wp
    have hex : (execOp a.eval o).run P w = .ok (.value (.slice p' (m + k) c'')) w' := by
      simp [execOp, hop, resolve, invoke, builtin, e1, e2, hrun, Result.andThen]
    rw [hex, Oper.upon_value, hd]
    exact ⟨_, hk.put hlt _, h _ _ _ r1 r2 (below_of_own hown r2 hB) (append_block ht hi hz0 hsz hbs hz hown hr hl h1c hmax hby hrun)⟩
  | none =>
    have hnews := hr.none_nil
    subst hnews
    obtain rfl : k = 0 := by simpa using hl.symm
    have hrun : (Builtin.append_ #[t, t] o.type #[.slice p m c, .slice none 0 c']).run P w = .ok (.slice p m c) w := by
      rcases hown.2 with ⟨hv, rfl⟩ | ⟨g, cap, cur, hv, _, _, hnc, _⟩
      · cases hv
        simp [Builtin.append_, run_underlying ht, sizeOf, typeInfo, hi, Builtin.lenOf, Builtin.firstCells]
      · cases hv
        simp [Builtin.append_, run_underlying ht, sizeOf, typeInfo, hi, Builtin.lenOf, Builtin.firstCells, hnc, storeCells]
    unfold Oper.wp
    have hex : (execOp a.eval o).run P w = .ok (.value (.slice p m c)) w := by
      simp [execOp, hop, resolve, invoke, builtin, e1, e2, hrun, Result.andThen]
    rw [hex, Oper.upon_value, hd]
    refine ⟨_, hk.put hlt _, h p c w ?_ ⟨rfl, rfl, rfl, Nat.le_refl _, fun _ _ _ => rfl⟩ (Below.refl _ _) fun b hb => .inl hb⟩
    simpa using hown
end
end Go.Proofs.Ytnaebllojkodbaa.V
