/-
  Own memory through a round of a range over a function; a longer own slice shrunk again.
-/
import Derived.Test.YtnaebllojkodbaaVheap
import Derived.Test.YtnaebllojkodbaaVmem5
import Derived.Test.YtnaebllojkodbaaVyield
namespace Go.Proofs.Ytnaebllojkodbaa.V
open Go Go.RowKit

/-- what a round keeps: all but the loop's record -/
structure KeptBut (l : Nat) (w w' : World) : Prop where
  size : w.heap.size ≤ w'.heap.size
  same : ∀ b, b < w.heap.size → b ≠ l → w'.heap[b]? = w.heap[b]?
theorem KeptBut.trans {l : Nat} {a b c : World} (h : KeptBut l a b) (k : KeptBut l b c) : KeptBut l a c := ⟨Nat.le_trans h.size k.size, fun q hq hne => (k.same q (by have := h.size; omega) hne).trans (h.same q hq hne)⟩
theorem Own.shrink {w : World} {B : Nat} {e : TypeId} {p : Option Addr} {m m2 c : Nat} {xs : List Value} (h : Own w B e p m c xs) (hm : m2 ≤ m) : Own w B e p m2 c (xs.take m2) := by
  obtain ⟨hl, ⟨hv, h0⟩ | ⟨g, cap, cur, hv, hb, hg, h1, h2, h3, h4⟩⟩ := h
  · cases hv
    obtain rfl : m2 = 0 := by omega
    exact ⟨by simp, .inl ⟨rfl, rfl⟩⟩
  · cases hv
    refine ⟨by rw [List.length_take]; omega, .inr ⟨g, c, cur, rfl, hb, hg, by omega, h2, h3, ?_⟩⟩
    have := congrArg (List.take m2) h4
    rw [List.take_take] at this
    rw [← this]
    congr 1; omega
theorem Own.kept {w w' : World} {B l : Nat} {e : TypeId} {p : Option Addr} {m c : Nat} {xs : List Value} {r : Loop} (h : Own w B e p m c xs) (hl : w.heap[l]? = some (.loop r)) (hk : KeptBut l w w') : Own w' B e p m c xs := by
  obtain ⟨hl9, h | ⟨g, cap, cur, hv, hb, hg, h1, h2, h3, h4⟩⟩ := h
  · exact ⟨hl9, .inl h⟩
  · refine ⟨hl9, .inr ⟨g, cap, cur, hv, hb, ?_, h1, h2, h3, h4⟩⟩
    rw [hk.same g (Array.getElem?_eq_some_iff.1 hg).1 (fun e => by subst e; rw [hg] at hl; cases hl)]
    exact hg
theorem Mem.kept {w w' : World} {B l : Nat} {S : List Ob} {r : Loop} (h : Mem w B S) (hl : w.heap[l]? = some (.loop r)) (hk : KeptBut l w w') : Mem w' B S := ⟨fun o ho => (h.all o ho).kept hl hk, h.apart⟩

section
variable {P : Program} {L : Loc} {x y z : Operand} {u v : Value} {t t' e : TypeId} {n : Nat} {K : Loc → World → Prop} {w : World} {o : Oper}
theorem append_two {B bytes : Nat} {z0 : Value} {p p' : Option Addr} {m c k c' c'' : Nat} {xs news : List Value} {ty : TypeId} {w' : World} {ad : Addr} {i : TypeInfo} (ht : P.underlying t = some (.slice e)) (hi : P.info? e = some i) (hz0 : i.zero = some z0) (hsz : i.size = 1) (hbs : i.bytes = bytes)
    (hown : Own w B e p m c xs) (hr : Rd w (some ad) news) (hl : news.length = k) (h1c : ∀ u ∈ news, u.oneCell' = true) (hmax : m + k ≤ 1099511627776) (hby : bytes ≤ 64)
    (hrun : (Builtin.append_ #[t, t] ty #[.slice p m c, .slice (some ad) k c']).run P w = .ok (.slice p' (m + k) c'') w') (hown' : Own w' B e p' (m + k) c'' (xs ++ news)) : (p' = p ∧ c'' = c) ∨ Own w' B e p m c xs ∧ (p = none ∨ ∀ b, p' = some ⟨b, 0, none⟩ → w.heap.size ≤ b) := by
  subst hbs
  have hbytes : (m + k) * i.bytes ≤ 140737488355328 := by
    have : (m + k) * i.bytes ≤ 1099511627776 * 64 := Nat.mul_le_mul hmax hby
    omega
  rcases hown.2 with ⟨hv, rfl⟩ | ⟨g, cap, cur, hv, hb0, hg, hnc, hcm, hcs, hx⟩
  · have hx : xs = [] := List.eq_nil_of_length_eq_zero (by have := hown.1; simpa using this)
    right; cases hv; rw [hx]; exact ⟨Own.nil _ _ _, .inl rfl⟩
  · cases hv
    by_cases hroom : m + k ≤ c
    · obtain ⟨w2, hrun2, _, _⟩ := run_append_fits (P := P) w B t ty e i 1 ht hi hsz g m c xs hown ad k c' news (by omega) hr.cells h1c hroom
      rw [hrun] at hrun2
      cases hrun2
      exact .inl ⟨rfl, rfl⟩
    · have hgrow := run_append_grow (P := P) w t ty e i z0 ht hi hz0 ⟨g, 0, none⟩ m c xs (by rw [hsz]; exact hown.1) (fun j v hj => by
        have := hown.rd.cells j v hj; exact this) ad k c' news (by rw [hsz]; omega) hr.cells (by omega) (by omega) (growslice_fits (by omega) hbytes)
      rw [hrun] at hgrow
      cases hgrow
      exact .inr ⟨hown.drew.below ((Below.refl _ w.drew).alloc (Nat.le_refl _) _), .inr fun b hb => by cases hb; exact Nat.le_refl _⟩

theorem Step.append5 {d B bytes : Nat} {z0 : Value} {p q : Option Addr} {m c k c' : Nat} {xs news : List Value} {tys : Array TypeId}
    (hop : o.op = .call { callee := .builtin .append, args := #[x, y], argTypes := #[t, t] }) (hd : o.dst = some d) (hlt : d < n)
    (ht : P.underlying t = some (.slice e)) (hE : Elem P e 1 bytes z0) (hz : z0.cells.size = 1) (_htys : tys = #[t, t])
    (h1 : ev L x = some (.slice p m c)) (h2 : ev L y = some (.slice q k c')) (hown : Own w B e p m c xs) (hr : Rd w q news) (hl : news.length = k) (h1c : ∀ u ∈ news, u.oneCell' = true)
    (hmax : m + k ≤ 1099511627776) (hby : bytes ≤ 64) (hB : B ≤ w.heap.size)
    (h : ∀ p' c' w', Own w' B e p' (m + k) c' (xs ++ news) → w.grownBy w' (Value.ownBlock (.slice p m c)) → Below B w w' → (∀ b, p' = some ⟨b, 0, none⟩ → p = some ⟨b, 0, none⟩ ∨ w.heap.size ≤ b) → ((p' = p ∧ c' = c) ∨ Own w' B e p m c xs ∧ (p = none ∨ ∀ b, p' = some ⟨b, 0, none⟩ → w.heap.size ≤ b)) → K ((d, .slice p' (m + k) c') :: L) w') : Step P n o L w K := by
  obtain ⟨i, hi, hz0, hsz, hbs⟩ := hE.parts
  have hbytes : (m + k) * bytes ≤ 140737488355328 := by
    have : (m + k) * bytes ≤ 1099511627776 * 64 := Nat.mul_le_mul hmax hby
    omega
  intro a hk Q
  have e1 := hk.ev h1; have e2 := hk.ev h2
  cases q with
  | some ad =>
    obtain ⟨v', w', hrun, r1, r2, _⟩ := run_append_own (P := P) w B t o.type e i z0 1 bytes ht hi hz0 hsz hbs hz (by omega) (.slice p m c) m xs hown ad k c' news (by omega) hr.cells h1c
      (by unfold maxLen; omega) hbytes hB
    have hshape : ∃ p' c'', v' = .slice p' (m + k) c'' := by
      rcases r1.2 with ⟨hv, hn⟩ | ⟨g, cap, cur, hv, _⟩
      · exact ⟨none, 0, by rw [hv, ← hn]⟩
      · exact ⟨_, _, hv⟩
    obtain ⟨p', c'', rfl⟩ := hshape
    unfold Oper.wp
    have hex : (execOp a.eval o).run P w = .ok (.value (.slice p' (m + k) c'')) w' := by
      simp [execOp, hop, resolve, invoke, builtin, e1, e2, hrun, Result.andThen]
    rw [hex, Oper.upon_value, hd]
    exact ⟨_, hk.put hlt _, h _ _ _ r1 r2 (below_of_own hown r2 hB) (append_block ht hi hz0 hsz hbs hz hown hr hl h1c hmax hby hrun) (append_two ht hi hz0 hsz hbs hown hr hl h1c hmax hby hrun r1)⟩
  | none =>
    have hnews := hr.none_nil
    subst hnews
    obtain rfl : k = 0 := by simpa using hl.symm
    have hrun : (Builtin.append_ #[t, t] o.type #[.slice p m c, .slice none 0 c']).run P w = .ok (.slice p m c) w := by
      rcases hown.2 with ⟨hv, rfl⟩ | ⟨g, cap, cur, hv, _, _, hnc, _⟩
      · cases hv
        simp [Builtin.append_, run_underlying ht, sizeOf, typeInfo, hi, Builtin.lenOf, Builtin.firstCells]
      · cases hv
        simp [Builtin.append_, run_underlying ht, sizeOf, typeInfo, hi, Builtin.lenOf, Builtin.firstCells, hnc, storeCells]
    unfold Oper.wp
    have hex : (execOp a.eval o).run P w = .ok (.value (.slice p m c)) w := by
      simp [execOp, hop, resolve, invoke, builtin, e1, e2, hrun, Result.andThen]
    rw [hex, Oper.upon_value, hd]
    refine ⟨_, hk.put hlt _, h p c w ?_ ⟨rfl, rfl, rfl, Nat.le_refl _, fun _ _ _ => rfl⟩ (Below.refl _ _) (fun b hb => .inl hb) (.inl ⟨rfl, rfl⟩)⟩
    simpa using hown
end
theorem Mem.shrink {w : World} {B : Nat} {S : List Ob} {e : TypeId} {p : Option Addr} {m m2 c : Nat} {xs : List Value} (h : Mem w B (⟨e, p, m, c, xs⟩ :: S)) (hm : m2 ≤ m) : Mem w B (⟨e, p, m2, c, xs.take m2⟩ :: S) := by
  refine ⟨fun o ho => ?_, ?_⟩
  · rcases List.mem_cons.1 ho with rfl | ho
    · exact (h.all _ (List.mem_cons_self ..)).shrink hm
    · exact h.all _ (List.mem_cons_of_mem _ ho)
  · have := List.pairwise_cons.1 h.apart
    exact List.pairwise_cons.2 ⟨fun o ho => this.1 o ho, this.2⟩
/-- behind an append: the longer slice, and how the shorter one comes back -/
theorem Mem.two {w w' : World} {D : Nat} {e : TypeId} {p p' : Option Addr} {m c k c' : Nat} {xs news : List Value} {S : List Ob} (hM : Mem w D (⟨e, p, m, c, xs⟩ :: S)) (hO : Own w' D e p' (m + k) c' (xs ++ news)) (hg : w.grownBy w' (Value.ownBlock (.slice p m c)))
    (hbk : ∀ b, p' = some ⟨b, 0, none⟩ → p = some ⟨b, 0, none⟩ ∨ w.heap.size ≤ b) (h2 : (p' = p ∧ c' = c) ∨ Own w' D e p m c xs ∧ (p = none ∨ ∀ b, p' = some ⟨b, 0, none⟩ → w.heap.size ≤ b)) (hxl : xs.length = m) :
    ∃ S2, Mem w' D (⟨e, p', m + k, c', xs ++ news⟩ :: (S ++ S2)) ∧ ∀ w'', Mem w'' D (⟨e, p', m + k, c', xs ++ news⟩ :: (S ++ S2)) → Mem w'' D (⟨e, p, m, c, xs⟩ :: S) := by
  have hs := hM.s0 hg hO hbk
  rcases h2 with ⟨rfl, rfl⟩ | ⟨hold, hf⟩
  · refine ⟨[], by rw [List.append_nil]; exact hs, fun w'' h => ?_⟩
    rw [List.append_nil] at h
    have := h.shrink (m2 := m) (by omega)
    rw [← hxl, List.take_left] at this
    rw [← hxl]; exact this
  · refine ⟨[⟨e, p, m, c, xs⟩], ⟨fun o ho => ?_, ?_⟩, fun w'' h => ?_⟩
    · rcases List.mem_cons.1 ho with rfl | ho
      · exact hO
      · rcases List.mem_append.1 ho with ho | ho
        · exact hs.all o (List.mem_cons_of_mem _ ho)
        · rw [List.mem_singleton.1 ho]; exact hold
    · have a1 := List.pairwise_cons.1 hs.apart
      have a2 := List.pairwise_cons.1 hM.apart
      refine List.pairwise_cons.2 ⟨fun o ho => ?_, List.pairwise_append.2 ⟨a1.2, List.pairwise_singleton _ _, fun x hx y hy => ?_⟩⟩
      · rcases List.mem_append.1 ho with ho | ho
        · exact a1.1 o ho
        · rw [List.mem_singleton.1 ho]
          intro x y hx hy
          have hb := ((hM.all _ (List.mem_cons_self ..)).block hy).2
          rcases hf with hf | hf
          · exact absurd (hf.symm.trans hy) (by intro h9; cases h9)
          · have := hf x hx
            omega
      · rw [List.mem_singleton.1 hy]
        exact (a2.1 x hx).symm
    exact h.tail.perm (List.perm_append_comm (l₁ := [(⟨e, p, m, c, xs⟩ : Ob)]) (l₂ := S))
end Go.Proofs.Ytnaebllojkodbaa.V
