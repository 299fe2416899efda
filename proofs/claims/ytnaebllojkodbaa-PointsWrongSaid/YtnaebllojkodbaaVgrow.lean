/-
  Memory: append to a slice that has no room behind its length: what it answers reads as both together.
-/
import Derived.Test.YtnaebllojkodbaaVheap
namespace Go.Proofs.Ytnaebllojkodbaa.V
open Go Go.RowKit

section
variable {P : Program} {L : Loc} {x y z : Operand} {u v : Value} {t t' e : TypeId} {n : Nat} {K : Loc → World → Prop} {w : World} {o : Oper}

theorem Step.appendFull {d bytes : Nat} {z0 : Value} {p q : Option Addr} {m k c' : Nat} {xs news : List Value}
    (hop : o.op = .call { callee := .builtin .append, args := #[x, y], argTypes := #[t, t] }) (hd : o.dst = some d) (hlt : d < n)
    (ht : P.underlying t = some (.slice e)) (hE : Elem P e 1 bytes z0) (hz : z0.cells.size = 1)
    (h1 : ev L x = some (.slice p m m)) (h2 : ev L y = some (.slice q k c')) (hr1 : Rd w p xs) (hl1 : xs.length = m) (hr : Rd w q news) (hl : news.length = k) (h1c : ∀ u ∈ news, u.oneCell' = true)
    (hmax : m + k ≤ 1099511627776) (hby : bytes ≤ 64) (hpn : p = none → m = 0)
    (h : ∀ p' c' w', Rd w' p' (xs ++ news) → m + k ≤ c' → Below w.heap.size w w' → (∀ b off, p' = some ⟨b, off, none⟩ → p = some ⟨b, off, none⟩ ∨ w.heap.size ≤ b ∧ b < w'.heap.size) → (p' = none → m + k = 0) → K ((d, .slice p' (m + k) c') :: L) w') : Step P n o L w K := by
  obtain ⟨i, hi, hz0, hsz, hbs⟩ := hE.parts
  subst hbs
  have hbytes : (m + k) * i.bytes ≤ 140737488355328 := by
    have : (m + k) * i.bytes ≤ 1099511627776 * 64 := Nat.mul_le_mul hmax hby
    omega
  intro a hk Q
  have e1 := hk.ev h1; have e2 := hk.ev h2
  have go : ∀ v' w', (Builtin.append_ #[t, t] o.type #[.slice p m m, .slice q k c']).run P w = .ok v' w' → ∀ p' cc, v' = .slice p' (m + k) cc → K ((d, .slice p' (m + k) cc) :: L) w' →
      o.wp P a w (fun a' w' => ∃ L', Know n L' a' ∧ K L' w') Q := by
    intro v' w' hrun p' cc hv hK
    subst hv
    unfold Oper.wp
    have hex : (execOp a.eval o).run P w = .ok (.value (.slice p' (m + k) cc)) w' := by
      simp [execOp, hop, resolve, invoke, builtin, e1, e2, hrun, Result.andThen]
    rw [hex, Oper.upon_value, hd]
    exact ⟨_, hk.put hlt _, hK⟩
  by_cases hk0 : k = 0
  · subst hk0
    obtain rfl : news = [] := List.eq_nil_of_length_eq_zero hl
    have hfc : (Builtin.firstCells 1 0 (.slice q 0 c')).run P w = .ok (#[] : Array Value) w := by
      cases q with
      | none => simp [Builtin.firstCells, go_sem]
      | some ad =>
        have := run_firstCells_some (P := P) w 1 0 ad 0 c' [] (by simp) (by simp)
        simpa using this
    have hrun : (Builtin.append_ #[t, t] o.type #[.slice p m m, .slice q 0 c']).run P w = .ok (.slice p m m) w := by
      cases p with
      | none => simp [Builtin.append_, run_underlying ht, sizeOf, typeInfo, hi, Builtin.lenOf, hsz, hfc]
      | some a => simp [Builtin.append_, run_underlying ht, sizeOf, typeInfo, hi, Builtin.lenOf, hsz, hfc, storeCells]
    refine go _ _ hrun p m rfl (h p m w (by simpa using hr1) (by omega) (Below.refl _ _) (fun b off hb => .inl hb) (fun hn => by rw [hpn hn]))
  · cases q with
    | none => have := hr.none_nil; subst this; simp at hl; omega
    | some ad =>
      have fin : ∀ C, m + k ≤ C → ∀ p' cc w', p' = some ⟨w.heap.size, 0, none⟩ → w' = w.drew.alloc (.cells (xs.toArray ++ news.toArray ++ Builtin.zeroCells z0.cells (C - (m + k))) e) → m + k ≤ cc → K ((d, .slice p' (m + k) cc) :: L) w' := by
        intro C hC p' cc w' hp hw hcc
        subst hp; subst hw
        have hb : Below w.heap.size w (w.drew.alloc (.cells (xs.toArray ++ news.toArray ++ Builtin.zeroCells z0.cells (C - (m + k))) e)) := ((Below.refl _ w).drew.alloc (Nat.le_refl _) _)
        refine h _ _ _ ?_ hcc hb (fun b off hbb => by cases hbb; exact .inr ⟨Nat.le_refl _, by simp⟩) (fun hn => by cases hn)
        refine Rd.of fun j u hj => ?_
        rw [Nat.zero_add, cell_of_row _ w.heap.size j _ e (0, 0) (heap_alloc_new w.drew _)]
        rw [Array.getElem?_append_left (by simp; have := (List.getElem?_eq_some_iff.1 hj).1; simp at this; omega)]
        simpa using hj
      cases p with
      | none =>
        obtain rfl := hpn rfl
        obtain rfl : xs = [] := List.eq_nil_of_length_eq_zero hl1
        obtain ⟨v', w', hrun, r1, r2, _⟩ := run_append_own (P := P) w w.heap.size t o.type e i z0 1 i.bytes ht hi hz0 hsz rfl hz (by omega) (.slice none 0 0) 0 [] (World.ownsRow_nil w w.heap.size e 1) ad k c' news (by omega) hr.cells h1c (by unfold maxLen; omega) (by omega) (Nat.le_refl _)
        have hshape : ∃ g cc, v' = .slice (some ⟨g, 0, none⟩) (0 + k) cc := by
          rcases r1.2 with ⟨hv, hn⟩ | ⟨g, cap, cur, hv, _⟩
          · omega
          · exact ⟨_, _, hv⟩
        obtain ⟨g, cc, rfl⟩ := hshape
        have hown : Own w' w.heap.size e (some ⟨g, 0, none⟩) (0 + k) cc ([] ++ news) := r1
        refine go _ _ hrun _ cc rfl (h _ _ _ hown.rd hown.le_cap (below_of_own (B := w.heap.size) (e := e) (xs := []) (Own.nil _ _ _) r2 (Nat.le_refl _)) (fun b off hb => .inr (hown.block hb)) (fun hn => by cases hn))
      | some pb =>
        have hrun := run_append_grow (P := P) w t o.type e i z0 ht hi hz0 pb m m xs (by rw [hsz]; omega) hr1.cells ad k c' news (by rw [hsz]; omega) hr.cells (by omega) (by omega) (growslice_fits (by omega) hbytes)
        have hge := grownCap_ge w (m + k) m e
        exact go _ _ hrun _ _ rfl (fin _ hge _ _ _ rfl rfl hge)
end

section
variable {P : Program} {S : World → Prop} {L : Loc} {x y z q : Operand} {u v : Value} {t t' e : TypeId}
/-- s[:h:h] -/
theorem Val.sliceToMax {bytes : Nat} {z0 : Value} {p : Option Addr} {m c h : Nat} {k k' : IntKind} (ht : P.underlying t = some (.slice e)) (hE : Elem P e 1 bytes z0)
    (h1 : ev L x = some (.slice p m c)) (h2 : ev L y = some (.int k (h : Int))) (h3 : ev L z = some (.int k' (h : Int))) (hhc : h ≤ c) : Val P S (.slice t x none (some y) (some z)) L (.slice p h h) := by
  intro ρ ha w _ dst ty pos after guard
  have e1 := ha h1; have e2 := ha h2; have e3 := ha h3
  obtain ⟨i, hi', hz, hs, _⟩ := hE.parts
  have hcut : (if c = 0 then p else Option.map (fun x => x.add 0) p) = p := by
    split
    · rfl
    · cases p <;> simp [Addr.add]
  have hcut2 : (if h = 0 then p else Option.map (fun x => x.add 0) p) = p := by
    split
    · rfl
    · cases p <;> simp [Addr.add]
  simp [execOp, e1, e2, e3, Instr.sliceAt, Instr.slice, Instr.sliceBounds, Instr.sliceBound, asIntOf, run_underlying ht, run_sizeOf hi', hs, hhc, go_sem, hcut, hcut2]
end
/-- what lies elsewhere stays while an own slice is written -/
theorem Rd.off {w w' : World} {B : Nat} {e : TypeId} {p q : Option Addr} {m c : Nat} {xs cs : List Value} (h : Rd w p cs) (ho : Own w B e q m c xs) (hg : w.grownBy w' (Value.ownBlock (.slice q m c)))
    (hne : ∀ b off b', p = some ⟨b, off, none⟩ → q = some ⟨b', 0, none⟩ → b ≠ b') : Rd w' p cs := by
  refine h.grown hg fun b off hp => ?_
  rcases ho.2 with ⟨hv, _⟩ | ⟨g, cap, cur, hv, _⟩
  · cases hv; simp [Value.ownBlock]
  · cases hv
    have := hne b off g hp rfl
    simp [Value.ownBlock, this]
section
variable {P : Program} {L : Loc} {x y z : Operand} {u v : Value} {t t' e : TypeId} {n : Nat} {K : Loc → World → Prop} {w : World} {o : Oper}
/-- a variable, all nought: an own block of its cells -/
theorem Step.alloc {d size bytes : Nat} {z0 : Value} {xs : List Value} (hop : o.op = .alloc t) (hd : o.dst = some d) (hlt : d < n) (hE : Elem P t size bytes z0) (hz : z0.cells = xs.toArray) (hl : xs.length ≤ 1000000)
    (h : ∀ w', Own w' w.heap.size t (some ⟨w.heap.size, 0, none⟩) xs.length xs.length xs → w.grownBy w' none → Below w.heap.size w w' → w'.heap.size = w.heap.size + 1 → K ((d, .pointer (some ⟨w.heap.size, 0, none⟩)) :: L) w') : Step P n o L w K := by
  obtain ⟨i, hi, hz0, hs, _⟩ := hE.parts
  refine Step.ofRun (w' := w.alloc (.cells xs.toArray t)) hd hlt (fun ρ ha => ?_) (h _ ?_ (World.grownBy_alloc _ _ _) ((Below.refl _ _).alloc (Nat.le_refl _) _) (by simp))
  · obtain ⟨_, op, _, _, _, _⟩ := o
    cases hop
    show Sem.run P (do pure (Next.value (← Instr.alloc t true (.tuple #[])))) w = _
    refine run_v ?_
    have hzv : (zeroValue t).run P w = .ok z0 w := by simp [zeroValue, typeInfo, hi, hz0, go_sem]
    simp [Instr.alloc, hzv, newVar, newRow, go_sem]
    rw [← hz]; rfl
  · have := World.ownsRow_lit (e := t) (size := 1) w xs.toArray xs.length (Nat.le_refl _) (by unfold maxLen; omega) (by simp)
    show World.ownsRow _ _ _ _ _ _ _
    simpa using this
end
section
variable {P : Program} {L : Loc} {x y z : Operand} {u v : Value} {t t' e : TypeId} {n : Nat} {K : Loc → World → Prop} {w : World} {o : Oper}
theorem append_block3 {B bytes : Nat} {z0 : Value} {p p' : Option Addr} {m c k c' c'' : Nat} {xs news : List Value} {ty : TypeId} {w' : World} {ad : Addr} {i : TypeInfo} (ht : P.underlying t = some (.slice e)) (hi : P.info? e = some i) (hz0 : i.zero = some z0) (hsz : i.size = 1) (hbs : i.bytes = bytes) (hz : z0.cells.size = 1)
    (hown : Own w B e p m c xs) (hr : Rd w (some ad) news) (hl : news.length = k) (h1c : ∀ u ∈ news, u.oneCell' = true) (hmax : m + k ≤ 9223372036854775807) (hby : (m + k) * bytes ≤ 140737488355328)
    (hrun : (Builtin.append_ #[t, t] ty #[.slice p m c, .slice (some ad) k c']).run P w = .ok (.slice p' (m + k) c'') w') :
    ∀ b, p' = some ⟨b, 0, none⟩ → p = some ⟨b, 0, none⟩ ∨ w.heap.size ≤ b := by
  subst hbs
  have hbytes := hby
  intro b hb
  rcases hown.2 with ⟨hv, rfl⟩ | ⟨g, cap, cur, hv, hb0, hg, hnc, hcm, hcs, hx⟩
  · cases hv
    obtain ⟨v2, w2, hrun2, r1, _, _⟩ := run_append_own (P := P) w w.heap.size t ty e i z0 1 i.bytes ht hi hz0 hsz rfl hz (by omega) (.slice none 0 0) 0 xs (by
      have hx : xs = [] := List.eq_nil_of_length_eq_zero (by have := hown.1; simpa using this)
      rw [hx]; exact World.ownsRow_nil w w.heap.size e 1) ad k c' news (by omega) hr.cells h1c (by unfold maxLen; omega) (by omega) (Nat.le_refl _)
    rw [hrun] at hrun2
    cases hrun2
    right
    exact (Own.block (w := w') (B := w.heap.size) (e := e) (xs := xs ++ news) r1 hb).1
  · cases hv
    by_cases hroom : m + k ≤ c
    · left
      obtain ⟨w2, hrun2, _, _⟩ := run_append_fits (P := P) w B t ty e i 1 ht hi hsz g m c xs hown ad k c' news (by omega) hr.cells h1c hroom
      rw [hrun] at hrun2
      cases hrun2
      exact hb
    · right
      have hgrow := run_append_grow (P := P) w t ty e i z0 ht hi hz0 ⟨g, 0, none⟩ m c xs (by rw [hsz]; exact hown.1) (fun j v hj => by
        have := hown.rd.cells j v hj; exact this) ad k c' news (by rw [hsz]; omega) hr.cells (by omega) (by omega) (growslice_fits (by omega) hbytes)
      rw [hrun] at hgrow
      cases hgrow
      cases hb
      exact Nat.le_refl _

/-- append onto an own slice, up to the model's own bound -/
theorem Step.append3 {d B bytes : Nat} {z0 : Value} {p q : Option Addr} {m c k c' : Nat} {xs news : List Value}
    (hop : o.op = .call { callee := .builtin .append, args := #[x, y], argTypes := #[t, t] }) (hd : o.dst = some d) (hlt : d < n)
    (ht : P.underlying t = some (.slice e)) (hE : Elem P e 1 bytes z0) (hz : z0.cells.size = 1)
    (h1 : ev L x = some (.slice p m c)) (h2 : ev L y = some (.slice q k c')) (hown : Own w B e p m c xs) (hr : Rd w q news) (hl : news.length = k) (h1c : ∀ u ∈ news, u.oneCell' = true)
    (hmax : m + k ≤ 9223372036854775807) (hby : (m + k) * bytes ≤ 140737488355328) (hB : B ≤ w.heap.size)
    (h : ∀ p' c' w', Own w' B e p' (m + k) c' (xs ++ news) → w.grownBy w' (Value.ownBlock (.slice p m c)) → Below B w w' → (∀ b, p' = some ⟨b, 0, none⟩ → p = some ⟨b, 0, none⟩ ∨ w.heap.size ≤ b) → K ((d, .slice p' (m + k) c') :: L) w') : Step P n o L w K := by
  obtain ⟨i, hi, hz0, hsz, hbs⟩ := hE.parts
  subst hbs
  intro a hk Q
  have e1 := hk.ev h1; have e2 := hk.ev h2
  cases q with
  | some ad =>
    obtain ⟨v', w', hrun, r1, r2, _⟩ := run_append_own (P := P) w B t o.type e i z0 1 i.bytes ht hi hz0 hsz rfl hz (by omega) (.slice p m c) m xs hown ad k c' news (by omega) hr.cells h1c
      (by unfold maxLen; omega) hby hB
    have hshape : ∃ p' c'', v' = .slice p' (m + k) c'' := by
      rcases r1.2 with ⟨hv, hn⟩ | ⟨g, cap, cur, hv, _⟩
      · exact ⟨none, 0, by rw [hv, ← hn]⟩
      · exact ⟨_, _, hv⟩
    obtain ⟨p', c'', rfl⟩ := hshape
    unfold Oper.wp
    have hex : (execOp a.eval o).run P w = .ok (.value (.slice p' (m + k) c'')) w' := by
      simp [execOp, hop, resolve, invoke, builtin, e1, e2, hrun, Result.andThen]
    rw [hex, Oper.upon_value, hd]
    exact ⟨_, hk.put hlt _, h _ _ _ r1 r2 (below_of_own hown r2 hB) (append_block3 ht hi hz0 hsz rfl hz hown hr hl h1c hmax hby hrun)⟩
  | none =>
    have hnews := hr.none_nil
    subst hnews
    obtain rfl : k = 0 := by simpa using hl.symm
    have hrun : (Builtin.append_ #[t, t] o.type #[.slice p m c, .slice none 0 c']).run P w = .ok (.slice p m c) w := by
      rcases hown.2 with ⟨hv, rfl⟩ | ⟨g, cap, cur, hv, _, _, hnc, _⟩
      · cases hv
        simp [Builtin.append_, run_underlying ht, sizeOf, typeInfo, hi, Builtin.lenOf, Builtin.firstCells]
      · cases hv
        simp [Builtin.append_, run_underlying ht, sizeOf, typeInfo, hi, Builtin.lenOf, Builtin.firstCells, hnc, storeCells]
    unfold Oper.wp
    have hex : (execOp a.eval o).run P w = .ok (.value (.slice p m c)) w := by
      simp [execOp, hop, resolve, invoke, builtin, e1, e2, hrun, Result.andThen]
    rw [hex, Oper.upon_value, hd]
    exact ⟨_, hk.put hlt _, h p c w (by simpa using hown) ⟨rfl, rfl, rfl, Nat.le_refl _, fun _ _ _ => rfl⟩ (Below.refl _ _) fun b hb => .inl hb⟩
end
end Go.Proofs.Ytnaebllojkodbaa.V
