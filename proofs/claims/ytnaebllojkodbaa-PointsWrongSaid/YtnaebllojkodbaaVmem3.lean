/-
  Memory, third: boxes, functions made, make, stores into the call's own slices and boxes.
-/
import Derived.Test.YtnaebllojkodbaaVmore
namespace Go.Proofs.Ytnaebllojkodbaa.V
open Go Go.RowKit

section
variable {P : Program} {L : Loc} {x y z : Operand} {u v : Value} {t t' e : TypeId} {n : Nat} {K : Loc → World → Prop} {w : World} {o : Oper} {d : Nat}

theorem cells_one (h : v.oneCell' = true) : v.cells = #[v] := by
  cases v <;> first | rfl | simp [Value.oneCell'] at h

/-- a box: an own slice of one -/
theorem Step.box {B : Nat} (hop : o.op = .box t x) (hd : o.dst = some d) (hlt : d < n) (h1 : ev L x = some v) (h1c : v.oneCell' = true) (hB : B ≤ w.heap.size)
    (h : ∀ w', Own w' B t (some ⟨w.heap.size, 0, none⟩) 1 1 [v] → w.grownBy w' none → Below w.heap.size w w' → w'.heap.size = w.heap.size + 1 → K ((d, .pointer (some ⟨w.heap.size, 0, none⟩)) :: L) w') : Step P n o L w K := by
  refine Step.ofRun (w' := w.alloc (.cells #[v] t)) hd hlt (fun ρ ha => ?_) (h _ ?_ (World.grownBy_alloc _ _ _) ((Below.refl _ _).alloc (Nat.le_refl _) _) (by simp))
  · have e1 := ha h1
    obtain ⟨_, op, _, _, _, _⟩ := o
    cases hop
    show Sem.run P (do pure (Next.value (← Instr.box t (ρ x)))) w = _
    rw [e1]
    refine run_v ?_
    clear e1 h h1
    cases v <;> first | (simp [Value.oneCell'] at h1c; done) | simp [Instr.box, newVar, newRow, go_sem]
  · have := World.ownsRow_lit (e := t) (size := 1) w #[v] 1 hB (by unfold maxLen; omega) (by simp)
    show World.ownsRow _ _ _ _ _ _ _
    simpa using this

theorem capV (ρ : Operand → Value) (ha : ∀ {x v}, ev L x = some v → ρ x = v) (l : List Operand) (vs : List Value) (h : argsV L l = some vs) : l.toArray.map ρ = vs.toArray := by
  have := argsV_spec ha l vs h
  simp [this]
theorem Val.makeFunc {S : World → Prop} {fn : Fn} {cap : List Operand} {vs : List Value} (h : argsV L cap = some vs) : Val P S (.makeFunc fn #[] cap.toArray) L (.func fn #[] vs.toArray) := by
  intro ρ ha w _ dst ty pos after guard
  have e1 := capV ρ ha cap vs h
  show Sem.run P (do pure (Next.value (← Instr.makeFunc fn (#[].map ρ) (cap.toArray.map ρ)))) w = _
  rw [e1]
  simp [Instr.makeFunc, go_sem]

theorem Step.make {B bytes : Nat} {z0 : Value} {m : Nat} {kl kc : IntKind} (hop : o.op = .makeSlice t x y) (hd : o.dst = some d) (hlt : d < n) (ht : P.underlying t = some (.slice e)) (hE : Elem P e 1 bytes z0) (hz1 : z0.oneCell' = true)
    (h1 : ev L x = some (.int kl (m : Int))) (h2 : ev L y = some (.int kc (m : Int))) (hm : bytes * m ≤ 281474976710656) (hml : m ≤ 281474976710656) (hB : B ≤ w.heap.size)
    (h : ∀ w', Own w' B e (some ⟨w.heap.size, 0, none⟩) m m (List.replicate m z0) → w.grownBy w' none → Below w.heap.size w w' → K ((d, .slice (some ⟨w.heap.size, 0, none⟩) m m) :: L) w') : Step P n o L w K := by
  obtain ⟨i, hi, hz, hs, hb⟩ := hE.parts
  subst hb
  obtain ⟨w', hr, ho, hg⟩ := run_make_full (P := P) w B t e i z0 1 ht hi hz hs kl kc m hm (by simp [maxLen]; omega) hB
  refine Step.ofRun (w' := w') hd hlt (fun ρ ha => ?_) (h _ ?_ hg ((Below.refl _ w).grown hg (Nat.le_refl _) (by simp)))
  · have e1 := ha h1
    have e2 := ha h2
    obtain ⟨_, op, _, _, _, _⟩ := o
    cases hop
    show Sem.run P (do pure (Next.value (← Instr.makeSlice t (ρ x) (ρ y)))) w = _
    rw [e1, e2]
    exact run_v hr
  · rw [cells_one hz1, Nat.mul_one, toList_madeCells_one] at ho
    exact ho

theorem Step.ofRun0 {w' : World} (hd : o.dst = none)
    (hrun : ∀ ρ : Operand → Value, (∀ {x v}, ev L x = some v → ρ x = v) → (execOp ρ o).run P w = .ok .skip w') (h : K L w') : Step P n o L w K := by
  intro a ha Q
  unfold Oper.wp
  rw [hrun a.eval (fun e => ha.ev e), Oper.upon_skip, hd]
  exact ⟨_, ha, h⟩

theorem Own.head {B m c : Nat} {p : Option Addr} {xs : List Value} (h : Own w B e p m c xs) (hm : 0 < m) : ∃ g, p = some ⟨g, 0, none⟩ := by
  rcases h.2 with ⟨hv, _⟩ | ⟨g, cap, cur, hv, _⟩
  · have := h.length
    cases hv; omega
  · cases hv; exact ⟨g, rfl⟩
theorem Own.ownBlock {B m c : Nat} {g : Nat} {xs : List Value} (_h : Own w B e (some ⟨g, 0, none⟩) m c xs) : Value.ownBlock (.slice (some ⟨g, 0, none⟩) m c) = some g := rfl

theorem run_storeFlat {bytes : Nat} {z0 : Value} (hf : Flat P t) (hE : Elem P t 1 bytes z0) {a : Addr} {u0 : Value} (hc : w.cell? a = some u0) (hfz : w.frozen? a = false) (h1 : u.oneCell' = true) : (Instr.storeAt t (.pointer (some a)) u).run P w = .ok () (w.setCell a u) := by
  have hst := run_store P w a u .plain h1
  rw [hc, hfz] at hst
  obtain ⟨i, hi, hz, hs, _⟩ := hE.parts
  have hsz := run_sizeOf (P := P) hi w
  rw [hs] at hsz
  cases u <;> first
    | (simp [Value.oneCell'] at h1; done)
    | simp [Instr.storeAt, Instr.sureAddr, storeVar, run_isAgg hf, go_sem, hsz, hst, storeCells, hc, hfz]

theorem run_u {s : Sem Unit} {w w' : World} (h : s.run P w = .ok () w') : Sem.run P (do s; pure Next.skip) w = .ok .skip w' := by
  simp [go_sem, h]

/-- a store into the call's own slice -/
theorem Step.store {B bytes : Nat} {z0 : Value} {p : Option Addr} {m c j : Nat} {xs : List Value} (hop : o.op = .store t x y) (hd : o.dst = none) (hf : Flat P t) (hE : Elem P t 1 bytes z0)
    (h1 : ev L x = some (.pointer (p.map (·.add j)))) (h2 : ev L y = some u) (h1c : u.oneCell' = true) (hO : Own w B e p m c xs) (hj : j < m) (hB : B ≤ w.heap.size)
    (h : ∀ w', Own w' B e p m c (xs.set j u) → w.grownBy w' (Value.ownBlock (.slice p m c)) → Below B w w' → w'.heap.size = w.heap.size → K L w') : Step P n o L w K := by
  obtain ⟨g, rfl⟩ := hO.head (by omega)
  have hs := World.ownsRow.stored hO j u
  have hl := hO.length
  have hcell : w.cell? ⟨g, j, none⟩ = some (xs[j]'(by omega)) := by
    rw [World.ownsRow.cellAt hO j (by omega)]; exact List.getElem?_eq_getElem _
  refine Step.ofRun0 (w' := w.setCell ⟨g, j, none⟩ u) hd (fun ρ ha => ?_) (h _ hs.1 hs.2 (below_of_own hO hs.2 hB) (by simp))
  have e1 := ha h1
  have e2 := ha h2
  obtain ⟨_, op, _, _, _, _⟩ := o
  cases hop
  show Sem.run P (do (Instr.storeAt t (ρ x) (ρ y)); pure Next.skip) w = _
  rw [e1, e2]
  have := run_storeFlat (P := P) (t := t) (w := w) (a := ⟨g, j, none⟩) hf hE hcell (World.ownsRow.frozenAt hO j) h1c
  rw [Option.map_some, Addr.add_lit, Nat.zero_add]
  exact run_u this

/-- another own slice that lies elsewhere -/
theorem Own.apart {B B' m c m' c' : Nat} {e' : TypeId} {p q : Option Addr} {xs ys : List Value} {w' : World} (h : Own w B e p m c xs) (hg : w.grownBy w' (Value.ownBlock (.slice q m' c'))) (hne : ∀ b b', p = some ⟨b, 0, none⟩ → q = some ⟨b', 0, none⟩ → b ≠ b')
    (hq : Own w B' e' q m' c' ys) : Own w' B e p m c xs := by
  refine h.grown hg ?_
  intro b off hp
  have hp0 : off = 0 := by
    rcases h.2 with ⟨hv, _⟩ | ⟨g, cap, cur, hv, _⟩
    · cases hv; cases hp
    · cases hv; cases hp; rfl
  subst hp0
  rcases hq.2 with ⟨hv, _⟩ | ⟨g, cap, cur, hv, _⟩
  · cases hv; simp [Value.ownBlock]
  · cases hv
    have := hne b g hp rfl
    simp [Value.ownBlock, this]

theorem run_loadBox {p : Option Addr} (h : Flat P t) (hr : Rd w p [u]) : (Instr.loadAt t (.pointer p)).run P w = .ok u w := by
  obtain ⟨b, off, rfl, hc⟩ := hr 0 u rfl
  exact run_loadFlat h hc
theorem Step.loadBox {p : Option Addr} (hop : o.op = .load t x) (hd : o.dst = some d) (hlt : d < n) (hf : Flat P t) (h1 : ev L x = some (.pointer p)) (hr : Rd w p [u]) (h : K ((d, u) :: L) w) : Step P n o L w K :=
  Step.ofRun hd hlt (fun ρ ha => by
    have e1 := ha h1
    have h3 := run_loadBox hf hr (P := P)
    obtain ⟨_, op, _, _, _, _⟩ := o
    cases hop
    show Sem.run P (do pure (Next.value (← Instr.loadAt t (ρ x)))) w = _
    rw [e1]
    exact run_v h3) h
theorem Val.loadBox {S : World → Prop} {p : Option Addr} (hf : Flat P t) (h1 : ev L x = some (.pointer p)) (hr : ∀ w, S w → Rd w p [u]) : Val P S (.load t x) L u := by
  intro ρ ha w hS dst ty pos after guard
  have e1 := ha h1
  have h3 := run_loadBox hf (hr w hS) (P := P)
  show Sem.run P (do pure (Next.value (← Instr.loadAt t (ρ x)))) w = _
  rw [e1]
  exact run_v h3
/-- a store into a box -/
theorem Step.storeBox {B bytes : Nat} {z0 : Value} {g : Nat} {u0 : Value} (hop : o.op = .store t x y) (hd : o.dst = none) (hf : Flat P t) (hE : Elem P t 1 bytes z0)
    (h1 : ev L x = some (.pointer (some ⟨g, 0, none⟩))) (h2 : ev L y = some u) (h1c : u.oneCell' = true) (hO : Own w B e (some ⟨g, 0, none⟩) 1 1 [u0]) (hB : B ≤ w.heap.size)
    (h : ∀ w', Own w' B e (some ⟨g, 0, none⟩) 1 1 [u] → w.grownBy w' (some g) → Below B w w' → w'.heap.size = w.heap.size → K L w') : Step P n o L w K :=
  Step.store (p := some ⟨g, 0, none⟩) (j := 0) hop hd hf hE h1 h2 h1c hO (by omega) hB h
end
end Go.Proofs.Ytnaebllojkodbaa.V
