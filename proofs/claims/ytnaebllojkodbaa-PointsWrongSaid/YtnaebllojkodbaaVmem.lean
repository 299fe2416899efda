/-
  Memory: slices that are read (Rd), slices that the call itself makes (Own), calls, append, make, literals, loads and stores.
-/
import Derived.Test.YtnaebllojkodbaaVops
import Derived.Laws.OwnMore
import Derived.Laws.MakeOwn
namespace Go.Proofs.Ytnaebllojkodbaa.V
open Go Go.RowKit

/-! ### Reading -/

/-- From the address p on the cells cs lie. -/
def Rd (w : World) (p : Option Addr) (cs : List Value) : Prop := ∀ j u, cs[j]? = some u → ∃ b off, p = some ⟨b, off, none⟩ ∧ w.cell? ⟨b, off + j, none⟩ = some u

theorem Rd.nil (w : World) (p : Option Addr) : Rd w p [] := fun j u h => by simp at h
theorem Rd.cells {w : World} {a : Addr} {cs : List Value} (h : Rd w (some a) cs) : ∀ j u, cs[j]? = some u → w.cell? (a.add j) = some u := by
  intro j u hj
  obtain ⟨b, off, e, hc⟩ := h j u hj
  cases e
  rw [Addr.add_lit]; exact hc
theorem Rd.none_nil {w : World} {cs : List Value} (h : Rd w none cs) : cs = [] := by
  cases cs with
  | nil => rfl
  | cons x r => obtain ⟨_, _, e, _⟩ := h 0 x rfl; cases e
theorem Rd.of {w : World} {b off : Nat} {cs : List Value} (h : ∀ j u, cs[j]? = some u → w.cell? ⟨b, off + j, none⟩ = some u) : Rd w (some ⟨b, off, none⟩) cs :=
  fun j u hj => ⟨b, off, rfl, h j u hj⟩
theorem Rd.below {w w' : World} {p : Option Addr} {cs : List Value} (h : Rd w p cs) (hb : Below w.heap.size w w') : Rd w' p cs := by
  intro j u hj
  obtain ⟨b, off, e, hc⟩ := h j u hj
  exact ⟨b, off, e, (hb.cell (p := ⟨b, off + j, none⟩) (World.block_lt_of_cell? w _ hc)).trans hc⟩
theorem Rd.belowB {B : Nat} {w w' : World} {p : Option Addr} {cs : List Value} (h : Rd w p cs) (hb : Below B w w') (hp : ∀ b off, p = some ⟨b, off, none⟩ → b < B) : Rd w' p cs := by
  intro j u hj
  obtain ⟨b, off, e, hc⟩ := h j u hj
  exact ⟨b, off, e, (hb.cell (p := ⟨b, off + j, none⟩) (hp b off e)).trans hc⟩
theorem Rd.drew {w : World} {p : Option Addr} {cs : List Value} (h : Rd w p cs) : Rd w.drew p cs := h
theorem Rd.grown {w w' : World} {p : Option Addr} {cs : List Value} {row : Option Nat} (h : Rd w p cs) (hg : w.grownBy w' row) (hne : ∀ b off, p = some ⟨b, off, none⟩ → some b ≠ row) : Rd w' p cs := by
  intro j u hj
  obtain ⟨b, off, e, hc⟩ := h j u hj
  exact ⟨b, off, e, hg.cell hc (hne b off e)⟩
theorem Rd.take {w : World} {p : Option Addr} {cs : List Value} (h : Rd w p cs) (k : Nat) : Rd w p (cs.take k) := by
  intro j u hj
  refine h j u ?_
  rw [List.getElem?_take] at hj
  split at hj
  · exact hj
  · cases hj

/-- where a part of a slice begins -/
def cutAt (p : Option Addr) (c l : Nat) : Option Addr := if c = l then p else p.map (·.add l)
theorem Rd.cut {w : World} {p : Option Addr} {cs : List Value} {c l : Nat} (h : Rd w p cs) (hc : cs.length ≤ c) : Rd w (cutAt p c l) (cs.drop l) := by
  intro j u hj
  rw [List.getElem?_drop] at hj
  obtain ⟨b, off, e, hcell⟩ := h _ u hj
  have hlt : l + j < cs.length := (List.getElem?_eq_some_iff.1 hj).1
  unfold cutAt
  rw [if_neg (by omega), e]
  refine ⟨b, off + l, by simp [Addr.add_lit], ?_⟩
  rw [Nat.add_assoc]; exact hcell

/-! ### Owning -/

/-- The call's own slice of one-cell elements. -/
def Own (w : World) (B : Nat) (e : TypeId) (p : Option Addr) (m c : Nat) (xs : List Value) : Prop := w.ownsRow B e 1 (.slice p m c) m xs

section
variable {w w' : World} {B : Nat} {e : TypeId} {p : Option Addr} {m c : Nat} {xs : List Value}
theorem Own.length (h : Own w B e p m c xs) : xs.length = m := by have := h.1; omega
theorem Own.nil (w : World) (B : Nat) (e : TypeId) : Own w B e none 0 0 [] := World.ownsRow_nil w B e 1
theorem Own.rd (h : Own w B e p m c xs) : Rd w p xs := by
  intro j u hj
  rcases h.2 with ⟨hv, _⟩ | ⟨g, cap, cur, hv, _, hg, _, _, _, ht⟩
  · cases hv
    have := h.length
    have hlt := (List.getElem?_eq_some_iff.1 hj).1
    omega
  · cases hv
    refine ⟨g, 0, rfl, ?_⟩
    rw [Nat.zero_add, cell_of_row w g j cur e (0, 0) hg]
    rw [← ht, List.getElem?_take] at hj
    split at hj
    · simpa using hj
    · cases hj
theorem Own.le_cap (h : Own w B e p m c xs) : m ≤ c := by
  rcases h.2 with ⟨hv, _⟩ | ⟨g, cap, cur, hv, _, _, hl, _⟩
  · cases hv; exact Nat.le_refl _
  · cases hv; exact hl
theorem Own.cap_max (h : Own w B e p m c xs) : c ≤ maxLen := by
  rcases h.2 with ⟨hv, _⟩ | ⟨g, cap, cur, hv, _, _, _, hl, _⟩
  · cases hv; simp
  · cases hv; exact hl
theorem Own.base {B' : Nat} (h : Own w B e p m c xs) (hB : B' ≤ B) : Own w B' e p m c xs := by
  refine ⟨h.1, ?_⟩
  rcases h.2 with h' | ⟨g, cap, cur, hv, hb, rest⟩
  · exact .inl h'
  · exact .inr ⟨g, cap, cur, hv, by omega, rest⟩
/-- its block lies from B on and is there -/
theorem Own.block (h : Own w B e p m c xs) {b off : Nat} {s : Option Nat} (hp : p = some ⟨b, off, s⟩) : B ≤ b ∧ b < w.heap.size := by
  rcases h.2 with ⟨hv, _⟩ | ⟨g, cap, cur, hv, hb, hg, _⟩
  · cases hv; cases hp
  · cases hv; cases hp
    exact ⟨hb, (Array.getElem?_eq_some_iff.1 hg).1⟩
theorem Own.grown {row : Option Nat} (h : Own w B e p m c xs) (hg : w.grownBy w' row) (hne : ∀ b off, p = some ⟨b, off, none⟩ → some b ≠ row) : Own w' B e p m c xs := by
  refine h.kept hg ?_
  cases p with
  | none => exact .inl rfl
  | some a =>
    right
    rcases h.2 with ⟨hv, _⟩ | ⟨g, cap, cur, hv, _⟩
    · cases hv
    · cases hv; exact hne g 0 rfl
theorem Own.below (h : Own w B e p m c xs) (hb : Below w.heap.size w w') : Own w' B e p m c xs :=
  h.grown (row := none) ⟨hb.os, hb.tape, hb.output, hb.size, fun k hk _ => hb.block k hk⟩ (by simp)
theorem Own.drew (h : Own w B e p m c xs) : Own w.drew B e p m c xs := h
/-- In place of a slice that is the call's own its caller's frame holds. -/
theorem below_of_own (h : Own w B e p m c xs) (hg : w.grownBy w' (Value.ownBlock (.slice p m c))) (hB : B ≤ w.heap.size) : Below B w w' :=
  (Below.refl B w).grown hg hB fun k hk => (World.ownsRow.lt h k hk).1
end

/-! ### Slices' heads -/

section
variable {P : Program} {S : World → Prop} {L : Loc} {x y z : Operand} {u v : Value} {t t' e : TypeId} {n : Nat}

/-- the facts of an element type: its size in cells, its bytes, its zero -/
structure Elem (P : Program) (e : TypeId) (size bytes : Nat) (z : Value) : Prop where
  out : (P.info? e).map (fun i => (i.zero, i.size, i.bytes)) = some (some z, size, bytes)

theorem Elem.parts {size bytes : Nat} {z : Value} (h : Elem P e size bytes z) : ∃ i, P.info? e = some i ∧ i.zero = some z ∧ i.size = size ∧ i.bytes = bytes := info_parts h.out

theorem run_v {s : Sem Value} {w w' : World} (h : s.run P w = .ok u w') : Sem.run P (do pure (Next.value (← s))) w = .ok (.value u) w' := by
  simp [go_sem, h]

theorem run_sizeOf {i : TypeInfo} (h : P.info? e = some i) (w : World) : (sizeOf e).run P w = .ok i.size w := by
  simp [sizeOf, typeInfo, h, go_sem]

theorem Val.indexAddr {size bytes : Nat} {z0 : Value} {p : Option Addr} {m c j : Nat} {k : IntKind} {cs : List Value} {w0 : World} (ht : P.underlying t = some (.slice e)) (hE : Elem P e size bytes z0)
    (h1 : ev L x = some (.slice p m c)) (h2 : ev L y = some (.int k (j : Int))) (hj : j < m) (hr : Rd w0 p cs) (hl : j < cs.length) :
    Val P S (.indexAddr t x y) L (.pointer (p.map (·.add (j * size)))) := by
  intro ρ ha w _ dst ty pos after guard
  have e1 := ha h1; have e2 := ha h2
  obtain ⟨i, hi, hz, hs, _⟩ := hE.parts
  obtain ⟨b, off, rfl, _⟩ := hr j _ (List.getElem?_eq_getElem hl)
  subst hs
  simp [execOp, e1, e2, Instr.indexAt, asIntOf, run_underlying ht, run_sizeOf hi, hj, go_sem]

theorem Val.index1 {bytes : Nat} {z0 : Value} {p : Option Addr} {m c j : Nat} {k : IntKind} {cs : List Value} {w0 : World} (ht : P.underlying t = some (.slice e)) (hE : Elem P e 1 bytes z0)
    (h1 : ev L x = some (.slice p m c)) (h2 : ev L y = some (.int k (j : Int))) (hj : j < m) (hr : Rd w0 p cs) (hl : j < cs.length) :
    Val P S (.indexAddr t x y) L (.pointer (p.map (·.add j))) := by
  have h := Val.indexAddr (S := S) (j := j) ht hE h1 h2 hj hr hl
  rw [Nat.mul_one] at h
  exact h

theorem Val.slice {size bytes : Nat} {z0 : Value} {p : Option Addr} {m c l h : Nat} (lo hi : Option Operand) (ht : P.underlying t = some (.slice e)) (hE : Elem P e 1 bytes z0)
    (h1 : ev L x = some (.slice p m c))
    (hlo : (lo = none ∧ l = 0) ∨ ∃ y k, lo = some y ∧ ev L y = some (.int k (l : Int))) (hhi : (hi = none ∧ h = m) ∨ ∃ y k, hi = some y ∧ ev L y = some (.int k (h : Int))) (hlh : l ≤ h) (hhc : h ≤ c) (_hs : size = 1) :
    Val P S (.slice t x lo hi none) L (.slice (cutAt p c l) (h - l) (c - l)) := by
  intro ρ ha w _ dst ty pos after guard
  have e1 := ha h1
  obtain ⟨i, hi', hz, hs, _⟩ := hE.parts
  have hcut : (if c = l then p else Option.map (fun x => x.add l) p) = cutAt p c l := rfl
  have hch : (h : Int) ≤ (c : Int) := by omega
  have hl' : (l : Int) ≤ (h : Int) := by omega
  rcases hlo with ⟨rfl, rfl⟩ | ⟨y1, k1, rfl, h2⟩ <;> rcases hhi with ⟨rfl, rfl⟩ | ⟨y2, k2, rfl, h3⟩
  · simp [execOp, e1, Instr.sliceAt, Instr.slice, Instr.sliceBounds, run_underlying ht, run_sizeOf hi', hs, ← hcut, go_sem]
  · have e3 := ha h3
    simp [execOp, e1, e3, Instr.sliceAt, Instr.slice, Instr.sliceBounds, Instr.sliceBound, asIntOf, run_underlying ht, run_sizeOf hi', hs, ← hcut, hhc, go_sem]
  · have e2 := ha h2
    simp [execOp, e1, e2, Instr.sliceAt, Instr.slice, Instr.sliceBounds, Instr.sliceBound, asIntOf, run_underlying ht, run_sizeOf hi', hs, ← hcut, hlh, go_sem]
  · have e2 := ha h2; have e3 := ha h3
    simp [execOp, e1, e2, e3, Instr.sliceAt, Instr.slice, Instr.sliceBounds, Instr.sliceBound, asIntOf, run_underlying ht, run_sizeOf hi', hs, ← hcut, hhc, hlh, go_sem]

theorem cutAt_zero (p : Option Addr) (c : Nat) : cutAt p c 0 = p := by
  unfold cutAt
  split
  · rfl
  · cases p <;> simp [Addr.add]
theorem Val.sliceTo {bytes : Nat} {z0 : Value} {p : Option Addr} {m c h : Nat} {k : IntKind} (ht : P.underlying t = some (.slice e)) (hE : Elem P e 1 bytes z0)
    (h1 : ev L x = some (.slice p m c)) (h2 : ev L y = some (.int k (h : Int))) (hhc : h ≤ c) : Val P S (.slice t x none (some y) none) L (.slice p h c) := by
  have := Val.slice (S := S) (l := 0) none (some y) ht hE h1 (.inl ⟨rfl, rfl⟩) (.inr ⟨y, k, rfl, h2⟩) (Nat.zero_le _) hhc (rfl : (1 : Nat) = 1)
  rw [cutAt_zero] at this
  exact this
theorem Val.sliceFrom {bytes : Nat} {z0 : Value} {p : Option Addr} {m c l : Nat} {k : IntKind} (ht : P.underlying t = some (.slice e)) (hE : Elem P e 1 bytes z0)
    (h1 : ev L x = some (.slice p m c)) (h2 : ev L y = some (.int k (l : Int))) (hlm : l ≤ m) (hmc : m ≤ c) : Val P S (.slice t x (some y) none none) L (.slice (cutAt p c l) (m - l) (c - l)) :=
  Val.slice (S := S) (some y) none ht hE h1 (.inr ⟨y, k, rfl, h2⟩) (.inl ⟨rfl, rfl⟩) hlm hmc (rfl : (1 : Nat) = 1)
theorem Val.sliceFromTo {bytes : Nat} {z0 : Value} {p : Option Addr} {m c l h : Nat} {k k' : IntKind} (ht : P.underlying t = some (.slice e)) (hE : Elem P e 1 bytes z0)
    (h1 : ev L x = some (.slice p m c)) (h2 : ev L y = some (.int k (l : Int))) (h3 : ev L z = some (.int k' (h : Int))) (hlh : l ≤ h) (hhc : h ≤ c) : Val P S (.slice t x (some y) (some z) none) L (.slice (cutAt p c l) (h - l) (c - l)) :=
  Val.slice (S := S) (some y) (some z) ht hE h1 (.inr ⟨y, k, rfl, h2⟩) (.inr ⟨z, k', rfl, h3⟩) hlh hhc (rfl : (1 : Nat) = 1)

/-- a type whose variables take one cell and that is no struct and no array -/
structure Flat (P : Program) (t : TypeId) : Prop where
  out : ∃ d, P.underlying t = some d ∧ (match d with | .struct _ | .array _ _ => false | _ => true) = true

theorem run_isAgg (h : Flat P t) (w : World) : (isAgg t).run P w = .ok false w := by
  obtain ⟨d, hd, hf⟩ := h.out
  unfold isAgg
  cases d <;> simp [run_underlying hd, go_sem] at hf ⊢

theorem run_loadFlat (h : Flat P t) {a : Addr} {w : World} {u : Value} (hc : w.cell? a = some u) : (Instr.loadAt t (.pointer (some a))).run P w = .ok u w := by
  simp [Instr.loadAt, Instr.sureAddr, loadVar, run_isAgg h, load, Sem.run, hc, go_sem]

theorem run_load_rd {p : Option Addr} {w : World} {cs : List Value} {j : Nat} (h : Flat P t) (hr : Rd w p cs) (hu : cs[j]? = some u) : (Instr.loadAt t (.pointer (p.map (·.add j)))).run P w = .ok u w := by
  obtain ⟨b, off, rfl, hc⟩ := hr j u hu
  rw [Option.map_some, Addr.add_lit]
  exact run_loadFlat h hc

theorem Step.ofRun {o : Oper} {w w' : World} {K : Loc → World → Prop} {d : Nat} (hd : o.dst = some d) (hlt : d < n)
    (hrun : ∀ ρ : Operand → Value, (∀ {x v}, ev L x = some v → ρ x = v) → (execOp ρ o).run P w = .ok (.value v) w') (h : K ((d, v) :: L) w') : Step P n o L w K := by
  intro a ha Q
  unfold Oper.wp
  rw [hrun a.eval (fun e => ha.ev e), Oper.upon_value, hd]
  exact ⟨_, ha.put hlt v, h⟩

theorem Step.load {o : Oper} {p : Option Addr} {w : World} {cs : List Value} {j d : Nat} {K : Loc → World → Prop} (hop : o.op = .load t x) (hd : o.dst = some d) (hlt : d < n) (hf : Flat P t)
    (h1 : ev L x = some (.pointer (p.map (·.add j)))) (hr : Rd w p cs) (hu : cs[j]? = some u) (h : K ((d, u) :: L) w) : Step P n o L w K :=
  Step.ofRun hd hlt (fun ρ ha => by
    have e1 := ha h1
    have h3 := run_load_rd hf hr hu (P := P)
    obtain ⟨_, op, _, _, _, _⟩ := o
    cases hop
    show Sem.run P (do pure (Next.value (← Instr.loadAt t (ρ x)))) w = _
    rw [e1]
    exact run_v h3) h
theorem Val.load {p : Option Addr} {cs : List Value} {j : Nat} (hf : Flat P t) (h1 : ev L x = some (.pointer (p.map (·.add j)))) (hr : ∀ w, S w → Rd w p cs) (hu : cs[j]? = some u) : Val P S (.load t x) L u := by
  intro ρ ha w hS dst ty pos after guard
  have e1 := ha h1
  have h3 := run_load_rd hf (hr w hS) hu (P := P)
  show Sem.run P (do pure (Next.value (← Instr.loadAt t (ρ x)))) w = _
  rw [e1]
  exact run_v h3

/-! ### Calls -/

def argsV (L : Loc) : List Operand → Option (List Value)
  | [] => some []
  | x :: r => match ev L x, argsV L r with
    | some v, some vs => some (v :: vs)
    | _, _ => none
theorem argsV_spec {ρ : Operand → Value} (ha : ∀ {x v}, ev L x = some v → ρ x = v) : ∀ (l : List Operand) (vs : List Value), argsV L l = some vs → l.map ρ = vs
  | [], vs, h => by cases h; rfl
  | x :: r, vs, h => by
    unfold argsV at h
    cases hx : ev L x with
    | none => rw [hx] at h; cases h
    | some v =>
      cases hr : argsV L r with
      | none => rw [hx, hr] at h; cases h
      | some us =>
        rw [hx, hr] at h
        cases h
        rw [List.map_cons, ha hx, argsV_spec ha r us hr]

/-- the function has a body and is no stand-in -/
structure Body (P : Program) (f : FuncId) : Prop where
  out : ∃ fn, P.funcs[f]? = some fn ∧ (fn.name == "runtime.NumGoroutine") = false ∧ fn.body.isNone = false

theorem CallsV.mono {f : FuncId} {args : Array Value} {w : World} {R R' : Value → World → Prop} (h : CallsV P f args w R) (hr : ∀ v w', R v w' → R' v w') : CallsV P f args w R' :=
  Calls.mono h fun _ _ ⟨v, hv, hR⟩ => ⟨v, hv, hr _ _ hR⟩

theorem run_callFunc {f : FuncId} (hb : Body P f) (args : Array Value) (w : World) : (callFunc f args).run P w = .ok (.enter f args) w := by
  obtain ⟨fn, hf, hn, hbd⟩ := hb.out
  have hn' : ¬ fn.name = "runtime.NumGoroutine" := by simpa using hn
  have hb' : ¬ fn.body = none := by intro h; simp [h] at hbd
  simp [callFunc, hf, hn', hb', go_sem]

theorem Step.call {o : Oper} {f : FuncId} {args : List Operand} {tys : Array TypeId} {vs : List Value} {w : World} {K : Loc → World → Prop} {d : Nat} (hb : Body P f)
    (hop : o.op = .call { callee := .value (.func f), args := args.toArray, argTypes := tys }) (hd : o.dst = some d) (hlt : d < n) (ha : argsV L args = some vs)
    (hc : CallsV P f vs.toArray w (fun v w' => K ((d, v) :: L) w')) : Step P n o L w K := by
  intro a hk Q
  unfold Oper.wp
  have hargs : args.toArray.map a.eval = vs.toArray := by
    have := argsV_spec (fun e => hk.ev e) args vs ha
    simp [this]
  have hrun : (execOp a.eval o).run P w = .ok (.enter f vs.toArray) w := by
    simp only [execOp, hop, resolve, hargs]
    have : a.eval (.func f) = .func (.func f) #[] #[] := rfl
    simp only [this, Deferred.ofValue]
    have := run_callFunc hb vs.toArray w
    simp [go_sem, invoke, this]
  rw [hrun, Oper.upon_enter]
  refine Calls.mono hc fun e w' ⟨v, he, hK⟩ => ?_
  subst he
  rw [hd]
  exact ⟨_, hk.put hlt v, hK⟩

theorem Step.call0 {o : Oper} {f : FuncId} {args : List Operand} {tys : Array TypeId} {vs : List Value} {w : World} {K : Loc → World → Prop} (hb : Body P f)
    (hop : o.op = .call { callee := .value (.func f), args := args.toArray, argTypes := tys }) (hd : o.dst = none) (ha : argsV L args = some vs)
    (hc : CallsV P f vs.toArray w (fun _ w' => K L w')) : Step P n o L w K := by
  intro a hk Q
  unfold Oper.wp
  have hargs : args.toArray.map a.eval = vs.toArray := by
    have := argsV_spec (fun e => hk.ev e) args vs ha
    simp [this]
  have hrun : (execOp a.eval o).run P w = .ok (.enter f vs.toArray) w := by
    simp only [execOp, hop, resolve, hargs]
    have : a.eval (.func f) = .func (.func f) #[] #[] := rfl
    simp only [this, Deferred.ofValue]
    have := run_callFunc hb vs.toArray w
    simp [go_sem, invoke, this]
  rw [hrun, Oper.upon_enter]
  refine Calls.mono hc fun e w' ⟨v, he, hK⟩ => ?_
  subst he
  rw [hd]
  exact ⟨L, hk, hK⟩

/-! ### append, make, literals -/

theorem Step.append {o : Oper} {w : World} {K : Loc → World → Prop} {d B bytes : Nat} {z0 : Value} {p q : Option Addr} {m c k c' : Nat} {xs news : List Value} {tys : Array TypeId}
    (hop : o.op = .call { callee := .builtin .append, args := #[x, y], argTypes := #[t, t] }) (hd : o.dst = some d) (hlt : d < n)
    (ht : P.underlying t = some (.slice e)) (hE : Elem P e 1 bytes z0) (hz : z0.cells.size = 1) (_htys : tys = #[t, t])
    (h1 : ev L x = some (.slice p m c)) (h2 : ev L y = some (.slice q k c')) (hown : Own w B e p m c xs) (hr : Rd w q news) (hl : news.length = k) (h1c : ∀ u ∈ news, u.oneCell' = true)
    (hmax : m + k ≤ 1099511627776) (hby : bytes ≤ 64) (hB : B ≤ w.heap.size)
    (h : ∀ p' c' w', Own w' B e p' (m + k) c' (xs ++ news) → w.grownBy w' (Value.ownBlock (.slice p m c)) → Below B w w' → K ((d, .slice p' (m + k) c') :: L) w') : Step P n o L w K := by
  obtain ⟨i, hi, hz0, hsz, hbs⟩ := hE.parts
  have hbytes : (m + k) * bytes ≤ 140737488355328 := by
    have : (m + k) * bytes ≤ 1099511627776 * 64 := Nat.mul_le_mul hmax hby
    omega
  intro a hk Q
  have e1 := hk.ev h1; have e2 := hk.ev h2
  cases q with
  | some ad =>
    obtain ⟨v', w', hrun, r1, r2, _⟩ := run_append_own (P := P) w B t o.type e i z0 1 bytes ht hi hz0 hsz hbs hz (by omega) (.slice p m c) m xs hown ad k c' news (by omega) hr.cells h1c
      (by unfold maxLen; omega) hbytes hB
    have hshape : ∃ p' c'', v' = .slice p' (m + k) c'' := by
      rcases r1.2 with ⟨hv, hn⟩ | ⟨g, cap, cur, hv, _⟩
      · exact ⟨none, 0, by rw [hv, ← hn]⟩
      · exact ⟨_, _, hv⟩
    obtain ⟨p', c'', rfl⟩ := hshape
    unfold Oper.wp
    have hex : (execOp a.eval o).run P w = .ok (.value (.slice p' (m + k) c'')) w' := by
      simp [execOp, hop, resolve, invoke, builtin, e1, e2, hrun, Result.andThen]
    rw [hex, Oper.upon_value, hd]
    exact ⟨_, hk.put hlt _, h _ _ _ r1 r2 (below_of_own hown r2 hB)⟩
  | none =>
    have hnews := hr.none_nil
    subst hnews
    obtain rfl : k = 0 := by simpa using hl.symm
    have hrun : (Builtin.append_ #[t, t] o.type #[.slice p m c, .slice none 0 c']).run P w = .ok (.slice p m c) w := by
      rcases hown.2 with ⟨hv, rfl⟩ | ⟨g, cap, cur, hv, _, _, hnc, _⟩
      · cases hv
        simp [Builtin.append_, run_underlying ht, sizeOf, typeInfo, hi, Builtin.lenOf, Builtin.firstCells]
      · cases hv
        simp [Builtin.append_, run_underlying ht, sizeOf, typeInfo, hi, Builtin.lenOf, Builtin.firstCells, hnc, storeCells]
    unfold Oper.wp
    have hex : (execOp a.eval o).run P w = .ok (.value (.slice p m c)) w := by
      simp [execOp, hop, resolve, invoke, builtin, e1, e2, hrun, Result.andThen]
    rw [hex, Oper.upon_value, hd]
    exact ⟨_, hk.put hlt _, h p c w (by simpa using hown) (World.grownBy.refl _ _) (Below.refl _ _)⟩

/-! ### Short hands for the printed walks -/

theorem Val.cast {o : Op} (h : Val P S o L u) (e : u = v) : Val P S o L v := e ▸ h

section
variable {ops : Array Oper} {K : Loc → World → Prop} {w : World} {o : Oper} {rest : List Oper} {d : Nat}
theorem LS.vv (hd : o.dst = some d) (hg : o.guard = none) (hlt : d < n) (hv : Val P (fun _ => True) o.op L u) (h : LS P n ops K rest ((d, u) :: L) w) : LS P n ops K (o :: rest) L w :=
  LS.step hg (Step.val hd hlt hv trivial h)
theorem LS.vg {g : Nat} {b b' : Bool} (hd : o.dst = some d) (hg : o.guard = some (g, b)) (hw : want ops L g = some b') (hb : b' = b) (hlt : d < n) (hv : Val P (fun _ => True) o.op L u)
    (h : LS P n ops K rest ((d, u) :: L) w) : LS P n ops K (o :: rest) L w :=
  LS.go hg (hb ▸ hw) (Step.val hd hlt hv trivial h)
theorem LS.m (hg : o.guard = none) (h : Step P n o L w (LS P n ops K rest)) : LS P n ops K (o :: rest) L w := LS.step hg h
theorem LS.mg {g : Nat} {b b' : Bool} (hg : o.guard = some (g, b)) (hw : want ops L g = some b') (hb : b' = b) (h : Step P n o L w (LS P n ops K rest)) : LS P n ops K (o :: rest) L w := LS.go hg (hb ▸ hw) h
theorem LS.s {g : Nat} {b b' : Bool} (hd : o.dst = some d) (hg : o.guard = some (g, b)) (hw : want ops L g = some b') (hb : b' = !b) (hlt : d < n)
    (h : LS P n ops K rest ((d, undef) :: L) w) : LS P n ops K (o :: rest) L w := LS.skip hg hw (by cases b <;> simp [hb]) hd hlt h
theorem LS.split {l : List Oper} {b0 : Bool} (g : Nat) (_hl : want ops L g = some b0) (ht : b0 = true → LS P n ops K l L w) (hf : b0 = false → LS P n ops K l L w) : LS P n ops K l L w := by
  cases b0
  · exact hf rfl
  · exact ht rfl
variable {i : Nat} {r : List (Nat × Bool)}
theorem DX.vv (ho : ops[i]? = some o) (hd : o.dst = some d) (hg : o.guard = none) (hlt : d < n) (hv : Val P S o.op L u) (h : DX P n ops S K r ((d, u) :: L) w) : DX P n ops S K ((i, true) :: r) L w := DX.val ho hg hd hlt hv h
theorem DX.vg {g : Nat} {b b' : Bool} (ho : ops[i]? = some o) (hd : o.dst = some d) (hg : o.guard = some (g, b)) (hw : want ops L g = some b') (hb : b' = b) (hlt : d < n) (hv : Val P S o.op L u)
    (h : DX P n ops S K r ((d, u) :: L) w) : DX P n ops S K ((i, true) :: r) L w := DX.valG ho hg (hb ▸ hw) hd hlt hv h
theorem DX.s {g : Nat} {b b' tag : Bool} (ho : ops[i]? = some o) (hd : o.dst = some d) (hg : o.guard = some (g, b)) (hw : want ops L g = some b') (hb : b' = !b) (hlt : d < n)
    (h : DX P n ops S K r ((d, undef) :: L) w) : DX P n ops S K ((i, tag) :: r) L w := DX.skip ho hg hw (by cases b <;> simp [hb]) hd hlt h
theorem DX.m (ho : ops[i]? = some o) (hg : o.guard = none) (h : Step P n o L w (fun L' w' => S w' ∧ DX P n ops S K r L' w')) : DX P n ops S K ((i, false) :: r) L w := DX.mem ho hg h
theorem DX.mg {g : Nat} {b b' : Bool} (ho : ops[i]? = some o) (hg : o.guard = some (g, b)) (hw : want ops L g = some b') (hb : b' = b) (h : Step P n o L w (fun L' w' => S w' ∧ DX P n ops S K r L' w')) :
    DX P n ops S K ((i, false) :: r) L w := DX.memG ho hg (hb ▸ hw) h
theorem DX.split {l : List (Nat × Bool)} {b0 : Bool} (g : Nat) (_hl : want ops L g = some b0) (ht : b0 = true → DX P n ops S K l L w) (hf : b0 = false → DX P n ops S K l L w) : DX P n ops S K l L w := by
  cases b0
  · exact hf rfl
  · exact ht rfl
theorem W.condH {Q : Post} {c : Operand} {a b : Code} {b0 : Bool} (hc : ev L c = some (.bool b0)) (hb : b0 = true) (h : W P n a Q L w) : W P n (.cond c a b) Q L w := W.condT (hb ▸ hc) h
theorem W.condHF {Q : Post} {c : Operand} {a b : Code} {b0 : Bool} (hc : ev L c = some (.bool b0)) (hb : b0 = false) (h : W P n b Q L w) : W P n (.cond c a b) Q L w := W.condF (hb ▸ hc) h
end

/-! ### Integers that are casts of natural numbers -/

theorem Val.addN {i j : Nat} (h1 : ev L x = some (.int .i64 (i : Int))) (h2 : ev L y = some (.int .i64 (j : Int))) (hr : i + j ≤ 9223372036854775807) :
    Val P S (.binOp .add t x y t') L (.int .i64 ((i + j : Nat) : Int)) := Val.cast (Val.add64 h1 h2 (by omega)) (by rw [Int.natCast_add])
theorem Val.subN {i j : Nat} (h1 : ev L x = some (.int .i64 (i : Int))) (h2 : ev L y = some (.int .i64 (j : Int))) (hji : j ≤ i) (hr : i ≤ 9223372036854775807) :
    Val P S (.binOp .sub t x y t') L (.int .i64 ((i - j : Nat) : Int)) := Val.cast (Val.sub64 h1 h2 (by omega)) (by rw [Int.ofNat_sub hji])
theorem Val.mulN {i j : Nat} (h1 : ev L x = some (.int .i64 (i : Int))) (h2 : ev L y = some (.int .i64 (j : Int))) (hr : i * j ≤ 9223372036854775807) :
    Val P S (.binOp .mul t x y t') L (.int .i64 ((i * j : Nat) : Int)) := Val.cast (Val.mul64 h1 h2 (by
      have : ((i * j : Nat) : Int) = (i : Int) * (j : Int) := Int.natCast_mul i j
      omega)) (by rw [Int.natCast_mul])
theorem Val.quoN {i j : Nat} (h1 : ev L x = some (.int .i64 (i : Int))) (h2 : ev L y = some (.int .i64 (j : Int))) (hi : i ≤ 9223372036854775807) (hj : 1 ≤ j) :
    Val P S (.binOp .quo t x y t') L (.int .i64 ((i / j : Nat) : Int)) := Val.cast (Val.quo64 h1 h2 (by omega) (by omega)) (by rw [Int.natCast_ediv])
theorem Val.remN {k : IntKind} {i j : Nat} (h1 : ev L x = some (.int k (i : Int))) (h2 : ev L y = some (.int k (j : Int))) (hj : 1 ≤ j) :
    Val P S (.binOp .rem t x y t') L (.int k ((i % j : Nat) : Int)) := Val.cast (Val.rem h1 h2 (by omega) (by omega)) (by rw [Int.natCast_emod])
theorem Val.addNU8 {i j : Nat} (h1 : ev L x = some (.int .u8 (i : Int))) (h2 : ev L y = some (.int .u8 (j : Int))) (hr : i + j ≤ 255) :
    Val P S (.binOp .add t x y t') L (.int .u8 ((i + j : Nat) : Int)) :=
  Val.cast (Val.arith h1 h2 (.inl ⟨rfl, rfl⟩) (IntWalk.u8_in _ (by omega))) (by rw [Int.natCast_add])

/-- a table of 256 bytes in a string -/
def tabOk (s : ByteArray) (f : Nat → Nat) : Bool := (List.range 256).all fun j => match s[j]? with | some b => b.toNat == f j | none => false
theorem Val.indexTab {s : ByteArray} {f : Nat → Nat} {j : Nat} {k : IntKind} (ht : P.underlying t = some .string) (htab : tabOk s f = true) (h2 : ev L y = some (.int k (j : Int))) (hj : j < 256) :
    Val P S (.index t (.const (.string s)) y) L (.int .u8 (f j : Int)) := by
  intro ρ ha w _ dst ty pos after guard
  have e1 : ρ (.const (.string s)) = .string s := ha rfl
  have e2 := ha h2
  have h := List.all_eq_true.1 htab j (List.mem_range.2 hj)
  cases hs : s[j]? with
  | none => rw [hs] at h; cases h
  | some b =>
    rw [hs] at h
    have hb : b.toNat = f j := by simpa using h
    show Sem.run P (do pure (Next.value (← Instr.index t (ρ (.const (.string s))) (ρ y)))) w = _
    rw [e1, e2]
    refine run_v ?_
    simp [Instr.index, asIntOf, run_underlying ht, hs, hb, go_sem]

theorem Val.addNU32 {i j : Nat} (h1 : ev L x = some (.int .u32 (i : Int))) (h2 : ev L y = some (.int .u32 (j : Int))) (hr : i + j ≤ 4294967295) :
    Val P S (.binOp .add t x y t') L (.int .u32 ((i + j : Nat) : Int)) := Val.cast (Val.addU32 h1 h2 (by omega)) (by rw [Int.natCast_add])
theorem Val.subNU32 {i j : Nat} (h1 : ev L x = some (.int .u32 (i : Int))) (h2 : ev L y = some (.int .u32 (j : Int))) (hji : j ≤ i) (hr : i ≤ 4294967295) :
    Val P S (.binOp .sub t x y t') L (.int .u32 ((i - j : Nat) : Int)) := Val.cast (Val.subU32 h1 h2 (by omega)) (by rw [Int.ofNat_sub hji])
theorem Val.shlU32 {kk : IntKind} {i j : Nat} (h1 : ev L x = some (.int .u32 (i : Int))) (h2 : ev L y = some (.int kk (j : Int))) (hj : j ≤ 31) (hr : i <<< j ≤ 4294967295) :
    Val P S (.binOp .shl t x y t') L (.int .u32 ((i <<< j : Nat) : Int)) := Val.shl h1 h2 (by simp only [IntKind.bits]; omega) (IntWalk.u32_in _ ⟨Int.natCast_nonneg _, Int.ofNat_le.2 hr⟩)
theorem Val.shl64 {kk : IntKind} {i j : Nat} (h1 : ev L x = some (.int .i64 (i : Int))) (h2 : ev L y = some (.int kk (j : Int))) (hj : j ≤ 62) (hr : i <<< j ≤ 9223372036854775807) :
    Val P S (.binOp .shl t x y t') L (.int .i64 ((i <<< j : Nat) : Int)) := Val.shl h1 h2 (by simp only [IntKind.bits]; omega) (IntWalk.i64_in _ ⟨Int.le_trans (by decide) (Int.natCast_nonneg _), Int.ofNat_le.2 hr⟩)
end
end Go.Proofs.Ytnaebllojkodbaa.V
