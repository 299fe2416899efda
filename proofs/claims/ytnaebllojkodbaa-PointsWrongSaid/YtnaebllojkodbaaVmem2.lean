/-
  Memory, more: literals of slices, make, boxes, stores into the call's own slices.
-/
import Derived.Test.YtnaebllojkodbaaVmem
namespace Go.Proofs.Ytnaebllojkodbaa.V
open Go Go.RowKit

section
variable {P : Program} {L : Loc} {x y z : Operand} {u v : Value} {t t' e : TypeId} {n : Nat} {K : Loc → World → Prop} {w : World} {o : Oper} {d : Nat}

def litV (L : Loc) : Nat → List (Nat × Operand) → Option (List Value)
  | _, [] => some []
  | i, (j, x) :: r => bif Nat.beq i j then (match ev L x, litV L (i + 1) r with
    | some v, some vs => some (v :: vs)
    | _, _ => none) else none

theorem fill_lit {ρ : Operand → Value} (ha : ∀ {x v}, ev L x = some v → ρ x = v) : ∀ (parts : List (Nat × Operand)) (i : Nat) (vs pre zs : List Value), litV L i parts = some vs → (∀ u ∈ vs, u.oneCell' = true) →
    pre.length = i → zs.length = vs.length → Instr.fill (fun i => some (i, 1)) (pre ++ zs).toArray (parts.map fun (i, x) => (i, ρ x)) = some (pre ++ vs).toArray := by
  intro parts
  induction parts with
  | nil =>
    intro i vs pre zs h _ _ hz
    cases h
    obtain rfl : zs = [] := List.eq_nil_of_length_eq_zero (by simpa using hz)
    rfl
  | cons p r ih =>
    intro i vs pre zs h h1 hp hz
    obtain ⟨j, x⟩ := p
    unfold litV at h
    cases hij : Nat.beq i j with
    | false => rw [hij] at h; cases h
    | true =>
      obtain rfl := Nat.eq_of_beq_eq_true hij
      rw [hij] at h
      simp only [cond_true] at h
      cases hx : ev L x with
      | none => rw [hx] at h; cases h
      | some v =>
        cases hr : litV L (i + 1) r with
        | none => rw [hx, hr] at h; cases h
        | some us =>
          rw [hx, hr] at h
          cases h
          cases zs with
          | nil => cases hz
          | cons z0 zs =>
            have hv : v.cells = #[v] := by
              have := h1 v (by simp)
              cases v <;> first | rfl | simp [Value.oneCell'] at this
            have hstep : Instr.fill (fun i => some (i, 1)) (pre ++ z0 :: zs).toArray (((i, x) :: r).map fun (i, x) => (i, ρ x)) =
                Instr.fill (fun i => some (i, 1)) ((pre ++ [v]) ++ zs).toArray (r.map fun (i, x) => (i, ρ x)) := by
              simp only [List.map_cons, Instr.fill, ha hx, hv]
              rw [if_neg (by simp; omega)]
              congr 1
              simp
              rw [← hp]
              simp
            rw [hstep, ih (i + 1) us (pre ++ [v]) zs hr (fun u hu => h1 u (by simp [hu])) (by simp [hp]) (by simpa using hz)]
            simp

theorem Step.lit {bytes : Nat} {z0 : Value} {parts : List (Nat × Operand)} {vs : List Value} {len B : Nat} (hop : o.op = .buildSlice t len parts.toArray) (hd : o.dst = some d) (hlt : d < n)
    (ht : P.underlying t = some (.slice e)) (hE : Elem P e 1 bytes z0) (hp : litV L 0 parts = some vs) (hl : vs.length = len) (hsm : len ≤ 1000) (h1c : ∀ u ∈ vs, u.oneCell' = true) (hB : B ≤ w.heap.size)
    (h : ∀ w', Own w' B e (some ⟨w.heap.size, 0, none⟩) len len vs → w.grownBy w' none → Below w.heap.size w w' → w'.heap.size = w.heap.size + 1 → K ((d, .slice (some ⟨w.heap.size, 0, none⟩) len len) :: L) w') : Step P n o L w K := by
  obtain ⟨i, hi, hz, hs, _⟩ := hE.parts
  refine Step.ofRun (w' := w.alloc (.cells vs.toArray e)) hd hlt (fun ρ ha => ?_) (h _ ?_ (World.grownBy_alloc _ _ _) ((Below.refl _ _).alloc (Nat.le_refl _) _) (by simp))
  · obtain ⟨_, op, _, _, _, _⟩ := o
    cases hop
    show Sem.run P (do pure (Next.value (← Instr.buildSlice t len (parts.toArray.map fun (i, x) => (i, ρ x))))) w = _
    refine run_v ?_
    have hfill : ∀ A : Array Value, A.size = vs.length → Instr.fill (fun i => some (i, 1)) A (parts.map fun x => (x.1, ρ x.2)) = some vs.toArray := fun A hA => by
      have := fill_lit ha parts 0 vs [] A.toList hp h1c rfl (by simpa using hA)
      simpa using this
    unfold Instr.buildSlice
    have hu := run_underlying (P := P) ht w
    have hsz := run_sizeOf (P := P) hi w
    rw [hs] at hsz
    have hnot : ¬ (2 ^ 24 < len) := by omega
    have hnot' : ¬ (16777216 < len) := by omega
    by_cases h0 : len = 0
    · have hf := hfill #[] (by simp [hl, h0])
      simp [go_sem, hu, hsz, h0, hf]
    · have hzv : (zeroValue e).run P w = .ok z0 w := by simp [zeroValue, typeInfo, hi, hz, go_sem]
      simp [go_sem, hu, hsz, hzv, hnot', h0, hfill, hl]
  · have := World.ownsRow_lit (e := e) (size := 1) w vs.toArray len hB (by unfold maxLen; omega) (by simp [hl])
    show World.ownsRow _ _ _ _ _ _ _
    simpa using this

theorem Step.callV {f : FuncId} {args : List Operand} {cap : Array Value} {tyv : Array TypeId} {vs : List Value} (hb : Body P f)
    (hop : o.op = .call { callee := .value x, args := args.toArray, argTypes := tyv }) (hx : ev L x = some (.func (.func f) #[] cap)) (hd : o.dst = some d) (hlt : d < n) (ha : argsV L args = some vs)
    (hc : CallsV P f (vs.toArray ++ cap) w (fun v w' => K ((d, v) :: L) w')) : Step P n o L w K := by
  intro a hk Q
  unfold Oper.wp
  have hargs : args.toArray.map a.eval = vs.toArray := by
    have := argsV_spec (fun e => hk.ev e) args vs ha
    simp [this]
  have hfx := hk.ev hx
  have hrun : (execOp a.eval o).run P w = .ok (.enter f (vs.toArray ++ cap)) w := by
    simp only [execOp, hop, resolve, hargs, hfx, Deferred.ofValue]
    have := run_callFunc hb (vs.toArray ++ cap) w
    simp [go_sem, invoke, this]
  rw [hrun, Oper.upon_enter]
  refine Calls.mono hc fun e w' ⟨v, he, hK⟩ => ?_
  subst he
  rw [hd]
  exact ⟨_, hk.put hlt v, hK⟩

theorem Val.const {S : World → Prop} {v : Value} (h : ev L x = some v) : Val P S (.move x) L v := Val.move h
end
end Go.Proofs.Ytnaebllojkodbaa.V
