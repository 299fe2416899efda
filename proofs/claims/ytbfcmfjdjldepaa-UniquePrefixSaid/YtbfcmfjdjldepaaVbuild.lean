/-
  Structs and arrays built of parts that take more than one cell.
-/
import Derived.Test.YtbfcmfjdjldepaaVz3
import Derived.Test.YtbfcmfjdjldepaaVz4
namespace Go.Proofs.Ytbfcmfjdjldepaa.V
open Go Go.RowKit

section
variable {P : Program} {S : World → Prop} {L : Loc} {t e : TypeId}
def bldB (P : Program) (t : TypeId) (pl : List (Nat × Nat)) : Bool :=
  match P.underlying t with
  | some (.struct fs) => fs.toList.map (fun f => (f.offset, (P.info? f.type).map (·.size))) == pl.map (fun p => (p.1, some p.2))
  | _ => false
structure Bld (P : Program) (t : TypeId) (pl : List (Nat × Nat)) : Prop where
  out : bldB P t pl = true
theorem run_placesB (w : World) : ∀ (l : List Field) (pl : List (Nat × Nat)), l.map (fun f => (f.offset, (P.info? f.type).map (·.size))) = pl.map (fun p => (p.1, some p.2)) →
    Sem.run P (l.mapM fun (f : Field) => (do pure (f.offset, ← sizeOf f.type) : Sem (Nat × Nat))) w = .ok pl w
  | [], [], _ => by rw [List.mapM_nil]; rfl
  | [], p :: pl, h => by simp at h
  | f :: l, [], h => by simp at h
  | f :: l, p :: pl, h => by
    simp only [List.map_cons, List.cons.injEq, Prod.mk.injEq] at h
    obtain ⟨⟨h1, h2⟩, h3⟩ := h
    have ih := run_placesB w l pl h3
    cases hi : P.info? f.type with
    | none => rw [hi] at h2; cases h2
    | some i =>
      rw [hi] at h2
      have hs : i.size = p.2 := by simpa using h2
      have hsz := run_sizeOf (P := P) hi w
      rw [List.mapM_cons]
      simp only [Sem.run_bind, hsz, Result.andThen_ok, Sem.run_pure, ih, h1, hs]
def partsV (L : Loc) : List (Nat × Operand) → Option (List (Nat × Value))
  | [] => some []
  | (j, x) :: r => match ev L x, partsV L r with
    | some v, some l => some ((j, v) :: l)
    | _, _ => none
theorem partsV_spec {ρ : Operand → Value} (ha : ∀ {x v}, ev L x = some v → ρ x = v) : ∀ (parts : List (Nat × Operand)) (l : List (Nat × Value)), partsV L parts = some l → parts.map (fun (i, x) => (i, ρ x)) = l
  | [], l, h => by cases h; rfl
  | (j, x) :: r, l, h => by
    unfold partsV at h
    cases hx : ev L x with
    | none => rw [hx] at h; cases h
    | some v =>
      cases hr : partsV L r with
      | none => rw [hx, hr] at h; cases h
      | some l2 =>
        rw [hx, hr] at h
        cases h
        rw [List.map_cons, partsV_spec ha r l2 hr]
        simp only [ha hx]
theorem Val.buildB {k bytes : Nat} {z0 : Value} {pl : List (Nat × Nat)} {vs : List Value} {vals : List (Nat × Value)} {parts : List (Nat × Operand)} (hS : Bld P t pl) (hE : Elem P t k bytes z0) (hp : partsV L parts = some vals)
    (hf : Instr.fill (fun j => pl.toArray[j]?) z0.cells vals = some vs.toArray) :
    Val P S (.build t parts.toArray) L (.agg vs.toArray) := by
  intro ρ ha w _ dst ty pos after guard
  obtain ⟨i, hi, hz0, hs, _⟩ := hE.parts
  have hzv : (zeroValue t).run P w = .ok z0 w := by simp [zeroValue, typeInfo, hi, hz0, go_sem]
  have h1 := hS.out
  unfold bldB at h1
  cases hu : P.underlying t with
  | none => rw [hu] at h1; cases h1
  | some d =>
    rw [hu] at h1
    cases d <;> try (cases h1; done)
    rename_i fs
    simp only [beq_iff_eq] at h1
    have hmap : Sem.run P (fs.mapM fun (f : Field) => (do pure (f.offset, ← sizeOf f.type) : Sem (Nat × Nat))) w = .ok pl.toArray w := by
      rw [Array.mapM_eq_mapM_toList, map_eq_pure_bind, Sem.run_bind, run_placesB w fs.toList pl h1]
      rfl
    have hps := partsV_spec ha parts vals hp
    show Sem.run P (do pure (Next.value (← Instr.build t (parts.toArray.map fun (i, x) => (i, ρ x))))) w = _
    refine run_v ?_
    unfold Instr.build
    have hpm : (parts.toArray.map fun (i, x) => (i, ρ x)).toList = vals := by rw [← hps]; simp
    simp only [Sem.run_bind, hzv, Result.andThen_ok, run_underlying hu, hmap, hpm, hf, Sem.run_pure]
theorem Val.buildArr {k m bytes bytes' size : Nat} {z0 z1 : Value} {vs : List Value} {vals : List (Nat × Value)} {parts : List (Nat × Operand)} (ht : P.underlying t = some (.array m e)) (hE : Elem P t k bytes z0) (hE1 : Elem P e size bytes' z1) (hp : partsV L parts = some vals)
    (hf : Instr.fill (fun i => some (i * size, size)) z0.cells vals = some vs.toArray) :
    Val P S (.build t parts.toArray) L (.agg vs.toArray) := by
  intro ρ ha w _ dst ty pos after guard
  obtain ⟨i, hi, hz0, hs, _⟩ := hE.parts
  obtain ⟨i1, hi1, hz1, hs1, _⟩ := hE1.parts
  have hzv : (zeroValue t).run P w = .ok z0 w := by simp [zeroValue, typeInfo, hi, hz0, go_sem]
  have hsz := run_sizeOf (P := P) hi1 w
  rw [hs1] at hsz
  have hps := partsV_spec ha parts vals hp
  show Sem.run P (do pure (Next.value (← Instr.build t (parts.toArray.map fun (i, x) => (i, ρ x))))) w = _
  refine run_v ?_
  unfold Instr.build
  have hpm : (parts.toArray.map fun (i, x) => (i, ρ x)).toList = vals := by rw [← hps]; simp
  simp only [Sem.run_bind, hzv, Result.andThen_ok, run_underlying ht, hsz, hpm, hf, Sem.run_pure]
/-- an element of an array that lies in a block of the call's own -/
theorem Val.indexArrZ {x y : Operand} {bytes m j q : Nat} {z0 : Value} {k : IntKind} {p : Option Addr} {xs : List Value} {w0 : World} (ht : P.underlying t = some (.array m e)) (hE : Elem P e 1 bytes z0)
    (h1 : ev L x = some (.pointer (p.map (·.add q)))) (h2 : ev L y = some (.int k (j : Int))) (hr : Rd w0 p xs) (hx : 0 < xs.length) (hj : j < m) :
    Val P S (.indexAddr t x y) L (.pointer (p.map (·.add (q + j)))) := by
  cases p with
  | none => have := hr.none_nil; subst this; simp at hx
  | some a =>
    intro ρ ha w _ dst ty pos after guard
    have e1 := ha h1; have e2 := ha h2
    obtain ⟨i, hi, hz, hs, _⟩ := hE.parts
    simp [execOp, e1, e2, Instr.indexAt, asIntOf, run_underlying ht, run_sizeOf hi, hs, hj, go_sem, Addr.add_add]
end
end Go.Proofs.Ytbfcmfjdjldepaa.V
