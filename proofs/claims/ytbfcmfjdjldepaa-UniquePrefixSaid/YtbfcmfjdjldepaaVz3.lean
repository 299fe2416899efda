/-
  Structs as values: built, taken apart, compared.
-/
import Derived.Test.YtbfcmfjdjldepaaVz2
namespace Go.Proofs.Ytbfcmfjdjldepaa.V
open Go Go.RowKit

section
variable {P : Program} {S : World → Prop} {L : Loc} {x y : Operand} {u v : Value} {t t' s e : TypeId} {n : Nat} {w : World}

theorem Str.parts {k : Nat} (h : Str P t k) : ∃ fs : Array Field, P.underlying t = some (.struct fs) ∧ fs.size = k ∧ ∀ i, i < k → ∃ fl, fs[i]? = some fl ∧ fl.offset = i ∧ (∃ info, P.info? fl.type = some info ∧ info.size = 1) ∧ ∀ w, (isAgg fl.type).run P w = .ok false w := by
  have h1 := h.out
  unfold flatB at h1
  cases hu : P.underlying t with
  | none => rw [hu] at h1; cases h1
  | some d =>
    rw [hu] at h1
    cases d <;> try (cases h1; done)
    rename_i fs
    simp only [Bool.and_eq_true, beq_iff_eq] at h1
    obtain ⟨hk, hall⟩ := h1
    refine ⟨fs, rfl, hk, fun i hi => ?_⟩
    have h2 := List.all_eq_true.1 hall i (List.mem_range.2 hi)
    cases hf : fs[i]? with
    | none => rw [hf] at h2; cases h2
    | some fl =>
      rw [hf] at h2
      simp only [Bool.and_eq_true, beq_iff_eq] at h2
      obtain ⟨⟨h3, h4⟩, h5⟩ := h2
      refine ⟨fl, rfl, h3, ?_, fun w => ?_⟩
      · cases hi : P.info? fl.type with
        | none => rw [hi] at h4; cases h4
        | some info => rw [hi] at h4; exact ⟨info, rfl, by simpa using h4⟩
      · cases hq : P.underlying fl.type with
        | none => rw [hq] at h5; cases h5
        | some d =>
          rw [hq] at h5
          unfold isAgg
          cases d <;> simp [run_underlying hq, go_sem] <;> cases h5

theorem run_places (w : World) : ∀ l : List Field, (∀ f ∈ l, (sizeOf f.type).run P w = .ok 1 w) → Sem.run P (l.mapM fun (f : Field) => (do pure (f.offset, ← sizeOf f.type) : Sem (Nat × Nat))) w = .ok (l.map fun (f : Field) => (f.offset, 1)) w
  | [], _ => by rw [List.mapM_nil]; rfl
  | f :: l, h => by
    have h1 := h f (by simp)
    have h2 := run_places w l fun g hg => h g (by simp [hg])
    rw [List.mapM_cons]
    simp only [Sem.run_bind, h1, Result.andThen_ok, Sem.run_pure, h2, List.map_cons]

def buildV (L : Loc) : List Value → List (Nat × Operand) → Option (List Value)
  | zs, [] => some zs
  | zs, (j, x) :: r => match ev L x with
    | some v => bif v.oneCell' && Nat.blt j zs.length then buildV L (zs.set j v) r else none
    | none => none
theorem fill_one {place : Nat → Option (Nat × Nat)} {k : Nat} (hpl : ∀ i, i < k → place i = some (i, 1)) {ρ : Operand → Value} (ha : ∀ {x v}, ev L x = some v → ρ x = v) : ∀ (parts : List (Nat × Operand)) (zs vs : List Value), zs.length = k → buildV L zs parts = some vs →
    Instr.fill place zs.toArray (parts.map fun (i, x) => (i, ρ x)) = some vs.toArray
  | [], zs, vs, _, h => by cases h; rfl
  | (j, x) :: r, zs, vs, hl, h => by
    unfold buildV at h
    cases hx : ev L x with
    | none => rw [hx] at h; cases h
    | some v =>
      rw [hx] at h
      simp only at h
      cases hb : (v.oneCell' && Nat.blt j zs.length) with
      | false => rw [hb] at h; cases h
      | true =>
        rw [hb] at h
        simp only [cond_true] at h
        simp only [Bool.and_eq_true] at hb
        have hj : j < zs.length := Nat.lt_of_succ_le (Nat.le_of_ble_eq_true hb.2)
        have hc := cells_one hb.1
        have hs : zs = zs.take j ++ [zs[j]] ++ zs.drop (j + 1) := by
          rw [List.append_assoc, List.singleton_append, ← List.drop_eq_getElem_cons hj, List.take_append_drop]
        have hset : zs.set j v = zs.take j ++ [v] ++ zs.drop (j + 1) := by
          rw [List.set_eq_take_append_cons_drop, if_pos hj]; simp
        simp only [List.map_cons, ha hx]
        conv => lhs; rw [hs]
        rw [fill_seg (place := place) (off := j) (z := 1) (hpl j (by omega)) (by rw [hc]; rfl) (by rw [List.length_take]; omega) rfl, hc]
        have := fill_one hpl ha r (zs.set j v) vs (by simpa using hl) h
        rw [hset] at this
        exact this

theorem Val.build {k bytes : Nat} {z0 : Value} {zs vs : List Value} {parts : List (Nat × Operand)} (hS : Str P t k) (hE : Elem P t k bytes z0) (hz : z0.cells = zs.toArray) (hl : zs.length = k) (hp : buildV L zs parts = some vs) :
    Val P S (.build t parts.toArray) L (.agg vs.toArray) := by
  intro ρ ha w _ dst ty pos after guard
  obtain ⟨fs, hu, hfs, hall⟩ := hS.parts
  obtain ⟨i, hi, hz0, hs, _⟩ := hE.parts
  have hzv : (zeroValue t).run P w = .ok z0 w := by simp [zeroValue, typeInfo, hi, hz0, go_sem]
  have hsz : ∀ f ∈ fs.toList, (sizeOf f.type).run P w = .ok 1 w := fun f hf => by
    obtain ⟨j, hj, rfl⟩ := List.getElem_of_mem hf
    obtain ⟨fl, h1, _, ⟨info, h2, h3⟩, _⟩ := hall j (by simpa [hfs] using hj)
    have : fs.toList[j] = fl := by
      have := h1
      rw [Array.getElem?_eq_getElem (by simpa using hj)] at this
      simpa using this
    rw [this, run_sizeOf h2, h3]
  have hpl := run_places w fs.toList hsz
  have hmap : Sem.run P (fs.mapM fun (f : Field) => (do pure (f.offset, ← sizeOf f.type) : Sem (Nat × Nat))) w = .ok (fs.toList.map fun f => (f.offset, 1)).toArray w := by
    rw [Array.mapM_eq_mapM_toList, map_eq_pure_bind, Sem.run_bind, hpl]
    rfl
  have hplace : ∀ j, j < k → (fs.toList.map fun f => (f.offset, 1)).toArray[j]? = some (j, 1) := fun j hj => by
    obtain ⟨fl, h1, h2, _⟩ := hall j hj
    have h3 : fs.toList[j]? = some fl := by rw [Array.getElem?_toList]; exact h1
    rw [List.getElem?_toArray, List.getElem?_map, h3, Option.map_some, h2]
  have hfill := fill_one (place := fun j => (fs.toList.map fun f => (f.offset, 1)).toArray[j]?) hplace ha parts zs vs hl hp
  show Sem.run P (do pure (Next.value (← Instr.build t (parts.toArray.map fun (i, x) => (i, ρ x))))) w = _
  refine run_v ?_
  unfold Instr.build
  have hpm : (parts.toArray.map fun (i, x) => (i, ρ x)).toList = parts.map fun (i, x) => (i, ρ x) := by simp
  simp only [Sem.run_bind, hzv, Result.andThen_ok, run_underlying hu, hmap, hz, hpm, hfill, Sem.run_pure]

theorem Val.field {k f : Nat} {vs : List Value} (hS : Str P t k) (hf : f < k) (h1 : ev L x = some (.agg vs.toArray)) (hn : nth vs f = some u) : Val P S (.field t x f) L u := by
  intro ρ ha w _ dst ty pos after guard
  have e1 := ha h1
  obtain ⟨fs, hu, hfs, hall⟩ := hS.parts
  obtain ⟨fl, h2, h3, _, h5⟩ := hall f hf
  show Sem.run P (do pure (Next.value (← Instr.field t (ρ x) f))) w = _
  rw [e1]
  refine run_v ?_
  rw [nth_eq] at hn
  simp only [Instr.field, Sem.run_bind, run_underlying hu, Result.andThen_ok, h2, asAgg, Sem.run_pure, part, h5, h3]
  simp [hn, go_sem]

/-- two fields of integers -/
def int2B (P : Program) (t : TypeId) : Bool :=
  match P.underlying t with
  | some (.struct fs) => fs.size == 2 && !(P.stoodInHeld t) && (List.range 2).all fun i => match fs[i]? with
    | some fl => fl.name != "_" && fl.offset == i && (match P.underlying fl.type with | some (.int _) => true | _ => false)
    | none => false
  | _ => false
structure Int2 (P : Program) (t : TypeId) : Prop where
  out : int2B P t = true
  free : P.eqGuardType P.depth t = false
theorem run_equal_int2 (h : Int2 P t) {k1 k2 : IntKind} {a b c d : Int} (w : World) : (Op.equal t (.agg #[.int k1 a, .int k2 b]) (.agg #[.int k1 c, .int k2 d])).run P w = .ok (decide (a = c ∧ b = d)) w := by
  have h1 := h.out
  unfold int2B at h1
  cases hu : P.underlying t with
  | none => rw [hu] at h1; cases h1
  | some dd =>
    rw [hu] at h1
    cases dd <;> try (cases h1; done)
    rename_i fs
    simp only [Bool.and_eq_true, beq_iff_eq] at h1
    obtain ⟨⟨hk, hst⟩, hall⟩ := h1
    have hfo : P.fieldsOf t = fs := by unfold Program.fieldsOf; rw [hu]
    have hst' : P.stoodInHeld t = false := by simpa using hst
    have get : ∀ i, i < 2 → ∃ fl, fs[i]? = some fl ∧ fl.name ≠ "_" ∧ fl.offset = i ∧ ∃ q, P.underlying fl.type = some (.int q) := fun i hi => by
      have h2 := List.all_eq_true.1 hall i (List.mem_range.2 hi)
      cases hf : fs[i]? with
      | none => rw [hf] at h2; cases h2
      | some fl =>
        rw [hf] at h2
        simp only [Bool.and_eq_true, bne_iff_ne, ne_eq, beq_iff_eq] at h2
        obtain ⟨⟨h3, h4⟩, h5⟩ := h2
        refine ⟨fl, rfl, h3, h4, ?_⟩
        cases hq : P.underlying fl.type with
        | none => rw [hq] at h5; cases h5
        | some d => rw [hq] at h5; cases d <;> first | (cases h5; done) | exact ⟨_, rfl⟩
    obtain ⟨f0, a1, a2, a3, q0, a4⟩ := get 0 (by omega)
    obtain ⟨f1, b1, b2, b3, q1, b4⟩ := get 1 (by omega)
    have hl : fs.toList = [f0, f1] := by
      refine List.ext_getElem? fun i => ?_
      match i with
      | 0 => rw [Array.getElem?_toList, a1]; rfl
      | 1 => rw [Array.getElem?_toList, b1]; rfl
      | i + 2 => rw [Array.getElem?_toList, Array.getElem?_eq_none (by omega)]; rfl
    have ag : ∀ {ty : TypeId} {q : IntKind} (w : World), P.underlying ty = some (.int q) → (isAgg ty).run P w = .ok false w := fun w h => by
      unfold isAgg; simp [run_underlying h, go_sem]
    have hh := run_equalIn_struct (P := P) w 9999 t #[.int k1 a, .int k2 b] #[.int k1 c, .int k2 d] (by rw [hfo]; exact hu) hst'
    show (Op.equalIn 10000 t _ _).run P w = _
    rw [hh, hfo, hl]
    have p0 : ∀ (w : World) (x y : Value), (part f0.type #[x, y] 0).run P w = .ok x w := fun w x y => by
      simp [part, ag w a4, go_sem]
    have p1 : ∀ (w : World) (x y : Value), (part f1.type #[x, y] 1).run P w = .ok y w := fun w x y => by
      simp [part, ag w b4, go_sem]
    have h0 := run_equalIn_int w 9998 f0.type k1 q0 a c a4
    have h1 := run_equalIn_int w 9998 f1.type k2 q1 b d b4
    simp only [Op.eqFields, a2, b2, ne_eq, not_false_eq_true, if_true, Sem.run_bind, a3, b3, p0, p1, Result.andThen_ok]
    rw [show (9999 : Nat) = 9998 + 1 from rfl, h0]
    by_cases hac : a = c
    · subst hac
      simp only [beq_self_eq_true, Result.andThen_ok, Bool.not_true, Bool.false_eq_true, if_false, Sem.run_ite, Sem.run_bind, p1]
      rw [h1]
      by_cases hbd : b = d
      · subst hbd; simp [Op.eqFields]
      · simp [hbd]
    · simp [hac]
theorem Val.eql2 {k1 k2 : IntKind} {a b c d : Int} (h : Int2 P t) (h1 : ev L x = some (.agg #[.int k1 a, .int k2 b])) (h2 : ev L y = some (.agg #[.int k1 c, .int k2 d])) : Val P S (.binOp .eql t x y t') L (.bool (decide (a = c ∧ b = d))) := by
  intro ρ ha w _ dst ty pos after guard
  have e1 := ha h1; have e2 := ha h2
  have hq := run_equal_int2 (P := P) (t := t) h (k1 := k1) (k2 := k2) (a := a) (b := b) (c := c) (d := d) w
  simp only [execOp, e1, e2, Sem.run_bind, run_eqGuard_agg w .eql t x y _ _ h.free, Result.andThen_ok, run_eql_struct]
  unfold Op.equal Op.maxDepth at hq
  rw [hq]
  rfl
theorem Val.neq2 {k1 k2 : IntKind} {a b c d : Int} (h : Int2 P t) (h1 : ev L x = some (.agg #[.int k1 a, .int k2 b])) (h2 : ev L y = some (.agg #[.int k1 c, .int k2 d])) : Val P S (.binOp .neq t x y t') L (.bool (decide (¬ (a = c ∧ b = d)))) := by
  intro ρ ha w _ dst ty pos after guard
  have e1 := ha h1; have e2 := ha h2
  have hq := run_equal_int2 (P := P) (t := t) h (k1 := k1) (k2 := k2) (a := a) (b := b) (c := c) (d := d) w
  simp only [execOp, e1, e2, Sem.run_bind, run_eqGuard_agg w .neq t x y _ _ h.free, Result.andThen_ok, run_neq_struct]
  unfold Op.equal Op.maxDepth at hq
  rw [hq]
  simp
end

/-- the condition: what was there is as it was, and the own blocks are these -/
abbrev HeldZ (B : Nat) (w0 : World) (Sx : List Oz) : World → Prop := fun w => Below B w0 w ∧ Mz w B Sx
section
variable {P : Program} {n : Nat} {ops : Array Oper} {L : Loc} {w : World}
theorem W.seqFz {id : Nat} {y : Code} {Q : Post} {B : Nat} {w0 : World} {Sx : List Oz} (f : Nat) (ord : List (Nat × Bool)) (hm : P.follows .mixedOrders = true) (hok : ordOkX ops f ord = true) (hB : Below B w0 w) (hM : Mz w B Sx)
    (h : DF P n ops (HeldZ B w0 Sx) f (fun L w => W P n y Q L w) ord L w.drew) : W P n (.seq (.region id ops true) y) Q L w :=
  W.seq fun a ha => wp_mono (wp_regionF (S := HeldZ B w0 Sx) f ord hm hok ⟨hB.drew, hM.drew⟩ h ha) fun e a' w' q => by
    obtain ⟨rfl, L', hk, hy⟩ := q
    exact ⟨L', hk, hy⟩
theorem W.regFz {id : Nat} {Q : Post} {B : Nat} {w0 : World} {Sx : List Oz} (f : Nat) (ord : List (Nat × Bool)) (hm : P.follows .mixedOrders = true) (hok : ordOkX ops f ord = true) (hB : Below B w0 w) (hM : Mz w B Sx)
    (h : DF P n ops (HeldZ B w0 Sx) f (fun L w => Q .normal L w) ord L w.drew) : W P n (.region id ops true) Q L w :=
  fun a ha => wp_mono (wp_regionF (S := HeldZ B w0 Sx) f ord hm hok ⟨hB.drew, hM.drew⟩ h ha) fun e a' w' q => by
    obtain ⟨rfl, L', hk, hy⟩ := q
    exact ⟨L', hk, hy⟩
end
end Go.Proofs.Ytbfcmfjdjldepaa.V
