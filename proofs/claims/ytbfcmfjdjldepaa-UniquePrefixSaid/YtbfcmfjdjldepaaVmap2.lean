/-
  Maps beside own memory of structs; keys of two integers.
-/
import Derived.Test.YtbfcmfjdjldepaaVz3
import Derived.Test.YtbfcmfjdjldepaaVmap
namespace Go.Proofs.Ytbfcmfjdjldepaa.V
open Go Go.RowKit

section
variable {κ : Type} {enc : κ → Value} {w w' : World} {B r : Nat} {f : κ → Option Value}
theorem OwnMap.offZ {B' m c z : Nat} {e : TypeId} {p : Option Addr} {xs : List Value} (h : OwnMap enc w B r f) (hO : OwnZ w B' e z p m c xs) (hg : w.grownBy w' (Value.ownBlock (.slice p m c))) : OwnMap enc w' B r f := by
  have hlt := h.lt
  obtain ⟨es, cl, hm, h2⟩ := h
  refine ⟨es, cl, ?_, h2⟩
  have hne : some r ≠ Value.ownBlock (.slice p m c) := by
    rcases hO.2 with ⟨hv, _⟩ | ⟨g, cap, cur, hv, _, hg2, _⟩
    · cases hv; simp [Value.ownBlock]
    · cases hv
      simp only [Value.ownBlock]
      intro e
      injection e with e
      subst e
      rw [hm] at hg2; cases hg2
  rw [hg.block r hlt hne]; exact hm
theorem Mz.map {S : List Oz} {B' : Nat} (h : Mz w B' S) (hm : OwnMap enc w B r f) (hg : w.grownBy w' (some r)) : Mz w' B' S := by
  refine ⟨fun o ho => (h.all o ho).grown hg fun b off hp e => ?_, h.apart⟩
  injection e with e
  subst e
  obtain ⟨es, cl, hb, _⟩ := hm
  have hall := h.all o ho
  rw [hp] at hall
  rcases hall.2 with ⟨hv, _⟩ | ⟨g, cap, cur, hv, _, hg2, _⟩
  · cases hv
  · cases hv
    rw [hb] at hg2; cases hg2
end

/-- two numbers as a key -/
abbrev enc2 (q1 q2 : IntKind) : Nat × Nat → Value := fun a => .agg #[.int q1 (a.1 : Int), .int q2 (a.2 : Int)]
theorem enc2_inj {q1 q2 : IntKind} (a b : Nat × Nat) (h : enc2 q1 q2 a = enc2 q1 q2 b) : a = b := by
  unfold enc2 at h
  injection h with h
  have h1 := congrArg (fun x : Array Value => x[0]?) h
  have h2 := congrArg (fun x : Array Value => x[1]?) h
  simp at h1 h2
  exact Prod.ext (by omega) (by omega)
theorem findAsking_2 {P : Program} {kt : TypeId} (hk : Int2 P kt) {q1 q2 : IntKind} (k : Nat × Nat) (w : World) : ∀ (es : List MapEntry) (j : Nat), (∀ e ∈ es, ∃ a, e.key = enc2 q1 q2 a) →
    ∃ r, (Instr.findAsking kt (enc2 q1 q2 k) es j).run P w = .ok r w ∧ ((r = none ∧ ∀ e ∈ es, e.key ≠ enc2 q1 q2 k) ∨ ∃ i e, r = some (j + i, e.val) ∧ es[i]? = some e ∧ e.key = enc2 q1 q2 k)
  | [], j, _ => ⟨none, rfl, .inl ⟨rfl, by simp⟩⟩
  | e :: es, j, h => by
    obtain ⟨a, ha⟩ := h e (by simp)
    have hq := run_equal_int2 (P := P) (t := kt) hk (k1 := q1) (k2 := q2) (a := (k.1 : Int)) (b := (k.2 : Int)) (c := (a.1 : Int)) (d := (a.2 : Int)) w
    by_cases hka : k = a
    · subst hka
      refine ⟨some (j, e.val), ?_, .inr ⟨0, e, rfl, rfl, ha⟩⟩
      unfold Instr.findAsking
      rw [Sem.run_bind, ha, hq]
      simp
    · obtain ⟨r, h1, h2⟩ := findAsking_2 hk k w es (j + 1) fun x hx => h x (by simp [hx])
      refine ⟨r, ?_, ?_⟩
      · unfold Instr.findAsking
        rw [Sem.run_bind, ha, hq]
        have hd : decide ((k.1 : Int) = (a.1 : Int) ∧ (k.2 : Int) = (a.2 : Int)) = false := decide_eq_false fun ⟨e1, e2⟩ => hka (Prod.ext (by omega) (by omega))
        rw [hd]
        simpa using h1
      · rcases h2 with ⟨rfl, h3⟩ | ⟨i, x, rfl, h3, h4⟩
        · refine .inl ⟨rfl, fun x hx => ?_⟩
          rcases List.mem_cons.1 hx with rfl | hx
          · rw [ha]; intro e; exact hka (enc2_inj _ _ e).symm
          · exact h3 x hx
        · exact .inr ⟨i + 1, x, by rw [Nat.add_assoc, Nat.add_comm 1], by simpa using h3, h4⟩

theorem keys_2 {P : Program} {kt : TypeId} (hk : Int2 P kt) {q1 q2 : IntKind} : KeyLaw P kt (enc2 q1 q2) where
  inj := enc2_inj
  same a := by
    have s1 : ∀ (q : IntKind) (x : Int), Instr.sameBits 9999 (.int q x) (.int q x) = true := fun q x => by
      show Instr.sameBits (9998 + 1) _ _ = true
      unfold Instr.sameBits
      simp
    show Instr.sameBits (9999 + 1) _ _ = true
    unfold Instr.sameBits
    simp [s1]
  check b a w := by
    have h1 := hk.out
    unfold int2B at h1
    cases hu : P.underlying kt with
    | none => rw [hu] at h1; cases h1
    | some dd =>
      rw [hu] at h1
      cases dd <;> try (cases h1; done)
      rename_i fs
      simp only [Bool.and_eq_true, beq_iff_eq] at h1
      obtain ⟨⟨hn, _⟩, hall⟩ := h1
      have get : ∀ i, i < 2 → ∃ fl, fs[i]? = some fl ∧ fl.name ≠ "_" ∧ fl.offset = i ∧ ∃ q, P.underlying fl.type = some (.int q) := fun i hi => by
        have h2 := List.all_eq_true.1 hall i (List.mem_range.2 hi)
        cases hf : fs[i]? with
        | none => rw [hf] at h2; cases h2
        | some fl =>
          rw [hf] at h2
          simp only [Bool.and_eq_true, bne_iff_ne, ne_eq, beq_iff_eq] at h2
          obtain ⟨⟨h3, h4⟩, h5⟩ := h2
          refine ⟨fl, rfl, h3, h4, ?_⟩
          cases hq : P.underlying fl.type with
          | none => rw [hq] at h5; cases h5
          | some d => rw [hq] at h5; cases d <;> first | (cases h5; done) | exact ⟨_, rfl⟩
      obtain ⟨f0, a1, a2, a3, q0, a4⟩ := get 0 (by omega)
      obtain ⟨f1, b1, b2, b3, q1', b4⟩ := get 1 (by omega)
      have hl : fs.toList = [f0, f1] := by
        refine List.ext_getElem? fun i => ?_
        match i with
        | 0 => rw [Array.getElem?_toList, a1]; rfl
        | 1 => rw [Array.getElem?_toList, b1]; rfl
        | i + 2 => rw [Array.getElem?_toList, Array.getElem?_eq_none (by omega)]; rfl
      have ag : ∀ {ty : TypeId} {q : IntKind} (w : World), P.underlying ty = some (.int q) → (isAgg ty).run P w = .ok false w := fun w h => by
        unfold isAgg; simp [run_underlying h, go_sem]
      have p0 : ∀ (w : World) (x y : Value), (part f0.type #[x, y] 0).run P w = .ok x w := fun w x y => by
        simp [part, ag w a4, go_sem]
      have p1 : ∀ (w : World) (x y : Value), (part f1.type #[x, y] 1).run P w = .ok y w := fun w x y => by
        simp [part, ag w b4, go_sem]
      have ck : ∀ {ty : TypeId} {q : IntKind} (w : World) (q2 : IntKind) (x : Int), P.underlying ty = some (.int q) → (Instr.checkKey b 9999 ty (.int q2 x)).run P w = .ok () w := fun w q2 x h => by
        show (Instr.checkKey b (9998 + 1) _ _).run P w = _
        unfold Instr.checkKey
        simp only [Sem.run_bind, run_underlying h, Result.andThen_ok]
        rfl
      show (Instr.checkKey b (9999 + 1) kt (.agg #[.int q1 (a.1 : Int), .int q2 (a.2 : Int)])).run P w = _
      unfold Instr.checkKey
      simp only [Sem.run_bind, run_underlying hu, Result.andThen_ok]
      rw [← Array.forIn_toList, hl]
      simp only [List.forIn_cons, List.forIn_nil, Sem.run_bind, a2, b2, ne_eq, not_false_eq_true, if_true, a3, b3, p0, p1, Result.andThen_ok, ck w _ _ a4, ck w _ _ b4, Sem.run_pure]
  find k es w h := by
    cases es with
    | nil =>
      refine ⟨none, ?_, .inl ⟨rfl, by simp⟩⟩
      have h1 := hk.out
      unfold int2B at h1
      cases hu : P.underlying kt with
      | none => rw [hu] at h1; cases h1
      | some dd => simp [Instr.findKey, run_underlying hu, Instr.findNow, go_sem]
    | cons e es =>
      obtain ⟨r, h1, h2⟩ := findAsking_2 hk k w (e :: es) 0 h
      refine ⟨r, ?_, ?_⟩
      · have h0 := hk.out
        unfold int2B at h0
        cases hu : P.underlying kt with
        | none => rw [hu] at h0; cases h0
        | some dd =>
          rw [hu] at h0
          cases dd <;> try (cases h0; done)
          rename_i fs
          have hn : Instr.findNow (.struct fs) (enc2 q1 q2 k) (e :: es) 0 = none := by
            obtain ⟨a, ha⟩ := h e (by simp)
            simp [Instr.findNow, ha, Instr.sameNow]
          simp only [Instr.findKey, Sem.run_bind, run_underlying hu, Result.andThen_ok, hn]
          exact h1
      · rcases h2 with h2 | ⟨i, x, h3, h4⟩
        · exact .inl h2
        · exact .inr ⟨i, x, by simpa using h3, h4⟩
end Go.Proofs.Ytbfcmfjdjldepaa.V
