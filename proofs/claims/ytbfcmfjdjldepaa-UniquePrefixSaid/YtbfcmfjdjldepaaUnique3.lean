/-
  Package unique: Unique, Twice.
-/
import Derived.Test.YtbfcmfjdjldepaaUnique2
import Derived.Test.YtbfcmfjdjldepaaPrefix2
namespace Go.Proofs.Ytbfcmfjdjldepaa
open Go Go.RowKit V
set_option linter.unusedVariables false
set_option linter.unusedSimpArgs false

theorem found_iff {C : Code} {a b : List Nat} (h : Found C a b) : a.length + b.length = 0 ↔ UD C := by
  rcases h with ⟨rfl, rfl, h⟩ | ⟨h1, _, h2⟩
  · exact ⟨fun _ => h, fun _ => rfl⟩
  · exact ⟨fun h9 => by omega, fun h9 => absurd h9 h2⟩
theorem ud_nil {C : Code} (h : C.length = 0) : UD C := by
  intro a b sa sb _
  have h1 : ∀ {l : List Nat}, Syms C l → l = [] := fun {l} hl => by
    cases l with
    | nil => rfl
    | cons x l => have := hl x (by simp); omega
  rw [h1 sa, h1 sb]
theorem map_cast {a b : List Nat} (h : (a.map fun x : Nat => (x : Int)) = b.map fun x : Nat => (x : Int)) : a = b := by
  refine List.map_inj_right (fun x y e => ?_) |>.1 h
  omega

theorem uniq_any (C : List Wd) (p : Option Addr) (c m : Nat) (w0 : World) (hr : RdW w0 p C) (hm : C.length = m) :
    CallsV Try.prog 22 #[.slice p m c] w0 (fun v w => ∃ (b : Bool) (e : Nat), v = .tuple #[.bool b, .int .i64 (e : Int)] ∧ (e = 0 ↔ Coded (codeOf C)) ∧ (e = 0 → (b = true ↔ UD (codeOf C))) ∧ Below w0.heap.size w0 w) := by
  refine enter2 Try.func22 rfl Try.ntmps22 (by simp) rfl ?_
  have hB := Below.refl w0.heap.size w0
  simp only [argLoc]
  have hM := Mem.nil w0 w0.heap.size
  subst hm
  have hh := hr.head
  refine W.seqR ?_
  refine LS.vv rfl rfl (by decide) (Val.assign rfl) ?_
  refine LS.vv rfl rfl (by decide) (Val.cast (v := .int .i64 ((0 : Nat) : Int)) (Val.assign rfl) rfl) ?_
  refine LS.nil ?_
  refine W.seq ?_
  refine W.seqR ?_
  refine LS.vv rfl rfl (by decide) (Val.move rfl) ?_
  refine LS.m rfl (Step.call body24 rfl rfl (by decide) rfl (CallsV.mono (check_any C _ _ _ _ (hr.below hB) rfl) ?_))
  rintro _ w1 ⟨e, rfl, he, hb1⟩
  replace hM := hM.below hb1
  replace hB := hB.trans (hb1.mono hB.size)
  refine LS.vv rfl rfl (by decide) (Val.assign rfl) ?_
  refine LS.nil ?_
  refine W.seqR ?_
  refine LS.vv rfl rfl (by decide) (Val.move rfl) ?_
  refine LS.vv rfl rfl (by decide) (Val.neq rfl rfl) ?_
  refine LS.nil ?_
  first | refine W.condD rfl (fun hc1 => ?_) (fun hc1 => ?_) | refine W.cond rfl (fun hc1 => ?_) (fun hc1 => ?_)
  ·
    refine W.seqR ?_
    refine LS.vv rfl rfl (by decide) (Val.move rfl) ?_
    refine LS.vv rfl rfl (by decide) (Val.assign rfl) ?_
    refine LS.vv rfl rfl (by decide) (Val.assign rfl) ?_
    refine LS.nil ?_
    refine W.ret ?_
    refine thenP_ret ?_
    refine ret2 (by first | exact .inl rfl | exact .inr rfl) rfl rfl ?_
    first | exact ⟨false, e, rfl, he, fun h => by exfalso; omega, hB⟩ | exact ⟨_, 0, rfl, ⟨fun _ => he.1 (by omega), fun _ => rfl⟩, fun _ => ⟨fun h9 => hfi.1 (by have := of_decide_eq_true h9; omega), fun h9 => decide_eq_true (by have := hfi.2 h9; omega)⟩, hB⟩
  ·
    refine W.skip ?_
    refine thenP_normal ?_
    refine W.seqR ?_
    refine LS.vv rfl rfl (by decide) (Val.move rfl) ?_
    refine LS.m rfl (Step.call body37 rfl rfl (by decide) rfl (CallsV.mono (find_any C _ _ _ _ (hr.below hB) rfl (he.1 (by omega))) ?_))
    rintro _ w2 ⟨pa, pb, ca, cb, a, b, rfl, hRa, hRb, hF, hla, hlb, hb2⟩
    replace hM := hM.below hb2
    replace hB := hB.trans (hb2.mono hB.size)
    have hfi := found_iff hF
    refine LS.vv rfl rfl (by decide) (Val.move rfl) ?_
    refine LS.vv rfl rfl (by decide) (Val.extract rfl rfl) ?_
    refine LS.vv rfl rfl (by decide) (Val.extract rfl rfl) ?_
    refine LS.vv rfl rfl (by decide) (Val.assign rfl) ?_
    refine LS.vv rfl rfl (by decide) (Val.assign rfl) ?_
    refine LS.nil ?_
    refine W.seqR ?_
    refine LS.vv rfl rfl (by decide) (Val.move rfl) ?_
    refine LS.vv rfl rfl (by decide) (Val.len Try.underlying28 rfl) ?_
    refine LS.vv rfl rfl (by decide) (Val.move rfl) ?_
    refine LS.vv rfl rfl (by decide) (Val.len Try.underlying28 rfl) ?_
    first | refine LS.vv rfl rfl (by decide) (Val.addN rfl rfl (by omega)) ?_ | refine LS.vv rfl rfl (by decide) (Val.add64 rfl rfl (by omega)) ?_
    refine LS.vv rfl rfl (by decide) (Val.eql rfl rfl) ?_
    refine LS.vv rfl rfl (by decide) (Val.assign rfl) ?_
    refine LS.vv rfl rfl (by decide) (Val.cast (v := .int .i64 ((0 : Nat) : Int)) (Val.assign rfl) rfl) ?_
    refine LS.nil ?_
    refine W.ret ?_
    refine ret2 (by first | exact .inl rfl | exact .inr rfl) rfl rfl ?_
    first | exact ⟨false, e, rfl, he, fun h => by exfalso; omega, hB⟩ | exact ⟨_, 0, rfl, ⟨fun _ => he.1 (by omega), fun _ => rfl⟩, fun _ => ⟨fun h9 => hfi.1 (by have := of_decide_eq_true h9; omega), fun h9 => decide_eq_true (by have := hfi.2 h9; omega)⟩, hB⟩

theorem twice_any (C : List Wd) (p : Option Addr) (c m : Nat) (w0 : World) (hr : RdW w0 p C) (hm : C.length = m) :
    CallsV Try.prog 23 #[.slice p m c] w0 (fun v w => ∃ (pa pb : Option Addr) (ca cb : Nat) (a b : List Nat) (e : Nat), v = .tuple #[.slice pa a.length ca, .slice pb b.length cb, .int .i64 (e : Int)] ∧ Rd w pa (nv a) ∧ Rd w pb (nv b) ∧ (e = 0 ↔ Coded (codeOf C) ∧ ¬ UD (codeOf C)) ∧ (e = 0 → a ≠ b) ∧ a.length ≤ 1000 ∧ b.length ≤ 1000 ∧ Below w0.heap.size w0 w) := by
  refine enter3 Try.func23 rfl Try.ntmps23 (by simp) rfl ?_
  have hB := Below.refl w0.heap.size w0
  simp only [argLoc]
  have hM := Mem.nil w0 w0.heap.size
  subst hm
  have hh := hr.head
  refine W.seqR ?_
  refine LS.vv rfl rfl (by decide) (Val.assign rfl) ?_
  refine LS.vv rfl rfl (by decide) (Val.assign rfl) ?_
  refine LS.vv rfl rfl (by decide) (Val.cast (v := .int .i64 ((0 : Nat) : Int)) (Val.assign rfl) rfl) ?_
  refine LS.nil ?_
  refine W.seq ?_
  refine W.seqR ?_
  refine LS.vv rfl rfl (by decide) (Val.move rfl) ?_
  refine LS.m rfl (Step.call body24 rfl rfl (by decide) rfl (CallsV.mono (check_any C _ _ _ _ (hr.below hB) rfl) ?_))
  rintro _ w1 ⟨e, rfl, he, hb1⟩
  replace hM := hM.below hb1
  replace hB := hB.trans (hb1.mono hB.size)
  refine LS.vv rfl rfl (by decide) (Val.assign rfl) ?_
  refine LS.nil ?_
  refine W.seqR ?_
  refine LS.vv rfl rfl (by decide) (Val.move rfl) ?_
  refine LS.vv rfl rfl (by decide) (Val.neq rfl rfl) ?_
  refine LS.nil ?_
  first | refine W.condD rfl (fun hc1 => ?_) (fun hc1 => ?_) | refine W.cond rfl (fun hc1 => ?_) (fun hc1 => ?_)
  ·
    refine W.seqR ?_
    refine LS.vv rfl rfl (by decide) (Val.move rfl) ?_
    refine LS.vv rfl rfl (by decide) (Val.assign rfl) ?_
    refine LS.vv rfl rfl (by decide) (Val.assign rfl) ?_
    refine LS.vv rfl rfl (by decide) (Val.assign rfl) ?_
    refine LS.nil ?_
    refine W.ret ?_
    refine thenP_ret ?_
    refine ret3 (by first | exact .inl rfl | exact .inr rfl) rfl rfl rfl ?_
    first
      | (exact ⟨none, none, 0, 0, [], [], e, rfl, Rd.nil _ _, Rd.nil _ _, ⟨fun h => by exfalso; omega, fun h => by exfalso; have := he.2 h.1; omega⟩, fun h => by exfalso; omega, by simp, by simp, hB⟩; done)
      | (exact ⟨none, none, 0, 0, [], [], 5, rfl, Rd.nil _ _, Rd.nil _ _, ⟨fun h => by exfalso; omega, fun h => by exfalso; exact h.2 (hfi.1 (by omega))⟩, fun h => by exfalso; omega, by simp, by simp, hB⟩; done)
      | (have hnu : ¬ UD (codeOf C) := fun h9 => by have := hfi.2 h9; omega
         exact ⟨pa, pb, ca, cb, a, b, 0, rfl, hRa, hRb, ⟨fun _ => ⟨he.1 (by omega), hnu⟩, fun _ => rfl⟩, fun _ e9 => by { rcases hF with ⟨_, _, h9⟩ | ⟨_, h9, _⟩; (exact hnu h9); exact h9 e9 }, hla, hlb, hB⟩)
  ·
    refine W.skip ?_
    refine thenP_normal ?_
    refine W.seqR ?_
    refine LS.vv rfl rfl (by decide) (Val.move rfl) ?_
    refine LS.m rfl (Step.call body37 rfl rfl (by decide) rfl (CallsV.mono (find_any C _ _ _ _ (hr.below hB) rfl (he.1 (by omega))) ?_))
    rintro _ w2 ⟨pa, pb, ca, cb, a, b, rfl, hRa, hRb, hF, hla, hlb, hb2⟩
    replace hM := hM.below hb2
    replace hB := hB.trans (hb2.mono hB.size)
    have hfi := found_iff hF
    refine LS.vv rfl rfl (by decide) (Val.move rfl) ?_
    refine LS.vv rfl rfl (by decide) (Val.extract rfl rfl) ?_
    refine LS.vv rfl rfl (by decide) (Val.extract rfl rfl) ?_
    refine LS.vv rfl rfl (by decide) (Val.assign rfl) ?_
    refine LS.vv rfl rfl (by decide) (Val.assign rfl) ?_
    refine LS.nil ?_
    refine W.seq ?_
    refine W.seqR ?_
    refine LS.vv rfl rfl (by decide) (Val.move rfl) ?_
    refine LS.vv rfl rfl (by decide) (Val.len Try.underlying28 rfl) ?_
    refine LS.vv rfl rfl (by decide) (Val.move rfl) ?_
    refine LS.vv rfl rfl (by decide) (Val.len Try.underlying28 rfl) ?_
    first | refine LS.vv rfl rfl (by decide) (Val.addN rfl rfl (by omega)) ?_ | refine LS.vv rfl rfl (by decide) (Val.add64 rfl rfl (by omega)) ?_
    refine LS.vv rfl rfl (by decide) (Val.eql rfl rfl) ?_
    refine LS.nil ?_
    first | refine W.condD rfl (fun hc2 => ?_) (fun hc2 => ?_) | refine W.cond rfl (fun hc2 => ?_) (fun hc2 => ?_)
    ·
      refine W.seqR ?_
      refine LS.vv rfl rfl (by decide) (Val.assign rfl) ?_
      refine LS.vv rfl rfl (by decide) (Val.assign rfl) ?_
      refine LS.vv rfl rfl (by decide) (Val.cast (v := .int .i64 ((5 : Nat) : Int)) (Val.assign rfl) rfl) ?_
      refine LS.nil ?_
      refine W.ret ?_
      refine thenP_ret ?_
      refine ret3 (by first | exact .inl rfl | exact .inr rfl) rfl rfl rfl ?_
      first
        | (exact ⟨none, none, 0, 0, [], [], e, rfl, Rd.nil _ _, Rd.nil _ _, ⟨fun h => by exfalso; omega, fun h => by exfalso; have := he.2 h.1; omega⟩, fun h => by exfalso; omega, by simp, by simp, hB⟩; done)
        | (exact ⟨none, none, 0, 0, [], [], 5, rfl, Rd.nil _ _, Rd.nil _ _, ⟨fun h => by exfalso; omega, fun h => by exfalso; exact h.2 (hfi.1 (by omega))⟩, fun h => by exfalso; omega, by simp, by simp, hB⟩; done)
        | (have hnu : ¬ UD (codeOf C) := fun h9 => by have := hfi.2 h9; omega
           exact ⟨pa, pb, ca, cb, a, b, 0, rfl, hRa, hRb, ⟨fun _ => ⟨he.1 (by omega), hnu⟩, fun _ => rfl⟩, fun _ e9 => by { rcases hF with ⟨_, _, h9⟩ | ⟨_, h9, _⟩; (exact hnu h9); exact h9 e9 }, hla, hlb, hB⟩)
    ·
      refine W.skip ?_
      refine thenP_normal ?_
      refine W.seqR ?_
      refine LS.vv rfl rfl (by decide) (Val.move rfl) ?_
      refine LS.vv rfl rfl (by decide) (Val.move rfl) ?_
      refine LS.vv rfl rfl (by decide) (Val.assign rfl) ?_
      refine LS.vv rfl rfl (by decide) (Val.assign rfl) ?_
      refine LS.vv rfl rfl (by decide) (Val.cast (v := .int .i64 ((0 : Nat) : Int)) (Val.assign rfl) rfl) ?_
      refine LS.nil ?_
      refine W.ret ?_
      refine ret3 (by first | exact .inl rfl | exact .inr rfl) rfl rfl rfl ?_
      first
        | (exact ⟨none, none, 0, 0, [], [], e, rfl, Rd.nil _ _, Rd.nil _ _, ⟨fun h => by exfalso; omega, fun h => by exfalso; have := he.2 h.1; omega⟩, fun h => by exfalso; omega, by simp, by simp, hB⟩; done)
        | (exact ⟨none, none, 0, 0, [], [], 5, rfl, Rd.nil _ _, Rd.nil _ _, ⟨fun h => by exfalso; omega, fun h => by exfalso; exact h.2 (hfi.1 (by omega))⟩, fun h => by exfalso; omega, by simp, by simp, hB⟩; done)
        | (have hnu : ¬ UD (codeOf C) := fun h9 => by have := hfi.2 h9; omega
           exact ⟨pa, pb, ca, cb, a, b, 0, rfl, hRa, hRb, ⟨fun _ => ⟨he.1 (by omega), hnu⟩, fun _ => rfl⟩, fun _ e9 => by { rcases hF with ⟨_, _, h9⟩ | ⟨_, h9, _⟩; (exact hnu h9); exact h9 e9 }, hla, hlb, hB⟩)

end Go.Proofs.Ytbfcmfjdjldepaa
