/-
  The walk of ship.Play.
-/
import Derived.Test.YtldcpihjoakigaaShipPlain
import Derived.Test.YtldcpihjoakigaaVfacts3
import Derived.Test.YtldcpihjoakigaaVz4
namespace Go.Proofs.Ytldcpihjoakigaa
open Go Go.RowKit V
set_option linter.unusedVariables false
set_option linter.unusedSimpArgs false

/-- the cells of a line -/
def lnc (s : SL) (pw : Option Addr) (cw : Nat) : List Value := [.int .i64 (s.mode : Int), .slice pw s.wr.length cw, .int .i64 (s.sent : Int), .int .i64 (s.got : Int), .int .i64 (s.put : Int), .int .i64 (s.known : Int)]
def one1 (x m : Nat) : Nat := if x < m then x + 1 else x
def one0 (x m : Nat) : Nat := if x < m then 0 else 5
theorem ldo2 (s : SL) (pw : Option Addr) (cw : Nat) : lcode s 2 = one0 s.sent s.wr.length ∧ (lnc s pw cw).set 2 (.int .i64 (one1 s.sent s.wr.length : Int)) = lnc (ldo s 2) pw cw := by
  unfold lcode one0 one1 ldo; by_cases h : s.sent < s.wr.length <;> simp [h, lnc]
theorem ldo3 (s : SL) (pw : Option Addr) (cw : Nat) : lcode s 3 = one0 s.got s.sent ∧ (lnc s pw cw).set 3 (.int .i64 (one1 s.got s.sent : Int)) = lnc (ldo s 3) pw cw := by
  unfold lcode one0 one1 ldo; by_cases h : s.got < s.sent <;> simp [h, lnc]
theorem ldo4 (s : SL) (pw : Option Addr) (cw : Nat) : lcode s 4 = one0 s.put s.got ∧ (lnc s pw cw).set 4 (.int .i64 (one1 s.put s.got : Int)) = lnc (ldo s 4) pw cw := by
  unfold lcode one0 one1 ldo; by_cases h : s.put < s.got <;> simp [h, lnc]
theorem ldo6 (s : SL) (pw : Option Addr) (cw : Nat) : lcode s 6 = 0 ∧ (lnc s pw cw).set 2 (.int .i64 (s.got : Int)) = lnc (ldo s 6) pw cw := by
  unfold lcode ldo; simp [lnc]
theorem ldo5 (s : SL) (pw : Option Addr) (cw : Nat) : lcode s 5 = 0 ∧ (s.mode = 3 → ((lnc s pw cw).set 5 (.int .i64 (s.got : Int))).set 5 (.int .i64 (s.put : Int)) = lnc (ldo s 5) pw cw) ∧ (s.mode ≠ 3 → (lnc s pw cw).set 5 (.int .i64 (s.got : Int)) = lnc (ldo s 5) pw cw) := by
  unfold lcode ldo; by_cases h : s.mode = 3 <;> simp [h, lnc]
theorem ldo0 (s : SL) (k : Int) (h2 : k ≠ 2) (h3 : k ≠ 3) (h4 : k ≠ 4) (h6 : k ≠ 6) (h5 : k ≠ 5) : lcode s k = 6 ∧ ldo s k = s := by
  unfold lcode ldo; simp [h2, h3, h4, h5, h6]

theorem one_any (xs : List Value) (g j x m : Nat) (B : Nat) (S : List Oz) (w0 : World) (hM0 : Mz w0 B (⟨67, 6, some ⟨g, 0, none⟩, 1, 1, xs⟩ :: S)) (hB0 : B ≤ w0.heap.size) (hx : xs[j]? = some (.int .i64 (x : Int))) (hx2 : x ≤ 1000000) :
    CallsV Try.prog 31 #[.pointer ((some (⟨g, 0, none⟩ : Addr)).map (·.add j)), .int .i64 (m : Int)] w0 (fun v w => v = .int .i64 (one0 x m : Int) ∧ Mz w B (⟨67, 6, some ⟨g, 0, none⟩, 1, 1, xs.set j (.int .i64 (one1 x m : Int))⟩ :: S) ∧ Below B w0 w) := by
  refine enter1 Try.func31 rfl Try.ntmps31 (by simp) rfl ?_
  have hB := Below.refl B w0
  simp only [argLoc, Nat.zero_add]
  have hM := hM0
  have hjl : j < xs.length := (List.getElem?_eq_some_iff.1 hx).1
  refine W.seqR ?_
  refine LS.vv rfl rfl (by decide) (Val.cast (v := .int .i64 ((0 : Nat) : Int)) (Val.assign rfl) rfl) ?_
  refine LS.nil ?_
  refine W.seq ?_
  refine W.seqR ?_
  refine LS.vv rfl rfl (by decide) (Val.move rfl) ?_
  first | refine LS.vv rfl rfl (by decide) (Val.nilCheck rfl) ?_ | refine LS.vv rfl rfl (by decide) (Val.nilCheckP rfl) ?_
  refine LS.m rfl (Step.load rfl rfl (by decide) flat3 rfl (hM.o0.rd) (hx) ?_)
  refine LS.vv rfl rfl (by decide) (Val.move rfl) ?_
  refine LS.vv rfl rfl (by decide) (Val.geq rfl rfl) ?_
  refine LS.nil ?_
  first | refine W.condD rfl (fun hc1 => ?_) (fun hc1 => ?_) | refine W.cond rfl (fun hc1 => ?_) (fun hc1 => ?_)
  ·
    refine W.seqR ?_
    refine LS.vv rfl rfl (by decide) (Val.cast (v := .int .i64 ((5 : Nat) : Int)) (Val.assign rfl) rfl) ?_
    refine LS.nil ?_
    refine W.ret ?_
    refine thenP_ret ?_
    refine ret1 (by first | exact .inl rfl | exact .inr rfl) rfl ?_
    have hz : ¬ x < m := by omega
    unfold one0 one1
    rw [if_neg hz, if_neg hz]
    refine ⟨rfl, ?_, hB⟩
    have e : xs.set j (.int .i64 (x : Int)) = xs := by { refine List.ext_getElem? fun i => ?_; rw [List.getElem?_set]; by_cases h : j = i; (subst h; rw [if_pos rfl, if_pos hjl, hx]); rw [if_neg h] }
    rw [e]; exact hM
  ·
    refine W.skip ?_
    refine thenP_normal ?_
    refine W.seqR ?_
    refine LS.vv rfl rfl (by decide) (Val.move rfl) ?_
    first | refine LS.vv rfl rfl (by decide) (Val.nilCheck rfl) ?_ | refine LS.vv rfl rfl (by decide) (Val.nilCheckP rfl) ?_
    refine LS.m rfl (Step.load rfl rfl (by decide) flat3 rfl (hM.o0.rd) (hx) ?_)
    first | refine LS.vv rfl rfl (by decide) (Val.addN (j := 1) rfl rfl (by omega)) ?_ | refine LS.vv rfl rfl (by decide) (Val.add64 rfl rfl (by omega)) ?_
    first | refine LS.vv rfl rfl (by decide) (Val.nilCheck rfl) ?_ | refine LS.vv rfl rfl (by decide) (Val.nilCheckP rfl) ?_
    refine LS.m rfl (Step.storeZ (B := B) rfl rfl flat3 elem3 rfl rfl rfl (hM.o0) (by first | decide | (simp; done) | (simp; omega) | omega) (Nat.le_trans hB0 hB.size) ?_)
    rintro w1 hO1 hg1 hbl1 hsz1
    replace hM := hM.s0 (e := _) hg1 hO1 inl_block
    try simp only [List.set_cons_zero, List.set_cons_succ] at hM
    replace hB := hB.trans hbl1
    refine LS.nil ?_
    refine W.seqR ?_
    refine LS.vv rfl rfl (by decide) (Val.cast (v := .int .i64 ((0 : Nat) : Int)) (Val.assign rfl) rfl) ?_
    refine LS.nil ?_
    refine W.ret ?_
    refine ret1 (by first | exact .inl rfl | exact .inr rfl) rfl ?_
    have hz : x < m := by omega
    unfold one0 one1
    rw [if_pos hz, if_pos hz]
    exact ⟨rfl, hM, hB⟩

theorem Do_any (s : SL) (pw : Option Addr) (cw g : Nat) (k : Int) (B : Nat) (S : List Oz) (w0 : World) (hM0 : Mz w0 B (⟨67, 6, some ⟨g, 0, none⟩, 1, 1, (lnc (s) pw cw)⟩ :: S)) (hB0 : B ≤ w0.heap.size) (hb6 : s.sent ≤ 1000 ∧ s.got ≤ 1000 ∧ s.put ≤ 1000) :
    CallsV Try.prog 22 #[.pointer (some ⟨g, 0, none⟩), .int .i64 k] w0 (fun v w => (∃ b, v = .tuple #[.int .i64 (lcode s k : Int), .bool b]) ∧ Mz w B (⟨67, 6, some ⟨g, 0, none⟩, 1, 1, (lnc (ldo s k) pw cw)⟩ :: S) ∧ Below B w0 w) := by
  refine enter2 Try.func22 rfl Try.ntmps22 (by simp) rfl ?_
  have hB := Below.refl B w0
  simp only [argLoc, Nat.zero_add]
  have hM := hM0
  have hs1 := hb6.1; have hs2 := hb6.2.1; have hs3 := hb6.2.2
  refine W.seqR ?_
  refine LS.vv rfl rfl (by decide) (Val.cast (v := .int .i64 ((0 : Nat) : Int)) (Val.assign rfl) rfl) ?_
  refine LS.vv rfl rfl (by decide) (Val.assign rfl) ?_
  refine LS.nil ?_
  refine W.seq ?_
  refine W.seqR ?_
  refine LS.vv rfl rfl (by decide) (Val.move rfl) ?_
  refine LS.nil ?_
  refine W.block ?_
  refine W.seqR ?_
  refine LS.vv rfl rfl (by decide) (Val.eql rfl rfl) ?_
  refine LS.vv rfl rfl (by decide) (Val.assign rfl) ?_
  refine LS.nil ?_
  first | refine W.condD rfl (fun hc1 => ?_) (fun hc1 => ?_) | refine W.cond rfl (fun hc1 => ?_) (fun hc1 => ?_)
  ·
    refine W.seqD (S := fun w => Below B w0 w) [(0, true), (1, true), (2, true), (3, true), (4, true), (5, true), (6, false), (7, true), (8, false), (9, true), (10, true)] mixed (by kernel_rfl) hB.drew ?_
    replace hB := hB.drew
    replace hM := hM.drew
    refine DX.vv rfl rfl rfl (by decide) (Val.move rfl) ?_
    first | refine DX.vv rfl rfl rfl (by decide) (Val.nilCheck rfl) ?_ | refine DX.vv rfl rfl rfl (by decide) (Val.nilCheckP rfl) ?_
    refine DX.vv rfl rfl rfl (by decide) (Val.fieldAddr0 fld67_2 rfl) ?_
    refine DX.vv rfl rfl rfl (by decide) (Val.move rfl) ?_
    first | refine DX.vv rfl rfl rfl (by decide) (Val.nilCheck rfl) ?_ | refine DX.vv rfl rfl rfl (by decide) (Val.nilCheckP rfl) ?_
    refine DX.vv rfl rfl rfl (by decide) (Val.fieldAddr0 fld67_1 rfl) ?_
    refine DX.m rfl rfl (Step.load rfl rfl (by decide) flat37 rfl (hM.o0.rd) (rfl) ?_)
    refine ⟨hB, ?_⟩
    refine DX.vv rfl rfl rfl (by decide) (Val.len Try.underlying37 rfl) ?_
    refine DX.m rfl rfl (Step.call body31 rfl rfl (by decide) rfl (CallsV.mono (one_any (lnc s pw cw) g 2 s.sent s.wr.length B _ _ hM (Nat.le_trans hB0 hB.size) rfl (by omega)) ?_))
    rintro _ w1 ⟨rfl, hM1, hb1⟩
    replace hM := hM1
    replace hB := hB.trans hb1
    refine ⟨hB, ?_⟩
    refine DX.vv rfl rfl rfl (by decide) (Val.assign rfl) ?_
    refine DX.vv rfl rfl rfl (by decide) (Val.assign rfl) ?_
    refine DX.nil ?_
    refine W.ret ?_
    refine inBlk_ret ?_
    refine thenP_ret ?_
    refine ret2 (by first | exact .inl rfl | exact .inr rfl) rfl rfl ?_
    obtain rfl : k = 2 := by omega
    obtain ⟨e1, e2⟩ := ldo2 s pw cw
    rw [e2] at hM
    rw [e1]
    exact ⟨⟨_, rfl⟩, hM, hB⟩
  ·
    refine W.seqR ?_
    refine LS.vv rfl rfl (by decide) (Val.eql rfl rfl) ?_
    refine LS.vv rfl rfl (by decide) (Val.assign rfl) ?_
    refine LS.nil ?_
    first | refine W.condD rfl (fun hc2 => ?_) (fun hc2 => ?_) | refine W.cond rfl (fun hc2 => ?_) (fun hc2 => ?_)
    ·
      refine W.seqD (S := fun w => Below B w0 w) [(0, true), (1, true), (2, true), (3, true), (4, true), (5, true), (6, false), (7, false), (8, true), (9, true)] mixed (by kernel_rfl) hB.drew ?_
      replace hB := hB.drew
      replace hM := hM.drew
      refine DX.vv rfl rfl rfl (by decide) (Val.move rfl) ?_
      first | refine DX.vv rfl rfl rfl (by decide) (Val.nilCheck rfl) ?_ | refine DX.vv rfl rfl rfl (by decide) (Val.nilCheckP rfl) ?_
      refine DX.vv rfl rfl rfl (by decide) (Val.fieldAddr0 fld67_3 rfl) ?_
      refine DX.vv rfl rfl rfl (by decide) (Val.move rfl) ?_
      first | refine DX.vv rfl rfl rfl (by decide) (Val.nilCheck rfl) ?_ | refine DX.vv rfl rfl rfl (by decide) (Val.nilCheckP rfl) ?_
      refine DX.vv rfl rfl rfl (by decide) (Val.fieldAddr0 fld67_2 rfl) ?_
      refine DX.m rfl rfl (Step.load rfl rfl (by decide) flat3 rfl (hM.o0.rd) (rfl) ?_)
      refine ⟨hB, ?_⟩
      refine DX.m rfl rfl (Step.call body31 rfl rfl (by decide) rfl (CallsV.mono (one_any (lnc s pw cw) g 3 s.got s.sent B _ _ hM (Nat.le_trans hB0 hB.size) rfl (by omega)) ?_))
      rintro _ w2 ⟨rfl, hM2, hb2⟩
      replace hM := hM2
      replace hB := hB.trans hb2
      refine ⟨hB, ?_⟩
      refine DX.vv rfl rfl rfl (by decide) (Val.assign rfl) ?_
      refine DX.vv rfl rfl rfl (by decide) (Val.assign rfl) ?_
      refine DX.nil ?_
      refine W.ret ?_
      refine inBlk_ret ?_
      refine thenP_ret ?_
      refine ret2 (by first | exact .inl rfl | exact .inr rfl) rfl rfl ?_
      obtain rfl : k = 3 := by omega
      obtain ⟨e1, e2⟩ := ldo3 s pw cw
      rw [e2] at hM
      rw [e1]
      exact ⟨⟨_, rfl⟩, hM, hB⟩
    ·
      refine W.seqR ?_
      refine LS.vv rfl rfl (by decide) (Val.eql rfl rfl) ?_
      refine LS.vv rfl rfl (by decide) (Val.assign rfl) ?_
      refine LS.nil ?_
      first | refine W.condD rfl (fun hc3 => ?_) (fun hc3 => ?_) | refine W.cond rfl (fun hc3 => ?_) (fun hc3 => ?_)
      ·
        refine W.seqD (S := fun w => Below B w0 w) [(0, true), (1, true), (2, true), (3, true), (4, true), (5, true), (6, false), (7, false), (8, true), (9, true)] mixed (by kernel_rfl) hB.drew ?_
        replace hB := hB.drew
        replace hM := hM.drew
        refine DX.vv rfl rfl rfl (by decide) (Val.move rfl) ?_
        first | refine DX.vv rfl rfl rfl (by decide) (Val.nilCheck rfl) ?_ | refine DX.vv rfl rfl rfl (by decide) (Val.nilCheckP rfl) ?_
        refine DX.vv rfl rfl rfl (by decide) (Val.fieldAddr0 fld67_4 rfl) ?_
        refine DX.vv rfl rfl rfl (by decide) (Val.move rfl) ?_
        first | refine DX.vv rfl rfl rfl (by decide) (Val.nilCheck rfl) ?_ | refine DX.vv rfl rfl rfl (by decide) (Val.nilCheckP rfl) ?_
        refine DX.vv rfl rfl rfl (by decide) (Val.fieldAddr0 fld67_3 rfl) ?_
        refine DX.m rfl rfl (Step.load rfl rfl (by decide) flat3 rfl (hM.o0.rd) (rfl) ?_)
        refine ⟨hB, ?_⟩
        refine DX.m rfl rfl (Step.call body31 rfl rfl (by decide) rfl (CallsV.mono (one_any (lnc s pw cw) g 4 s.put s.got B _ _ hM (Nat.le_trans hB0 hB.size) rfl (by omega)) ?_))
        rintro _ w3 ⟨rfl, hM3, hb3⟩
        replace hM := hM3
        replace hB := hB.trans hb3
        refine ⟨hB, ?_⟩
        refine DX.vv rfl rfl rfl (by decide) (Val.assign rfl) ?_
        refine DX.vv rfl rfl rfl (by decide) (Val.assign rfl) ?_
        refine DX.nil ?_
        refine W.ret ?_
        refine inBlk_ret ?_
        refine thenP_ret ?_
        refine ret2 (by first | exact .inl rfl | exact .inr rfl) rfl rfl ?_
        obtain rfl : k = 4 := by omega
        obtain ⟨e1, e2⟩ := ldo4 s pw cw
        rw [e2] at hM
        rw [e1]
        exact ⟨⟨_, rfl⟩, hM, hB⟩
      ·
        refine W.seqR ?_
        refine LS.vv rfl rfl (by decide) (Val.eql rfl rfl) ?_
        refine LS.vv rfl rfl (by decide) (Val.assign rfl) ?_
        refine LS.nil ?_
        first | refine W.condD rfl (fun hc4 => ?_) (fun hc4 => ?_) | refine W.cond rfl (fun hc4 => ?_) (fun hc4 => ?_)
        ·
          refine W.reg ?_
          refine LS.vv rfl rfl (by decide) (Val.move rfl) ?_
          refine LS.vv rfl rfl (by decide) (Val.move rfl) ?_
          first | refine LS.vv rfl rfl (by decide) (Val.nilCheck rfl) ?_ | refine LS.vv rfl rfl (by decide) (Val.nilCheckP rfl) ?_
          refine LS.vv rfl rfl (by decide) (Val.fieldAddr0 fld67_3 rfl) ?_
          refine LS.m rfl (Step.load rfl rfl (by decide) flat3 rfl (hM.o0.rd) (rfl) ?_)
          first | refine LS.vv rfl rfl (by decide) (Val.nilCheck rfl) ?_ | refine LS.vv rfl rfl (by decide) (Val.nilCheckP rfl) ?_
          refine LS.vv rfl rfl (by decide) (Val.fieldAddr0 fld67_2 rfl) ?_
          refine LS.m rfl (Step.storeZ (B := B) rfl rfl flat3 elem3 rfl rfl rfl (hM.o0) (by simp [lnc]) (Nat.le_trans hB0 hB.size) ?_)
          rintro w4 hO4 hg4 hbl4 hsz4
          replace hM := hM.s0 (e := _) hg4 hO4 inl_block
          try simp only [List.set_cons_zero, List.set_cons_succ] at hM
          replace hB := hB.trans hbl4
          refine LS.nil ?_
          refine inBlk_normal ?_
          refine thenP_normal ?_
          refine W.seqR ?_
          refine LS.vv rfl rfl (by decide) (Val.cast (v := .int .i64 ((0 : Nat) : Int)) (Val.assign rfl) rfl) ?_
          refine LS.vv rfl rfl (by decide) (Val.assign rfl) ?_
          refine LS.nil ?_
          refine W.ret ?_
          refine ret2 (by first | exact .inl rfl | exact .inr rfl) rfl rfl ?_
          obtain rfl : k = 6 := by omega
          obtain ⟨e1, e2⟩ := ldo6 s pw cw
          rw [e2] at hM
          rw [e1]
          exact ⟨⟨_, rfl⟩, hM, hB⟩
        ·
          refine W.seqR ?_
          refine LS.vv rfl rfl (by decide) (Val.eql rfl rfl) ?_
          refine LS.vv rfl rfl (by decide) (Val.assign rfl) ?_
          refine LS.nil ?_
          first | refine W.condD rfl (fun hc5 => ?_) (fun hc5 => ?_) | refine W.cond rfl (fun hc5 => ?_) (fun hc5 => ?_)
          ·
            refine W.seqR ?_
            refine LS.vv rfl rfl (by decide) (Val.move rfl) ?_
            refine LS.vv rfl rfl (by decide) (Val.move rfl) ?_
            first | refine LS.vv rfl rfl (by decide) (Val.nilCheck rfl) ?_ | refine LS.vv rfl rfl (by decide) (Val.nilCheckP rfl) ?_
            refine LS.vv rfl rfl (by decide) (Val.fieldAddr0 fld67_3 rfl) ?_
            refine LS.m rfl (Step.load rfl rfl (by decide) flat3 rfl (hM.o0.rd) (rfl) ?_)
            first | refine LS.vv rfl rfl (by decide) (Val.nilCheck rfl) ?_ | refine LS.vv rfl rfl (by decide) (Val.nilCheckP rfl) ?_
            refine LS.vv rfl rfl (by decide) (Val.fieldAddr0 fld67_5 rfl) ?_
            refine LS.m rfl (Step.storeZ (B := B) rfl rfl flat3 elem3 rfl rfl rfl (hM.o0) (by simp [lnc]) (Nat.le_trans hB0 hB.size) ?_)
            rintro w5 hO5 hg5 hbl5 hsz5
            replace hM := hM.s0 (e := _) hg5 hO5 inl_block
            try simp only [List.set_cons_zero, List.set_cons_succ] at hM
            replace hB := hB.trans hbl5
            refine LS.nil ?_
            refine W.seqR ?_
            refine LS.vv rfl rfl (by decide) (Val.move rfl) ?_
            first | refine LS.vv rfl rfl (by decide) (Val.nilCheck rfl) ?_ | refine LS.vv rfl rfl (by decide) (Val.nilCheckP rfl) ?_
            refine LS.vv rfl rfl (by decide) (Val.fieldAddr0 fld67_0 rfl) ?_
            refine LS.m rfl (Step.load rfl rfl (by decide) flat3 rfl (hM.o0.rd) (rfl) ?_)
            refine LS.vv rfl rfl (by decide) (Val.eql rfl rfl) ?_
            refine LS.nil ?_
            first | refine W.condD rfl (fun hc6 => ?_) (fun hc6 => ?_) | refine W.cond rfl (fun hc6 => ?_) (fun hc6 => ?_)
            ·
              refine W.reg ?_
              refine LS.vv rfl rfl (by decide) (Val.move rfl) ?_
              refine LS.vv rfl rfl (by decide) (Val.move rfl) ?_
              first | refine LS.vv rfl rfl (by decide) (Val.nilCheck rfl) ?_ | refine LS.vv rfl rfl (by decide) (Val.nilCheckP rfl) ?_
              refine LS.vv rfl rfl (by decide) (Val.fieldAddr0 fld67_4 rfl) ?_
              refine LS.m rfl (Step.load rfl rfl (by decide) flat3 rfl (hM.o0.rd) (rfl) ?_)
              first | refine LS.vv rfl rfl (by decide) (Val.nilCheck rfl) ?_ | refine LS.vv rfl rfl (by decide) (Val.nilCheckP rfl) ?_
              refine LS.vv rfl rfl (by decide) (Val.fieldAddr0 fld67_5 rfl) ?_
              refine LS.m rfl (Step.storeZ (B := B) rfl rfl flat3 elem3 rfl rfl rfl (hM.o0) (by simp [lnc]) (Nat.le_trans hB0 hB.size) ?_)
              rintro w6 hO6 hg6 hbl6 hsz6
              replace hM := hM.s0 (e := _) hg6 hO6 inl_block
              try simp only [List.set_cons_zero, List.set_cons_succ] at hM
              replace hB := hB.trans hbl6
              refine LS.nil ?_
              refine inBlk_normal ?_
              refine thenP_normal ?_
              refine W.seqR ?_
              refine LS.vv rfl rfl (by decide) (Val.cast (v := .int .i64 ((0 : Nat) : Int)) (Val.assign rfl) rfl) ?_
              refine LS.vv rfl rfl (by decide) (Val.assign rfl) ?_
              refine LS.nil ?_
              refine W.ret ?_
              refine ret2 (by first | exact .inl rfl | exact .inr rfl) rfl rfl ?_
              obtain rfl : k = 5 := by omega
              obtain ⟨e1, e2, e3⟩ := ldo5 s pw cw
              rw [e1]
              rw [e2 (by omega)] at hM
              exact ⟨⟨_, rfl⟩, hM, hB⟩
            ·
              refine W.skip ?_
              refine inBlk_normal ?_
              refine thenP_normal ?_
              refine W.seqR ?_
              refine LS.vv rfl rfl (by decide) (Val.cast (v := .int .i64 ((0 : Nat) : Int)) (Val.assign rfl) rfl) ?_
              refine LS.vv rfl rfl (by decide) (Val.assign rfl) ?_
              refine LS.nil ?_
              refine W.ret ?_
              refine ret2 (by first | exact .inl rfl | exact .inr rfl) rfl rfl ?_
              obtain rfl : k = 5 := by omega
              obtain ⟨e1, e2, e3⟩ := ldo5 s pw cw
              rw [e1]
              rw [e3 (by omega)] at hM
              exact ⟨⟨_, rfl⟩, hM, hB⟩
          ·
            refine W.seqR ?_
            refine LS.vv rfl rfl (by decide) (Val.cast (v := .int .i64 ((6 : Nat) : Int)) (Val.assign rfl) rfl) ?_
            refine LS.vv rfl rfl (by decide) (Val.assign rfl) ?_
            refine LS.nil ?_
            refine W.ret ?_
            refine inBlk_ret ?_
            refine thenP_ret ?_
            refine ret2 (by first | exact .inl rfl | exact .inr rfl) rfl rfl ?_
            obtain ⟨e1, e2⟩ := ldo0 s k (by omega) (by omega) (by omega) (by omega) (by omega)
            rw [e1, e2]
            exact ⟨⟨_, rfl⟩, hM, hB⟩

end Go.Proofs.Ytldcpihjoakigaa
