/-
  The statement TurnFront.
-/
import Derived.Test.YtcoplafphgpmpaaFront
import Derived.Test.YtcoplafphgpmpaaRefsY
namespace Go.Proofs.Ytcoplafphgpmpaa
open Go Go.RowKit V
set_option linter.unusedVariables false

theorem turnFront_any (t : List Nat) (p : Option Addr) (c : Nat) (w0 : World) (hr : Rd w0 p (yv t)) (ht : ∀ b ∈ t, b < 256) (hl : t.length ≤ 9223372036854775807) :
    CallsV Try.prog 5 #[.slice p t.length c] w0 (fun v w => v = .bool true ∧ Below w0.heap.size w0 w) := by
  refine enter1 Try.func5 rfl Try.ntmps5 (by simp) rfl ?_
  have hB := Below.refl w0.heap.size w0
  simp only [argLoc]
  have hM := Mem.nil w0 w0.heap.size
  refine W.seqR ?_
  refine LS.vv rfl rfl (by decide) (Val.assign rfl) ?_
  refine LS.nil ?_
  refine W.seqR ?_
  refine LS.vv rfl rfl (by decide) (Val.move rfl) ?_
  refine LS.m rfl (Step.call body17 rfl rfl (by decide) rfl (CallsV.mono (Front_any t _ _ _ _ (hr.below hB) rfl ht hl) ?_))
  rintro _ w1 ⟨pf, cf, nf, e, L, rfl, hO1, he, hL, hb1⟩
  replace hM := hM.add hB.size hb1 hO1
  replace hB := hB.trans (hb1.mono hB.size)
  refine LS.vv rfl rfl (by decide) (Val.move rfl) ?_
  refine LS.vv rfl rfl (by decide) (Val.extract rfl rfl) ?_
  refine LS.vv rfl rfl (by decide) (Val.extract rfl rfl) ?_
  refine LS.vv rfl rfl (by decide) (Val.assign rfl) ?_
  refine LS.vv rfl rfl (by decide) (Val.assign rfl) ?_
  refine LS.nil ?_
  refine W.seq ?_
  refine W.seqR ?_
  refine LS.vv rfl rfl (by decide) (Val.move rfl) ?_
  refine LS.vv rfl rfl (by decide) (Val.len Try.underlying22 rfl) ?_
  refine LS.vv rfl rfl (by decide) (Val.gtr rfl rfl) ?_
  refine LS.nil ?_
  first | refine W.condD rfl (fun hc1 => ?_) (fun hc1 => ?_) | refine W.cond rfl (fun hc1 => ?_) (fun hc1 => ?_)
  ·
    refine W.seqR ?_
    refine LS.vv rfl rfl (by decide) (Val.move rfl) ?_
    refine LS.vv rfl rfl (by decide) (Val.cast (v := .bool true) (Val.neq rfl rfl) (by refine congrArg Value.bool (decide_eq_true ?_); omega)) ?_
    refine LS.vv rfl rfl (by decide) (Val.assign rfl) ?_
    refine LS.nil ?_
    refine W.ret ?_
    refine thenP_ret ?_
    refine ret1 (by first | exact .inl rfl | exact .inr rfl) rfl ?_
    first | exact ⟨rfl, hB⟩ | contradiction | (exfalso; omega)
  ·
    refine W.skip ?_
    refine thenP_normal ?_
    refine W.seqR ?_
    refine LS.vv rfl rfl (by decide) (Val.move rfl) ?_
    obtain rfl : e = 0 := he.2 (by omega)
    obtain ⟨rfl, rfl⟩ := hL rfl
    refine LS.m rfl (Step.call body18 rfl rfl (by decide) rfl (CallsV.mono (Unfront_any (pls t t.length) _ _ _ _ hM.o0.rd (pls_len _ _) (pls_256 ht _) (by omega)) ?_))
    rintro _ w2 ⟨pu, cu, rfl, hO2, hb2⟩
    replace hM := hM.add hB.size hb2 hO2
    replace hB := hB.trans (hb2.mono hB.size)
    rw [front_back ht] at hM
    refine LS.vv rfl rfl (by decide) (Val.move rfl) ?_
    refine LS.vv rfl rfl (by decide) (Val.extract rfl rfl) ?_
    refine LS.vv rfl rfl (by decide) (Val.extract rfl rfl) ?_
    refine LS.vv rfl rfl (by decide) (Val.assign rfl) ?_
    refine LS.vv rfl rfl (by decide) (Val.assign rfl) ?_
    refine LS.nil ?_
    refine W.seq ?_
    refine W.seqR ?_
    refine LS.vv rfl rfl (by decide) (Val.move rfl) ?_
    refine LS.vv rfl rfl (by decide) (Val.cast (v := .bool false) (Val.neq rfl rfl) (by first | (simp; done) | (simp; omega))) ?_
    refine LS.vv rfl rfl (by decide) (Val.move rfl) ?_
    refine LS.vg rfl rfl rfl rfl (by decide) (Val.move rfl) ?_
    refine LS.vg rfl rfl rfl rfl (by decide) (Val.cast (v := .bool false) (Val.neq rfl rfl) (by first | (simp; done) | (simp; omega))) ?_
    refine LS.vv rfl rfl (by decide) (Val.pickF rfl rfl rfl) ?_
    refine LS.vv rfl rfl (by decide) (Val.move rfl) ?_
    refine LS.vg rfl rfl rfl rfl (by decide) (Val.move rfl) ?_
    refine LS.vg rfl rfl rfl rfl (by decide) (Val.move rfl) ?_
    refine LS.mg rfl rfl rfl (Step.call body16 rfl rfl (by decide) rfl (CallsV.mono (bytesEq_any t t _ _ _ _ _ hM.o0.rd (hr.below hB) hl) ?_))
    rintro _ w3 ⟨hbe, hb3⟩
    replace hM := hM.below hb3
    replace hB := hB.trans (hb3.mono hB.size)
    rw [show decide (t = t) = true from by simp] at hbe
    subst hbe
    refine LS.vg rfl rfl rfl rfl (by decide) (Val.cast (v := .bool false) (Val.not rfl) (by rfl)) ?_
    refine LS.vv rfl rfl (by decide) (Val.pickF rfl rfl rfl) ?_
    refine LS.vv rfl rfl (by decide) (Val.move rfl) ?_
    refine LS.vg rfl rfl rfl rfl (by decide) (Val.move rfl) ?_
    refine LS.vg rfl rfl rfl rfl (by decide) (Val.len Try.underlying33 rfl) ?_
    refine LS.vg rfl rfl rfl rfl (by decide) (Val.move rfl) ?_
    refine LS.vg rfl rfl rfl rfl (by decide) (Val.len Try.underlying22 rfl) ?_
    refine LS.vg rfl rfl rfl rfl (by decide) (Val.cast (v := .bool false) (Val.neq rfl rfl) (by first | (simp; done) | (simp; omega))) ?_
    refine LS.vv rfl rfl (by decide) (Val.pickF rfl rfl rfl) ?_
    refine LS.nil ?_
    refine W.condF rfl ?_
    refine W.skip ?_
    refine thenP_normal ?_
    refine W.seq ?_
    refine W.seqR ?_
    refine LS.vv rfl rfl (by decide) (Val.cast (v := .int .i64 ((1 : Nat) : Int)) (Val.assign rfl) rfl) ?_
    refine LS.nil ?_
    refine W.block ?_
    replace hM := hM.tail
    refine W.loop (α := Nat) (fun k => [(7, .int .i64 (k : Int))]) [(0, _), (3, _)] (fun k w => (1 ≤ k ∧ (k ≤ t.length ∨ k = 1)) ∧ Mem w w0.heap.size [⟨3, pf, t.length, cf, nv (pls t t.length)⟩] ∧ Below w0.heap.size w0 w) (fun k => t.length - k) (1) (Sub.cons rfl (Sub.nil _)) (Sub.cons rfl (Sub.cons rfl (Sub.nil _))) ?_ ?_
    · exact ⟨⟨by omega, .inr rfl⟩, hM, hB⟩
    rintro k w4 ⟨⟨hk1, hk⟩, hM, hB⟩
    try simp only at hM
    simp only [List.cons_append, List.nil_append]
    have hpl := pls_len t t.length
    refine W.seq ?_
    refine W.seqR ?_
    refine LS.vv rfl rfl (by decide) (Val.move rfl) ?_
    refine LS.vv rfl rfl (by decide) (Val.move rfl) ?_
    refine LS.vv rfl rfl (by decide) (Val.len Try.underlying22 rfl) ?_
    refine LS.vv rfl rfl (by decide) (Val.lss rfl rfl) ?_
    refine LS.nil ?_
    first | refine W.condD rfl (fun hc2 => ?_) (fun hc2 => ?_) | refine W.cond rfl (fun hc2 => ?_) (fun hc2 => ?_)
    ·
      refine W.skip ?_
      refine thenP_normal ?_
      refine W.seq ?_
      refine W.block ?_
      refine W.seqF 16 [(0, true), (1, true), (2, true), (3, true), (4, true), (5, true), (6, true), (7, true), (8, true), (9, true), (10, true), (11, true), (12, true), (13, true), (14, true), (15, true)] mixed (by kernel_rfl) hB hM ?_
      replace hB := hB.drew
      replace hM := hM.drew
      refine DF.vv rfl rfl rfl (by decide) (Val.move rfl) ?_
      refine DF.vv rfl rfl rfl (by decide) (Val.move rfl) ?_
      refine DF.vv rfl rfl rfl (by decide) (Val.index1 Try.underlying22 elem5 rfl rfl (by omega) ((hr.below hB)) (yv_lt (by omega))) ?_
      refine DF.vv rfl rfl rfl (by decide) (Val.load flat5 rfl (fun _ h => (hr.below h.1)) (yv_at (by omega))) ?_
      refine DF.vv rfl rfl rfl (by decide) (Val.move rfl) ?_
      refine DF.vv rfl rfl rfl (by decide) (Val.move rfl) ?_
      first | refine DF.vv rfl rfl rfl (by decide) (Val.subN (j := 1) rfl rfl (by omega) (by omega)) ?_ | refine DF.vv rfl rfl rfl (by decide) (Val.sub64 rfl rfl (by omega)) ?_
      refine DF.vv rfl rfl rfl (by decide) (Val.index1 Try.underlying22 elem5 rfl rfl (by omega) ((hr.below hB)) (yv_lt (by omega))) ?_
      refine DF.vv rfl rfl rfl (by decide) (Val.load flat5 rfl (fun _ h => (hr.below h.1)) (yv_at (by omega))) ?_
      refine DF.vv rfl rfl rfl (by decide) (Val.eql rfl rfl) ?_
      refine DF.vv rfl rfl rfl (by decide) (Val.move rfl) ?_
      refine DF.vv rfl rfl rfl (by decide) (Val.move rfl) ?_
      refine DF.vv rfl rfl rfl (by decide) (Val.index1 Try.underlying33 elem3 rfl rfl (by omega) (hM.o0.rd) (nv_lt (by omega))) ?_
      refine DF.vv rfl rfl rfl (by decide) (Val.load flat3 rfl (fun _ h => h.2.o0.rd) (nv_at (by omega))) ?_
      refine DF.vv rfl rfl rfl (by decide) (Val.eql rfl rfl) ?_
      have hz := pl_zero ht (k := k) (by omega)
      have hg := pls_gn t (n := t.length) (k := k) (by omega)
      refine DF.vv rfl rfl rfl (by decide) (Val.cast (v := .bool false) (Val.neqB Try.underlying4 rfl rfl) (by refine congrArg Value.bool (decide_eq_false fun h => h (decide_eq_decide.2 ?_)); omega)) ?_
      refine DF.nil ?_
      refine W.condF rfl ?_
      refine W.skip ?_
      refine inBlk_normal ?_
      refine thenP_normal ?_
      refine W.reg ?_
      refine LS.vv rfl rfl (by decide) (Val.move rfl) ?_
      first | refine LS.vv rfl rfl (by decide) (Val.addN (j := 1) rfl rfl (by omega)) ?_ | refine LS.vv rfl rfl (by decide) (Val.add64 rfl rfl (by omega)) ?_
      refine LS.vv rfl rfl (by decide) (Val.assign rfl) ?_
      refine LS.nil ?_
      refine thenP_normal ?_
      refine ⟨k + 1, ?_, ?_, ⟨by omega, hM, hB⟩, by omega⟩
      · exact (Sub.cons rfl (Sub.nil _))
      · repeat (first | exact Sub.nil _ | refine Sub.cons rfl ?_)
    ·
      refine W.exit ?_
      refine thenP_exit ?_
      refine thenP_exit ?_
      refine inBlk_exit ?_
      refine thenP_normal ?_
      refine W.seqR ?_
      refine LS.vv rfl rfl (by decide) (Val.assign rfl) ?_
      refine LS.nil ?_
      refine W.ret ?_
      refine ret1 (by first | exact .inl rfl | exact .inr rfl) rfl ?_
      first | exact ⟨rfl, hB⟩ | contradiction | (exfalso; omega)

end Go.Proofs.Ytcoplafphgpmpaa
