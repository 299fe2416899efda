/-
  The statement StateRises.
-/
import Derived.Test.YtcoplafphgpmpaaState
namespace Go.Proofs.Ytcoplafphgpmpaa
open Go Go.RowKit V
set_option linter.unusedVariables false

theorem stateRises_any (zs : List Int) (p : Option Addr) (c : Nat) (a b s : Int) (w0 : World) (hr : Rd w0 p (iv zs)) (hc : zs.length ≤ c) :
    CallsV Try.prog 8 #[.slice p zs.length c, .int .i64 a, .int .i64 b, .int .i64 s] w0 (fun v w => v = .bool true ∧ Below w0.heap.size w0 w) := by
  refine enter1 Try.func8 rfl Try.ntmps8 (by simp) rfl ?_
  have hB := Below.refl w0.heap.size w0
  simp only [argLoc, Nat.zero_add, Nat.reduceAdd]
  refine W.seqR ?_
  refine LS.vv rfl rfl (by decide) (Val.assign rfl) ?_
  refine LS.nil ?_
  refine W.seqR ?_
  refine LS.vv rfl rfl (by decide) (Val.move rfl) ?_
  refine LS.vv rfl rfl (by decide) (Val.move rfl) ?_
  refine LS.vv rfl rfl (by decide) (Val.move rfl) ?_
  refine LS.m rfl (Step.call body21 rfl rfl (by decide) rfl (CallsV.mono (put_any zs _ _ a s _ (hr.below hB) hc) ?_))
  rintro _ w1 ⟨y1, e1, rfl, he1, hy1, hz1, hb1⟩
  replace hB := hB.trans (hb1.mono hB.size)
  refine LS.vv rfl rfl (by decide) (Val.move rfl) ?_
  refine LS.vv rfl rfl (by decide) (Val.extract rfl rfl) ?_
  refine LS.vv rfl rfl (by decide) (Val.extract rfl rfl) ?_
  refine LS.vv rfl rfl (by decide) (Val.assign rfl) ?_
  refine LS.vv rfl rfl (by decide) (Val.assign rfl) ?_
  refine LS.nil ?_
  refine W.seqR ?_
  refine LS.vv rfl rfl (by decide) (Val.move rfl) ?_
  refine LS.vv rfl rfl (by decide) (Val.move rfl) ?_
  refine LS.vv rfl rfl (by decide) (Val.move rfl) ?_
  refine LS.m rfl (Step.call body21 rfl rfl (by decide) rfl (CallsV.mono (put_any zs _ _ b s _ (hr.below hB) hc) ?_))
  rintro _ w2 ⟨y2, e2, rfl, he2, hy2, hz2, hb2⟩
  replace hB := hB.trans (hb2.mono hB.size)
  refine LS.vv rfl rfl (by decide) (Val.move rfl) ?_
  refine LS.vv rfl rfl (by decide) (Val.extract rfl rfl) ?_
  refine LS.vv rfl rfl (by decide) (Val.extract rfl rfl) ?_
  refine LS.vv rfl rfl (by decide) (Val.assign rfl) ?_
  refine LS.vv rfl rfl (by decide) (Val.assign rfl) ?_
  refine LS.nil ?_
  refine W.seq ?_
  refine W.seqR ?_
  refine LS.vv rfl rfl (by decide) (Val.move rfl) ?_
  refine LS.vv rfl rfl (by decide) (Val.move rfl) ?_
  refine LS.m rfl (Step.call body22 rfl rfl (by decide) rfl (CallsV.mono (parted_any zs _ _ a _ (hr.below hB)) ?_))
  rintro _ w3 ⟨b1, rfl, hb1, hb3⟩
  replace hB := hB.trans (hb3.mono hB.size)
  refine LS.vv rfl rfl (by decide) (Val.not rfl) ?_
  refine LS.vv rfl rfl (by decide) (Val.move rfl) ?_
  refine LS.split 4 rfl (fun hg1 => ?_) (fun hg1 => ?_)
  ·
    first | (have hg1p := of_decide_eq_true hg1) | skip
    refine LS.s rfl rfl rfl hg1 (by decide) ?_
    refine LS.s rfl rfl rfl hg1 (by decide) ?_
    refine LS.s rfl rfl rfl hg1 (by decide) ?_
    refine LS.s rfl rfl rfl hg1 (by decide) ?_
    refine LS.vv rfl rfl (by decide) (Val.pickT rfl hg1 rfl) ?_
    refine LS.nil ?_
    refine W.condT rfl ?_
    refine W.seqR ?_
    refine LS.vv rfl rfl (by decide) (Val.move rfl) ?_
    refine LS.vv rfl rfl (by decide) (Val.neq rfl rfl) ?_
    refine LS.vv rfl rfl (by decide) (Val.move rfl) ?_
    refine LS.split 2 rfl (fun hg2 => ?_) (fun hg2 => ?_)
    ·
      first | (have hg2p := of_decide_eq_true hg2) | skip
      refine LS.s rfl rfl rfl hg2 (by decide) ?_
      refine LS.s rfl rfl rfl hg2 (by decide) ?_
      refine LS.vv rfl rfl (by decide) (Val.pickT rfl hg2 rfl) ?_
      refine LS.vv rfl rfl (by decide) (Val.assign rfl) ?_
      refine LS.nil ?_
      refine W.ret ?_
      refine thenP_ret ?_
      refine ret1 (by first | exact .inl rfl | exact .inr rfl) rfl ?_
      first | exact ⟨rfl, hB⟩ | (exfalso; omega) | exact ⟨congrArg Value.bool (decide_eq_true (by omega)), hB⟩ | (refine ⟨congrArg Value.bool (decide_eq_true ?_), hB⟩; intro h0; first | (have := hb2.2 (he2.1 (by omega)).1; simp_all; done) | (have := hb1.2 (he1.1 (by omega)).1; simp_all; done)) | (exfalso; have := hb1.2 (he1.1 (by omega)).1; simp_all; done)
    ·
      first | (have hg2p := of_decide_eq_false hg2) | skip
      refine LS.vg rfl rfl rfl hg2 (by decide) (Val.move rfl) ?_
      refine LS.vg rfl rfl rfl hg2 (by decide) (Val.neq rfl rfl) ?_
      refine LS.vv rfl rfl (by decide) (Val.pickF rfl hg2 rfl) ?_
      refine LS.vv rfl rfl (by decide) (Val.assign rfl) ?_
      refine LS.nil ?_
      refine W.ret ?_
      refine thenP_ret ?_
      refine ret1 (by first | exact .inl rfl | exact .inr rfl) rfl ?_
      first | exact ⟨rfl, hB⟩ | (exfalso; omega) | exact ⟨congrArg Value.bool (decide_eq_true (by omega)), hB⟩ | (refine ⟨congrArg Value.bool (decide_eq_true ?_), hB⟩; intro h0; first | (have := hb2.2 (he2.1 (by omega)).1; simp_all; done) | (have := hb1.2 (he1.1 (by omega)).1; simp_all; done)) | (exfalso; have := hb1.2 (he1.1 (by omega)).1; simp_all; done)
  ·
    first | (have hg1p := of_decide_eq_false hg1) | skip
    refine LS.vg rfl rfl rfl hg1 (by decide) (Val.move rfl) ?_
    refine LS.vg rfl rfl rfl hg1 (by decide) (Val.move rfl) ?_
    refine LS.mg rfl rfl hg1 (Step.call body22 rfl rfl (by decide) rfl (CallsV.mono (parted_any zs _ _ b _ (hr.below hB)) ?_))
    rintro _ w4 ⟨b2, rfl, hb2, hb4⟩
    replace hB := hB.trans (hb4.mono hB.size)
    refine LS.vg rfl rfl rfl hg1 (by decide) (Val.not rfl) ?_
    refine LS.vv rfl rfl (by decide) (Val.pickF rfl hg1 rfl) ?_
    refine LS.nil ?_
    first | refine W.condD rfl (fun hc3 => ?_) (fun hc3 => ?_) | refine W.cond rfl (fun hc3 => ?_) (fun hc3 => ?_)
    ·
      refine W.seqR ?_
      refine LS.vv rfl rfl (by decide) (Val.move rfl) ?_
      refine LS.vv rfl rfl (by decide) (Val.neq rfl rfl) ?_
      refine LS.vv rfl rfl (by decide) (Val.move rfl) ?_
      refine LS.split 2 rfl (fun hg4 => ?_) (fun hg4 => ?_)
      ·
        first | (have hg4p := of_decide_eq_true hg4) | skip
        refine LS.s rfl rfl rfl hg4 (by decide) ?_
        refine LS.s rfl rfl rfl hg4 (by decide) ?_
        refine LS.vv rfl rfl (by decide) (Val.pickT rfl hg4 rfl) ?_
        refine LS.vv rfl rfl (by decide) (Val.assign rfl) ?_
        refine LS.nil ?_
        refine W.ret ?_
        refine thenP_ret ?_
        refine ret1 (by first | exact .inl rfl | exact .inr rfl) rfl ?_
        first | exact ⟨rfl, hB⟩ | (exfalso; omega) | exact ⟨congrArg Value.bool (decide_eq_true (by omega)), hB⟩ | (refine ⟨congrArg Value.bool (decide_eq_true ?_), hB⟩; intro h0; first | (have := hb2.2 (he2.1 (by omega)).1; simp_all; done) | (have := hb1.2 (he1.1 (by omega)).1; simp_all; done)) | (exfalso; have := hb1.2 (he1.1 (by omega)).1; simp_all; done)
      ·
        first | (have hg4p := of_decide_eq_false hg4) | skip
        refine LS.vg rfl rfl rfl hg4 (by decide) (Val.move rfl) ?_
        refine LS.vg rfl rfl rfl hg4 (by decide) (Val.neq rfl rfl) ?_
        refine LS.vv rfl rfl (by decide) (Val.pickF rfl hg4 rfl) ?_
        refine LS.vv rfl rfl (by decide) (Val.assign rfl) ?_
        refine LS.nil ?_
        refine W.ret ?_
        refine thenP_ret ?_
        refine ret1 (by first | exact .inl rfl | exact .inr rfl) rfl ?_
        first | exact ⟨rfl, hB⟩ | (exfalso; omega) | exact ⟨congrArg Value.bool (decide_eq_true (by omega)), hB⟩ | (refine ⟨congrArg Value.bool (decide_eq_true ?_), hB⟩; intro h0; first | (have := hb2.2 (he2.1 (by omega)).1; simp_all; done) | (have := hb1.2 (he1.1 (by omega)).1; simp_all; done)) | (exfalso; have := hb1.2 (he1.1 (by omega)).1; simp_all; done)
    ·
      refine W.skip ?_
      refine thenP_normal ?_
      refine W.seq ?_
      refine W.seqR ?_
      refine LS.vv rfl rfl (by decide) (Val.move rfl) ?_
      refine LS.vv rfl rfl (by decide) (Val.neq rfl rfl) ?_
      refine LS.vv rfl rfl (by decide) (Val.move rfl) ?_
      refine LS.split 2 rfl (fun hg5 => ?_) (fun hg5 => ?_)
      ·
        first | (have hg5p := of_decide_eq_true hg5) | skip
        refine LS.s rfl rfl rfl hg5 (by decide) ?_
        refine LS.s rfl rfl rfl hg5 (by decide) ?_
        refine LS.vv rfl rfl (by decide) (Val.pickT rfl hg5 rfl) ?_
        refine LS.nil ?_
        refine W.condT rfl ?_
        refine W.seqR ?_
        refine LS.vv rfl rfl (by decide) (Val.move rfl) ?_
        refine LS.vv rfl rfl (by decide) (Val.eql rfl rfl) ?_
        refine LS.vv rfl rfl (by decide) (Val.move rfl) ?_
        refine LS.split 2 rfl (fun hg6 => ?_) (fun hg6 => ?_)
        ·
          first | (have hg6p := of_decide_eq_true hg6) | skip
          refine LS.s rfl rfl rfl hg6 (by decide) ?_
          refine LS.s rfl rfl rfl hg6 (by decide) ?_
          refine LS.vv rfl rfl (by decide) (Val.pickT rfl hg6 rfl) ?_
          refine LS.vv rfl rfl (by decide) (Val.assign rfl) ?_
          refine LS.nil ?_
          refine W.ret ?_
          refine thenP_ret ?_
          refine ret1 (by first | exact .inl rfl | exact .inr rfl) rfl ?_
          first | exact ⟨rfl, hB⟩ | (exfalso; omega) | exact ⟨congrArg Value.bool (decide_eq_true (by omega)), hB⟩ | (refine ⟨congrArg Value.bool (decide_eq_true ?_), hB⟩; intro h0; first | (have := hb2.2 (he2.1 (by omega)).1; simp_all; done) | (have := hb1.2 (he1.1 (by omega)).1; simp_all; done)) | (exfalso; have := hb1.2 (he1.1 (by omega)).1; simp_all; done)
        ·
          first | (have hg6p := of_decide_eq_false hg6) | skip
          refine LS.vg rfl rfl rfl hg6 (by decide) (Val.move rfl) ?_
          refine LS.vg rfl rfl rfl hg6 (by decide) (Val.eql rfl rfl) ?_
          refine LS.vv rfl rfl (by decide) (Val.pickF rfl hg6 rfl) ?_
          refine LS.vv rfl rfl (by decide) (Val.assign rfl) ?_
          refine LS.nil ?_
          refine W.ret ?_
          refine thenP_ret ?_
          refine ret1 (by first | exact .inl rfl | exact .inr rfl) rfl ?_
          first | exact ⟨rfl, hB⟩ | (exfalso; omega) | exact ⟨congrArg Value.bool (decide_eq_true (by omega)), hB⟩ | (refine ⟨congrArg Value.bool (decide_eq_true ?_), hB⟩; intro h0; first | (have := hb2.2 (he2.1 (by omega)).1; simp_all; done) | (have := hb1.2 (he1.1 (by omega)).1; simp_all; done)) | (exfalso; have := hb1.2 (he1.1 (by omega)).1; simp_all; done)
      ·
        first | (have hg5p := of_decide_eq_false hg5) | skip
        refine LS.vg rfl rfl rfl hg5 (by decide) (Val.move rfl) ?_
        refine LS.vg rfl rfl rfl hg5 (by decide) (Val.neq rfl rfl) ?_
        refine LS.vv rfl rfl (by decide) (Val.pickF rfl hg5 rfl) ?_
        refine LS.nil ?_
        first | refine W.condD rfl (fun hc7 => ?_) (fun hc7 => ?_) | refine W.cond rfl (fun hc7 => ?_) (fun hc7 => ?_)
        ·
          refine W.seqR ?_
          refine LS.vv rfl rfl (by decide) (Val.move rfl) ?_
          refine LS.vv rfl rfl (by decide) (Val.eql rfl rfl) ?_
          refine LS.vv rfl rfl (by decide) (Val.move rfl) ?_
          refine LS.split 2 rfl (fun hg8 => ?_) (fun hg8 => ?_)
          ·
            first | (have hg8p := of_decide_eq_true hg8) | skip
            refine LS.s rfl rfl rfl hg8 (by decide) ?_
            refine LS.s rfl rfl rfl hg8 (by decide) ?_
            refine LS.vv rfl rfl (by decide) (Val.pickT rfl hg8 rfl) ?_
            refine LS.vv rfl rfl (by decide) (Val.assign rfl) ?_
            refine LS.nil ?_
            refine W.ret ?_
            refine thenP_ret ?_
            refine ret1 (by first | exact .inl rfl | exact .inr rfl) rfl ?_
            first | exact ⟨rfl, hB⟩ | (exfalso; omega) | exact ⟨congrArg Value.bool (decide_eq_true (by omega)), hB⟩ | (refine ⟨congrArg Value.bool (decide_eq_true ?_), hB⟩; intro h0; first | (have := hb2.2 (he2.1 (by omega)).1; simp_all; done) | (have := hb1.2 (he1.1 (by omega)).1; simp_all; done)) | (exfalso; have := hb1.2 (he1.1 (by omega)).1; simp_all; done)
          ·
            first | (have hg8p := of_decide_eq_false hg8) | skip
            refine LS.vg rfl rfl rfl hg8 (by decide) (Val.move rfl) ?_
            refine LS.vg rfl rfl rfl hg8 (by decide) (Val.eql rfl rfl) ?_
            refine LS.vv rfl rfl (by decide) (Val.pickF rfl hg8 rfl) ?_
            refine LS.vv rfl rfl (by decide) (Val.assign rfl) ?_
            refine LS.nil ?_
            refine W.ret ?_
            refine thenP_ret ?_
            refine ret1 (by first | exact .inl rfl | exact .inr rfl) rfl ?_
            first | exact ⟨rfl, hB⟩ | (exfalso; omega) | exact ⟨congrArg Value.bool (decide_eq_true (by omega)), hB⟩ | (refine ⟨congrArg Value.bool (decide_eq_true ?_), hB⟩; intro h0; first | (have := hb2.2 (he2.1 (by omega)).1; simp_all; done) | (have := hb1.2 (he1.1 (by omega)).1; simp_all; done)) | (exfalso; have := hb1.2 (he1.1 (by omega)).1; simp_all; done)
        ·
          refine W.skip ?_
          refine thenP_normal ?_
          refine W.seqR ?_
          obtain ⟨g1, g2, g3, g4, g5⟩ := he1.1 (by omega)
          obtain ⟨f1, f2, f3, f4, f5⟩ := he2.1 (by omega)
          have v1 := hy1 (by omega)
          have v2 := hy2 (by omega)
          have i1 := putV_ge g1 (by omega) g4
          have i2 := putV_ge f1 (by omega) f4
          have r1 := fun h => putV_rises (y := b) g1 (show s.toNat < zs.length by omega) g4 h
          have r2 := fun h => putV_rises (y := a) f1 (show s.toNat < zs.length by omega) f4 h
          rw [← v1] at i1
          rw [← v2] at i2
          rw [← v1, ← v2] at r1 r2
          refine LS.vv rfl rfl (by decide) (Val.move rfl) ?_
          refine LS.vv rfl rfl (by decide) (Val.move rfl) ?_
          refine LS.vv rfl rfl (by decide) (Val.lss rfl rfl) ?_
          refine LS.vv rfl rfl (by decide) (Val.move rfl) ?_
          refine LS.vv rfl rfl (by decide) (Val.move rfl) ?_
          refine LS.vv rfl rfl (by decide) (Val.lss rfl rfl) ?_
          refine LS.vv rfl rfl (by decide) (Val.cast (v := .bool true) (Val.eqlB Try.underlying4 rfl rfl) (by exact rises_dec r1 r2 (fun h => by subst h; rw [v1, v2]))) ?_
          refine LS.vv rfl rfl (by decide) (Val.move rfl) ?_
          refine LS.vg rfl rfl rfl rfl (by decide) (Val.move rfl) ?_
          refine LS.vg rfl rfl rfl rfl (by decide) (Val.move rfl) ?_
          refine LS.vg rfl rfl rfl rfl (by decide) (Val.cast (v := .bool true) (Val.geq rfl rfl) (by first | (simp; done) | (simp; omega))) ?_
          refine LS.vv rfl rfl (by decide) (Val.pickT rfl rfl rfl) ?_
          refine LS.vv rfl rfl (by decide) (Val.move rfl) ?_
          refine LS.vg rfl rfl rfl rfl (by decide) (Val.move rfl) ?_
          refine LS.vg rfl rfl rfl rfl (by decide) (Val.move rfl) ?_
          refine LS.vg rfl rfl rfl rfl (by decide) (Val.cast (v := .bool true) (Val.geq rfl rfl) (by first | (simp; done) | (simp; omega))) ?_
          refine LS.vv rfl rfl (by decide) (Val.pickT rfl rfl rfl) ?_
          refine LS.vv rfl rfl (by decide) (Val.assign rfl) ?_
          refine LS.nil ?_
          refine W.ret ?_
          refine ret1 (by first | exact .inl rfl | exact .inr rfl) rfl ?_
          first | exact ⟨rfl, hB⟩ | (exfalso; omega) | exact ⟨congrArg Value.bool (decide_eq_true (by omega)), hB⟩ | (refine ⟨congrArg Value.bool (decide_eq_true ?_), hB⟩; intro h0; first | (have := hb2.2 (he2.1 (by omega)).1; simp_all; done) | (have := hb1.2 (he1.1 (by omega)).1; simp_all; done)) | (exfalso; have := hb1.2 (he1.1 (by omega)).1; simp_all; done)

end Go.Proofs.Ytcoplafphgpmpaa
