/-
  The statement EvenBack.
-/
import Derived.Test.YtpogedmkmplckaaEvenB
import Derived.Test.YtpogedmkmplckaaRefs
namespace Go.Proofs.Ytpogedmkmplckaa
open Go Go.RowKit V
set_option linter.unusedVariables false

theorem evenBack_any (d : List Bool) (p : Option Addr) (c : Nat) (w0 : World) (hr : Rd w0 p (bv d)) (hc : d.length ≤ c) :
    CallsV Try.prog 11 #[.slice p d.length c] w0 (fun v w => v = .bool true ∧ Below w0.heap.size w0 w) := by
  refine enter1 Try.func11 rfl Try.ntmps11 (by simp) rfl ?_
  have hB := Below.refl w0.heap.size w0
  simp only [argLoc]
  have hM := Mem.nil w0 w0.heap.size
  refine W.seqR ?_
  refine LS.vv rfl rfl (by decide) (Val.assign rfl) ?_
  refine LS.nil ?_
  refine W.seqR ?_
  refine LS.vv rfl rfl (by decide) (Val.move rfl) ?_
  refine LS.m rfl (Step.call body29 rfl rfl (by decide) rfl (CallsV.mono (Put_any d _ _ _ _ (hr.below hB) rfl) ?_))
  rintro _ w1 ⟨p1, c1, P, n, e, rfl, hO1, he, hP, hP0, hb1⟩
  replace hM := hM.add hB.size hb1 hO1
  replace hB := hB.trans (hb1.mono hB.size)
  refine LS.vv rfl rfl (by decide) (Val.move rfl) ?_
  refine LS.vv rfl rfl (by decide) (Val.extract rfl rfl) ?_
  refine LS.vv rfl rfl (by decide) (Val.extract rfl rfl) ?_
  refine LS.vv rfl rfl (by decide) (Val.assign rfl) ?_
  refine LS.vv rfl rfl (by decide) (Val.assign rfl) ?_
  refine LS.nil ?_
  refine W.seqR ?_
  refine LS.vv rfl rfl (by decide) (Val.move rfl) ?_
  refine LS.m rfl (Step.call body31 rfl rfl (by decide) rfl (CallsV.mono (Get_any d _ _ _ _ (hr.below hB) rfl hc) ?_))
  rintro _ w2 ⟨p2, c2, G, f, rfl, hO2, hG, hG0, hGb, hb2⟩
  replace hM := hM.add hB.size hb2 hO2
  replace hB := hB.trans (hb2.mono hB.size)
  refine LS.vv rfl rfl (by decide) (Val.move rfl) ?_
  refine LS.vv rfl rfl (by decide) (Val.extract rfl rfl) ?_
  refine LS.vv rfl rfl (by decide) (Val.extract rfl rfl) ?_
  refine LS.vv rfl rfl (by decide) (Val.assign rfl) ?_
  refine LS.vv rfl rfl (by decide) (Val.assign rfl) ?_
  refine LS.nil ?_
  refine W.seq ?_
  refine W.seqR ?_
  refine LS.vv rfl rfl (by decide) (Val.move rfl) ?_
  refine LS.vv rfl rfl (by decide) (Val.eql rfl rfl) ?_
  refine LS.nil ?_
  first | refine W.condD rfl (fun hc1 => ?_) (fun hc1 => ?_) | refine W.cond rfl (fun hc1 => ?_) (fun hc1 => ?_)
  ·
    refine W.seqR ?_
    refine LS.vv rfl rfl (by decide) (Val.move rfl) ?_
    have hE : e = 0 := by omega
    obtain ⟨g1, g2, g3, g4⟩ := hP hE
    have hI : IsE d n := ⟨(he.1 hE).1, (he.1 hE).2, g2, g3, g4⟩
    refine LS.m rfl (Step.call body31 rfl rfl (by decide) rfl (CallsV.mono (Get_any P _ _ _ _ hM.o1.rd rfl hM.o1.le_cap) ?_))
    rintro _ w3 ⟨p3, c3, Bk, h, rfl, hO3, hH, hH0, hHb, hb3⟩
    replace hM := hM.add hB.size hb3 hO3
    replace hB := hB.trans (hb3.mono hB.size)
    have hh0 := hHb d n hI g1
    obtain ⟨n3, i1, i2⟩ := hH hh0
    have hBd : Bk = d := putE_inj i1 hI (by rw [← i2, ← g1])
    refine LS.vv rfl rfl (by decide) (Val.move rfl) ?_
    refine LS.vv rfl rfl (by decide) (Val.extract rfl rfl) ?_
    refine LS.vv rfl rfl (by decide) (Val.extract rfl rfl) ?_
    refine LS.vv rfl rfl (by decide) (Val.assign rfl) ?_
    refine LS.vv rfl rfl (by decide) (Val.assign rfl) ?_
    refine LS.nil ?_
    refine W.seqR ?_
    refine LS.vv rfl rfl (by decide) (Val.move rfl) ?_
    refine LS.vv rfl rfl (by decide) (Val.cast (v := .bool false) (Val.neq rfl rfl) (by simp; omega)) ?_
    refine LS.vv rfl rfl (by decide) (Val.move rfl) ?_
    refine LS.vg rfl rfl rfl rfl (by decide) (Val.move rfl) ?_
    refine LS.vg rfl rfl rfl rfl (by decide) (Val.move rfl) ?_
    refine LS.mg rfl rfl rfl (Step.call body13 rfl rfl (by decide) rfl (CallsV.mono (boolsEq_any Bk d _ _ _ _ _ hM.o0.rd (hr.below hB) (by rw [hBd]; have := hI.1; omega)) ?_))
    rintro _ w4 ⟨rfl, hb4⟩
    replace hM := hM.below hb4
    replace hB := hB.trans (hb4.mono hB.size)
    rw [show decide (Bk = d) = true from decide_eq_true hBd]
    refine LS.vg rfl rfl rfl rfl (by decide) (Val.cast (v := .bool false) (Val.not rfl) (by rfl)) ?_
    refine LS.vv rfl rfl (by decide) (Val.pickF rfl rfl rfl) ?_
    refine LS.nil ?_
    refine W.condF rfl ?_
    refine W.skip ?_
    refine thenP_normal ?_
    refine W.seq ?_
    refine W.seqR ?_
    refine LS.vv rfl rfl (by decide) (Val.move rfl) ?_
    refine LS.vv rfl rfl (by decide) (Val.neq rfl rfl) ?_
    refine LS.nil ?_
    first | refine W.condD rfl (fun hc2 => ?_) (fun hc2 => ?_) | refine W.cond rfl (fun hc2 => ?_) (fun hc2 => ?_)
    ·
      refine W.seqR ?_
      refine LS.vv rfl rfl (by decide) (Val.move rfl) ?_
      refine LS.vv rfl rfl (by decide) (Val.len Try.underlying22 rfl) ?_
      refine LS.vv rfl rfl (by decide) (Val.cast (v := .bool true) (Val.eql rfl rfl) (by simp [hG0 (by omega)])) ?_
      refine LS.vv rfl rfl (by decide) (Val.assign rfl) ?_
      refine LS.nil ?_
      refine W.ret ?_
      refine thenP_ret ?_
      refine ret1 (by first | exact .inl rfl | exact .inr rfl) rfl ?_
      first | exact ⟨rfl, hB⟩ | (exfalso; omega)
    ·
      refine W.skip ?_
      refine thenP_normal ?_
      refine W.seqR ?_
      refine LS.vv rfl rfl (by decide) (Val.move rfl) ?_
      have hF : f = 0 := by omega
      obtain ⟨n2, i1, i2⟩ := hG hF
      refine LS.m rfl (Step.call body29 rfl rfl (by decide) rfl (CallsV.mono (Put_any G _ _ _ _ hM.o1.rd rfl) ?_))
      rintro _ w5 ⟨p4, c4, A, n4, e4, rfl, hO4, he4, hA, hA0, hb5⟩
      replace hM := hM.add hB.size hb5 hO4
      replace hB := hB.trans (hb5.mono hB.size)
      have he40 : e4 = 0 := he4.2 ⟨i1.1, i1.2.1⟩
      obtain ⟨g1, g2, g3, g4⟩ := hA he40
      have hn := IsE.one i1 ⟨i1.1, i1.2.1, g2, g3, g4⟩
      have hAd : A = d := by rw [i2, g1, hn]
      have hdl := putE_len G n2
      have hgl := i1.1
      rw [← i2] at hdl
      refine LS.vv rfl rfl (by decide) (Val.move rfl) ?_
      refine LS.vv rfl rfl (by decide) (Val.extract rfl rfl) ?_
      refine LS.vv rfl rfl (by decide) (Val.extract rfl rfl) ?_
      refine LS.vv rfl rfl (by decide) (Val.assign rfl) ?_
      refine LS.vv rfl rfl (by decide) (Val.assign rfl) ?_
      refine LS.nil ?_
      refine W.seqR ?_
      refine LS.vv rfl rfl (by decide) (Val.move rfl) ?_
      refine LS.vv rfl rfl (by decide) (Val.cast (v := .bool true) (Val.eql rfl rfl) (by simp; omega)) ?_
      refine LS.vv rfl rfl (by decide) (Val.move rfl) ?_
      refine LS.vg rfl rfl rfl rfl (by decide) (Val.move rfl) ?_
      refine LS.vg rfl rfl rfl rfl (by decide) (Val.move rfl) ?_
      refine LS.mg rfl rfl rfl (Step.call body13 rfl rfl (by decide) rfl (CallsV.mono (boolsEq_any A d _ _ _ _ _ hM.o0.rd (hr.below hB) (by rw [hAd]; omega)) ?_))
      rintro _ w6 ⟨rfl, hb6⟩
      replace hM := hM.below hb6
      replace hB := hB.trans (hb6.mono hB.size)
      rw [show decide (A = d) = true from decide_eq_true hAd]
      refine LS.vv rfl rfl (by decide) (Val.pickT rfl rfl rfl) ?_
      refine LS.vv rfl rfl (by decide) (Val.assign rfl) ?_
      refine LS.nil ?_
      refine W.ret ?_
      refine ret1 (by first | exact .inl rfl | exact .inr rfl) rfl ?_
      first | exact ⟨rfl, hB⟩ | (exfalso; omega)
  ·
    refine W.seqR ?_
    refine LS.vv rfl rfl (by decide) (Val.move rfl) ?_
    refine LS.vv rfl rfl (by decide) (Val.len Try.underlying22 rfl) ?_
    refine LS.vv rfl rfl (by decide) (Val.leq rfl rfl) ?_
    refine LS.vv rfl rfl (by decide) (Val.move rfl) ?_
    refine LS.split 3 rfl (fun hg3 => ?_) (fun hg3 => ?_)
    ·
      first | (have hg3p := of_decide_eq_true hg3) | skip
      refine LS.vg rfl rfl rfl hg3 (by decide) (Val.move rfl) ?_
      refine LS.vg rfl rfl rfl hg3 (by decide) (Val.len Try.underlying22 rfl) ?_
      first | refine LS.vg rfl rfl rfl hg3 (by decide) (Val.remN (j := 2) rfl rfl (by omega)) ?_ | refine LS.vg rfl rfl rfl hg3 (by decide) (Val.rem rfl rfl (by omega) (by omega)) ?_ | refine LS.vg rfl rfl rfl hg3 (by decide) (Val.remT rfl rfl (by omega)) ?_
      refine LS.vg rfl rfl rfl hg3 (by decide) (Val.eql rfl rfl) ?_
      refine LS.vv rfl rfl (by decide) (Val.pickT rfl hg3 rfl) ?_
      refine LS.nil ?_
      first | refine W.condD rfl (fun hc4 => ?_) (fun hc4 => ?_) | refine W.cond rfl (fun hc4 => ?_) (fun hc4 => ?_)
      ·
        refine W.seqR ?_
        refine LS.vv rfl rfl (by decide) (Val.assign rfl) ?_
        refine LS.nil ?_
        refine W.ret ?_
        refine thenP_ret ?_
        refine ret1 (by first | exact .inl rfl | exact .inr rfl) rfl ?_
        first | exact ⟨rfl, hB⟩ | (exfalso; omega)
      ·
        refine W.skip ?_
        refine thenP_normal ?_
        refine W.seq ?_
        refine W.seqR ?_
        refine LS.vv rfl rfl (by decide) (Val.move rfl) ?_
        refine LS.vv rfl rfl (by decide) (Val.neq rfl rfl) ?_
        refine LS.nil ?_
        first | refine W.condD rfl (fun hc5 => ?_) (fun hc5 => ?_) | refine W.cond rfl (fun hc5 => ?_) (fun hc5 => ?_)
        ·
          refine W.seqR ?_
          refine LS.vv rfl rfl (by decide) (Val.move rfl) ?_
          refine LS.vv rfl rfl (by decide) (Val.len Try.underlying22 rfl) ?_
          refine LS.vv rfl rfl (by decide) (Val.cast (v := .bool true) (Val.eql rfl rfl) (by simp [hG0 (by omega)])) ?_
          refine LS.vv rfl rfl (by decide) (Val.assign rfl) ?_
          refine LS.nil ?_
          refine W.ret ?_
          refine thenP_ret ?_
          refine ret1 (by first | exact .inl rfl | exact .inr rfl) rfl ?_
          first | exact ⟨rfl, hB⟩ | (exfalso; omega)
        ·
          refine W.skip ?_
          refine thenP_normal ?_
          refine W.seqR ?_
          refine LS.vv rfl rfl (by decide) (Val.move rfl) ?_
          have hF : f = 0 := by omega
          obtain ⟨n2, i1, i2⟩ := hG hF
          refine LS.m rfl (Step.call body29 rfl rfl (by decide) rfl (CallsV.mono (Put_any G _ _ _ _ hM.o0.rd rfl) ?_))
          rintro _ w7 ⟨p4, c4, A, n4, e4, rfl, hO4, he4, hA, hA0, hb7⟩
          replace hM := hM.add hB.size hb7 hO4
          replace hB := hB.trans (hb7.mono hB.size)
          have he40 : e4 = 0 := he4.2 ⟨i1.1, i1.2.1⟩
          obtain ⟨g1, g2, g3, g4⟩ := hA he40
          have hn := IsE.one i1 ⟨i1.1, i1.2.1, g2, g3, g4⟩
          have hAd : A = d := by rw [i2, g1, hn]
          have hdl := putE_len G n2
          have hgl := i1.1
          rw [← i2] at hdl
          refine LS.vv rfl rfl (by decide) (Val.move rfl) ?_
          refine LS.vv rfl rfl (by decide) (Val.extract rfl rfl) ?_
          refine LS.vv rfl rfl (by decide) (Val.extract rfl rfl) ?_
          refine LS.vv rfl rfl (by decide) (Val.assign rfl) ?_
          refine LS.vv rfl rfl (by decide) (Val.assign rfl) ?_
          refine LS.nil ?_
          refine W.seqR ?_
          refine LS.vv rfl rfl (by decide) (Val.move rfl) ?_
          refine LS.vv rfl rfl (by decide) (Val.cast (v := .bool true) (Val.eql rfl rfl) (by simp; omega)) ?_
          refine LS.vv rfl rfl (by decide) (Val.move rfl) ?_
          refine LS.vg rfl rfl rfl rfl (by decide) (Val.move rfl) ?_
          refine LS.vg rfl rfl rfl rfl (by decide) (Val.move rfl) ?_
          refine LS.mg rfl rfl rfl (Step.call body13 rfl rfl (by decide) rfl (CallsV.mono (boolsEq_any A d _ _ _ _ _ hM.o0.rd (hr.below hB) (by rw [hAd]; omega)) ?_))
          rintro _ w8 ⟨rfl, hb8⟩
          replace hM := hM.below hb8
          replace hB := hB.trans (hb8.mono hB.size)
          rw [show decide (A = d) = true from decide_eq_true hAd]
          refine LS.vv rfl rfl (by decide) (Val.pickT rfl rfl rfl) ?_
          refine LS.vv rfl rfl (by decide) (Val.assign rfl) ?_
          refine LS.nil ?_
          refine W.ret ?_
          refine ret1 (by first | exact .inl rfl | exact .inr rfl) rfl ?_
          first | exact ⟨rfl, hB⟩ | (exfalso; omega)
    ·
      first | (have hg3p := of_decide_eq_false hg3) | skip
      refine LS.s rfl rfl rfl hg3 (by decide) ?_
      refine LS.s rfl rfl rfl hg3 (by decide) ?_
      refine LS.s rfl rfl rfl hg3 (by decide) ?_
      refine LS.s rfl rfl rfl hg3 (by decide) ?_
      refine LS.vv rfl rfl (by decide) (Val.pickF rfl hg3 rfl) ?_
      refine LS.nil ?_
      refine W.condF rfl ?_
      refine W.skip ?_
      refine thenP_normal ?_
      refine W.seq ?_
      refine W.seqR ?_
      refine LS.vv rfl rfl (by decide) (Val.move rfl) ?_
      refine LS.vv rfl rfl (by decide) (Val.neq rfl rfl) ?_
      refine LS.nil ?_
      first | refine W.condD rfl (fun hc6 => ?_) (fun hc6 => ?_) | refine W.cond rfl (fun hc6 => ?_) (fun hc6 => ?_)
      ·
        refine W.seqR ?_
        refine LS.vv rfl rfl (by decide) (Val.move rfl) ?_
        refine LS.vv rfl rfl (by decide) (Val.len Try.underlying22 rfl) ?_
        refine LS.vv rfl rfl (by decide) (Val.cast (v := .bool true) (Val.eql rfl rfl) (by simp [hG0 (by omega)])) ?_
        refine LS.vv rfl rfl (by decide) (Val.assign rfl) ?_
        refine LS.nil ?_
        refine W.ret ?_
        refine thenP_ret ?_
        refine ret1 (by first | exact .inl rfl | exact .inr rfl) rfl ?_
        first | exact ⟨rfl, hB⟩ | (exfalso; omega)
      ·
        refine W.skip ?_
        refine thenP_normal ?_
        refine W.seqR ?_
        refine LS.vv rfl rfl (by decide) (Val.move rfl) ?_
        have hF : f = 0 := by omega
        obtain ⟨n2, i1, i2⟩ := hG hF
        refine LS.m rfl (Step.call body29 rfl rfl (by decide) rfl (CallsV.mono (Put_any G _ _ _ _ hM.o0.rd rfl) ?_))
        rintro _ w9 ⟨p4, c4, A, n4, e4, rfl, hO4, he4, hA, hA0, hb9⟩
        replace hM := hM.add hB.size hb9 hO4
        replace hB := hB.trans (hb9.mono hB.size)
        have he40 : e4 = 0 := he4.2 ⟨i1.1, i1.2.1⟩
        obtain ⟨g1, g2, g3, g4⟩ := hA he40
        have hn := IsE.one i1 ⟨i1.1, i1.2.1, g2, g3, g4⟩
        have hAd : A = d := by rw [i2, g1, hn]
        have hdl := putE_len G n2
        have hgl := i1.1
        rw [← i2] at hdl
        refine LS.vv rfl rfl (by decide) (Val.move rfl) ?_
        refine LS.vv rfl rfl (by decide) (Val.extract rfl rfl) ?_
        refine LS.vv rfl rfl (by decide) (Val.extract rfl rfl) ?_
        refine LS.vv rfl rfl (by decide) (Val.assign rfl) ?_
        refine LS.vv rfl rfl (by decide) (Val.assign rfl) ?_
        refine LS.nil ?_
        refine W.seqR ?_
        refine LS.vv rfl rfl (by decide) (Val.move rfl) ?_
        refine LS.vv rfl rfl (by decide) (Val.cast (v := .bool true) (Val.eql rfl rfl) (by simp; omega)) ?_
        refine LS.vv rfl rfl (by decide) (Val.move rfl) ?_
        refine LS.vg rfl rfl rfl rfl (by decide) (Val.move rfl) ?_
        refine LS.vg rfl rfl rfl rfl (by decide) (Val.move rfl) ?_
        refine LS.mg rfl rfl rfl (Step.call body13 rfl rfl (by decide) rfl (CallsV.mono (boolsEq_any A d _ _ _ _ _ hM.o0.rd (hr.below hB) (by rw [hAd]; omega)) ?_))
        rintro _ w10 ⟨rfl, hb10⟩
        replace hM := hM.below hb10
        replace hB := hB.trans (hb10.mono hB.size)
        rw [show decide (A = d) = true from decide_eq_true hAd]
        refine LS.vv rfl rfl (by decide) (Val.pickT rfl rfl rfl) ?_
        refine LS.vv rfl rfl (by decide) (Val.assign rfl) ?_
        refine LS.nil ?_
        refine W.ret ?_
        refine ret1 (by first | exact .inl rfl | exact .inr rfl) rfl ?_
        first | exact ⟨rfl, hB⟩ | (exfalso; omega)

end Go.Proofs.Ytpogedmkmplckaa
