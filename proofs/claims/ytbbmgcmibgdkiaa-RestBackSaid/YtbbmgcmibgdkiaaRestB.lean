/-
  The statement RestBack.
-/
import Derived.Test.YtbbmgcmibgdkiaaRestP
namespace Go.Proofs.Ytbbmgcmibgdkiaa
open Go Go.RowKit V
set_option linter.unusedVariables false

theorem restBack_any (g : Nat) (bs : List Bool) (p : Option Addr) (c : Nat) (w0 : World) (hr : Rd w0 p (bv bs)) (hg : g < 4294967296) (hc : bs.length ≤ c) :
    CallsV Try.prog 4 #[.int .u32 (g : Int), .slice p bs.length c] w0 (fun v w => v = .bool true ∧ Below w0.heap.size w0 w) := by
  refine enter1 Try.func4 rfl Try.ntmps4 (by simp) rfl ?_
  have hB := Below.refl w0.heap.size w0
  simp only [argLoc, Nat.zero_add]
  refine W.seqR ?_
  refine LS.vv rfl rfl (by decide) (Val.assign rfl) ?_
  refine LS.nil ?_
  refine W.seqR ?_
  refine LS.vv rfl rfl (by decide) (Val.move rfl) ?_
  refine LS.vv rfl rfl (by decide) (Val.move rfl) ?_
  refine LS.m rfl (Step.call body19 rfl rfl (by decide) rfl (CallsV.mono (Put_any g bs _ _ _ (hr.below hB) hg) ?_))
  rintro _ w1 ⟨p1, c1, m, e, rfl, hO1, he, hm, hm0, hb1⟩
  replace hB := hB.trans (hb1.mono hB.size)
  refine LS.vv rfl rfl (by decide) (Val.move rfl) ?_
  refine LS.vv rfl rfl (by decide) (Val.extract rfl rfl) ?_
  refine LS.vv rfl rfl (by decide) (Val.extract rfl rfl) ?_
  refine LS.vv rfl rfl (by decide) (Val.assign rfl) ?_
  refine LS.vv rfl rfl (by decide) (Val.assign rfl) ?_
  refine LS.nil ?_
  refine W.seqR ?_
  refine LS.vv rfl rfl (by decide) (Val.move rfl) ?_
  refine LS.vv rfl rfl (by decide) (Val.move rfl) ?_
  refine LS.m rfl (Step.call body20 rfl rfl (by decide) rfl (CallsV.mono (Get_any g bs _ _ _ (hr.below hB) hg hc) ?_))
  rintro _ w2 ⟨p2, c2, dd, f, rfl, hO2, hf, hd, hd0, _, hb2⟩
  replace hB := hB.trans (hb2.mono hB.size)
  replace hO1 := hO1.below hb2
  refine LS.vv rfl rfl (by decide) (Val.move rfl) ?_
  refine LS.vv rfl rfl (by decide) (Val.extract rfl rfl) ?_
  refine LS.vv rfl rfl (by decide) (Val.extract rfl rfl) ?_
  refine LS.vv rfl rfl (by decide) (Val.assign rfl) ?_
  refine LS.vv rfl rfl (by decide) (Val.assign rfl) ?_
  refine LS.nil ?_
  refine W.seq ?_
  refine W.seqR ?_
  refine LS.vv rfl rfl (by decide) (Val.move rfl) ?_
  refine LS.vv rfl rfl (by decide) (Val.move rfl) ?_
  refine LS.m rfl (Step.call body16 rfl rfl (by decide) rfl (CallsV.mono (restCheck_any g bs _ _ _ hg) ?_))
  rintro _ w3 ⟨e1, rfl, he1, hb3⟩
  replace hB := hB.trans (hb3.mono hB.size)
  replace hO1 := hO1.below hb3
  replace hO2 := hO2.below hb3
  have ne1 : e = 0 → e1 = 0 := fun h => he1.2 ⟨(he.1 h).1, (he.1 h).2.1⟩
  have nf1 : f = 0 → e1 = 0 := fun h => he1.2 ⟨(hf.1 h).1, (hf.1 h).2.1⟩
  refine LS.vv rfl rfl (by decide) (Val.neq rfl rfl) ?_
  refine LS.nil ?_
  first | refine W.condD rfl (fun hc1 => ?_) (fun hc1 => ?_) | refine W.cond rfl (fun hc1 => ?_) (fun hc1 => ?_)
  ·
    refine W.seqR ?_
    refine LS.vv rfl rfl (by decide) (Val.move rfl) ?_
    refine LS.vv rfl rfl (by decide) (Val.cast (v := .bool true) (Val.neq rfl rfl) (by refine congrArg Value.bool (decide_eq_true ?_); omega)) ?_
    refine LS.vv rfl rfl (by decide) (Val.move rfl) ?_
    refine LS.vg rfl rfl rfl rfl (by decide) (Val.move rfl) ?_
    refine LS.vg rfl rfl rfl rfl (by decide) (Val.cast (v := .bool true) (Val.neq rfl rfl) (by refine congrArg Value.bool (decide_eq_true ?_); omega)) ?_
    refine LS.vv rfl rfl (by decide) (Val.pickT rfl rfl rfl) ?_
    refine LS.vv rfl rfl (by decide) (Val.assign rfl) ?_
    refine LS.nil ?_
    refine W.ret ?_
    refine thenP_ret ?_
    refine ret1 (by first | exact .inl rfl | exact .inr rfl) rfl ?_
    first | exact ⟨rfl, hB⟩ | (exfalso; omega)
  ·
    refine W.skip ?_
    refine thenP_normal ?_
    refine W.seq ?_
    refine W.seqR ?_
    refine LS.vv rfl rfl (by decide) (Val.move rfl) ?_
    refine LS.vv rfl rfl (by decide) (Val.eql rfl rfl) ?_
    refine LS.nil ?_
    first | refine W.condD rfl (fun hc2 => ?_) (fun hc2 => ?_) | refine W.cond rfl (fun hc2 => ?_) (fun hc2 => ?_)
    ·
      refine W.seqR ?_
      refine LS.vv rfl rfl (by decide) (Val.move rfl) ?_
      refine LS.vv rfl rfl (by decide) (Val.move rfl) ?_
      have hE : e = 0 := by omega
      obtain ⟨hG, h64, hsum⟩ := he.1 hE
      obtain rfl := hm hE
      have hdg := hG.deg
      have hpl := putOf_len g (bitLen g - 1) bs
      refine LS.m rfl (Step.call body20 rfl rfl (by decide) rfl (CallsV.mono (Get_any g (putOf g (bitLen g - 1) bs) _ _ _ hO1.rd hg hO1.le_cap) ?_))
      rintro _ w4 ⟨p3, c3, bk, h, rfl, hO3, hh, hk, hk0, _, hb4⟩
      replace hB := hB.trans (hb4.mono hB.size)
      have hH : h = 0 := hh.2 ⟨hG, by omega, by omega, rest_put hdg bs⟩
      obtain rfl := hk hH
      have hback := put_take_len g (bitLen g - 1) bs
      replace hO2 := hO2.below hb4
      refine LS.vv rfl rfl (by decide) (Val.move rfl) ?_
      refine LS.vv rfl rfl (by decide) (Val.extract rfl rfl) ?_
      refine LS.vv rfl rfl (by decide) (Val.extract rfl rfl) ?_
      refine LS.vv rfl rfl (by decide) (Val.assign rfl) ?_
      refine LS.vv rfl rfl (by decide) (Val.assign rfl) ?_
      refine LS.nil ?_
      refine W.seqR ?_
      refine LS.vv rfl rfl (by decide) (Val.move rfl) ?_
      refine LS.vv rfl rfl (by decide) (Val.cast (v := .bool false) (Val.neq rfl rfl) (by simp; omega)) ?_
      refine LS.vv rfl rfl (by decide) (Val.move rfl) ?_
      refine LS.vg rfl rfl rfl rfl (by decide) (Val.move rfl) ?_
      refine LS.vg rfl rfl rfl rfl (by decide) (Val.move rfl) ?_
      refine LS.mg rfl rfl rfl (Step.call body21 rfl rfl (by decide) rfl (CallsV.mono (boolsEq_any _ bs _ _ _ _ _ hO3.rd (hr.below hB) (by rw [hback]; omega)) ?_))
      rintro _ w5 ⟨rfl, hb5⟩
      replace hB := hB.trans (hb5.mono hB.size)
      replace hO2 := hO2.below hb5
      rw [show decide (List.take ((putOf g (bitLen g - 1) bs).length - (bitLen g - 1)) (putOf g (bitLen g - 1) bs) = bs) = true from decide_eq_true hback]
      refine LS.vg rfl rfl rfl rfl (by decide) (Val.cast (v := .bool false) (Val.not rfl) (by rfl)) ?_
      refine LS.vv rfl rfl (by decide) (Val.pickF rfl rfl rfl) ?_
      refine LS.nil ?_
      refine W.condF rfl ?_
      refine W.skip ?_
      refine thenP_normal ?_
      refine W.seq ?_
      refine W.seqR ?_
      refine LS.vv rfl rfl (by decide) (Val.move rfl) ?_
      refine LS.vv rfl rfl (by decide) (Val.neq rfl rfl) ?_
      refine LS.nil ?_
      first | refine W.condD rfl (fun hc3 => ?_) (fun hc3 => ?_) | refine W.cond rfl (fun hc3 => ?_) (fun hc3 => ?_)
      ·
        refine W.seqR ?_
        refine LS.vv rfl rfl (by decide) (Val.move rfl) ?_
        refine LS.vv rfl rfl (by decide) (Val.len Try.underlying23 rfl) ?_
        obtain rfl := hd0 (by omega)
        refine LS.vv rfl rfl (by decide) (Val.cast (v := .bool true) (Val.eql rfl rfl) (by rfl)) ?_
        refine LS.vv rfl rfl (by decide) (Val.assign rfl) ?_
        refine LS.nil ?_
        refine W.ret ?_
        refine thenP_ret ?_
        refine ret1 (by first | exact .inl rfl | exact .inr rfl) rfl ?_
        first | exact ⟨rfl, hB⟩ | (exfalso; omega)
      ·
        refine W.skip ?_
        refine thenP_normal ?_
        refine W.seqR ?_
        refine LS.vv rfl rfl (by decide) (Val.move rfl) ?_
        refine LS.vv rfl rfl (by decide) (Val.move rfl) ?_
        obtain ⟨hG2, h642, hdl, hr0⟩ := hf.1 (by omega)
        have hdg2 := hG2.deg
        have hdn := hd (by omega)
        refine LS.m rfl (Step.call body19 rfl rfl (by decide) rfl (CallsV.mono (Put_any g dd _ _ _ hO2.rd hg ) ?_))
        rintro _ w6 ⟨p4, c4, ag, h2, rfl, hO4, hh2, hag, _, hb6⟩
        replace hB := hB.trans (hb6.mono hB.size)
        have hlt : dd.length = bs.length - (bitLen g - 1) := by rw [hdn, List.length_take]; omega
        have hH2 : h2 = 0 := hh2.2 ⟨hG2, by omega, by omega⟩
        have hag2 := hag hH2
        have hpg := put_get hdg2 hdl hr0
        rw [← hdn, ← hag2] at hpg
        refine LS.vv rfl rfl (by decide) (Val.move rfl) ?_
        refine LS.vv rfl rfl (by decide) (Val.extract rfl rfl) ?_
        refine LS.vv rfl rfl (by decide) (Val.extract rfl rfl) ?_
        refine LS.vv rfl rfl (by decide) (Val.assign rfl) ?_
        refine LS.vv rfl rfl (by decide) (Val.assign rfl) ?_
        refine LS.nil ?_
        refine W.seqR ?_
        refine LS.vv rfl rfl (by decide) (Val.move rfl) ?_
        refine LS.vv rfl rfl (by decide) (Val.cast (v := .bool true) (Val.eql rfl rfl) (by simp; omega)) ?_
        refine LS.vv rfl rfl (by decide) (Val.move rfl) ?_
        refine LS.vg rfl rfl rfl rfl (by decide) (Val.move rfl) ?_
        refine LS.vg rfl rfl rfl rfl (by decide) (Val.move rfl) ?_
        refine LS.mg rfl rfl rfl (Step.call body21 rfl rfl (by decide) rfl (CallsV.mono (boolsEq_any ag bs _ _ _ _ _ hO4.rd (hr.below hB) (by rw [hpg]; omega)) ?_))
        rintro _ w7 ⟨rfl, hb7⟩
        replace hB := hB.trans (hb7.mono hB.size)
        rw [show decide (ag = bs) = true from decide_eq_true hpg]
        refine LS.vv rfl rfl (by decide) (Val.pickT rfl rfl rfl) ?_
        refine LS.vv rfl rfl (by decide) (Val.assign rfl) ?_
        refine LS.nil ?_
        refine W.ret ?_
        refine ret1 (by first | exact .inl rfl | exact .inr rfl) rfl ?_
        first | exact ⟨rfl, hB⟩ | (exfalso; omega)
    ·
      refine W.seqR ?_
      refine LS.vv rfl rfl (by decide) (Val.move rfl) ?_
      refine LS.vv rfl rfl (by decide) (Val.len Try.underlying23 rfl) ?_
      refine LS.vv rfl rfl (by decide) (Val.move rfl) ?_
      obtain ⟨hG, h64⟩ := he1.1 (by omega)
      have hdg := hG.deg
      have hdle := hdg.le
      refine LS.m rfl (Step.call body22 rfl rfl (by decide) rfl (CallsV.mono (degreeQ_any g _ hG) ?_))
      rintro _ w8 ⟨rfl, hb8⟩
      replace hB := hB.trans (hb8.mono hB.size)
      replace hO2 := hO2.below hb8
      first | refine LS.vv rfl rfl (by decide) (Val.addN rfl rfl (by omega)) ?_ | refine LS.vv rfl rfl (by decide) (Val.add64 rfl rfl (by omega)) ?_
      have hnot : ¬ (bs.length + (bitLen g - 1) ≤ 64) := fun h => absurd (he.2 ⟨hG, h64, h⟩) (by omega)
      refine LS.vv rfl rfl (by decide) (Val.cast (v := .bool false) (Val.leq rfl rfl) (by simp; omega)) ?_
      refine LS.nil ?_
      refine W.condF rfl ?_
      refine W.skip ?_
      refine thenP_normal ?_
      refine W.seq ?_
      refine W.seqR ?_
      refine LS.vv rfl rfl (by decide) (Val.move rfl) ?_
      refine LS.vv rfl rfl (by decide) (Val.neq rfl rfl) ?_
      refine LS.nil ?_
      first | refine W.condD rfl (fun hc4 => ?_) (fun hc4 => ?_) | refine W.cond rfl (fun hc4 => ?_) (fun hc4 => ?_)
      ·
        refine W.seqR ?_
        refine LS.vv rfl rfl (by decide) (Val.move rfl) ?_
        refine LS.vv rfl rfl (by decide) (Val.len Try.underlying23 rfl) ?_
        obtain rfl := hd0 (by omega)
        refine LS.vv rfl rfl (by decide) (Val.cast (v := .bool true) (Val.eql rfl rfl) (by rfl)) ?_
        refine LS.vv rfl rfl (by decide) (Val.assign rfl) ?_
        refine LS.nil ?_
        refine W.ret ?_
        refine thenP_ret ?_
        refine ret1 (by first | exact .inl rfl | exact .inr rfl) rfl ?_
        first | exact ⟨rfl, hB⟩ | (exfalso; omega)
      ·
        refine W.skip ?_
        refine thenP_normal ?_
        refine W.seqR ?_
        refine LS.vv rfl rfl (by decide) (Val.move rfl) ?_
        refine LS.vv rfl rfl (by decide) (Val.move rfl) ?_
        obtain ⟨hG2, h642, hdl, hr0⟩ := hf.1 (by omega)
        have hdg2 := hG2.deg
        have hdn := hd (by omega)
        refine LS.m rfl (Step.call body19 rfl rfl (by decide) rfl (CallsV.mono (Put_any g dd _ _ _ hO2.rd hg ) ?_))
        rintro _ w9 ⟨p4, c4, ag, h2, rfl, hO4, hh2, hag, _, hb9⟩
        replace hB := hB.trans (hb9.mono hB.size)
        have hlt : dd.length = bs.length - (bitLen g - 1) := by rw [hdn, List.length_take]; omega
        have hH2 : h2 = 0 := hh2.2 ⟨hG2, by omega, by omega⟩
        have hag2 := hag hH2
        have hpg := put_get hdg2 hdl hr0
        rw [← hdn, ← hag2] at hpg
        refine LS.vv rfl rfl (by decide) (Val.move rfl) ?_
        refine LS.vv rfl rfl (by decide) (Val.extract rfl rfl) ?_
        refine LS.vv rfl rfl (by decide) (Val.extract rfl rfl) ?_
        refine LS.vv rfl rfl (by decide) (Val.assign rfl) ?_
        refine LS.vv rfl rfl (by decide) (Val.assign rfl) ?_
        refine LS.nil ?_
        refine W.seqR ?_
        refine LS.vv rfl rfl (by decide) (Val.move rfl) ?_
        refine LS.vv rfl rfl (by decide) (Val.cast (v := .bool true) (Val.eql rfl rfl) (by simp; omega)) ?_
        refine LS.vv rfl rfl (by decide) (Val.move rfl) ?_
        refine LS.vg rfl rfl rfl rfl (by decide) (Val.move rfl) ?_
        refine LS.vg rfl rfl rfl rfl (by decide) (Val.move rfl) ?_
        refine LS.mg rfl rfl rfl (Step.call body21 rfl rfl (by decide) rfl (CallsV.mono (boolsEq_any ag bs _ _ _ _ _ hO4.rd (hr.below hB) (by rw [hpg]; omega)) ?_))
        rintro _ w10 ⟨rfl, hb10⟩
        replace hB := hB.trans (hb10.mono hB.size)
        rw [show decide (ag = bs) = true from decide_eq_true hpg]
        refine LS.vv rfl rfl (by decide) (Val.pickT rfl rfl rfl) ?_
        refine LS.vv rfl rfl (by decide) (Val.assign rfl) ?_
        refine LS.nil ?_
        refine W.ret ?_
        refine ret1 (by first | exact .inl rfl | exact .inr rfl) rfl ?_
        first | exact ⟨rfl, hB⟩ | (exfalso; omega)

end Go.Proofs.Ytbbmgcmibgdkiaa
