/-
  The statements EliasBack, EliasShort, EliasOnly.
-/
import Derived.Test.YtcoplafphgpmpaaElias
import Derived.Test.YtcoplafphgpmpaaRefs
namespace Go.Proofs.Ytcoplafphgpmpaa
open Go Go.RowKit V
set_option linter.unusedVariables false

theorem eliasBack_any (n : Int) (bs : List Bool) (p : Option Addr) (c : Nat) (w0 : World) (hr : Rd w0 p (bv bs)) (hl0 : bs.length ≤ 9223372036854775807) (hsm : bs.length ≤ 140737488351232) :
    CallsV Try.prog 12 #[.int .i64 n, .slice p bs.length c] w0 (fun v w => v = .bool true ∧ Below w0.heap.size w0 w) := by
  refine enter1 Try.func12 rfl Try.ntmps12 (by simp) rfl ?_
  have hB := Below.refl w0.heap.size w0
  simp only [argLoc, Nat.zero_add]
  have hM := Mem.nil w0 w0.heap.size
  refine W.seqR ?_
  refine LS.vv rfl rfl (by decide) (Val.assign rfl) ?_
  refine LS.nil ?_
  refine W.seqR ?_
  refine LS.vv rfl rfl (by decide) (Val.move rfl) ?_
  refine LS.m rfl (Step.call body27 rfl rfl (by decide) rfl (CallsV.mono (Gamma_any n _) ?_))
  rintro _ w1 ⟨p1, c1, L1, e1, rfl, hO1, he1, hL1, hN1, hb1⟩
  replace hM := hM.add hB.size hb1 hO1
  replace hB := hB.trans (hb1.mono hB.size)
  refine LS.vv rfl rfl (by decide) (Val.move rfl) ?_
  refine LS.vv rfl rfl (by decide) (Val.extract rfl rfl) ?_
  refine LS.vv rfl rfl (by decide) (Val.extract rfl rfl) ?_
  refine LS.vv rfl rfl (by decide) (Val.assign rfl) ?_
  refine LS.vv rfl rfl (by decide) (Val.assign rfl) ?_
  refine LS.nil ?_
  refine W.seqR ?_
  refine LS.vv rfl rfl (by decide) (Val.move rfl) ?_
  refine LS.m rfl (Step.call body28 rfl rfl (by decide) rfl (CallsV.mono (Delta_any n _) ?_))
  rintro _ w2 ⟨p2, c2, L2, e2, rfl, hO2, he2, hL2, hN2, hb2⟩
  replace hM := hM.add hB.size hb2 hO2
  replace hB := hB.trans (hb2.mono hB.size)
  refine LS.vv rfl rfl (by decide) (Val.move rfl) ?_
  refine LS.vv rfl rfl (by decide) (Val.extract rfl rfl) ?_
  refine LS.vv rfl rfl (by decide) (Val.extract rfl rfl) ?_
  refine LS.vv rfl rfl (by decide) (Val.assign rfl) ?_
  refine LS.vv rfl rfl (by decide) (Val.assign rfl) ?_
  refine LS.nil ?_
  refine W.seq ?_
  refine W.seqR ?_
  refine LS.vv rfl rfl (by decide) (Val.move rfl) ?_
  refine LS.vv rfl rfl (by decide) (Val.lss rfl rfl) ?_
  refine LS.vv rfl rfl (by decide) (Val.move rfl) ?_
  refine LS.split 2 rfl (fun hg1 => ?_) (fun hg1 => ?_)
  ·
    first | (have hg1p := of_decide_eq_true hg1) | skip
    refine LS.s rfl rfl rfl hg1 (by decide) ?_
    refine LS.s rfl rfl rfl hg1 (by decide) ?_
    refine LS.vv rfl rfl (by decide) (Val.pickT rfl hg1 rfl) ?_
    refine LS.nil ?_
    refine W.condT rfl ?_
    refine W.seqR ?_
    refine LS.vv rfl rfl (by decide) (Val.move rfl) ?_
    refine LS.vv rfl rfl (by decide) (Val.cast (v := .bool true) (Val.neq rfl rfl) (by exact congrArg Value.bool (decide_eq_true (by omega)))) ?_
    refine LS.vv rfl rfl (by decide) (Val.move rfl) ?_
    refine LS.vg rfl rfl rfl rfl (by decide) (Val.move rfl) ?_
    refine LS.vg rfl rfl rfl rfl (by decide) (Val.cast (v := .bool true) (Val.neq rfl rfl) (by exact congrArg Value.bool (decide_eq_true (by omega)))) ?_
    refine LS.vv rfl rfl (by decide) (Val.pickT rfl rfl rfl) ?_
    refine LS.vv rfl rfl (by decide) (Val.assign rfl) ?_
    refine LS.nil ?_
    refine W.ret ?_
    refine thenP_ret ?_
    refine ret1 (by first | exact .inl rfl | exact .inr rfl) rfl ?_
    first | exact ⟨rfl, hB⟩ | (exfalso; omega)
  ·
    first | (have hg1p := of_decide_eq_false hg1) | skip
    refine LS.vg rfl rfl rfl hg1 (by decide) (Val.move rfl) ?_
    refine LS.vg rfl rfl rfl hg1 (by decide) (Val.gtr rfl rfl) ?_
    refine LS.vv rfl rfl (by decide) (Val.pickF rfl hg1 rfl) ?_
    refine LS.nil ?_
    first | refine W.condD rfl (fun hc2 => ?_) (fun hc2 => ?_) | refine W.cond rfl (fun hc2 => ?_) (fun hc2 => ?_)
    ·
      refine W.seqR ?_
      refine LS.vv rfl rfl (by decide) (Val.move rfl) ?_
      refine LS.vv rfl rfl (by decide) (Val.cast (v := .bool true) (Val.neq rfl rfl) (by exact congrArg Value.bool (decide_eq_true (by omega)))) ?_
      refine LS.vv rfl rfl (by decide) (Val.move rfl) ?_
      refine LS.vg rfl rfl rfl rfl (by decide) (Val.move rfl) ?_
      refine LS.vg rfl rfl rfl rfl (by decide) (Val.cast (v := .bool true) (Val.neq rfl rfl) (by exact congrArg Value.bool (decide_eq_true (by omega)))) ?_
      refine LS.vv rfl rfl (by decide) (Val.pickT rfl rfl rfl) ?_
      refine LS.vv rfl rfl (by decide) (Val.assign rfl) ?_
      refine LS.nil ?_
      refine W.ret ?_
      refine thenP_ret ?_
      refine ret1 (by first | exact .inl rfl | exact .inr rfl) rfl ?_
      first | exact ⟨rfl, hB⟩ | (exfalso; omega)
    ·
      refine W.skip ?_
      refine thenP_normal ?_
      refine W.seqR ?_
      obtain ⟨N, rfl⟩ := Int.eq_ofNat_of_zero_le (show 0 ≤ n by omega)
      have hN : 1 ≤ N := by omega
      have hE1 : e1 = 0 := he1.2 (by omega)
      have hE2 : e2 = 0 := he2.2 (by omega)
      have hG : L1 = gam N := by simpa using hL1 hE1
      have hD : L2 = del N := by simpa using hL2 hE2
      subst hG; subst hD
      have hp := bitLen_pos hN
      have hl := bitLen_le (x := N) (k := 21) (show N < 2097152 by omega)
      have hbb := bitLen_le (x := bitLen N) (k := 5) (by omega)
      have hgl := gam_len hN
      have hdl := del_len hN
      have hig := isG_gam hN bs
      have hid := isG_del hN bs
      refine LS.m rfl (Step.lit rfl rfl (by decide) Try.underlying51 elem4 rfl rfl (by omega) (by simp [Value.oneCell']) (Nat.le_refl _) ?_)
      rintro w3 hO3 hg3 hbl3 hsz3
      replace hM := hM.add hB.size hbl3 hO3
      try simp only [bv_app1, bv_app, bv_set, bv_rep, bv_one, bv_cons, bv_take, bv_drop, List.nil_append] at hM
      replace hB := hB.trans (hbl3.mono hB.size)
      generalize w2.heap.size = gg3 at *
      refine LS.vv rfl rfl (by decide) (Val.move rfl) ?_
      refine LS.m rfl (Step.append2 (B := w0.heap.size) rfl rfl (by decide) Try.underlying51 elem4 rfl rfl rfl rfl (hM.o0) (hM.o2.rd) (by first | rfl | (simp; done) | (simp; omega)) (by first | exact one_map _ (fun _ => rfl) _ | simp [Value.oneCell']) (by omega) (by omega) hB.size ?_)
      rintro p4 c4 w4 hO4 hg4 hbl4 hbk4
      replace hM := hM.s0 hg4 hO4 hbk4
      try simp only [bv_app1, bv_app, bv_set, bv_rep, bv_one, bv_cons, bv_take, bv_drop, List.nil_append] at hM
      replace hB := hB.trans hbl4
      refine LS.vv rfl rfl (by decide) (Val.move rfl) ?_
      refine LS.m rfl (Step.append3 (B := w0.heap.size) rfl rfl (by decide) Try.underlying51 elem4 rfl rfl rfl (hM.o0) ((hr.below hB)) (by first | rfl | (simp; done) | (simp; omega)) (by first | exact one_map _ (fun _ => rfl) _ | simp [Value.oneCell']) (by omega) (by omega) hB.size ?_)
      rintro p5 c5 w5 hO5 hg5 hbl5 hbk5
      replace hM := hM.s0 hg5 hO5 hbk5
      try simp only [bv_app1, bv_app, bv_set, bv_rep, bv_one, bv_cons, bv_take, bv_drop, List.nil_append] at hM
      replace hB := hB.trans hbl5
      refine LS.m rfl (Step.call body29 rfl rfl (by decide) rfl (CallsV.mono (ReadGamma_any (gam N ++ bs) _ _ _ _ hM.o0.rd (by rw [List.length_append]; omega) (by omega) hM.o0.le_cap) ?_))
      rintro _ w6 ⟨a, i, x, rfl, hx, hx0, hb6⟩
      replace hM := hM.below hb6
      replace hB := hB.trans (hb6.mono hB.size)
      have hX : x = 0 := Classical.byContradiction fun h => by have := (hx0 h).2.2 _ hig.1; rw [hig.2] at this; omega
      obtain ⟨k1, q1, q2, q3, q4⟩ := hx hX
      have q5 := IsG.one q1 hig.1
      rw [q5] at q2 q4
      rw [hig.2] at q2
      refine LS.vv rfl rfl (by decide) (Val.move rfl) ?_
      refine LS.vv rfl rfl (by decide) (Val.extract rfl rfl) ?_
      refine LS.vv rfl rfl (by decide) (Val.extract rfl rfl) ?_
      refine LS.vv rfl rfl (by decide) (Val.extract rfl rfl) ?_
      refine LS.vv rfl rfl (by decide) (Val.assign rfl) ?_
      refine LS.vv rfl rfl (by decide) (Val.assign rfl) ?_
      refine LS.vv rfl rfl (by decide) (Val.assign rfl) ?_
      refine LS.nil ?_
      refine W.seqR ?_
      refine LS.m rfl (Step.lit rfl rfl (by decide) Try.underlying51 elem4 rfl rfl (by omega) (by simp [Value.oneCell']) (Nat.le_refl _) ?_)
      rintro w7 hO7 hg7 hbl7 hsz7
      replace hM := hM.add hB.size hbl7 hO7
      try simp only [bv_app1, bv_app, bv_set, bv_rep, bv_one, bv_cons, bv_take, bv_drop, List.nil_append] at hM
      replace hB := hB.trans (hbl7.mono hB.size)
      generalize w6.heap.size = gg7 at *
      refine LS.vv rfl rfl (by decide) (Val.move rfl) ?_
      refine LS.m rfl (Step.append2 (B := w0.heap.size) rfl rfl (by decide) Try.underlying51 elem4 rfl rfl rfl rfl (hM.o0) (hM.o2.rd) (by first | rfl | (simp; done) | (simp; omega)) (by first | exact one_map _ (fun _ => rfl) _ | simp [Value.oneCell']) (by omega) (by omega) hB.size ?_)
      rintro p8 c8 w8 hO8 hg8 hbl8 hbk8
      replace hM := hM.s0 hg8 hO8 hbk8
      try simp only [bv_app1, bv_app, bv_set, bv_rep, bv_one, bv_cons, bv_take, bv_drop, List.nil_append] at hM
      replace hB := hB.trans hbl8
      refine LS.vv rfl rfl (by decide) (Val.move rfl) ?_
      refine LS.m rfl (Step.append3 (B := w0.heap.size) rfl rfl (by decide) Try.underlying51 elem4 rfl rfl rfl (hM.o0) ((hr.below hB)) (by first | rfl | (simp; done) | (simp; omega)) (by first | exact one_map _ (fun _ => rfl) _ | simp [Value.oneCell']) (by omega) (by omega) hB.size ?_)
      rintro p9 c9 w9 hO9 hg9 hbl9 hbk9
      replace hM := hM.s0 hg9 hO9 hbk9
      try simp only [bv_app1, bv_app, bv_set, bv_rep, bv_one, bv_cons, bv_take, bv_drop, List.nil_append] at hM
      replace hB := hB.trans hbl9
      refine LS.m rfl (Step.call body30 rfl rfl (by decide) rfl (CallsV.mono (ReadDelta_any (del N ++ bs) _ _ _ _ hM.o0.rd (by rw [List.length_append]; omega) (by omega) hM.o0.le_cap) ?_))
      rintro _ w10 ⟨b, j, y, rfl, hy, hy0, hb10⟩
      replace hM := hM.below hb10
      replace hB := hB.trans (hb10.mono hB.size)
      obtain ⟨d1, d2, d3, d4⟩ := hid
      have hY : y = 0 := Classical.byContradiction fun h => by have := (hy0 h).2.2 _ d1 (by omega) (by rw [d2]; omega) (by rw [d2]; omega); rw [d2, d3] at this; omega
      obtain ⟨k2, r1, r2, r3, r4, r5⟩ := hy hY
      have r6 := IsG.one r1 d1
      rw [r6] at r3 r5
      rw [d2] at r3 r5
      rw [d3] at r3
      clear hx hx0 hy hy0
      refine LS.vv rfl rfl (by decide) (Val.move rfl) ?_
      refine LS.vv rfl rfl (by decide) (Val.extract rfl rfl) ?_
      refine LS.vv rfl rfl (by decide) (Val.extract rfl rfl) ?_
      refine LS.vv rfl rfl (by decide) (Val.extract rfl rfl) ?_
      refine LS.vv rfl rfl (by decide) (Val.assign rfl) ?_
      refine LS.vv rfl rfl (by decide) (Val.assign rfl) ?_
      refine LS.vv rfl rfl (by decide) (Val.assign rfl) ?_
      refine LS.nil ?_
      refine W.seqR ?_
      refine LS.vv rfl rfl (by decide) (Val.move rfl) ?_
      refine LS.vv rfl rfl (by decide) (Val.cast (v := .bool true) (Val.eql rfl rfl) (by exact congrArg Value.bool (decide_eq_true (by omega)))) ?_
      refine LS.vv rfl rfl (by decide) (Val.move rfl) ?_
      refine LS.vg rfl rfl rfl rfl (by decide) (Val.move rfl) ?_
      refine LS.vg rfl rfl rfl rfl (by decide) (Val.cast (v := .bool true) (Val.eql rfl rfl) (by exact congrArg Value.bool (decide_eq_true (by omega)))) ?_
      refine LS.vv rfl rfl (by decide) (Val.pickT rfl rfl rfl) ?_
      refine LS.vv rfl rfl (by decide) (Val.move rfl) ?_
      refine LS.vg rfl rfl rfl rfl (by decide) (Val.move rfl) ?_
      refine LS.vg rfl rfl rfl rfl (by decide) (Val.cast (v := .bool true) (Val.eql rfl rfl) (by exact congrArg Value.bool (decide_eq_true (by omega)))) ?_
      refine LS.vv rfl rfl (by decide) (Val.pickT rfl rfl rfl) ?_
      refine LS.vv rfl rfl (by decide) (Val.move rfl) ?_
      refine LS.vg rfl rfl rfl rfl (by decide) (Val.move rfl) ?_
      refine LS.vg rfl rfl rfl rfl (by decide) (Val.cast (v := .bool true) (Val.eql rfl rfl) (by exact congrArg Value.bool (decide_eq_true (by omega)))) ?_
      refine LS.vv rfl rfl (by decide) (Val.pickT rfl rfl rfl) ?_
      refine LS.vv rfl rfl (by decide) (Val.move rfl) ?_
      refine LS.vg rfl rfl rfl rfl (by decide) (Val.move rfl) ?_
      refine LS.vg rfl rfl rfl rfl (by decide) (Val.move rfl) ?_
      refine LS.vg rfl rfl rfl rfl (by decide) (Val.cast (v := .bool true) (Val.eql rfl rfl) (by exact congrArg Value.bool (decide_eq_true (by omega)))) ?_
      refine LS.vv rfl rfl (by decide) (Val.pickT rfl rfl rfl) ?_
      refine LS.vv rfl rfl (by decide) (Val.move rfl) ?_
      refine LS.vg rfl rfl rfl rfl (by decide) (Val.move rfl) ?_
      refine LS.vg rfl rfl rfl rfl (by decide) (Val.move rfl) ?_
      refine LS.vg rfl rfl rfl rfl (by decide) (Val.cast (v := .bool true) (Val.eql rfl rfl) (by exact congrArg Value.bool (decide_eq_true (by omega)))) ?_
      refine LS.vv rfl rfl (by decide) (Val.pickT rfl rfl rfl) ?_
      refine LS.vv rfl rfl (by decide) (Val.move rfl) ?_
      refine LS.vg rfl rfl rfl rfl (by decide) (Val.move rfl) ?_
      refine LS.vg rfl rfl rfl rfl (by decide) (Val.move rfl) ?_
      refine LS.vg rfl rfl rfl rfl (by decide) (Val.len Try.underlying51 rfl) ?_
      refine LS.vg rfl rfl rfl rfl (by decide) (Val.cast (v := .bool true) (Val.eql rfl rfl) (by exact congrArg Value.bool (decide_eq_true (by omega)))) ?_
      refine LS.vv rfl rfl (by decide) (Val.pickT rfl rfl rfl) ?_
      refine LS.vv rfl rfl (by decide) (Val.move rfl) ?_
      refine LS.vg rfl rfl rfl rfl (by decide) (Val.move rfl) ?_
      refine LS.vg rfl rfl rfl rfl (by decide) (Val.move rfl) ?_
      refine LS.vg rfl rfl rfl rfl (by decide) (Val.len Try.underlying51 rfl) ?_
      refine LS.vg rfl rfl rfl rfl (by decide) (Val.cast (v := .bool true) (Val.eql rfl rfl) (by exact congrArg Value.bool (decide_eq_true (by omega)))) ?_
      refine LS.vv rfl rfl (by decide) (Val.pickT rfl rfl rfl) ?_
      refine LS.vv rfl rfl (by decide) (Val.assign rfl) ?_
      refine LS.nil ?_
      refine W.ret ?_
      refine ret1 (by first | exact .inl rfl | exact .inr rfl) rfl ?_
      first | exact ⟨rfl, hB⟩ | (exfalso; omega)

theorem eliasShort_any (n m : Int) (w0 : World) :
    CallsV Try.prog 11 #[.int .i64 n, .int .i64 m] w0 (fun v w => v = .bool true ∧ Below w0.heap.size w0 w) := by
  refine enter1 Try.func11 rfl Try.ntmps11 (by simp) rfl ?_
  have hB := Below.refl w0.heap.size w0
  simp only [argLoc, Nat.zero_add]
  have hM := Mem.nil w0 w0.heap.size
  refine W.seqR ?_
  refine LS.vv rfl rfl (by decide) (Val.assign rfl) ?_
  refine LS.nil ?_
  refine W.seqR ?_
  refine LS.vv rfl rfl (by decide) (Val.move rfl) ?_
  refine LS.m rfl (Step.call body27 rfl rfl (by decide) rfl (CallsV.mono (Gamma_any n _) ?_))
  rintro _ w1 ⟨p1, c1, L1, e1, rfl, hO1, he1, hL1, hN1, hb1⟩
  replace hM := hM.add hB.size hb1 hO1
  replace hB := hB.trans (hb1.mono hB.size)
  refine LS.vv rfl rfl (by decide) (Val.move rfl) ?_
  refine LS.vv rfl rfl (by decide) (Val.extract rfl rfl) ?_
  refine LS.vv rfl rfl (by decide) (Val.extract rfl rfl) ?_
  refine LS.vv rfl rfl (by decide) (Val.assign rfl) ?_
  refine LS.vv rfl rfl (by decide) (Val.assign rfl) ?_
  refine LS.nil ?_
  refine W.seqR ?_
  refine LS.vv rfl rfl (by decide) (Val.move rfl) ?_
  refine LS.m rfl (Step.call body27 rfl rfl (by decide) rfl (CallsV.mono (Gamma_any m _) ?_))
  rintro _ w2 ⟨p2, c2, L2, e2, rfl, hO2, he2, hL2, hN2, hb2⟩
  replace hM := hM.add hB.size hb2 hO2
  replace hB := hB.trans (hb2.mono hB.size)
  refine LS.vv rfl rfl (by decide) (Val.move rfl) ?_
  refine LS.vv rfl rfl (by decide) (Val.extract rfl rfl) ?_
  refine LS.vv rfl rfl (by decide) (Val.extract rfl rfl) ?_
  refine LS.vv rfl rfl (by decide) (Val.assign rfl) ?_
  refine LS.vv rfl rfl (by decide) (Val.assign rfl) ?_
  refine LS.nil ?_
  refine W.seqR ?_
  refine LS.vv rfl rfl (by decide) (Val.move rfl) ?_
  refine LS.m rfl (Step.call body28 rfl rfl (by decide) rfl (CallsV.mono (Delta_any n _) ?_))
  rintro _ w3 ⟨p3, c3, L3, e3, rfl, hO3, he3, hL3, hN3, hb3⟩
  replace hM := hM.add hB.size hb3 hO3
  replace hB := hB.trans (hb3.mono hB.size)
  refine LS.vv rfl rfl (by decide) (Val.move rfl) ?_
  refine LS.vv rfl rfl (by decide) (Val.extract rfl rfl) ?_
  refine LS.vv rfl rfl (by decide) (Val.extract rfl rfl) ?_
  refine LS.vv rfl rfl (by decide) (Val.assign rfl) ?_
  refine LS.vv rfl rfl (by decide) (Val.assign rfl) ?_
  refine LS.nil ?_
  refine W.seqR ?_
  refine LS.vv rfl rfl (by decide) (Val.move rfl) ?_
  refine LS.m rfl (Step.call body28 rfl rfl (by decide) rfl (CallsV.mono (Delta_any m _) ?_))
  rintro _ w4 ⟨p4, c4, L4, e4, rfl, hO4, he4, hL4, hN4, hb4⟩
  replace hM := hM.add hB.size hb4 hO4
  replace hB := hB.trans (hb4.mono hB.size)
  refine LS.vv rfl rfl (by decide) (Val.move rfl) ?_
  refine LS.vv rfl rfl (by decide) (Val.extract rfl rfl) ?_
  refine LS.vv rfl rfl (by decide) (Val.extract rfl rfl) ?_
  refine LS.vv rfl rfl (by decide) (Val.assign rfl) ?_
  refine LS.vv rfl rfl (by decide) (Val.assign rfl) ?_
  refine LS.nil ?_
  refine W.seq ?_
  refine W.seqR ?_
  refine LS.vv rfl rfl (by decide) (Val.move rfl) ?_
  refine LS.vv rfl rfl (by decide) (Val.lss rfl rfl) ?_
  refine LS.vv rfl rfl (by decide) (Val.move rfl) ?_
  refine LS.split 2 rfl (fun hg1 => ?_) (fun hg1 => ?_)
  ·
    first | (have hg1p := of_decide_eq_true hg1) | skip
    refine LS.s rfl rfl rfl hg1 (by decide) ?_
    refine LS.s rfl rfl rfl hg1 (by decide) ?_
    refine LS.vv rfl rfl (by decide) (Val.pickT rfl hg1 rfl) ?_
    refine LS.vv rfl rfl (by decide) (Val.move rfl) ?_
    refine LS.s rfl rfl rfl rfl (by decide) ?_
    refine LS.s rfl rfl rfl rfl (by decide) ?_
    refine LS.s rfl rfl rfl rfl (by decide) ?_
    refine LS.vv rfl rfl (by decide) (Val.pickT rfl rfl rfl) ?_
    refine LS.vv rfl rfl (by decide) (Val.move rfl) ?_
    refine LS.s rfl rfl rfl rfl (by decide) ?_
    refine LS.s rfl rfl rfl rfl (by decide) ?_
    refine LS.vv rfl rfl (by decide) (Val.pickT rfl rfl rfl) ?_
    refine LS.nil ?_
    refine W.condT rfl ?_
    refine W.seqR ?_
    refine LS.vv rfl rfl (by decide) (Val.move rfl) ?_
    refine LS.vv rfl rfl (by decide) (Val.eql rfl rfl) ?_
    refine LS.vv rfl rfl (by decide) (Val.move rfl) ?_
    refine LS.vv rfl rfl (by decide) (Val.geq rfl rfl) ?_
    refine LS.vv rfl rfl (by decide) (Val.move rfl) ?_
    refine LS.split 4 rfl (fun hg2 => ?_) (fun hg2 => ?_)
    ·
      first | (have hg2p := of_decide_eq_true hg2) | skip
      refine LS.vg rfl rfl rfl hg2 (by decide) (Val.move rfl) ?_
      refine LS.vg rfl rfl rfl hg2 (by decide) (Val.leq rfl rfl) ?_
      refine LS.vv rfl rfl (by decide) (Val.pickT rfl hg2 rfl) ?_
      refine LS.vv rfl rfl (by decide) (Val.cast (v := .bool true) (Val.eqlB Try.underlying4 rfl rfl) (by refine congrArg Value.bool (decide_eq_true ?_); first | (rw [decide_eq_decide]; omega) | (rw [decide_eq_false (by omega)]))) ?_
      refine LS.vv rfl rfl (by decide) (Val.assign rfl) ?_
      refine LS.nil ?_
      refine W.ret ?_
      refine thenP_ret ?_
      refine ret1 (by first | exact .inl rfl | exact .inr rfl) rfl ?_
      first | exact ⟨rfl, hB⟩ | (exfalso; omega)
    ·
      first | (have hg2p := of_decide_eq_false hg2) | skip
      refine LS.s rfl rfl rfl hg2 (by decide) ?_
      refine LS.s rfl rfl rfl hg2 (by decide) ?_
      refine LS.vv rfl rfl (by decide) (Val.pickF rfl hg2 rfl) ?_
      refine LS.vv rfl rfl (by decide) (Val.cast (v := .bool true) (Val.eqlB Try.underlying4 rfl rfl) (by refine congrArg Value.bool (decide_eq_true ?_); first | (rw [decide_eq_decide]; omega) | (rw [decide_eq_false (by omega)]))) ?_
      refine LS.vv rfl rfl (by decide) (Val.assign rfl) ?_
      refine LS.nil ?_
      refine W.ret ?_
      refine thenP_ret ?_
      refine ret1 (by first | exact .inl rfl | exact .inr rfl) rfl ?_
      first | exact ⟨rfl, hB⟩ | (exfalso; omega)
  ·
    first | (have hg1p := of_decide_eq_false hg1) | skip
    refine LS.vg rfl rfl rfl hg1 (by decide) (Val.move rfl) ?_
    refine LS.vg rfl rfl rfl hg1 (by decide) (Val.gtr rfl rfl) ?_
    refine LS.vv rfl rfl (by decide) (Val.pickF rfl hg1 rfl) ?_
    refine LS.vv rfl rfl (by decide) (Val.move rfl) ?_
    refine LS.split 6 rfl (fun hg3 => ?_) (fun hg3 => ?_)
    ·
      first | (have hg3p := of_decide_eq_true hg3) | skip
      refine LS.s rfl rfl rfl hg3 (by decide) ?_
      refine LS.s rfl rfl rfl hg3 (by decide) ?_
      refine LS.s rfl rfl rfl hg3 (by decide) ?_
      refine LS.vv rfl rfl (by decide) (Val.pickT rfl hg3 rfl) ?_
      refine LS.vv rfl rfl (by decide) (Val.move rfl) ?_
      refine LS.s rfl rfl rfl rfl (by decide) ?_
      refine LS.s rfl rfl rfl rfl (by decide) ?_
      refine LS.vv rfl rfl (by decide) (Val.pickT rfl rfl rfl) ?_
      refine LS.nil ?_
      refine W.condT rfl ?_
      refine W.seqR ?_
      refine LS.vv rfl rfl (by decide) (Val.move rfl) ?_
      refine LS.vv rfl rfl (by decide) (Val.eql rfl rfl) ?_
      refine LS.vv rfl rfl (by decide) (Val.move rfl) ?_
      refine LS.vv rfl rfl (by decide) (Val.geq rfl rfl) ?_
      refine LS.vv rfl rfl (by decide) (Val.move rfl) ?_
      refine LS.split 4 rfl (fun hg4 => ?_) (fun hg4 => ?_)
      ·
        first | (have hg4p := of_decide_eq_true hg4) | skip
        refine LS.vg rfl rfl rfl hg4 (by decide) (Val.move rfl) ?_
        refine LS.vg rfl rfl rfl hg4 (by decide) (Val.leq rfl rfl) ?_
        refine LS.vv rfl rfl (by decide) (Val.pickT rfl hg4 rfl) ?_
        refine LS.vv rfl rfl (by decide) (Val.cast (v := .bool true) (Val.eqlB Try.underlying4 rfl rfl) (by refine congrArg Value.bool (decide_eq_true ?_); first | (rw [decide_eq_decide]; omega) | (rw [decide_eq_false (by omega)]))) ?_
        refine LS.vv rfl rfl (by decide) (Val.assign rfl) ?_
        refine LS.nil ?_
        refine W.ret ?_
        refine thenP_ret ?_
        refine ret1 (by first | exact .inl rfl | exact .inr rfl) rfl ?_
        first | exact ⟨rfl, hB⟩ | (exfalso; omega)
      ·
        first | (have hg4p := of_decide_eq_false hg4) | skip
        refine LS.s rfl rfl rfl hg4 (by decide) ?_
        refine LS.s rfl rfl rfl hg4 (by decide) ?_
        refine LS.vv rfl rfl (by decide) (Val.pickF rfl hg4 rfl) ?_
        refine LS.vv rfl rfl (by decide) (Val.cast (v := .bool true) (Val.eqlB Try.underlying4 rfl rfl) (by refine congrArg Value.bool (decide_eq_true ?_); first | (rw [decide_eq_decide]; omega) | (rw [decide_eq_false (by omega)]))) ?_
        refine LS.vv rfl rfl (by decide) (Val.assign rfl) ?_
        refine LS.nil ?_
        refine W.ret ?_
        refine thenP_ret ?_
        refine ret1 (by first | exact .inl rfl | exact .inr rfl) rfl ?_
        first | exact ⟨rfl, hB⟩ | (exfalso; omega)
    ·
      first | (have hg3p := of_decide_eq_false hg3) | skip
      refine LS.vg rfl rfl rfl hg3 (by decide) (Val.move rfl) ?_
      refine LS.vg rfl rfl rfl hg3 (by decide) (Val.move rfl) ?_
      refine LS.vg rfl rfl rfl hg3 (by decide) (Val.lss rfl rfl) ?_
      refine LS.vv rfl rfl (by decide) (Val.pickF rfl hg3 rfl) ?_
      refine LS.vv rfl rfl (by decide) (Val.move rfl) ?_
      refine LS.split 11 rfl (fun hg5 => ?_) (fun hg5 => ?_)
      ·
        first | (have hg5p := of_decide_eq_true hg5) | skip
        refine LS.s rfl rfl rfl hg5 (by decide) ?_
        refine LS.s rfl rfl rfl hg5 (by decide) ?_
        refine LS.vv rfl rfl (by decide) (Val.pickT rfl hg5 rfl) ?_
        refine LS.nil ?_
        refine W.condT rfl ?_
        refine W.seqR ?_
        refine LS.vv rfl rfl (by decide) (Val.move rfl) ?_
        refine LS.vv rfl rfl (by decide) (Val.eql rfl rfl) ?_
        refine LS.vv rfl rfl (by decide) (Val.move rfl) ?_
        refine LS.vv rfl rfl (by decide) (Val.geq rfl rfl) ?_
        refine LS.vv rfl rfl (by decide) (Val.move rfl) ?_
        refine LS.split 4 rfl (fun hg6 => ?_) (fun hg6 => ?_)
        ·
          first | (have hg6p := of_decide_eq_true hg6) | skip
          refine LS.vg rfl rfl rfl hg6 (by decide) (Val.move rfl) ?_
          refine LS.vg rfl rfl rfl hg6 (by decide) (Val.leq rfl rfl) ?_
          refine LS.vv rfl rfl (by decide) (Val.pickT rfl hg6 rfl) ?_
          refine LS.vv rfl rfl (by decide) (Val.cast (v := .bool true) (Val.eqlB Try.underlying4 rfl rfl) (by refine congrArg Value.bool (decide_eq_true ?_); first | (rw [decide_eq_decide]; omega) | (rw [decide_eq_false (by omega)]))) ?_
          refine LS.vv rfl rfl (by decide) (Val.assign rfl) ?_
          refine LS.nil ?_
          refine W.ret ?_
          refine thenP_ret ?_
          refine ret1 (by first | exact .inl rfl | exact .inr rfl) rfl ?_
          first | exact ⟨rfl, hB⟩ | (exfalso; omega)
        ·
          first | (have hg6p := of_decide_eq_false hg6) | skip
          refine LS.s rfl rfl rfl hg6 (by decide) ?_
          refine LS.s rfl rfl rfl hg6 (by decide) ?_
          refine LS.vv rfl rfl (by decide) (Val.pickF rfl hg6 rfl) ?_
          refine LS.vv rfl rfl (by decide) (Val.cast (v := .bool true) (Val.eqlB Try.underlying4 rfl rfl) (by refine congrArg Value.bool (decide_eq_true ?_); first | (rw [decide_eq_decide]; omega) | (rw [decide_eq_false (by omega)]))) ?_
          refine LS.vv rfl rfl (by decide) (Val.assign rfl) ?_
          refine LS.nil ?_
          refine W.ret ?_
          refine thenP_ret ?_
          refine ret1 (by first | exact .inl rfl | exact .inr rfl) rfl ?_
          first | exact ⟨rfl, hB⟩ | (exfalso; omega)
      ·
        first | (have hg5p := of_decide_eq_false hg5) | skip
        refine LS.vg rfl rfl rfl hg5 (by decide) (Val.move rfl) ?_
        refine LS.vg rfl rfl rfl hg5 (by decide) (Val.gtr rfl rfl) ?_
        refine LS.vv rfl rfl (by decide) (Val.pickF rfl hg5 rfl) ?_
        refine LS.nil ?_
        first | refine W.condD rfl (fun hc7 => ?_) (fun hc7 => ?_) | refine W.cond rfl (fun hc7 => ?_) (fun hc7 => ?_)
        ·
          refine W.seqR ?_
          refine LS.vv rfl rfl (by decide) (Val.move rfl) ?_
          refine LS.vv rfl rfl (by decide) (Val.eql rfl rfl) ?_
          refine LS.vv rfl rfl (by decide) (Val.move rfl) ?_
          refine LS.vv rfl rfl (by decide) (Val.geq rfl rfl) ?_
          refine LS.vv rfl rfl (by decide) (Val.move rfl) ?_
          refine LS.split 4 rfl (fun hg8 => ?_) (fun hg8 => ?_)
          ·
            first | (have hg8p := of_decide_eq_true hg8) | skip
            refine LS.vg rfl rfl rfl hg8 (by decide) (Val.move rfl) ?_
            refine LS.vg rfl rfl rfl hg8 (by decide) (Val.leq rfl rfl) ?_
            refine LS.vv rfl rfl (by decide) (Val.pickT rfl hg8 rfl) ?_
            refine LS.vv rfl rfl (by decide) (Val.cast (v := .bool true) (Val.eqlB Try.underlying4 rfl rfl) (by refine congrArg Value.bool (decide_eq_true ?_); first | (rw [decide_eq_decide]; omega) | (rw [decide_eq_false (by omega)]))) ?_
            refine LS.vv rfl rfl (by decide) (Val.assign rfl) ?_
            refine LS.nil ?_
            refine W.ret ?_
            refine thenP_ret ?_
            refine ret1 (by first | exact .inl rfl | exact .inr rfl) rfl ?_
            first | exact ⟨rfl, hB⟩ | (exfalso; omega)
          ·
            first | (have hg8p := of_decide_eq_false hg8) | skip
            refine LS.s rfl rfl rfl hg8 (by decide) ?_
            refine LS.s rfl rfl rfl hg8 (by decide) ?_
            refine LS.vv rfl rfl (by decide) (Val.pickF rfl hg8 rfl) ?_
            refine LS.vv rfl rfl (by decide) (Val.cast (v := .bool true) (Val.eqlB Try.underlying4 rfl rfl) (by refine congrArg Value.bool (decide_eq_true ?_); first | (rw [decide_eq_decide]; omega) | (rw [decide_eq_false (by omega)]))) ?_
            refine LS.vv rfl rfl (by decide) (Val.assign rfl) ?_
            refine LS.nil ?_
            refine W.ret ?_
            refine thenP_ret ?_
            refine ret1 (by first | exact .inl rfl | exact .inr rfl) rfl ?_
            first | exact ⟨rfl, hB⟩ | (exfalso; omega)
        ·
          refine W.skip ?_
          refine thenP_normal ?_
          refine W.seqR ?_
          refine LS.vv rfl rfl (by decide) (Val.cast (v := .int .i64 ((0 : Nat) : Int)) (Val.assign rfl) rfl) ?_
          refine LS.nil ?_
          refine W.seq ?_
          refine W.seqR ?_
          refine LS.vv rfl rfl (by decide) (Val.move rfl) ?_
          refine LS.vv rfl rfl (by decide) (Val.assign rfl) ?_
          refine LS.nil ?_
          refine W.block ?_
          obtain ⟨N, rfl⟩ := Int.eq_ofNat_of_zero_le (show 0 ≤ n by omega)
          obtain ⟨M, rfl⟩ := Int.eq_ofNat_of_zero_le (show 0 ≤ m by omega)
          have hN : 1 ≤ N := by omega
          have hM1 : 1 ≤ M := by omega
          have hE1 : e1 = 0 := he1.2 (by omega)
          have hE2 : e2 = 0 := he2.2 (by omega)
          have hE3 : e3 = 0 := he3.2 (by omega)
          have hE4 : e4 = 0 := he4.2 (by omega)
          have hA : L1 = gam N := by simpa using hL1 hE1
          have hBB : L2 = gam M := by simpa using hL2 hE2
          have hC : L3 = del N := by simpa using hL3 hE3
          have hD : L4 = del M := by simpa using hL4 hE4
          subst hA; subst hBB; subst hC; subst hD
          have g1 := gam_len hN
          have g2 := gam_len hM1
          have g3 := del_len hN
          have g4 := del_len hM1
          have hm1 := bitLen_mono hN (show N ≤ M by omega)
          have hp := bitLen_pos hN
          have hm2 := bitLen_mono hp hm1
          have hp2 := bitLen_pos hp
          have hdg : 32 ≤ N → _ := fun h => del_le_gam h (show N ≤ 1048576 by omega)
          have hl := bitLen_le (x := N) (k := 21) (show N < 2097152 by omega)
          refine W.loop (α := Nat) (fun x => [(13, .int .i64 ((bitLen N - bitLen x : Nat) : Int)), (14, .int .i64 (x : Int))]) [(0, _), (5, _), (6, _), (7, _), (8, _), (9, _), (10, _), (11, _), (12, _)] (fun x w => (x ≤ N ∧ bitLen x ≤ bitLen N) ∧ Mem w w0.heap.size [⟨4, p4, (del M).length, c4, bv (del M)⟩, ⟨4, p3, (del N).length, c3, bv (del N)⟩, ⟨4, p2, (gam M).length, c2, bv (gam M)⟩, ⟨4, p1, (gam N).length, c1, bv (gam N)⟩] ∧ Below w0.heap.size w0 w) (fun x => x) (N) (Sub.cons' rfl (by rw [Nat.sub_self]) (Sub.cons rfl (Sub.nil _))) (Sub.cons rfl (Sub.cons rfl (Sub.cons rfl (Sub.cons rfl (Sub.cons rfl (Sub.cons rfl (Sub.cons rfl (Sub.cons rfl (Sub.cons rfl (Sub.nil _)))))))))) ?_ ?_
          · exact ⟨⟨Nat.le_refl _, Nat.le_refl _⟩, hM, hB⟩
          rintro x w5 ⟨⟨hxn, hbl⟩, hM, hB⟩
          try simp only at hM
          simp only [List.cons_append, List.nil_append]
          refine W.seq ?_
          refine W.seqR ?_
          refine LS.vv rfl rfl (by decide) (Val.move rfl) ?_
          refine LS.vv rfl rfl (by decide) (Val.gtr rfl rfl) ?_
          refine LS.nil ?_
          first | refine W.condD rfl (fun hc9 => ?_) (fun hc9 => ?_) | refine W.cond rfl (fun hc9 => ?_) (fun hc9 => ?_)
          ·
            refine W.skip ?_
            refine thenP_normal ?_
            refine W.seq ?_
            refine W.block ?_
            refine W.reg ?_
            refine LS.vv rfl rfl (by decide) (Val.move rfl) ?_
            have hx1 : 1 ≤ x := by omega
            have hbx := bitLen_half hx1
            have hbp := bitLen_pos hx1
            first | refine LS.vv rfl rfl (by decide) (Val.addN (j := 1) rfl rfl (by omega)) ?_ | refine LS.vv rfl rfl (by decide) (Val.add64 rfl rfl (by omega)) ?_
            refine LS.vv rfl rfl (by decide) (Val.assign rfl) ?_
            refine LS.nil ?_
            refine inBlk_normal ?_
            refine thenP_normal ?_
            refine W.reg ?_
            refine LS.vv rfl rfl (by decide) (Val.move rfl) ?_
            first | refine LS.vv rfl rfl (by decide) (Val.quoN (j := 2) rfl rfl (by omega) (by omega)) ?_ | refine LS.vv rfl rfl (by decide) (Val.quo64 rfl rfl (by omega) (by omega)) ?_
            refine LS.vv rfl rfl (by decide) (Val.assign rfl) ?_
            refine LS.nil ?_
            refine thenP_normal ?_
            refine ⟨x / 2, ?_, ?_, ⟨⟨by omega, by omega⟩, hM, hB⟩, by omega⟩
            · exact Sub.cons' rfl (by congr 1 <;> omega) (Sub.cons rfl (Sub.nil _))
            · repeat (first | exact Sub.nil _ | refine Sub.cons rfl ?_)
          ·
            have hx0 : x = 0 := by omega
            subst hx0
            have hb0 : bitLen 0 = 0 := rfl
            rw [hb0, Nat.sub_zero]
            refine W.exit ?_
            refine thenP_exit ?_
            refine thenP_exit ?_
            refine inBlk_exit ?_
            refine thenP_normal ?_
            refine W.seqR ?_
            refine LS.vv rfl rfl (by decide) (Val.move rfl) ?_
            refine LS.vv rfl rfl (by decide) (Val.cast (v := .bool true) (Val.eql rfl rfl) (by exact congrArg Value.bool (decide_eq_true (by omega)))) ?_
            refine LS.vv rfl rfl (by decide) (Val.move rfl) ?_
            refine LS.vg rfl rfl rfl rfl (by decide) (Val.move rfl) ?_
            refine LS.vg rfl rfl rfl rfl (by decide) (Val.cast (v := .bool true) (Val.eql rfl rfl) (by exact congrArg Value.bool (decide_eq_true (by omega)))) ?_
            refine LS.vv rfl rfl (by decide) (Val.pickT rfl rfl rfl) ?_
            refine LS.vv rfl rfl (by decide) (Val.move rfl) ?_
            refine LS.vg rfl rfl rfl rfl (by decide) (Val.move rfl) ?_
            refine LS.vg rfl rfl rfl rfl (by decide) (Val.cast (v := .bool true) (Val.eql rfl rfl) (by exact congrArg Value.bool (decide_eq_true (by omega)))) ?_
            refine LS.vv rfl rfl (by decide) (Val.pickT rfl rfl rfl) ?_
            refine LS.vv rfl rfl (by decide) (Val.move rfl) ?_
            refine LS.vg rfl rfl rfl rfl (by decide) (Val.move rfl) ?_
            refine LS.vg rfl rfl rfl rfl (by decide) (Val.cast (v := .bool true) (Val.eql rfl rfl) (by exact congrArg Value.bool (decide_eq_true (by omega)))) ?_
            refine LS.vv rfl rfl (by decide) (Val.pickT rfl rfl rfl) ?_
            refine LS.vv rfl rfl (by decide) (Val.move rfl) ?_
            refine LS.vg rfl rfl rfl rfl (by decide) (Val.move rfl) ?_
            refine LS.vg rfl rfl rfl rfl (by decide) (Val.len Try.underlying51 rfl) ?_
            refine LS.vg rfl rfl rfl rfl (by decide) (Val.move rfl) ?_
            refine LS.vg rfl rfl rfl rfl (by decide) (Val.len Try.underlying51 rfl) ?_
            refine LS.vg rfl rfl rfl rfl (by decide) (Val.cast (v := .bool true) (Val.leq rfl rfl) (by exact congrArg Value.bool (decide_eq_true (by omega)))) ?_
            refine LS.vv rfl rfl (by decide) (Val.pickT rfl rfl rfl) ?_
            refine LS.vv rfl rfl (by decide) (Val.move rfl) ?_
            refine LS.vg rfl rfl rfl rfl (by decide) (Val.move rfl) ?_
            refine LS.vg rfl rfl rfl rfl (by decide) (Val.len Try.underlying51 rfl) ?_
            refine LS.vg rfl rfl rfl rfl (by decide) (Val.move rfl) ?_
            refine LS.vg rfl rfl rfl rfl (by decide) (Val.len Try.underlying51 rfl) ?_
            refine LS.vg rfl rfl rfl rfl (by decide) (Val.cast (v := .bool true) (Val.leq rfl rfl) (by exact congrArg Value.bool (decide_eq_true (by omega)))) ?_
            refine LS.vv rfl rfl (by decide) (Val.pickT rfl rfl rfl) ?_
            refine LS.vv rfl rfl (by decide) (Val.move rfl) ?_
            refine LS.vg rfl rfl rfl rfl (by decide) (Val.move rfl) ?_
            refine LS.vg rfl rfl rfl rfl (by decide) (Val.len Try.underlying51 rfl) ?_
            refine LS.vg rfl rfl rfl rfl (by decide) (Val.move rfl) ?_
            first | refine LS.vg rfl rfl rfl rfl (by decide) (Val.mulN (i := 2) rfl rfl (by omega)) ?_ | refine LS.vg rfl rfl rfl rfl (by decide) (Val.mul64 rfl rfl (by omega)) ?_
            first | refine LS.vg rfl rfl rfl rfl (by decide) (Val.subN (j := 1) rfl rfl (by omega) (by omega)) ?_ | refine LS.vg rfl rfl rfl rfl (by decide) (Val.sub64 rfl rfl (by omega)) ?_
            refine LS.vg rfl rfl rfl rfl (by decide) (Val.cast (v := .bool true) (Val.eql rfl rfl) (by exact congrArg Value.bool (decide_eq_true (by omega)))) ?_
            refine LS.vv rfl rfl (by decide) (Val.pickT rfl rfl rfl) ?_
            refine LS.vv rfl rfl (by decide) (Val.move rfl) ?_
            refine LS.vg rfl rfl rfl rfl (by decide) (Val.move rfl) ?_
            refine LS.vg rfl rfl rfl rfl (by decide) (Val.lss rfl rfl) ?_
            refine LS.vg rfl rfl rfl rfl (by decide) (Val.move rfl) ?_
            refine LS.split 39 rfl (fun hg10 => ?_) (fun hg10 => ?_)
            ·
              first | (have hg10p := of_decide_eq_true hg10) | skip
              refine LS.s rfl rfl rfl hg10 (by decide) ?_
              refine LS.s rfl rfl rfl hg10 (by decide) ?_
              refine LS.s rfl rfl rfl hg10 (by decide) ?_
              refine LS.s rfl rfl rfl hg10 (by decide) ?_
              refine LS.s rfl rfl rfl hg10 (by decide) ?_
              refine LS.vg rfl rfl rfl rfl (by decide) (Val.pickT rfl hg10 rfl) ?_
              refine LS.vv rfl rfl (by decide) (Val.pickT rfl rfl rfl) ?_
              refine LS.vv rfl rfl (by decide) (Val.assign rfl) ?_
              refine LS.nil ?_
              refine W.ret ?_
              refine ret1 (by first | exact .inl rfl | exact .inr rfl) rfl ?_
              first | exact ⟨rfl, hB⟩ | (exfalso; omega)
            ·
              first | (have hg10p := of_decide_eq_false hg10) | skip
              refine LS.vg rfl rfl rfl hg10 (by decide) (Val.move rfl) ?_
              refine LS.vg rfl rfl rfl hg10 (by decide) (Val.len Try.underlying51 rfl) ?_
              refine LS.vg rfl rfl rfl hg10 (by decide) (Val.move rfl) ?_
              refine LS.vg rfl rfl rfl hg10 (by decide) (Val.len Try.underlying51 rfl) ?_
              refine LS.vg rfl rfl rfl hg10 (by decide) (Val.cast (v := .bool true) (Val.leq rfl rfl) (by exact congrArg Value.bool (decide_eq_true (by omega)))) ?_
              refine LS.vg rfl rfl rfl rfl (by decide) (Val.pickF rfl hg10 rfl) ?_
              refine LS.vv rfl rfl (by decide) (Val.pickT rfl rfl rfl) ?_
              refine LS.vv rfl rfl (by decide) (Val.assign rfl) ?_
              refine LS.nil ?_
              refine W.ret ?_
              refine ret1 (by first | exact .inl rfl | exact .inr rfl) rfl ?_
              first | exact ⟨rfl, hB⟩ | (exfalso; omega)

theorem boolsEq_len (xs ys : List Bool) (p q : Option Addr) (c d m n : Nat) (w0 : World) (hr1 : Rd w0 p (bv xs)) (hr2 : Rd w0 q (bv ys)) (hm : xs.length = m) (hn : ys.length = n) (hl1 : m ≤ 9223372036854775807) :
    CallsV Try.prog 31 #[.slice p m c, .slice q n d] w0 (fun v w => v = .bool (decide (xs = ys)) ∧ Below w0.heap.size w0 w) := by
  subst hm; subst hn; exact boolsEq_any xs ys p q c d w0 hr1 hr2 hl1

theorem eliasOnly_any (bs : List Bool) (p : Option Addr) (c : Nat) (w0 : World) (hr : Rd w0 p (bv bs)) (hc : bs.length ≤ c) (hsm : bs.length ≤ 9223372036854775807) :
    CallsV Try.prog 13 #[.slice p bs.length c] w0 (fun v w => v = .bool true ∧ Below w0.heap.size w0 w) := by
  refine enter1 Try.func13 rfl Try.ntmps13 (by simp) rfl ?_
  have hB := Below.refl w0.heap.size w0
  simp only [argLoc]
  have hM := Mem.nil w0 w0.heap.size
  refine W.seqR ?_
  refine LS.vv rfl rfl (by decide) (Val.assign rfl) ?_
  refine LS.nil ?_
  refine W.seqR ?_
  refine LS.vv rfl rfl (by decide) (Val.move rfl) ?_
  refine LS.m rfl (Step.call body29 rfl rfl (by decide) rfl (CallsV.mono (ReadGamma_any bs _ _ _ _ (hr.below hB) rfl hsm hc) ?_))
  rintro _ w1 ⟨n, i, e, rfl, hx, hx0, hb1⟩
  replace hM := hM.below hb1
  replace hB := hB.trans (hb1.mono hB.size)
  refine LS.vv rfl rfl (by decide) (Val.move rfl) ?_
  refine LS.vv rfl rfl (by decide) (Val.extract rfl rfl) ?_
  refine LS.vv rfl rfl (by decide) (Val.extract rfl rfl) ?_
  refine LS.vv rfl rfl (by decide) (Val.extract rfl rfl) ?_
  refine LS.vv rfl rfl (by decide) (Val.assign rfl) ?_
  refine LS.vv rfl rfl (by decide) (Val.assign rfl) ?_
  refine LS.vv rfl rfl (by decide) (Val.assign rfl) ?_
  refine LS.nil ?_
  refine W.seqR ?_
  refine LS.vv rfl rfl (by decide) (Val.move rfl) ?_
  refine LS.m rfl (Step.call body30 rfl rfl (by decide) rfl (CallsV.mono (ReadDelta_any bs _ _ _ _ (hr.below hB) rfl hsm hc) ?_))
  rintro _ w2 ⟨m, j, f, rfl, hy, hy0, hb2⟩
  replace hM := hM.below hb2
  replace hB := hB.trans (hb2.mono hB.size)
  refine LS.vv rfl rfl (by decide) (Val.move rfl) ?_
  refine LS.vv rfl rfl (by decide) (Val.extract rfl rfl) ?_
  refine LS.vv rfl rfl (by decide) (Val.extract rfl rfl) ?_
  refine LS.vv rfl rfl (by decide) (Val.extract rfl rfl) ?_
  refine LS.vv rfl rfl (by decide) (Val.assign rfl) ?_
  refine LS.vv rfl rfl (by decide) (Val.assign rfl) ?_
  refine LS.vv rfl rfl (by decide) (Val.assign rfl) ?_
  refine LS.nil ?_
  refine W.seq ?_
  refine W.seqR ?_
  refine LS.vv rfl rfl (by decide) (Val.move rfl) ?_
  refine LS.vv rfl rfl (by decide) (Val.eql rfl rfl) ?_
  refine LS.nil ?_
  first | refine W.condD rfl (fun hc1 => ?_) (fun hc1 => ?_) | refine W.cond rfl (fun hc1 => ?_) (fun hc1 => ?_)
  ·
    refine W.seqR ?_
    refine LS.vv rfl rfl (by decide) (Val.move rfl) ?_
    have hE : e = 0 := by omega
    obtain ⟨k1, q1, q2, q3, q4⟩ := hx hE
    obtain ⟨q5, q6, q7⟩ := gam_back q1
    have q8 := q1.2.2
    clear hx
    refine LS.m rfl (Step.call body27 rfl rfl (by decide) rfl (CallsV.mono (Gamma_any (n : Int) _) ?_))
    rintro _ w3 ⟨p1, c1, L1, e1, rfl, hO1, he1, hL1, hN1, hb3⟩
    replace hM := hM.add hB.size hb3 hO1
    replace hB := hB.trans (hb3.mono hB.size)
    have hE1 : e1 = 0 := he1.2 (by omega)
    have hgx : L1 = gam n := by simpa using hL1 hE1
    have hgt : L1 = bs.take i := by rw [hgx, q2, q5, q4]
    refine LS.vv rfl rfl (by decide) (Val.move rfl) ?_
    refine LS.vv rfl rfl (by decide) (Val.extract rfl rfl) ?_
    refine LS.vv rfl rfl (by decide) (Val.extract rfl rfl) ?_
    refine LS.vv rfl rfl (by decide) (Val.assign rfl) ?_
    refine LS.vv rfl rfl (by decide) (Val.assign rfl) ?_
    refine LS.nil ?_
    refine W.seqR ?_
    refine LS.vv rfl rfl (by decide) (Val.move rfl) ?_
    refine LS.vv rfl rfl (by decide) (Val.cast (v := .bool false) (Val.neq rfl rfl) (by exact congrArg Value.bool (decide_eq_false (by omega)))) ?_
    refine LS.vv rfl rfl (by decide) (Val.move rfl) ?_
    refine LS.vg rfl rfl rfl rfl (by decide) (Val.move rfl) ?_
    refine LS.vg rfl rfl rfl rfl (by decide) (Val.cast (v := .bool false) (Val.lss rfl rfl) (by exact congrArg Value.bool (decide_eq_false (by omega)))) ?_
    refine LS.vv rfl rfl (by decide) (Val.pickF rfl rfl rfl) ?_
    refine LS.vv rfl rfl (by decide) (Val.move rfl) ?_
    refine LS.vg rfl rfl rfl rfl (by decide) (Val.move rfl) ?_
    refine LS.vg rfl rfl rfl rfl (by decide) (Val.move rfl) ?_
    refine LS.vg rfl rfl rfl rfl (by decide) (Val.len Try.underlying51 rfl) ?_
    refine LS.vg rfl rfl rfl rfl (by decide) (Val.cast (v := .bool false) (Val.gtr rfl rfl) (by exact congrArg Value.bool (decide_eq_false (by omega)))) ?_
    refine LS.vv rfl rfl (by decide) (Val.pickF rfl rfl rfl) ?_
    refine LS.vv rfl rfl (by decide) (Val.move rfl) ?_
    refine LS.vg rfl rfl rfl rfl (by decide) (Val.move rfl) ?_
    refine LS.vg rfl rfl rfl rfl (by decide) (Val.move rfl) ?_
    refine LS.vg rfl rfl rfl rfl (by decide) (Val.move rfl) ?_
    refine LS.vg rfl rfl rfl rfl (by decide) (Val.sliceTo Try.underlying51 elem4 rfl rfl (by omega)) ?_
    refine LS.mg rfl rfl rfl (Step.call body31 rfl rfl (by decide) rfl (CallsV.mono (boolsEq_len L1 (bs.take i) _ _ _ _ _ _ _ hM.o0.rd (hr.below hB).take_bv rfl (by rw [List.length_take]; omega) (by rw [hgt, List.length_take]; omega)) ?_))
    rintro _ w4 ⟨rfl, hb4⟩
    replace hM := hM.below hb4
    replace hB := hB.trans (hb4.mono hB.size)
    rw [show decide (L1 = bs.take i) = true from decide_eq_true hgt]
    refine LS.vg rfl rfl rfl rfl (by decide) (Val.cast (v := .bool false) (Val.not rfl) (by rfl)) ?_
    refine LS.vv rfl rfl (by decide) (Val.pickF rfl rfl rfl) ?_
    refine LS.nil ?_
    refine W.condF rfl ?_
    refine W.skip ?_
    refine thenP_normal ?_
    refine W.seq ?_
    refine W.seqR ?_
    refine LS.vv rfl rfl (by decide) (Val.move rfl) ?_
    refine LS.vv rfl rfl (by decide) (Val.eql rfl rfl) ?_
    refine LS.nil ?_
    first | refine W.condD rfl (fun hc2 => ?_) (fun hc2 => ?_) | refine W.cond rfl (fun hc2 => ?_) (fun hc2 => ?_)
    ·
      refine W.seqR ?_
      refine LS.vv rfl rfl (by decide) (Val.move rfl) ?_
      have hF : f = 0 := by omega
      obtain ⟨k2, r1, r2, r3, r4, r5⟩ := hy hF
      obtain ⟨r6, r7⟩ := del_back r1 r2
      obtain ⟨_, _, r8⟩ := gam_back r1
      rw [← r3] at r6 r7
      have r9 : 1 ≤ m := Classical.byContradiction fun h => by rw [show m = 0 by omega] at r7; have hb0 : bitLen 0 = 0 := rfl; omega
      clear hy
      refine LS.m rfl (Step.call body28 rfl rfl (by decide) rfl (CallsV.mono (Delta_any (m : Int) _) ?_))
      rintro _ w5 ⟨p2, c2, L2, e2, rfl, hO2, he2, hL2, hN2, hb5⟩
      replace hM := hM.add hB.size hb5 hO2
      replace hB := hB.trans (hb5.mono hB.size)
      have hE2 : e2 = 0 := he2.2 (by omega)
      have hdx : L2 = del m := by simpa using hL2 hE2
      have hdt : L2 = bs.take j := by rw [hdx, r6, r5]
      refine LS.vv rfl rfl (by decide) (Val.move rfl) ?_
      refine LS.vv rfl rfl (by decide) (Val.extract rfl rfl) ?_
      refine LS.vv rfl rfl (by decide) (Val.extract rfl rfl) ?_
      refine LS.vv rfl rfl (by decide) (Val.assign rfl) ?_
      refine LS.vv rfl rfl (by decide) (Val.assign rfl) ?_
      refine LS.nil ?_
      refine W.seqR ?_
      refine LS.vv rfl rfl (by decide) (Val.move rfl) ?_
      refine LS.vv rfl rfl (by decide) (Val.cast (v := .bool false) (Val.neq rfl rfl) (by exact congrArg Value.bool (decide_eq_false (by omega)))) ?_
      refine LS.vv rfl rfl (by decide) (Val.move rfl) ?_
      refine LS.vg rfl rfl rfl rfl (by decide) (Val.move rfl) ?_
      refine LS.vg rfl rfl rfl rfl (by decide) (Val.cast (v := .bool false) (Val.lss rfl rfl) (by exact congrArg Value.bool (decide_eq_false (by omega)))) ?_
      refine LS.vv rfl rfl (by decide) (Val.pickF rfl rfl rfl) ?_
      refine LS.vv rfl rfl (by decide) (Val.move rfl) ?_
      refine LS.vg rfl rfl rfl rfl (by decide) (Val.move rfl) ?_
      refine LS.vg rfl rfl rfl rfl (by decide) (Val.move rfl) ?_
      refine LS.vg rfl rfl rfl rfl (by decide) (Val.len Try.underlying51 rfl) ?_
      refine LS.vg rfl rfl rfl rfl (by decide) (Val.cast (v := .bool false) (Val.gtr rfl rfl) (by exact congrArg Value.bool (decide_eq_false (by omega)))) ?_
      refine LS.vv rfl rfl (by decide) (Val.pickF rfl rfl rfl) ?_
      refine LS.vv rfl rfl (by decide) (Val.move rfl) ?_
      refine LS.vg rfl rfl rfl rfl (by decide) (Val.move rfl) ?_
      refine LS.vg rfl rfl rfl rfl (by decide) (Val.move rfl) ?_
      refine LS.vg rfl rfl rfl rfl (by decide) (Val.move rfl) ?_
      refine LS.vg rfl rfl rfl rfl (by decide) (Val.sliceTo Try.underlying51 elem4 rfl rfl (by omega)) ?_
      refine LS.mg rfl rfl rfl (Step.call body31 rfl rfl (by decide) rfl (CallsV.mono (boolsEq_len L2 (bs.take j) _ _ _ _ _ _ _ hM.o0.rd (hr.below hB).take_bv rfl (by rw [List.length_take]; omega) (by rw [hdt, List.length_take]; omega)) ?_))
      rintro _ w6 ⟨rfl, hb6⟩
      replace hM := hM.below hb6
      replace hB := hB.trans (hb6.mono hB.size)
      rw [show decide (L2 = bs.take j) = true from decide_eq_true hdt]
      refine LS.vg rfl rfl rfl rfl (by decide) (Val.cast (v := .bool false) (Val.not rfl) (by rfl)) ?_
      refine LS.vv rfl rfl (by decide) (Val.pickF rfl rfl rfl) ?_
      refine LS.nil ?_
      refine W.condF rfl ?_
      refine W.skip ?_
      refine thenP_normal ?_
      refine W.seqR ?_
      refine LS.vv rfl rfl (by decide) (Val.move rfl) ?_
      refine LS.vv rfl rfl (by decide) (Val.eql rfl rfl) ?_
      refine LS.vv rfl rfl (by decide) (Val.move rfl) ?_
      refine LS.split 2 rfl (fun hg3 => ?_) (fun hg3 => ?_)
      ·
        first | (have hg3p := of_decide_eq_true hg3) | skip
        refine LS.s rfl rfl rfl hg3 (by decide) ?_
        refine LS.s rfl rfl rfl hg3 (by decide) ?_
        refine LS.s rfl rfl rfl hg3 (by decide) ?_
        refine LS.skipU rfl rfl rfl (by decide) ?_
        refine LS.skipU rfl rfl rfl (by decide) ?_
        refine LS.s rfl rfl rfl hg3 (by decide) ?_
        refine LS.vv rfl rfl (by decide) (Val.pickT rfl hg3 rfl) ?_
        refine LS.vv rfl rfl (by decide) (Val.move rfl) ?_
        refine LS.vg rfl rfl rfl rfl (by decide) (Val.move rfl) ?_
        refine LS.vg rfl rfl rfl rfl (by decide) (Val.eql rfl rfl) ?_
        refine LS.vg rfl rfl rfl rfl (by decide) (Val.move rfl) ?_
        refine LS.split 13 rfl (fun hg4 => ?_) (fun hg4 => ?_)
        ·
          first | (have hg4p := of_decide_eq_true hg4) | skip
          refine LS.s rfl rfl rfl hg4 (by decide) ?_
          refine LS.s rfl rfl rfl hg4 (by decide) ?_
          refine LS.s rfl rfl rfl hg4 (by decide) ?_
          refine LS.skipU rfl rfl rfl (by decide) ?_
          refine LS.skipU rfl rfl rfl (by decide) ?_
          refine LS.s rfl rfl rfl hg4 (by decide) ?_
          refine LS.vg rfl rfl rfl rfl (by decide) (Val.pickT rfl hg4 rfl) ?_
          refine LS.vv rfl rfl (by decide) (Val.pickT rfl rfl rfl) ?_
          refine LS.vv rfl rfl (by decide) (Val.assign rfl) ?_
          refine LS.nil ?_
          refine W.ret ?_
          refine ret1 (by first | exact .inl rfl | exact .inr rfl) rfl ?_
          first | exact ⟨rfl, hB⟩ | (exfalso; omega)
        ·
          first | (have hg4p := of_decide_eq_false hg4) | skip
          refine LS.vg rfl rfl rfl hg4 (by decide) (Val.move rfl) ?_
          obtain ⟨z3, z4, _⟩ := hy0 (by omega)
          refine LS.vg rfl rfl rfl hg4 (by decide) (Val.cast (v := .bool true) (Val.eql rfl rfl) (by exact congrArg Value.bool (decide_eq_true (by omega)))) ?_
          refine LS.vg rfl rfl rfl hg4 (by decide) (Val.move rfl) ?_
          refine LS.vg rfl rfl rfl rfl (by decide) (Val.move rfl) ?_
          refine LS.vg rfl rfl rfl rfl (by decide) (Val.cast (v := .bool true) (Val.eql rfl rfl) (by exact congrArg Value.bool (decide_eq_true (by omega)))) ?_
          refine LS.vg rfl rfl rfl hg4 (by decide) (Val.pickT rfl rfl rfl) ?_
          refine LS.vg rfl rfl rfl rfl (by decide) (Val.pickF rfl hg4 rfl) ?_
          refine LS.vv rfl rfl (by decide) (Val.pickT rfl rfl rfl) ?_
          refine LS.vv rfl rfl (by decide) (Val.assign rfl) ?_
          refine LS.nil ?_
          refine W.ret ?_
          refine ret1 (by first | exact .inl rfl | exact .inr rfl) rfl ?_
          first | exact ⟨rfl, hB⟩ | (exfalso; omega)
      ·
        first | (have hg3p := of_decide_eq_false hg3) | skip
        refine LS.vg rfl rfl rfl hg3 (by decide) (Val.move rfl) ?_
        obtain ⟨z1, z2, _⟩ := hx0 (by omega)
        refine LS.vg rfl rfl rfl hg3 (by decide) (Val.cast (v := .bool true) (Val.eql rfl rfl) (by exact congrArg Value.bool (decide_eq_true (by omega)))) ?_
        refine LS.vg rfl rfl rfl hg3 (by decide) (Val.move rfl) ?_
        refine LS.vg rfl rfl rfl rfl (by decide) (Val.move rfl) ?_
        refine LS.vg rfl rfl rfl rfl (by decide) (Val.cast (v := .bool true) (Val.eql rfl rfl) (by exact congrArg Value.bool (decide_eq_true (by omega)))) ?_
        refine LS.vg rfl rfl rfl hg3 (by decide) (Val.pickT rfl rfl rfl) ?_
        refine LS.vv rfl rfl (by decide) (Val.pickF rfl hg3 rfl) ?_
        refine LS.vv rfl rfl (by decide) (Val.move rfl) ?_
        refine LS.vg rfl rfl rfl rfl (by decide) (Val.move rfl) ?_
        refine LS.vg rfl rfl rfl rfl (by decide) (Val.eql rfl rfl) ?_
        refine LS.vg rfl rfl rfl rfl (by decide) (Val.move rfl) ?_
        refine LS.split 13 rfl (fun hg5 => ?_) (fun hg5 => ?_)
        ·
          first | (have hg5p := of_decide_eq_true hg5) | skip
          refine LS.s rfl rfl rfl hg5 (by decide) ?_
          refine LS.s rfl rfl rfl hg5 (by decide) ?_
          refine LS.s rfl rfl rfl hg5 (by decide) ?_
          refine LS.skipU rfl rfl rfl (by decide) ?_
          refine LS.skipU rfl rfl rfl (by decide) ?_
          refine LS.s rfl rfl rfl hg5 (by decide) ?_
          refine LS.vg rfl rfl rfl rfl (by decide) (Val.pickT rfl hg5 rfl) ?_
          refine LS.vv rfl rfl (by decide) (Val.pickT rfl rfl rfl) ?_
          refine LS.vv rfl rfl (by decide) (Val.assign rfl) ?_
          refine LS.nil ?_
          refine W.ret ?_
          refine ret1 (by first | exact .inl rfl | exact .inr rfl) rfl ?_
          first | exact ⟨rfl, hB⟩ | (exfalso; omega)
        ·
          first | (have hg5p := of_decide_eq_false hg5) | skip
          refine LS.vg rfl rfl rfl hg5 (by decide) (Val.move rfl) ?_
          obtain ⟨z3, z4, _⟩ := hy0 (by omega)
          refine LS.vg rfl rfl rfl hg5 (by decide) (Val.cast (v := .bool true) (Val.eql rfl rfl) (by exact congrArg Value.bool (decide_eq_true (by omega)))) ?_
          refine LS.vg rfl rfl rfl hg5 (by decide) (Val.move rfl) ?_
          refine LS.vg rfl rfl rfl rfl (by decide) (Val.move rfl) ?_
          refine LS.vg rfl rfl rfl rfl (by decide) (Val.cast (v := .bool true) (Val.eql rfl rfl) (by exact congrArg Value.bool (decide_eq_true (by omega)))) ?_
          refine LS.vg rfl rfl rfl hg5 (by decide) (Val.pickT rfl rfl rfl) ?_
          refine LS.vg rfl rfl rfl rfl (by decide) (Val.pickF rfl hg5 rfl) ?_
          refine LS.vv rfl rfl (by decide) (Val.pickT rfl rfl rfl) ?_
          refine LS.vv rfl rfl (by decide) (Val.assign rfl) ?_
          refine LS.nil ?_
          refine W.ret ?_
          refine ret1 (by first | exact .inl rfl | exact .inr rfl) rfl ?_
          first | exact ⟨rfl, hB⟩ | (exfalso; omega)
    ·
      refine W.skip ?_
      refine thenP_normal ?_
      refine W.seqR ?_
      refine LS.vv rfl rfl (by decide) (Val.move rfl) ?_
      refine LS.vv rfl rfl (by decide) (Val.eql rfl rfl) ?_
      refine LS.vv rfl rfl (by decide) (Val.move rfl) ?_
      refine LS.split 2 rfl (fun hg6 => ?_) (fun hg6 => ?_)
      ·
        first | (have hg6p := of_decide_eq_true hg6) | skip
        refine LS.s rfl rfl rfl hg6 (by decide) ?_
        refine LS.s rfl rfl rfl hg6 (by decide) ?_
        refine LS.s rfl rfl rfl hg6 (by decide) ?_
        refine LS.skipU rfl rfl rfl (by decide) ?_
        refine LS.skipU rfl rfl rfl (by decide) ?_
        refine LS.s rfl rfl rfl hg6 (by decide) ?_
        refine LS.vv rfl rfl (by decide) (Val.pickT rfl hg6 rfl) ?_
        refine LS.vv rfl rfl (by decide) (Val.move rfl) ?_
        refine LS.vg rfl rfl rfl rfl (by decide) (Val.move rfl) ?_
        refine LS.vg rfl rfl rfl rfl (by decide) (Val.eql rfl rfl) ?_
        refine LS.vg rfl rfl rfl rfl (by decide) (Val.move rfl) ?_
        refine LS.split 13 rfl (fun hg7 => ?_) (fun hg7 => ?_)
        ·
          first | (have hg7p := of_decide_eq_true hg7) | skip
          refine LS.s rfl rfl rfl hg7 (by decide) ?_
          refine LS.s rfl rfl rfl hg7 (by decide) ?_
          refine LS.s rfl rfl rfl hg7 (by decide) ?_
          refine LS.skipU rfl rfl rfl (by decide) ?_
          refine LS.skipU rfl rfl rfl (by decide) ?_
          refine LS.s rfl rfl rfl hg7 (by decide) ?_
          refine LS.vg rfl rfl rfl rfl (by decide) (Val.pickT rfl hg7 rfl) ?_
          refine LS.vv rfl rfl (by decide) (Val.pickT rfl rfl rfl) ?_
          refine LS.vv rfl rfl (by decide) (Val.assign rfl) ?_
          refine LS.nil ?_
          refine W.ret ?_
          refine ret1 (by first | exact .inl rfl | exact .inr rfl) rfl ?_
          first | exact ⟨rfl, hB⟩ | (exfalso; omega)
        ·
          first | (have hg7p := of_decide_eq_false hg7) | skip
          refine LS.vg rfl rfl rfl hg7 (by decide) (Val.move rfl) ?_
          obtain ⟨z3, z4, _⟩ := hy0 (by omega)
          refine LS.vg rfl rfl rfl hg7 (by decide) (Val.cast (v := .bool true) (Val.eql rfl rfl) (by exact congrArg Value.bool (decide_eq_true (by omega)))) ?_
          refine LS.vg rfl rfl rfl hg7 (by decide) (Val.move rfl) ?_
          refine LS.vg rfl rfl rfl rfl (by decide) (Val.move rfl) ?_
          refine LS.vg rfl rfl rfl rfl (by decide) (Val.cast (v := .bool true) (Val.eql rfl rfl) (by exact congrArg Value.bool (decide_eq_true (by omega)))) ?_
          refine LS.vg rfl rfl rfl hg7 (by decide) (Val.pickT rfl rfl rfl) ?_
          refine LS.vg rfl rfl rfl rfl (by decide) (Val.pickF rfl hg7 rfl) ?_
          refine LS.vv rfl rfl (by decide) (Val.pickT rfl rfl rfl) ?_
          refine LS.vv rfl rfl (by decide) (Val.assign rfl) ?_
          refine LS.nil ?_
          refine W.ret ?_
          refine ret1 (by first | exact .inl rfl | exact .inr rfl) rfl ?_
          first | exact ⟨rfl, hB⟩ | (exfalso; omega)
      ·
        first | (have hg6p := of_decide_eq_false hg6) | skip
        refine LS.vg rfl rfl rfl hg6 (by decide) (Val.move rfl) ?_
        obtain ⟨z1, z2, _⟩ := hx0 (by omega)
        refine LS.vg rfl rfl rfl hg6 (by decide) (Val.cast (v := .bool true) (Val.eql rfl rfl) (by exact congrArg Value.bool (decide_eq_true (by omega)))) ?_
        refine LS.vg rfl rfl rfl hg6 (by decide) (Val.move rfl) ?_
        refine LS.vg rfl rfl rfl rfl (by decide) (Val.move rfl) ?_
        refine LS.vg rfl rfl rfl rfl (by decide) (Val.cast (v := .bool true) (Val.eql rfl rfl) (by exact congrArg Value.bool (decide_eq_true (by omega)))) ?_
        refine LS.vg rfl rfl rfl hg6 (by decide) (Val.pickT rfl rfl rfl) ?_
        refine LS.vv rfl rfl (by decide) (Val.pickF rfl hg6 rfl) ?_
        refine LS.vv rfl rfl (by decide) (Val.move rfl) ?_
        refine LS.vg rfl rfl rfl rfl (by decide) (Val.move rfl) ?_
        refine LS.vg rfl rfl rfl rfl (by decide) (Val.eql rfl rfl) ?_
        refine LS.vg rfl rfl rfl rfl (by decide) (Val.move rfl) ?_
        refine LS.split 13 rfl (fun hg8 => ?_) (fun hg8 => ?_)
        ·
          first | (have hg8p := of_decide_eq_true hg8) | skip
          refine LS.s rfl rfl rfl hg8 (by decide) ?_
          refine LS.s rfl rfl rfl hg8 (by decide) ?_
          refine LS.s rfl rfl rfl hg8 (by decide) ?_
          refine LS.skipU rfl rfl rfl (by decide) ?_
          refine LS.skipU rfl rfl rfl (by decide) ?_
          refine LS.s rfl rfl rfl hg8 (by decide) ?_
          refine LS.vg rfl rfl rfl rfl (by decide) (Val.pickT rfl hg8 rfl) ?_
          refine LS.vv rfl rfl (by decide) (Val.pickT rfl rfl rfl) ?_
          refine LS.vv rfl rfl (by decide) (Val.assign rfl) ?_
          refine LS.nil ?_
          refine W.ret ?_
          refine ret1 (by first | exact .inl rfl | exact .inr rfl) rfl ?_
          first | exact ⟨rfl, hB⟩ | (exfalso; omega)
        ·
          first | (have hg8p := of_decide_eq_false hg8) | skip
          refine LS.vg rfl rfl rfl hg8 (by decide) (Val.move rfl) ?_
          obtain ⟨z3, z4, _⟩ := hy0 (by omega)
          refine LS.vg rfl rfl rfl hg8 (by decide) (Val.cast (v := .bool true) (Val.eql rfl rfl) (by exact congrArg Value.bool (decide_eq_true (by omega)))) ?_
          refine LS.vg rfl rfl rfl hg8 (by decide) (Val.move rfl) ?_
          refine LS.vg rfl rfl rfl rfl (by decide) (Val.move rfl) ?_
          refine LS.vg rfl rfl rfl rfl (by decide) (Val.cast (v := .bool true) (Val.eql rfl rfl) (by exact congrArg Value.bool (decide_eq_true (by omega)))) ?_
          refine LS.vg rfl rfl rfl hg8 (by decide) (Val.pickT rfl rfl rfl) ?_
          refine LS.vg rfl rfl rfl rfl (by decide) (Val.pickF rfl hg8 rfl) ?_
          refine LS.vv rfl rfl (by decide) (Val.pickT rfl rfl rfl) ?_
          refine LS.vv rfl rfl (by decide) (Val.assign rfl) ?_
          refine LS.nil ?_
          refine W.ret ?_
          refine ret1 (by first | exact .inl rfl | exact .inr rfl) rfl ?_
          first | exact ⟨rfl, hB⟩ | (exfalso; omega)
  ·
    refine W.skip ?_
    refine thenP_normal ?_
    refine W.seq ?_
    refine W.seqR ?_
    refine LS.vv rfl rfl (by decide) (Val.move rfl) ?_
    refine LS.vv rfl rfl (by decide) (Val.eql rfl rfl) ?_
    refine LS.nil ?_
    first | refine W.condD rfl (fun hc9 => ?_) (fun hc9 => ?_) | refine W.cond rfl (fun hc9 => ?_) (fun hc9 => ?_)
    ·
      refine W.seqR ?_
      refine LS.vv rfl rfl (by decide) (Val.move rfl) ?_
      have hF : f = 0 := by omega
      obtain ⟨k2, r1, r2, r3, r4, r5⟩ := hy hF
      obtain ⟨r6, r7⟩ := del_back r1 r2
      obtain ⟨_, _, r8⟩ := gam_back r1
      rw [← r3] at r6 r7
      have r9 : 1 ≤ m := Classical.byContradiction fun h => by rw [show m = 0 by omega] at r7; have hb0 : bitLen 0 = 0 := rfl; omega
      clear hy
      refine LS.m rfl (Step.call body28 rfl rfl (by decide) rfl (CallsV.mono (Delta_any (m : Int) _) ?_))
      rintro _ w7 ⟨p2, c2, L2, e2, rfl, hO2, he2, hL2, hN2, hb7⟩
      replace hM := hM.add hB.size hb7 hO2
      replace hB := hB.trans (hb7.mono hB.size)
      have hE2 : e2 = 0 := he2.2 (by omega)
      have hdx : L2 = del m := by simpa using hL2 hE2
      have hdt : L2 = bs.take j := by rw [hdx, r6, r5]
      refine LS.vv rfl rfl (by decide) (Val.move rfl) ?_
      refine LS.vv rfl rfl (by decide) (Val.extract rfl rfl) ?_
      refine LS.vv rfl rfl (by decide) (Val.extract rfl rfl) ?_
      refine LS.vv rfl rfl (by decide) (Val.assign rfl) ?_
      refine LS.vv rfl rfl (by decide) (Val.assign rfl) ?_
      refine LS.nil ?_
      refine W.seqR ?_
      refine LS.vv rfl rfl (by decide) (Val.move rfl) ?_
      refine LS.vv rfl rfl (by decide) (Val.cast (v := .bool false) (Val.neq rfl rfl) (by exact congrArg Value.bool (decide_eq_false (by omega)))) ?_
      refine LS.vv rfl rfl (by decide) (Val.move rfl) ?_
      refine LS.vg rfl rfl rfl rfl (by decide) (Val.move rfl) ?_
      refine LS.vg rfl rfl rfl rfl (by decide) (Val.cast (v := .bool false) (Val.lss rfl rfl) (by exact congrArg Value.bool (decide_eq_false (by omega)))) ?_
      refine LS.vv rfl rfl (by decide) (Val.pickF rfl rfl rfl) ?_
      refine LS.vv rfl rfl (by decide) (Val.move rfl) ?_
      refine LS.vg rfl rfl rfl rfl (by decide) (Val.move rfl) ?_
      refine LS.vg rfl rfl rfl rfl (by decide) (Val.move rfl) ?_
      refine LS.vg rfl rfl rfl rfl (by decide) (Val.len Try.underlying51 rfl) ?_
      refine LS.vg rfl rfl rfl rfl (by decide) (Val.cast (v := .bool false) (Val.gtr rfl rfl) (by exact congrArg Value.bool (decide_eq_false (by omega)))) ?_
      refine LS.vv rfl rfl (by decide) (Val.pickF rfl rfl rfl) ?_
      refine LS.vv rfl rfl (by decide) (Val.move rfl) ?_
      refine LS.vg rfl rfl rfl rfl (by decide) (Val.move rfl) ?_
      refine LS.vg rfl rfl rfl rfl (by decide) (Val.move rfl) ?_
      refine LS.vg rfl rfl rfl rfl (by decide) (Val.move rfl) ?_
      refine LS.vg rfl rfl rfl rfl (by decide) (Val.sliceTo Try.underlying51 elem4 rfl rfl (by omega)) ?_
      refine LS.mg rfl rfl rfl (Step.call body31 rfl rfl (by decide) rfl (CallsV.mono (boolsEq_len L2 (bs.take j) _ _ _ _ _ _ _ hM.o0.rd (hr.below hB).take_bv rfl (by rw [List.length_take]; omega) (by rw [hdt, List.length_take]; omega)) ?_))
      rintro _ w8 ⟨rfl, hb8⟩
      replace hM := hM.below hb8
      replace hB := hB.trans (hb8.mono hB.size)
      rw [show decide (L2 = bs.take j) = true from decide_eq_true hdt]
      refine LS.vg rfl rfl rfl rfl (by decide) (Val.cast (v := .bool false) (Val.not rfl) (by rfl)) ?_
      refine LS.vv rfl rfl (by decide) (Val.pickF rfl rfl rfl) ?_
      refine LS.nil ?_
      refine W.condF rfl ?_
      refine W.skip ?_
      refine thenP_normal ?_
      refine W.seqR ?_
      refine LS.vv rfl rfl (by decide) (Val.move rfl) ?_
      refine LS.vv rfl rfl (by decide) (Val.eql rfl rfl) ?_
      refine LS.vv rfl rfl (by decide) (Val.move rfl) ?_
      refine LS.split 2 rfl (fun hg10 => ?_) (fun hg10 => ?_)
      ·
        first | (have hg10p := of_decide_eq_true hg10) | skip
        refine LS.s rfl rfl rfl hg10 (by decide) ?_
        refine LS.s rfl rfl rfl hg10 (by decide) ?_
        refine LS.s rfl rfl rfl hg10 (by decide) ?_
        refine LS.skipU rfl rfl rfl (by decide) ?_
        refine LS.skipU rfl rfl rfl (by decide) ?_
        refine LS.s rfl rfl rfl hg10 (by decide) ?_
        refine LS.vv rfl rfl (by decide) (Val.pickT rfl hg10 rfl) ?_
        refine LS.vv rfl rfl (by decide) (Val.move rfl) ?_
        refine LS.vg rfl rfl rfl rfl (by decide) (Val.move rfl) ?_
        refine LS.vg rfl rfl rfl rfl (by decide) (Val.eql rfl rfl) ?_
        refine LS.vg rfl rfl rfl rfl (by decide) (Val.move rfl) ?_
        refine LS.split 13 rfl (fun hg11 => ?_) (fun hg11 => ?_)
        ·
          first | (have hg11p := of_decide_eq_true hg11) | skip
          refine LS.s rfl rfl rfl hg11 (by decide) ?_
          refine LS.s rfl rfl rfl hg11 (by decide) ?_
          refine LS.s rfl rfl rfl hg11 (by decide) ?_
          refine LS.skipU rfl rfl rfl (by decide) ?_
          refine LS.skipU rfl rfl rfl (by decide) ?_
          refine LS.s rfl rfl rfl hg11 (by decide) ?_
          refine LS.vg rfl rfl rfl rfl (by decide) (Val.pickT rfl hg11 rfl) ?_
          refine LS.vv rfl rfl (by decide) (Val.pickT rfl rfl rfl) ?_
          refine LS.vv rfl rfl (by decide) (Val.assign rfl) ?_
          refine LS.nil ?_
          refine W.ret ?_
          refine ret1 (by first | exact .inl rfl | exact .inr rfl) rfl ?_
          first | exact ⟨rfl, hB⟩ | (exfalso; omega)
        ·
          first | (have hg11p := of_decide_eq_false hg11) | skip
          refine LS.vg rfl rfl rfl hg11 (by decide) (Val.move rfl) ?_
          obtain ⟨z3, z4, _⟩ := hy0 (by omega)
          refine LS.vg rfl rfl rfl hg11 (by decide) (Val.cast (v := .bool true) (Val.eql rfl rfl) (by exact congrArg Value.bool (decide_eq_true (by omega)))) ?_
          refine LS.vg rfl rfl rfl hg11 (by decide) (Val.move rfl) ?_
          refine LS.vg rfl rfl rfl rfl (by decide) (Val.move rfl) ?_
          refine LS.vg rfl rfl rfl rfl (by decide) (Val.cast (v := .bool true) (Val.eql rfl rfl) (by exact congrArg Value.bool (decide_eq_true (by omega)))) ?_
          refine LS.vg rfl rfl rfl hg11 (by decide) (Val.pickT rfl rfl rfl) ?_
          refine LS.vg rfl rfl rfl rfl (by decide) (Val.pickF rfl hg11 rfl) ?_
          refine LS.vv rfl rfl (by decide) (Val.pickT rfl rfl rfl) ?_
          refine LS.vv rfl rfl (by decide) (Val.assign rfl) ?_
          refine LS.nil ?_
          refine W.ret ?_
          refine ret1 (by first | exact .inl rfl | exact .inr rfl) rfl ?_
          first | exact ⟨rfl, hB⟩ | (exfalso; omega)
      ·
        first | (have hg10p := of_decide_eq_false hg10) | skip
        refine LS.vg rfl rfl rfl hg10 (by decide) (Val.move rfl) ?_
        obtain ⟨z1, z2, _⟩ := hx0 (by omega)
        refine LS.vg rfl rfl rfl hg10 (by decide) (Val.cast (v := .bool true) (Val.eql rfl rfl) (by exact congrArg Value.bool (decide_eq_true (by omega)))) ?_
        refine LS.vg rfl rfl rfl hg10 (by decide) (Val.move rfl) ?_
        refine LS.vg rfl rfl rfl rfl (by decide) (Val.move rfl) ?_
        refine LS.vg rfl rfl rfl rfl (by decide) (Val.cast (v := .bool true) (Val.eql rfl rfl) (by exact congrArg Value.bool (decide_eq_true (by omega)))) ?_
        refine LS.vg rfl rfl rfl hg10 (by decide) (Val.pickT rfl rfl rfl) ?_
        refine LS.vv rfl rfl (by decide) (Val.pickF rfl hg10 rfl) ?_
        refine LS.vv rfl rfl (by decide) (Val.move rfl) ?_
        refine LS.vg rfl rfl rfl rfl (by decide) (Val.move rfl) ?_
        refine LS.vg rfl rfl rfl rfl (by decide) (Val.eql rfl rfl) ?_
        refine LS.vg rfl rfl rfl rfl (by decide) (Val.move rfl) ?_
        refine LS.split 13 rfl (fun hg12 => ?_) (fun hg12 => ?_)
        ·
          first | (have hg12p := of_decide_eq_true hg12) | skip
          refine LS.s rfl rfl rfl hg12 (by decide) ?_
          refine LS.s rfl rfl rfl hg12 (by decide) ?_
          refine LS.s rfl rfl rfl hg12 (by decide) ?_
          refine LS.skipU rfl rfl rfl (by decide) ?_
          refine LS.skipU rfl rfl rfl (by decide) ?_
          refine LS.s rfl rfl rfl hg12 (by decide) ?_
          refine LS.vg rfl rfl rfl rfl (by decide) (Val.pickT rfl hg12 rfl) ?_
          refine LS.vv rfl rfl (by decide) (Val.pickT rfl rfl rfl) ?_
          refine LS.vv rfl rfl (by decide) (Val.assign rfl) ?_
          refine LS.nil ?_
          refine W.ret ?_
          refine ret1 (by first | exact .inl rfl | exact .inr rfl) rfl ?_
          first | exact ⟨rfl, hB⟩ | (exfalso; omega)
        ·
          first | (have hg12p := of_decide_eq_false hg12) | skip
          refine LS.vg rfl rfl rfl hg12 (by decide) (Val.move rfl) ?_
          obtain ⟨z3, z4, _⟩ := hy0 (by omega)
          refine LS.vg rfl rfl rfl hg12 (by decide) (Val.cast (v := .bool true) (Val.eql rfl rfl) (by exact congrArg Value.bool (decide_eq_true (by omega)))) ?_
          refine LS.vg rfl rfl rfl hg12 (by decide) (Val.move rfl) ?_
          refine LS.vg rfl rfl rfl rfl (by decide) (Val.move rfl) ?_
          refine LS.vg rfl rfl rfl rfl (by decide) (Val.cast (v := .bool true) (Val.eql rfl rfl) (by exact congrArg Value.bool (decide_eq_true (by omega)))) ?_
          refine LS.vg rfl rfl rfl hg12 (by decide) (Val.pickT rfl rfl rfl) ?_
          refine LS.vg rfl rfl rfl rfl (by decide) (Val.pickF rfl hg12 rfl) ?_
          refine LS.vv rfl rfl (by decide) (Val.pickT rfl rfl rfl) ?_
          refine LS.vv rfl rfl (by decide) (Val.assign rfl) ?_
          refine LS.nil ?_
          refine W.ret ?_
          refine ret1 (by first | exact .inl rfl | exact .inr rfl) rfl ?_
          first | exact ⟨rfl, hB⟩ | (exfalso; omega)
    ·
      refine W.skip ?_
      refine thenP_normal ?_
      refine W.seqR ?_
      refine LS.vv rfl rfl (by decide) (Val.move rfl) ?_
      refine LS.vv rfl rfl (by decide) (Val.eql rfl rfl) ?_
      refine LS.vv rfl rfl (by decide) (Val.move rfl) ?_
      refine LS.split 2 rfl (fun hg13 => ?_) (fun hg13 => ?_)
      ·
        first | (have hg13p := of_decide_eq_true hg13) | skip
        refine LS.s rfl rfl rfl hg13 (by decide) ?_
        refine LS.s rfl rfl rfl hg13 (by decide) ?_
        refine LS.s rfl rfl rfl hg13 (by decide) ?_
        refine LS.skipU rfl rfl rfl (by decide) ?_
        refine LS.skipU rfl rfl rfl (by decide) ?_
        refine LS.s rfl rfl rfl hg13 (by decide) ?_
        refine LS.vv rfl rfl (by decide) (Val.pickT rfl hg13 rfl) ?_
        refine LS.vv rfl rfl (by decide) (Val.move rfl) ?_
        refine LS.vg rfl rfl rfl rfl (by decide) (Val.move rfl) ?_
        refine LS.vg rfl rfl rfl rfl (by decide) (Val.eql rfl rfl) ?_
        refine LS.vg rfl rfl rfl rfl (by decide) (Val.move rfl) ?_
        refine LS.split 13 rfl (fun hg14 => ?_) (fun hg14 => ?_)
        ·
          first | (have hg14p := of_decide_eq_true hg14) | skip
          refine LS.s rfl rfl rfl hg14 (by decide) ?_
          refine LS.s rfl rfl rfl hg14 (by decide) ?_
          refine LS.s rfl rfl rfl hg14 (by decide) ?_
          refine LS.skipU rfl rfl rfl (by decide) ?_
          refine LS.skipU rfl rfl rfl (by decide) ?_
          refine LS.s rfl rfl rfl hg14 (by decide) ?_
          refine LS.vg rfl rfl rfl rfl (by decide) (Val.pickT rfl hg14 rfl) ?_
          refine LS.vv rfl rfl (by decide) (Val.pickT rfl rfl rfl) ?_
          refine LS.vv rfl rfl (by decide) (Val.assign rfl) ?_
          refine LS.nil ?_
          refine W.ret ?_
          refine ret1 (by first | exact .inl rfl | exact .inr rfl) rfl ?_
          first | exact ⟨rfl, hB⟩ | (exfalso; omega)
        ·
          first | (have hg14p := of_decide_eq_false hg14) | skip
          refine LS.vg rfl rfl rfl hg14 (by decide) (Val.move rfl) ?_
          obtain ⟨z3, z4, _⟩ := hy0 (by omega)
          refine LS.vg rfl rfl rfl hg14 (by decide) (Val.cast (v := .bool true) (Val.eql rfl rfl) (by exact congrArg Value.bool (decide_eq_true (by omega)))) ?_
          refine LS.vg rfl rfl rfl hg14 (by decide) (Val.move rfl) ?_
          refine LS.vg rfl rfl rfl rfl (by decide) (Val.move rfl) ?_
          refine LS.vg rfl rfl rfl rfl (by decide) (Val.cast (v := .bool true) (Val.eql rfl rfl) (by exact congrArg Value.bool (decide_eq_true (by omega)))) ?_
          refine LS.vg rfl rfl rfl hg14 (by decide) (Val.pickT rfl rfl rfl) ?_
          refine LS.vg rfl rfl rfl rfl (by decide) (Val.pickF rfl hg14 rfl) ?_
          refine LS.vv rfl rfl (by decide) (Val.pickT rfl rfl rfl) ?_
          refine LS.vv rfl rfl (by decide) (Val.assign rfl) ?_
          refine LS.nil ?_
          refine W.ret ?_
          refine ret1 (by first | exact .inl rfl | exact .inr rfl) rfl ?_
          first | exact ⟨rfl, hB⟩ | (exfalso; omega)
      ·
        first | (have hg13p := of_decide_eq_false hg13) | skip
        refine LS.vg rfl rfl rfl hg13 (by decide) (Val.move rfl) ?_
        obtain ⟨z1, z2, _⟩ := hx0 (by omega)
        refine LS.vg rfl rfl rfl hg13 (by decide) (Val.cast (v := .bool true) (Val.eql rfl rfl) (by exact congrArg Value.bool (decide_eq_true (by omega)))) ?_
        refine LS.vg rfl rfl rfl hg13 (by decide) (Val.move rfl) ?_
        refine LS.vg rfl rfl rfl rfl (by decide) (Val.move rfl) ?_
        refine LS.vg rfl rfl rfl rfl (by decide) (Val.cast (v := .bool true) (Val.eql rfl rfl) (by exact congrArg Value.bool (decide_eq_true (by omega)))) ?_
        refine LS.vg rfl rfl rfl hg13 (by decide) (Val.pickT rfl rfl rfl) ?_
        refine LS.vv rfl rfl (by decide) (Val.pickF rfl hg13 rfl) ?_
        refine LS.vv rfl rfl (by decide) (Val.move rfl) ?_
        refine LS.vg rfl rfl rfl rfl (by decide) (Val.move rfl) ?_
        refine LS.vg rfl rfl rfl rfl (by decide) (Val.eql rfl rfl) ?_
        refine LS.vg rfl rfl rfl rfl (by decide) (Val.move rfl) ?_
        refine LS.split 13 rfl (fun hg15 => ?_) (fun hg15 => ?_)
        ·
          first | (have hg15p := of_decide_eq_true hg15) | skip
          refine LS.s rfl rfl rfl hg15 (by decide) ?_
          refine LS.s rfl rfl rfl hg15 (by decide) ?_
          refine LS.s rfl rfl rfl hg15 (by decide) ?_
          refine LS.skipU rfl rfl rfl (by decide) ?_
          refine LS.skipU rfl rfl rfl (by decide) ?_
          refine LS.s rfl rfl rfl hg15 (by decide) ?_
          refine LS.vg rfl rfl rfl rfl (by decide) (Val.pickT rfl hg15 rfl) ?_
          refine LS.vv rfl rfl (by decide) (Val.pickT rfl rfl rfl) ?_
          refine LS.vv rfl rfl (by decide) (Val.assign rfl) ?_
          refine LS.nil ?_
          refine W.ret ?_
          refine ret1 (by first | exact .inl rfl | exact .inr rfl) rfl ?_
          first | exact ⟨rfl, hB⟩ | (exfalso; omega)
        ·
          first | (have hg15p := of_decide_eq_false hg15) | skip
          refine LS.vg rfl rfl rfl hg15 (by decide) (Val.move rfl) ?_
          obtain ⟨z3, z4, _⟩ := hy0 (by omega)
          refine LS.vg rfl rfl rfl hg15 (by decide) (Val.cast (v := .bool true) (Val.eql rfl rfl) (by exact congrArg Value.bool (decide_eq_true (by omega)))) ?_
          refine LS.vg rfl rfl rfl hg15 (by decide) (Val.move rfl) ?_
          refine LS.vg rfl rfl rfl rfl (by decide) (Val.move rfl) ?_
          refine LS.vg rfl rfl rfl rfl (by decide) (Val.cast (v := .bool true) (Val.eql rfl rfl) (by exact congrArg Value.bool (decide_eq_true (by omega)))) ?_
          refine LS.vg rfl rfl rfl hg15 (by decide) (Val.pickT rfl rfl rfl) ?_
          refine LS.vg rfl rfl rfl rfl (by decide) (Val.pickF rfl hg15 rfl) ?_
          refine LS.vv rfl rfl (by decide) (Val.pickT rfl rfl rfl) ?_
          refine LS.vv rfl rfl (by decide) (Val.assign rfl) ?_
          refine LS.nil ?_
          refine W.ret ?_
          refine ret1 (by first | exact .inl rfl | exact .inr rfl) rfl ?_
          first | exact ⟨rfl, hB⟩ | (exfalso; omega)

end Go.Proofs.Ytcoplafphgpmpaa
