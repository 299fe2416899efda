/-
  The statement PhraseNew.
-/
import Derived.Test.YtcoplafphgpmpaaPhrase
namespace Go.Proofs.Ytcoplafphgpmpaa
open Go Go.RowKit V
set_option linter.unusedVariables false

theorem phraseNew_any (t u : List Nat) (p q : Option Addr) (c d : Nat) (w0 : World) (hr1 : Rd w0 p (yv t)) (hr2 : Rd w0 q (yv u)) (hsz : t.length + u.length ≤ 140737488355328) :
    CallsV Try.prog 3 #[.slice p t.length c, .slice q u.length d] w0 (fun v w => v = .bool true ∧ Below w0.heap.size w0 w) := by
  refine enter1 Try.func3 rfl Try.ntmps3 (by simp) rfl ?_
  have hB := Below.refl w0.heap.size w0
  simp only [argLoc, Nat.zero_add]
  have hM := Mz.nil w0 w0.heap.size
  refine W.seqR ?_
  refine LS.vv rfl rfl (by decide) (Val.assign rfl) ?_
  refine LS.nil ?_
  refine W.seqR ?_
  refine LS.vv rfl rfl (by decide) (Val.move rfl) ?_
  refine LS.m rfl (Step.call body14 rfl rfl (by decide) rfl (CallsV.mono (Parse_any t _ _ _ _ (hr1.below hB) rfl (by omega)) ?_))
  rintro _ w1 ⟨p1, c1, L, e, rfl, hO1, he, hL, hL0, hb1⟩
  replace hM := hM.add hB.size hb1 hO1
  replace hB := hB.trans (hb1.mono hB.size)
  refine LS.vv rfl rfl (by decide) (Val.move rfl) ?_
  refine LS.vv rfl rfl (by decide) (Val.extract rfl rfl) ?_
  refine LS.vv rfl rfl (by decide) (Val.extract rfl rfl) ?_
  refine LS.vv rfl rfl (by decide) (Val.assign rfl) ?_
  refine LS.vv rfl rfl (by decide) (Val.assign rfl) ?_
  refine LS.nil ?_
  refine W.seqR ?_
  refine LS.m rfl (Step.litZ rfl rfl (by decide) Try.underlying22 elem5 rfl (by decide) rfl rfl (by decide) ?_)
  rintro w2 hO2 hg2 hbl2 hsz2
  replace hM := hM.add hB.size hbl2 hO2
  try simp only [yv_app1, yv_app, yv_set, yv_rep, yv_one, yv_cons, yv_take, yv_drop, List.nil_append] at hM
  try simp only [List.length_cons, List.length_nil, Nat.zero_add, Nat.reduceAdd, Value.cells, List.toList_toArray, List.append_nil, List.set_cons_zero, List.set_cons_succ] at hM
  replace hB := hB.trans (hbl2.mono hB.size)
  generalize w1.heap.size = gg2 at *
  refine LS.vv rfl rfl (by decide) (Val.move rfl) ?_
  refine LS.m rfl (Step.appendZ (B := w0.heap.size) rfl rfl (by decide) Try.underlying22 elem5 rfl (by decide) rfl rfl (hM.o0) ((hr1.below hB)) (by first | rfl | (simp; done) | (simp; omega)) (by first | exact one_map _ (fun _ => rfl) _ | simp [Value.oneCell']) (by omega) (by omega) hB.size ?_)
  rintro p3 c3 w3 hO3 hg3 hbl3 hbk3
  replace hM := hM.s0 (e := _) hg3 hO3 hbk3
  try simp only [yv_app1, yv_app, yv_set, yv_rep, yv_one, yv_cons, yv_take, yv_drop, List.nil_append] at hM
  replace hB := hB.trans hbl3
  refine LS.vv rfl rfl (by decide) (Val.move rfl) ?_
  refine LS.m rfl (Step.appendZ (B := w0.heap.size) rfl rfl (by decide) Try.underlying22 elem5 rfl (by decide) rfl rfl (hM.o0) ((hr2.below hB)) (by first | rfl | (simp; done) | (simp; omega)) (by first | exact one_map _ (fun _ => rfl) _ | simp [Value.oneCell']) (by omega) (by omega) hB.size ?_)
  rintro p4 c4 w4 hO4 hg4 hbl4 hbk4
  replace hM := hM.s0 (e := _) hg4 hO4 hbk4
  try simp only [yv_app1, yv_app, yv_set, yv_rep, yv_one, yv_cons, yv_take, yv_drop, List.nil_append] at hM
  replace hB := hB.trans hbl4
  refine LS.m rfl (Step.call body14 rfl rfl (by decide) rfl (CallsV.mono (Parse_any (t ++ u) _ _ _ _ hM.o0.rd (by simp) (by omega)) ?_))
  rintro _ w5 ⟨p2, c2, M, f, rfl, hO2, hf, hM2, hM20, hb5⟩
  replace hM := hM.add hB.size hb5 hO2
  replace hB := hB.trans (hb5.mono hB.size)
  refine LS.vv rfl rfl (by decide) (Val.move rfl) ?_
  refine LS.vv rfl rfl (by decide) (Val.extract rfl rfl) ?_
  refine LS.vv rfl rfl (by decide) (Val.extract rfl rfl) ?_
  refine LS.vv rfl rfl (by decide) (Val.assign rfl) ?_
  refine LS.vv rfl rfl (by decide) (Val.assign rfl) ?_
  refine LS.nil ?_
  refine W.seq ?_
  refine W.seqR ?_
  refine LS.vv rfl rfl (by decide) (Val.move rfl) ?_
  refine LS.vv rfl rfl (by decide) (Val.len Try.underlying22 rfl) ?_
  refine LS.vv rfl rfl (by decide) (Val.move rfl) ?_
  refine LS.vv rfl rfl (by decide) (Val.len Try.underlying22 rfl) ?_
  first | refine LS.vv rfl rfl (by decide) (Val.addN rfl rfl (by omega)) ?_ | refine LS.vv rfl rfl (by decide) (Val.add64 rfl rfl (by omega)) ?_
  refine LS.vv rfl rfl (by decide) (Val.gtr rfl rfl) ?_
  refine LS.nil ?_
  first | refine W.condD rfl (fun hc1 => ?_) (fun hc1 => ?_) | refine W.cond rfl (fun hc1 => ?_) (fun hc1 => ?_)
  ·
    refine W.seqR ?_
    refine LS.vv rfl rfl (by decide) (Val.move rfl) ?_
    refine LS.vv rfl rfl (by decide) (Val.cast (v := .bool true) (Val.neq rfl rfl) (by refine congrArg Value.bool (decide_eq_true ?_); omega)) ?_
    refine LS.vv rfl rfl (by decide) (Val.assign rfl) ?_
    refine LS.nil ?_
    refine W.ret ?_
    refine thenP_ret ?_
    refine ret1 (by first | exact .inl rfl | exact .inr rfl) rfl ?_
    first | exact ⟨rfl, hB⟩ | contradiction | (exfalso; omega)
  ·
    refine W.skip ?_
    refine thenP_normal ?_
    refine W.seq ?_
    refine W.seqR ?_
    refine LS.vv rfl rfl (by decide) (Val.move rfl) ?_
    have hE : e = 0 := he.2 (by omega)
    have hF : f = 0 := hf.2 (by omega)
    obtain rfl := hL hE
    obtain rfl := hM2 hF
    have hmo := parse_more t u
    have hpl : (parse t).length ≤ t.length := paTo_len _ _ _
    have hps : 0 < t.length → 0 < (parse t).length := fun h => parse_some (by intro e0; subst e0; simp at h)
    refine LS.vv rfl rfl (by decide) (Val.cast (v := .bool false) (Val.neq rfl rfl) (by first | (simp; done) | (simp; omega))) ?_
    refine LS.vv rfl rfl (by decide) (Val.move rfl) ?_
    refine LS.vg rfl rfl rfl rfl (by decide) (Val.move rfl) ?_
    refine LS.vg rfl rfl rfl rfl (by decide) (Val.cast (v := .bool false) (Val.neq rfl rfl) (by first | (simp; done) | (simp; omega))) ?_
    refine LS.vv rfl rfl (by decide) (Val.pickF rfl rfl rfl) ?_
    refine LS.vv rfl rfl (by decide) (Val.move rfl) ?_
    refine LS.vg rfl rfl rfl rfl (by decide) (Val.move rfl) ?_
    refine LS.vg rfl rfl rfl rfl (by decide) (Val.len Try.underlying23 rfl) ?_
    refine LS.vg rfl rfl rfl rfl (by decide) (Val.move rfl) ?_
    refine LS.vg rfl rfl rfl rfl (by decide) (Val.len Try.underlying23 rfl) ?_
    refine LS.vg rfl rfl rfl rfl (by decide) (Val.cast (v := .bool false) (Val.lss rfl rfl) (by refine congrArg Value.bool (decide_eq_false ?_); omega)) ?_
    refine LS.vv rfl rfl (by decide) (Val.pickF rfl rfl rfl) ?_
    refine LS.vv rfl rfl (by decide) (Val.move rfl) ?_
    refine LS.vg rfl rfl rfl rfl (by decide) (Val.move rfl) ?_
    refine LS.vg rfl rfl rfl rfl (by decide) (Val.len Try.underlying22 rfl) ?_
    refine LS.vg rfl rfl rfl rfl (by decide) (Val.gtr rfl rfl) ?_
    refine LS.vg rfl rfl rfl rfl (by decide) (Val.move rfl) ?_
    refine LS.split 17 rfl (fun hg2 => ?_) (fun hg2 => ?_)
    ·
      first | (have hg2p := of_decide_eq_true hg2) | skip
      refine LS.vg rfl rfl rfl hg2 (by decide) (Val.move rfl) ?_
      refine LS.vg rfl rfl rfl hg2 (by decide) (Val.len Try.underlying23 rfl) ?_
      refine LS.vg rfl rfl rfl hg2 (by decide) (Val.cast (v := .bool false) (Val.eql rfl rfl) (by refine congrArg Value.bool (decide_eq_false ?_); omega)) ?_
      refine LS.vg rfl rfl rfl rfl (by decide) (Val.pickT rfl hg2 rfl) ?_
      refine LS.vv rfl rfl (by decide) (Val.pickF rfl rfl rfl) ?_
      refine LS.nil ?_
      refine W.condF rfl ?_
      refine W.skip ?_
      refine thenP_normal ?_
      refine W.seq ?_
      refine W.seqR ?_
      refine LS.vv rfl rfl (by decide) (Val.cast (v := .int .i64 ((0 : Nat) : Int)) (Val.assign rfl) rfl) ?_
      refine LS.nil ?_
      refine W.block ?_
      replace hM := hM.tail.tail
      refine W.loop (α := Nat) (fun i => [(9, .int .i64 (i : Int))]) [(5, _)] (fun i w => (i ≤ (parse t).length) ∧ Mz w w0.heap.size [⟨28, 2, p1, (parse t).length, c1, pc2 (parse t)⟩] ∧ Below w0.heap.size w0 w) (fun i => (parse t).length - i) (0) (Sub.cons rfl (Sub.nil _)) (Sub.cons rfl (Sub.nil _)) ?_ ?_
      · exact ⟨Nat.zero_le _, hM, hB⟩
      rintro i w6 ⟨hi, hM, hB⟩
      try simp only at hM
      simp only [List.cons_append, List.nil_append]
      refine W.seq ?_
      refine W.seqR ?_
      refine LS.vv rfl rfl (by decide) (Val.move rfl) ?_
      first | refine LS.vv rfl rfl (by decide) (Val.addN (j := 1) rfl rfl (by omega)) ?_ | refine LS.vv rfl rfl (by decide) (Val.add64 rfl rfl (by omega)) ?_
      refine LS.vv rfl rfl (by decide) (Val.move rfl) ?_
      refine LS.vv rfl rfl (by decide) (Val.len Try.underlying23 rfl) ?_
      refine LS.vv rfl rfl (by decide) (Val.lss rfl rfl) ?_
      refine LS.nil ?_
      first | refine W.condD rfl (fun hc3 => ?_) (fun hc3 => ?_) | refine W.cond rfl (fun hc3 => ?_) (fun hc3 => ?_)
      ·
        refine W.skip ?_
        refine thenP_normal ?_
        refine W.seq ?_
        refine W.block ?_
        refine W.seq ?_
        refine W.seqR ?_
        refine LS.vv rfl rfl (by decide) (Val.cast (v := .int .i64 ((0 : Nat) : Int)) (Val.assign rfl) rfl) ?_
        refine LS.nil ?_
        refine W.block ?_
        refine W.loop (α := Nat) (fun j => [(10, .int .i64 (j : Int))]) [(5, _), (9, _)] (fun j w => (j ≤ i) ∧ Mz w w0.heap.size [⟨28, 2, p1, (parse t).length, c1, pc2 (parse t)⟩] ∧ Below w0.heap.size w0 w) (fun j => i - j) (0) (Sub.cons rfl (Sub.nil _)) (Sub.cons rfl (Sub.cons rfl (Sub.nil _))) ?_ ?_
        · exact ⟨Nat.zero_le _, hM, hB⟩
        rintro j w7 ⟨hj, hM, hB⟩
        try simp only at hM
        simp only [List.cons_append, List.nil_append]
        refine W.seq ?_
        refine W.seqR ?_
        refine LS.vv rfl rfl (by decide) (Val.move rfl) ?_
        refine LS.vv rfl rfl (by decide) (Val.move rfl) ?_
        refine LS.vv rfl rfl (by decide) (Val.lss rfl rfl) ?_
        refine LS.nil ?_
        first | refine W.condD rfl (fun hc4 => ?_) (fun hc4 => ?_) | refine W.cond rfl (fun hc4 => ?_) (fun hc4 => ?_)
        ·
          refine W.skip ?_
          refine thenP_normal ?_
          refine W.seq ?_
          refine W.block ?_
          refine W.seqFz 9 [(0, true), (1, true), (2, true), (3, true), (4, true), (5, true), (6, true), (7, true), (8, true)] mixed (by kernel_rfl) hB hM ?_
          replace hB := hB.drew
          replace hM := hM.drew
          refine DF.vv rfl rfl rfl (by decide) (Val.move rfl) ?_
          refine DF.vv rfl rfl rfl (by decide) (Val.move rfl) ?_
          refine DF.vv rfl rfl rfl (by decide) (Val.indexAddr Try.underlying23 elem28 rfl rfl (by omega) (hM.o0.rd) (by rw [pc2_len]; omega)) ?_
          refine DF.vv rfl rfl rfl (by decide) (Val.loadAgg (vs := [.int .i64 ((gp (parse t) i).1 : Int), .int .u8 ((gp (parse t) i).2 : Int)]) agg28 rfl (fun _ h => h.2.o0.rd) ((pc2_at (by omega)).2) rfl (by decide)) ?_
          refine DF.vv rfl rfl rfl (by decide) (Val.move rfl) ?_
          refine DF.vv rfl rfl rfl (by decide) (Val.move rfl) ?_
          refine DF.vv rfl rfl rfl (by decide) (Val.indexAddr Try.underlying23 elem28 rfl rfl (by omega) (hM.o0.rd) (by rw [pc2_len]; omega)) ?_
          refine DF.vv rfl rfl rfl (by decide) (Val.loadAgg (vs := [.int .i64 ((gp (parse t) j).1 : Int), .int .u8 ((gp (parse t) j).2 : Int)]) agg28 rfl (fun _ h => h.2.o0.rd) ((pc2_at (by omega)).2) rfl (by decide)) ?_
          refine DF.vv rfl rfl rfl (by decide) (Val.eql2 int2_28 rfl rfl) ?_
          refine DF.nil ?_
          first | refine W.condD rfl (fun hc5 => ?_) (fun hc5 => ?_) | refine W.cond rfl (fun hc5 => ?_) (fun hc5 => ?_)
          ·
            exfalso; exact parse_new (t := t) (i := i) (j := j) (by omega) (by omega) (Prod.ext (by omega) (by omega))
          ·
            refine W.skip ?_
            refine inBlk_normal ?_
            refine thenP_normal ?_
            refine W.reg ?_
            refine LS.vv rfl rfl (by decide) (Val.move rfl) ?_
            first | refine LS.vv rfl rfl (by decide) (Val.addN (j := 1) rfl rfl (by omega)) ?_ | refine LS.vv rfl rfl (by decide) (Val.add64 rfl rfl (by omega)) ?_
            refine LS.vv rfl rfl (by decide) (Val.assign rfl) ?_
            refine LS.nil ?_
            refine thenP_normal ?_
            refine ⟨j + 1, ?_, ?_, ⟨by omega, hM, hB⟩, by omega⟩
            · exact (Sub.cons rfl (Sub.nil _))
            · repeat (first | exact Sub.nil _ | refine Sub.cons rfl ?_)
        ·
          refine W.exit ?_
          refine thenP_exit ?_
          refine thenP_exit ?_
          refine inBlk_exit ?_
          refine thenP_normal ?_
          refine W.seqR ?_
          refine LS.vv rfl rfl (by decide) (Val.move rfl) ?_
          refine LS.vv rfl rfl (by decide) (Val.move rfl) ?_
          refine LS.vv rfl rfl (by decide) (Val.indexAddr Try.underlying23 elem28 rfl rfl (by omega) (hM.o0.rd) (by rw [pc2_len]; omega)) ?_
          refine LS.vv rfl rfl (by decide) (Val.fieldAddr fld28_0 rfl (hM.o0.rd) (by rw [pc2_len]; omega)) ?_
          refine LS.m rfl (Step.load rfl rfl (by decide) flat3 rfl (hM.o0.rd) ((pc2_at (by omega)).1) ?_)
          refine LS.vv rfl rfl (by decide) (Val.cast (v := .bool false) (Val.lss rfl rfl) (by first | (simp; done) | (simp; omega))) ?_
          refine LS.vv rfl rfl (by decide) (Val.move rfl) ?_
          refine LS.vg rfl rfl rfl rfl (by decide) (Val.move rfl) ?_
          refine LS.vg rfl rfl rfl rfl (by decide) (Val.move rfl) ?_
          refine LS.vg rfl rfl rfl rfl (by decide) (Val.indexAddr Try.underlying23 elem28 rfl rfl (by omega) (hM.o0.rd) (by rw [pc2_len]; omega)) ?_
          refine LS.vg rfl rfl rfl rfl (by decide) (Val.fieldAddr fld28_0 rfl (hM.o0.rd) (by rw [pc2_len]; omega)) ?_
          refine LS.mg rfl rfl rfl (Step.load rfl rfl (by decide) flat3 rfl (hM.o0.rd) ((pc2_at (by omega)).1) ?_)
          refine LS.vg rfl rfl rfl rfl (by decide) (Val.move rfl) ?_
          refine LS.vg rfl rfl rfl rfl (by decide) (Val.cast (v := .bool false) (Val.gtr rfl rfl) (by refine congrArg Value.bool (decide_eq_false ?_); have := parse_prev (t := t) (i := i) (by omega); omega)) ?_
          refine LS.vv rfl rfl (by decide) (Val.pickF rfl rfl rfl) ?_
          refine LS.nil ?_
          refine W.condF rfl ?_
          refine W.skip ?_
          refine inBlk_normal ?_
          refine thenP_normal ?_
          refine W.reg ?_
          refine LS.vv rfl rfl (by decide) (Val.move rfl) ?_
          first | refine LS.vv rfl rfl (by decide) (Val.addN (j := 1) rfl rfl (by omega)) ?_ | refine LS.vv rfl rfl (by decide) (Val.add64 rfl rfl (by omega)) ?_
          refine LS.vv rfl rfl (by decide) (Val.assign rfl) ?_
          refine LS.nil ?_
          refine thenP_normal ?_
          refine ⟨i + 1, ?_, ?_, ⟨by omega, hM, hB⟩, by omega⟩
          · exact (Sub.cons rfl (Sub.nil _))
          · repeat (first | exact Sub.nil _ | refine Sub.cons rfl ?_)
      ·
        refine W.exit ?_
        refine thenP_exit ?_
        refine thenP_exit ?_
        refine inBlk_exit ?_
        refine thenP_normal ?_
        refine W.seqR ?_
        refine LS.vv rfl rfl (by decide) (Val.assign rfl) ?_
        refine LS.nil ?_
        refine W.ret ?_
        refine ret1 (by first | exact .inl rfl | exact .inr rfl) rfl ?_
        first | exact ⟨rfl, hB⟩ | contradiction | (exfalso; omega)
    ·
      first | (have hg2p := of_decide_eq_false hg2) | skip
      refine LS.s rfl rfl rfl hg2 (by decide) ?_
      refine LS.s rfl rfl rfl hg2 (by decide) ?_
      refine LS.s rfl rfl rfl hg2 (by decide) ?_
      refine LS.vg rfl rfl rfl rfl (by decide) (Val.pickF rfl hg2 rfl) ?_
      refine LS.vv rfl rfl (by decide) (Val.pickF rfl rfl rfl) ?_
      refine LS.nil ?_
      refine W.condF rfl ?_
      refine W.skip ?_
      refine thenP_normal ?_
      refine W.seq ?_
      refine W.seqR ?_
      refine LS.vv rfl rfl (by decide) (Val.cast (v := .int .i64 ((0 : Nat) : Int)) (Val.assign rfl) rfl) ?_
      refine LS.nil ?_
      refine W.block ?_
      replace hM := hM.tail.tail
      refine W.loop (α := Nat) (fun i => [(9, .int .i64 (i : Int))]) [(5, _)] (fun i w => (i ≤ (parse t).length) ∧ Mz w w0.heap.size [⟨28, 2, p1, (parse t).length, c1, pc2 (parse t)⟩] ∧ Below w0.heap.size w0 w) (fun i => (parse t).length - i) (0) (Sub.cons rfl (Sub.nil _)) (Sub.cons rfl (Sub.nil _)) ?_ ?_
      · exact ⟨Nat.zero_le _, hM, hB⟩
      rintro i w8 ⟨hi, hM, hB⟩
      try simp only at hM
      simp only [List.cons_append, List.nil_append]
      refine W.seq ?_
      refine W.seqR ?_
      refine LS.vv rfl rfl (by decide) (Val.move rfl) ?_
      first | refine LS.vv rfl rfl (by decide) (Val.addN (j := 1) rfl rfl (by omega)) ?_ | refine LS.vv rfl rfl (by decide) (Val.add64 rfl rfl (by omega)) ?_
      refine LS.vv rfl rfl (by decide) (Val.move rfl) ?_
      refine LS.vv rfl rfl (by decide) (Val.len Try.underlying23 rfl) ?_
      refine LS.vv rfl rfl (by decide) (Val.lss rfl rfl) ?_
      refine LS.nil ?_
      first | refine W.condD rfl (fun hc6 => ?_) (fun hc6 => ?_) | refine W.cond rfl (fun hc6 => ?_) (fun hc6 => ?_)
      ·
        refine W.skip ?_
        refine thenP_normal ?_
        refine W.seq ?_
        refine W.block ?_
        refine W.seq ?_
        refine W.seqR ?_
        refine LS.vv rfl rfl (by decide) (Val.cast (v := .int .i64 ((0 : Nat) : Int)) (Val.assign rfl) rfl) ?_
        refine LS.nil ?_
        refine W.block ?_
        refine W.loop (α := Nat) (fun j => [(10, .int .i64 (j : Int))]) [(5, _), (9, _)] (fun j w => (j ≤ i) ∧ Mz w w0.heap.size [⟨28, 2, p1, (parse t).length, c1, pc2 (parse t)⟩] ∧ Below w0.heap.size w0 w) (fun j => i - j) (0) (Sub.cons rfl (Sub.nil _)) (Sub.cons rfl (Sub.cons rfl (Sub.nil _))) ?_ ?_
        · exact ⟨Nat.zero_le _, hM, hB⟩
        rintro j w9 ⟨hj, hM, hB⟩
        try simp only at hM
        simp only [List.cons_append, List.nil_append]
        refine W.seq ?_
        refine W.seqR ?_
        refine LS.vv rfl rfl (by decide) (Val.move rfl) ?_
        refine LS.vv rfl rfl (by decide) (Val.move rfl) ?_
        refine LS.vv rfl rfl (by decide) (Val.lss rfl rfl) ?_
        refine LS.nil ?_
        first | refine W.condD rfl (fun hc7 => ?_) (fun hc7 => ?_) | refine W.cond rfl (fun hc7 => ?_) (fun hc7 => ?_)
        ·
          refine W.skip ?_
          refine thenP_normal ?_
          refine W.seq ?_
          refine W.block ?_
          refine W.seqFz 9 [(0, true), (1, true), (2, true), (3, true), (4, true), (5, true), (6, true), (7, true), (8, true)] mixed (by kernel_rfl) hB hM ?_
          replace hB := hB.drew
          replace hM := hM.drew
          refine DF.vv rfl rfl rfl (by decide) (Val.move rfl) ?_
          refine DF.vv rfl rfl rfl (by decide) (Val.move rfl) ?_
          refine DF.vv rfl rfl rfl (by decide) (Val.indexAddr Try.underlying23 elem28 rfl rfl (by omega) (hM.o0.rd) (by rw [pc2_len]; omega)) ?_
          refine DF.vv rfl rfl rfl (by decide) (Val.loadAgg (vs := [.int .i64 ((gp (parse t) i).1 : Int), .int .u8 ((gp (parse t) i).2 : Int)]) agg28 rfl (fun _ h => h.2.o0.rd) ((pc2_at (by omega)).2) rfl (by decide)) ?_
          refine DF.vv rfl rfl rfl (by decide) (Val.move rfl) ?_
          refine DF.vv rfl rfl rfl (by decide) (Val.move rfl) ?_
          refine DF.vv rfl rfl rfl (by decide) (Val.indexAddr Try.underlying23 elem28 rfl rfl (by omega) (hM.o0.rd) (by rw [pc2_len]; omega)) ?_
          refine DF.vv rfl rfl rfl (by decide) (Val.loadAgg (vs := [.int .i64 ((gp (parse t) j).1 : Int), .int .u8 ((gp (parse t) j).2 : Int)]) agg28 rfl (fun _ h => h.2.o0.rd) ((pc2_at (by omega)).2) rfl (by decide)) ?_
          refine DF.vv rfl rfl rfl (by decide) (Val.eql2 int2_28 rfl rfl) ?_
          refine DF.nil ?_
          first | refine W.condD rfl (fun hc8 => ?_) (fun hc8 => ?_) | refine W.cond rfl (fun hc8 => ?_) (fun hc8 => ?_)
          ·
            exfalso; exact parse_new (t := t) (i := i) (j := j) (by omega) (by omega) (Prod.ext (by omega) (by omega))
          ·
            refine W.skip ?_
            refine inBlk_normal ?_
            refine thenP_normal ?_
            refine W.reg ?_
            refine LS.vv rfl rfl (by decide) (Val.move rfl) ?_
            first | refine LS.vv rfl rfl (by decide) (Val.addN (j := 1) rfl rfl (by omega)) ?_ | refine LS.vv rfl rfl (by decide) (Val.add64 rfl rfl (by omega)) ?_
            refine LS.vv rfl rfl (by decide) (Val.assign rfl) ?_
            refine LS.nil ?_
            refine thenP_normal ?_
            refine ⟨j + 1, ?_, ?_, ⟨by omega, hM, hB⟩, by omega⟩
            · exact (Sub.cons rfl (Sub.nil _))
            · repeat (first | exact Sub.nil _ | refine Sub.cons rfl ?_)
        ·
          refine W.exit ?_
          refine thenP_exit ?_
          refine thenP_exit ?_
          refine inBlk_exit ?_
          refine thenP_normal ?_
          refine W.seqR ?_
          refine LS.vv rfl rfl (by decide) (Val.move rfl) ?_
          refine LS.vv rfl rfl (by decide) (Val.move rfl) ?_
          refine LS.vv rfl rfl (by decide) (Val.indexAddr Try.underlying23 elem28 rfl rfl (by omega) (hM.o0.rd) (by rw [pc2_len]; omega)) ?_
          refine LS.vv rfl rfl (by decide) (Val.fieldAddr fld28_0 rfl (hM.o0.rd) (by rw [pc2_len]; omega)) ?_
          refine LS.m rfl (Step.load rfl rfl (by decide) flat3 rfl (hM.o0.rd) ((pc2_at (by omega)).1) ?_)
          refine LS.vv rfl rfl (by decide) (Val.cast (v := .bool false) (Val.lss rfl rfl) (by first | (simp; done) | (simp; omega))) ?_
          refine LS.vv rfl rfl (by decide) (Val.move rfl) ?_
          refine LS.vg rfl rfl rfl rfl (by decide) (Val.move rfl) ?_
          refine LS.vg rfl rfl rfl rfl (by decide) (Val.move rfl) ?_
          refine LS.vg rfl rfl rfl rfl (by decide) (Val.indexAddr Try.underlying23 elem28 rfl rfl (by omega) (hM.o0.rd) (by rw [pc2_len]; omega)) ?_
          refine LS.vg rfl rfl rfl rfl (by decide) (Val.fieldAddr fld28_0 rfl (hM.o0.rd) (by rw [pc2_len]; omega)) ?_
          refine LS.mg rfl rfl rfl (Step.load rfl rfl (by decide) flat3 rfl (hM.o0.rd) ((pc2_at (by omega)).1) ?_)
          refine LS.vg rfl rfl rfl rfl (by decide) (Val.move rfl) ?_
          refine LS.vg rfl rfl rfl rfl (by decide) (Val.cast (v := .bool false) (Val.gtr rfl rfl) (by refine congrArg Value.bool (decide_eq_false ?_); have := parse_prev (t := t) (i := i) (by omega); omega)) ?_
          refine LS.vv rfl rfl (by decide) (Val.pickF rfl rfl rfl) ?_
          refine LS.nil ?_
          refine W.condF rfl ?_
          refine W.skip ?_
          refine inBlk_normal ?_
          refine thenP_normal ?_
          refine W.reg ?_
          refine LS.vv rfl rfl (by decide) (Val.move rfl) ?_
          first | refine LS.vv rfl rfl (by decide) (Val.addN (j := 1) rfl rfl (by omega)) ?_ | refine LS.vv rfl rfl (by decide) (Val.add64 rfl rfl (by omega)) ?_
          refine LS.vv rfl rfl (by decide) (Val.assign rfl) ?_
          refine LS.nil ?_
          refine thenP_normal ?_
          refine ⟨i + 1, ?_, ?_, ⟨by omega, hM, hB⟩, by omega⟩
          · exact (Sub.cons rfl (Sub.nil _))
          · repeat (first | exact Sub.nil _ | refine Sub.cons rfl ?_)
      ·
        refine W.exit ?_
        refine thenP_exit ?_
        refine thenP_exit ?_
        refine inBlk_exit ?_
        refine thenP_normal ?_
        refine W.seqR ?_
        refine LS.vv rfl rfl (by decide) (Val.assign rfl) ?_
        refine LS.nil ?_
        refine W.ret ?_
        refine ret1 (by first | exact .inl rfl | exact .inr rfl) rfl ?_
        first | exact ⟨rfl, hB⟩ | contradiction | (exfalso; omega)

end Go.Proofs.Ytcoplafphgpmpaa
