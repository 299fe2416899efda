/-
  The statement ShipAll.
-/
import Derived.Test.YtldcpihjoakigaaShipL
namespace Go.Proofs.Ytldcpihjoakigaa
open Go Go.RowKit V
set_option linter.unusedVariables false
set_option linter.unusedSimpArgs false

theorem shipAll_any (mode : Int) (l : List St) (p : Option Addr) (c : Nat) (w0 : World) (hr : Rd w0 p (sv l)) (hl : l.length ≤ 9223372036854775807) :
    CallsV Try.prog 8 #[.int .i64 mode, .slice p l.length c] w0 (fun v w => v = .bool true ∧ Below w0.heap.size w0 w) := by
  refine enter1 Try.func8 rfl Try.ntmps8 (by simp) rfl ?_
  have hB := Below.refl w0.heap.size w0
  simp only [argLoc, Nat.zero_add]
  have hM := Mz.nil w0 w0.heap.size
  refine W.seqR ?_
  refine LS.vv rfl rfl (by decide) (Val.assign rfl) ?_
  refine LS.nil ?_
  refine W.seq ?_
  refine W.seqR ?_
  refine LS.vv rfl rfl (by decide) (Val.move rfl) ?_
  refine LS.vv rfl rfl (by decide) (Val.len Try.underlying37 rfl) ?_
  refine LS.vv rfl rfl (by decide) (Val.gtr rfl rfl) ?_
  refine LS.nil ?_
  first | refine W.condD rfl (fun hc1 => ?_) (fun hc1 => ?_) | refine W.cond rfl (fun hc1 => ?_) (fun hc1 => ?_)
  ·
    refine W.seqR ?_
    refine LS.vv rfl rfl (by decide) (Val.assign rfl) ?_
    refine LS.nil ?_
    refine W.ret ?_
    refine thenP_ret ?_
    refine ret1 (by first | exact .inl rfl | exact .inr rfl) rfl ?_
    first | exact ⟨rfl, hB⟩ | contradiction | (exfalso; omega)
  ·
    refine W.skip ?_
    refine thenP_normal ?_
    refine W.seqR ?_
    refine LS.m rfl (Step.litZ rfl rfl (by decide) Try.underlying37 elem45 rfl (by decide) rfl rfl (by decide) ?_)
    rintro w1 hO1 hg1 hbl1 hsz1
    replace hM := hM.add hB.size hbl1 hO1
    try simp only [List.length_cons, List.length_nil, Nat.zero_add, Nat.reduceAdd, Value.cells, List.toList_toArray, List.append_nil, List.set_cons_zero, List.set_cons_succ] at hM
    replace hB := hB.trans (hbl1.mono hB.size)
    skip
    refine LS.vv rfl rfl (by decide) (Val.move rfl) ?_
    refine LS.m rfl (Step.appendZ (B := w0.heap.size) rfl rfl (by decide) Try.underlying37 elem45 rfl (by decide) rfl rfl (hM.o0) ((hr.below hB)) (by rw [sv_len]) (sv_one _) (by omega) (by omega) hB.size ?_)
    rintro p2 c2 w2 hO2 hg2 hbl2 hbk2
    replace hM := hM.s0 (e := _) hg2 hO2 hbk2
    replace hB := hB.trans hbl2
    rw [Nat.zero_add, List.nil_append] at hM
    rw [Nat.zero_add]
    refine LS.vv rfl rfl (by decide) (Val.build str45 elem45 rfl rfl rfl) ?_
    refine LS.m rfl (Step.litZ rfl rfl (by decide) Try.underlying37 elem45 rfl (by decide) rfl rfl (by decide) ?_)
    rintro w3 hO3 hg3 hbl3 hsz3
    replace hM := hM.add hB.size hbl3 hO3
    try simp only [List.length_cons, List.length_nil, Nat.zero_add, Nat.reduceAdd, Value.cells, List.toList_toArray, List.append_nil, List.set_cons_zero, List.set_cons_succ] at hM
    replace hB := hB.trans (hbl3.mono hB.size)
    generalize w2.heap.size = gg3 at *
    refine LS.m rfl (Step.appendZ (B := w0.heap.size) rfl rfl (by decide) Try.underlying37 elem45 rfl (by decide) rfl rfl (hM.o1) (hM.o0.rd) (by first | rfl | (simp; done) | (simp; omega)) (by first | exact one_map _ (fun _ => rfl) _ | simp [Value.oneCell']) (by omega) (by omega) hB.size ?_)
    rintro p4 c4 w4 hO4 hg4 hbl4 hbk4
    replace hM := hM.s1 (e := _) hg4 hO4 hbk4
    replace hM := hM.tail
    replace hB := hB.trans hbl4
    have hal0 := allp_len l 0
    rw [show sv l ++ [Value.int .i64 6, Value.int .i64 0, Value.int .i64 0, Value.int .u8 0] = sv (allp l 0) from sv_app1 l (sK 6)] at hM
    refine LS.vv rfl rfl (by decide) (Val.assign rfl) ?_
    refine LS.nil ?_
    refine W.seq ?_
    refine W.seqR ?_
    have e0 : l.length + 1 = (allp l 0).length := by rw [hal0]; omega
    rw [e0] at hM
    rw [e0]
    refine LS.m rfl (Step.litZ rfl rfl (by decide) Try.underlying48 elem3 rfl (by decide) rfl rfl (by decide) ?_)
    rintro w5 hO5 hg5 hbl5 hsz5
    replace hM := hM.add hB.size hbl5 hO5
    try simp only [nv_app1, nv_app, nv_set, nv_rep, nv_one, nv_cons, nv_take, nv_drop, List.nil_append] at hM
    try simp only [List.length_cons, List.length_nil, Nat.zero_add, Nat.reduceAdd, Value.cells, List.toList_toArray, List.append_nil, List.set_cons_zero, List.set_cons_succ] at hM
    replace hB := hB.trans (hbl5.mono hB.size)
    generalize w4.heap.size = gg5 at *
    have hM9 := hM
    replace hM : Mz _ _ [⟨3, 1, _, 3, 3, nv [2, 3, 4]⟩, _] := hM9
    clear hM9
    refine LS.vv rfl rfl (by decide) (Val.len Try.underlying48 rfl) ?_
    refine LS.vv rfl rfl (by decide) (Val.cast (v := .int .i64 ((0 : Nat) : Int)) (Val.move rfl) rfl) ?_
    refine LS.nil ?_
    refine W.block ?_
    replace hM := hM.sw0
    refine W.loop (α := Nat × Option Addr × Nat) (fun g => [(5, .slice g.2.1 (allp l g.1).length g.2.2), (22, .int .i64 (g.1 : Int))]) [(0, _), (1, _), (20, _), (21, _)] (fun g w => (g.1 ≤ 3) ∧ Mz w w0.heap.size [⟨45, 4, g.2.1, (allp l g.1).length, g.2.2, sv (allp l g.1)⟩, ⟨3, 1, some ⟨gg5, 0, none⟩, 3, 3, nv [2, 3, 4]⟩] ∧ Below w0.heap.size w0 w) (fun g => 3 - g.1) ((0, _, _)) (Sub.cons rfl (Sub.cons rfl (Sub.nil _))) (Sub.cons rfl (Sub.cons rfl (Sub.cons rfl (Sub.cons rfl (Sub.nil _))))) ?_ ?_
    · exact ⟨Nat.zero_le _, hM, hB⟩
    rintro ⟨j, pl, cl⟩ w6 ⟨hj, hM, hB⟩
    try simp only at hM
    simp only [List.cons_append, List.nil_append]
    simp only at hj
    have hall := allp_len l j
    have hjl : j * l.length ≤ 3 * 20 := Nat.mul_le_mul hj (by omega)
    have h3 : ([2, 3, 4] : List Nat).length = 3 := rfl
    refine W.seqR ?_
    refine LS.vv rfl rfl (by decide) (Val.lss rfl rfl) ?_
    refine LS.nil ?_
    refine W.seq ?_
    first | refine W.condD rfl (fun hc2 => ?_) (fun hc2 => ?_) | refine W.cond rfl (fun hc2 => ?_) (fun hc2 => ?_)
    ·
      refine W.skip ?_
      refine thenP_normal ?_
      refine W.seq ?_
      refine W.block ?_
      refine W.seqR ?_
      refine LS.vv rfl rfl (by decide) (Val.index1 Try.underlying48 elem3 rfl rfl (by omega) (hM.o1.rd) (nv_lt (by omega))) ?_
      refine LS.m rfl (Step.load rfl rfl (by decide) flat3 rfl (hM.o1.rd) (nv_at (by omega)) ?_)
      refine LS.vv rfl rfl (by decide) (Val.assign rfl) ?_
      refine LS.nil ?_
      refine W.seqR ?_
      refine LS.vv rfl rfl (by decide) (Val.move rfl) ?_
      refine LS.vv rfl rfl (by decide) (Val.len Try.underlying37 rfl) ?_
      refine LS.vv rfl rfl (by decide) (Val.cast (v := .int .i64 ((0 : Nat) : Int)) (Val.move rfl) rfl) ?_
      refine LS.nil ?_
      refine W.block ?_
      have e5 : allp l j = allp l j ++ List.replicate 0 (sK (gn [2, 3, 4] j : Int)) := by simp
      rw [e5] at hM
      refine W.loop (α := Nat × Option Addr × Nat) (fun g => [(5, .slice g.2.1 (allp l j ++ List.replicate g.1 (sK (gn [2, 3, 4] j : Int))).length g.2.2), (28, .int .i64 (g.1 : Int))]) [(0, _), (1, _), (7, _), (20, _), (21, _), (22, _), (27, _)] (fun g w => (g.1 ≤ l.length) ∧ Mz w w0.heap.size [⟨45, 4, g.2.1, (allp l j ++ List.replicate g.1 (sK (gn [2, 3, 4] j : Int))).length, g.2.2, sv (allp l j ++ List.replicate g.1 (sK (gn [2, 3, 4] j : Int)))⟩, ⟨3, 1, some ⟨gg5, 0, none⟩, 3, 3, nv [2, 3, 4]⟩] ∧ Below w0.heap.size w0 w) (fun g => l.length - g.1) ((0, pl, cl)) (Sub.cons' rfl (by simp only [List.replicate_zero, List.append_nil]) (Sub.cons rfl (Sub.nil _))) (Sub.cons rfl (Sub.cons rfl (Sub.cons rfl (Sub.cons rfl (Sub.cons rfl (Sub.cons rfl (Sub.cons rfl (Sub.nil _)))))))) ?_ ?_
      · exact ⟨Nat.zero_le _, hM, hB⟩
      rintro ⟨i, pl, cl⟩ w7 ⟨hi, hM, hB⟩
      try simp only at hM
      simp only [List.cons_append, List.nil_append]
      simp only at hi
      have hil : (allp l j ++ List.replicate i (sK (gn [2, 3, 4] j : Int))).length = (allp l j).length + i := by rw [List.length_append, List.length_replicate]
      have hil2 : (allp l j ++ List.replicate (i + 1) (sK (gn [2, 3, 4] j : Int))).length = (allp l j ++ List.replicate i (sK (gn [2, 3, 4] j : Int))).length + 1 := by rw [List.length_append, List.length_append, List.length_replicate, List.length_replicate]; omega
      refine W.seqR ?_
      refine LS.vv rfl rfl (by decide) (Val.lss rfl rfl) ?_
      refine LS.nil ?_
      refine W.seq ?_
      first | refine W.condD rfl (fun hc3 => ?_) (fun hc3 => ?_) | refine W.cond rfl (fun hc3 => ?_) (fun hc3 => ?_)
      ·
        refine W.skip ?_
        refine thenP_normal ?_
        refine W.seq ?_
        refine W.block ?_
        refine W.reg ?_
        refine LS.vv rfl rfl (by decide) (Val.move rfl) ?_
        refine LS.vv rfl rfl (by decide) (Val.move rfl) ?_
        refine LS.vv rfl rfl (by decide) (Val.build str45 elem45 rfl rfl rfl) ?_
        refine LS.m rfl (Step.litZ rfl rfl (by decide) Try.underlying37 elem45 rfl (by decide) rfl rfl (by decide) ?_)
        rintro w8 hO8 hg8 hbl8 hsz8
        replace hM := hM.add hB.size hbl8 hO8
        try simp only [List.length_cons, List.length_nil, Nat.zero_add, Nat.reduceAdd, Value.cells, List.toList_toArray, List.append_nil, List.set_cons_zero, List.set_cons_succ] at hM
        replace hB := hB.trans (hbl8.mono hB.size)
        generalize w7.heap.size = gg8 at *
        refine LS.m rfl (Step.appendZ (B := w0.heap.size) rfl rfl (by decide) Try.underlying37 elem45 rfl (by decide) rfl rfl (hM.o1) (hM.o0.rd) (by first | rfl | (simp; done) | (simp; omega)) (by first | exact one_map _ (fun _ => rfl) _ | simp [Value.oneCell']) (by omega) (by omega) hB.size ?_)
        rintro p9 c9 w9 hO9 hg9 hbl9 hbk9
        replace hM := hM.s1 (e := _) hg9 hO9 hbk9
        replace hM := hM.tail
        replace hB := hB.trans hbl9
        rw [show sv (allp l j ++ List.replicate i (sK (gn [2, 3, 4] j : Int))) ++ [Value.int .i64 (gn [2, 3, 4] j : Int), Value.int .i64 0, Value.int .i64 0, Value.int .u8 0] = sv (allp l j ++ List.replicate (i + 1) (sK (gn [2, 3, 4] j : Int))) from by rw [rep_succ]; exact sv_app1 _ (sK (gn [2, 3, 4] j : Int))] at hM
        refine LS.vv rfl rfl (by decide) (Val.assign rfl) ?_
        refine LS.nil ?_
        refine inBlk_normal ?_
        refine thenP_normal ?_
        refine W.reg ?_
        first | refine LS.vv rfl rfl (by decide) (Val.addN (j := 1) rfl rfl (by omega)) ?_ | refine LS.vv rfl rfl (by decide) (Val.add64 rfl rfl (by omega)) ?_
        refine LS.vv rfl rfl (by decide) (Val.move rfl) ?_
        refine LS.nil ?_
        refine thenP_normal ?_
        refine ⟨(i + 1, p9, c9), ?_, ?_, ⟨by simp only; omega, by simp only [hil2]; exact hM, hB⟩, by simp only; omega⟩
        · exact (Sub.cons' rfl (by simp only [hil2]) (Sub.cons rfl (Sub.nil _)))
        · repeat (first | exact Sub.nil _ | refine Sub.cons rfl ?_)
      ·
        refine W.exit ?_
        refine thenP_exit ?_
        refine thenP_exit ?_
        refine inBlk_exit ?_
        refine inBlk_normal ?_
        refine thenP_normal ?_
        refine W.reg ?_
        first | refine LS.vv rfl rfl (by decide) (Val.addN (j := 1) rfl rfl (by omega)) ?_ | refine LS.vv rfl rfl (by decide) (Val.add64 rfl rfl (by omega)) ?_
        refine LS.vv rfl rfl (by decide) (Val.move rfl) ?_
        refine LS.nil ?_
        refine thenP_normal ?_
        obtain rfl : i = l.length := by omega
        refine ⟨(j + 1, pl, cl), ?_, ?_, ⟨by simp only; omega, hM, hB⟩, by simp only; omega⟩
        · exact (Sub.cons rfl (Sub.cons rfl (Sub.nil _)))
        · repeat (first | exact Sub.nil _ | refine Sub.cons rfl ?_)
    ·
      obtain rfl : j = 3 := by omega
      refine W.exit ?_
      refine thenP_exit ?_
      refine thenP_exit ?_
      refine inBlk_exit ?_
      refine thenP_normal ?_
      refine W.seqR ?_
      refine LS.vv rfl rfl (by decide) (Val.move rfl) ?_
      refine LS.vv rfl rfl (by decide) (Val.build str45 elem45 rfl rfl rfl) ?_
      refine LS.m rfl (Step.litZ rfl rfl (by decide) Try.underlying37 elem45 rfl (by decide) rfl rfl (by decide) ?_)
      rintro w10 hO10 hg10 hbl10 hsz10
      replace hM := hM.add hB.size hbl10 hO10
      try simp only [List.length_cons, List.length_nil, Nat.zero_add, Nat.reduceAdd, Value.cells, List.toList_toArray, List.append_nil, List.set_cons_zero, List.set_cons_succ] at hM
      replace hB := hB.trans (hbl10.mono hB.size)
      generalize w6.heap.size = gg10 at *
      refine LS.m rfl (Step.appendZ (B := w0.heap.size) rfl rfl (by decide) Try.underlying37 elem45 rfl (by decide) rfl rfl (hM.o1) (hM.o0.rd) (by first | rfl | (simp; done) | (simp; omega)) (by first | exact one_map _ (fun _ => rfl) _ | simp [Value.oneCell']) (by omega) (by omega) hB.size ?_)
      rintro p11 c11 w11 hO11 hg11 hbl11 hbk11
      replace hM := hM.s1 (e := _) hg11 hO11 hbk11
      replace hM := hM.tail
      replace hB := hB.trans hbl11
      have hlen : (allOf l).length = (allp l 3).length + 1 := by rw [← allp_all, List.length_append]; rfl
      rw [show sv (allp l 3) ++ [Value.int .i64 5, Value.int .i64 0, Value.int .i64 0, Value.int .u8 0] = sv (allOf l) from by rw [← allp_all]; exact sv_app1 _ (sK 5)] at hM
      refine LS.vv rfl rfl (by decide) (Val.assign rfl) ?_
      refine LS.nil ?_
      refine W.seqR ?_
      refine LS.vv rfl rfl (by decide) (Val.move rfl) ?_
      refine LS.vv rfl rfl (by decide) (Val.move rfl) ?_
      refine LS.m rfl (Step.call body13 rfl rfl (by decide) rfl (CallsV.mono (Play_any mode (allOf l) _ _ _ _ hM.o0.rd hlen (by omega)) ?_))
      rintro _ w12 ⟨pc1, pm1, po1, cc1, cm1, co1, nc1, nm1, e1, told1, got1, put1, C1, MM1, OO1, rfl, he1, hMn1, h11, h21, hb12⟩
      replace hM := hM.adds hB.size hb12 hMn1
      replace hB := hB.trans (hb12.mono hB.size)
      simp only [List.cons_append, List.nil_append] at hM
      refine LS.vv rfl rfl (by decide) (Val.move rfl) ?_
      refine LS.vv rfl rfl (by decide) (Val.extract rfl rfl) ?_
      refine LS.vv rfl rfl (by decide) (Val.extract rfl rfl) ?_
      refine LS.m rfl (Step.allocZ rfl rfl (by decide) elem40 rfl (by decide) ?_)
      rintro w13 hO13 hg13 hbl13 hsz13
      replace hM := hM.add hB.size hbl13 hO13
      try simp only [List.length_cons, List.length_nil, Nat.zero_add, Nat.reduceAdd, Value.cells, List.toList_toArray, List.append_nil, List.set_cons_zero, List.set_cons_succ] at hM
      replace hB := hB.trans (hbl13.mono hB.size)
      generalize w12.heap.size = gg13 at *
      refine LS.m rfl (Step.storeAgg0 (B := w0.heap.size) rfl rfl agg40 rfl rfl rfl (by decide) (by first | exact one_map _ (fun _ => rfl) _ | simp [Value.oneCell']) (hM.o0) rfl hB.size ?_)
      rintro w14 hO14 hg14 hbl14 hsz14
      replace hM := hM.s0 (e := _) hg14 hO14 inl_block
      try simp only [List.set_cons_zero, List.set_cons_succ] at hM
      replace hB := hB.trans hbl14
      refine LS.vv rfl rfl (by decide) (Val.assign rfl) ?_
      refine LS.nil ?_
      refine W.seq ?_
      refine W.seqR ?_
      refine LS.vv rfl rfl (by decide) (Val.move rfl) ?_
      refine LS.vv rfl rfl (by decide) (Val.lss rfl rfl) ?_
      refine LS.vv rfl rfl (by decide) (Val.move rfl) ?_
      refine LS.split 2 rfl (fun hg4 => ?_) (fun hg4 => ?_)
      ·
        first | (have hg4p := of_decide_eq_true hg4) | skip
        refine LS.s rfl rfl rfl hg4 (by decide) ?_
        refine LS.s rfl rfl rfl hg4 (by decide) ?_
        refine LS.vv rfl rfl (by decide) (Val.pickT rfl hg4 rfl) ?_
        refine LS.nil ?_
        refine W.condT rfl ?_
        refine W.seqR ?_
        refine LS.vv rfl rfl (by decide) (Val.move rfl) ?_
        refine LS.vv rfl rfl (by decide) (Val.cast (v := .bool true) (Val.neq rfl rfl) (by refine congrArg Value.bool (decide_eq_true ?_); omega)) ?_
        refine LS.vv rfl rfl (by decide) (Val.assign rfl) ?_
        refine LS.nil ?_
        refine W.ret ?_
        refine thenP_ret ?_
        refine ret1 (by first | exact .inl rfl | exact .inr rfl) rfl ?_
        first | exact ⟨rfl, hB⟩ | contradiction | (exfalso; omega)
      ·
        first | (have hg4p := of_decide_eq_false hg4) | skip
        refine LS.vg rfl rfl rfl hg4 (by decide) (Val.move rfl) ?_
        refine LS.vg rfl rfl rfl hg4 (by decide) (Val.gtr rfl rfl) ?_
        refine LS.vv rfl rfl (by decide) (Val.pickF rfl hg4 rfl) ?_
        refine LS.nil ?_
        first | refine W.condD rfl (fun hc5 => ?_) (fun hc5 => ?_) | refine W.cond rfl (fun hc5 => ?_) (fun hc5 => ?_)
        ·
          refine W.seqR ?_
          refine LS.vv rfl rfl (by decide) (Val.move rfl) ?_
          refine LS.vv rfl rfl (by decide) (Val.cast (v := .bool true) (Val.neq rfl rfl) (by refine congrArg Value.bool (decide_eq_true ?_); omega)) ?_
          refine LS.vv rfl rfl (by decide) (Val.assign rfl) ?_
          refine LS.nil ?_
          refine W.ret ?_
          refine thenP_ret ?_
          refine ret1 (by first | exact .inl rfl | exact .inr rfl) rfl ?_
          first | exact ⟨rfl, hB⟩ | contradiction | (exfalso; omega)
        ·
          refine W.skip ?_
          refine thenP_normal ?_
          refine W.seq ?_
          refine W.seqR ?_
          refine LS.vv rfl rfl (by decide) (Val.move rfl) ?_
          have he1z : e1 = 0 := he1.2 (by omega)
          obtain ⟨ht1, hg1, hp1, rfl, rfl, rfl, rfl, rfl⟩ := h11 he1z
          obtain ⟨M, rfl⟩ := Int.eq_ofNat_of_zero_le (show 0 ≤ mode by omega)
          simp only [Int.toNat_natCast] at *
          obtain ⟨hs1, hs2, hs3, hs4⟩ := ship_all M l
          have hI := SI.all M (allOf l)
          have hm8 : (splay M (allOf l)).main.length = 8 := by rw [hI.main, apply_len]
          have ho8 : (splay M (allOf l)).other.length = 8 := by rw [hI.other, apply_len]
          refine LS.vv rfl rfl (by decide) (Val.cast (v := .bool false) (Val.neq rfl rfl) (by first | (simp; done) | (simp; omega) | (refine congrArg Value.bool (decide_eq_false ?_); omega))) ?_
          refine LS.vv rfl rfl (by decide) (Val.move rfl) ?_
          refine LS.vg rfl rfl rfl rfl (by decide) (Val.fieldAddr0 fld40_0 rfl) ?_
          refine LS.mg rfl rfl rfl (Step.load rfl rfl (by decide) flat38 rfl (hM.o0.rd) (rfl) ?_)
          refine LS.vg rfl rfl rfl rfl (by decide) (Val.len Try.underlying38 rfl) ?_
          refine LS.vg rfl rfl rfl rfl (by decide) (Val.move rfl) ?_
          refine LS.vg rfl rfl rfl rfl (by decide) (Val.len Try.underlying37 rfl) ?_
          refine LS.vg rfl rfl rfl rfl (by decide) (Val.cast (v := .bool false) (Val.neq rfl rfl) (by first | (simp; done) | (simp; omega) | (refine congrArg Value.bool (decide_eq_false ?_); omega))) ?_
          refine LS.vv rfl rfl (by decide) (Val.pickF rfl rfl rfl) ?_
          refine LS.vv rfl rfl (by decide) (Val.move rfl) ?_
          refine LS.vg rfl rfl rfl rfl (by decide) (Val.fieldAddr0 fld40_4 rfl) ?_
          refine LS.mg rfl rfl rfl (Step.load rfl rfl (by decide) flat31 rfl (hM.o0.rd) (rfl) ?_)
          refine LS.vg rfl rfl rfl rfl (by decide) (Val.len Try.underlying31 rfl) ?_
          refine LS.vg rfl rfl rfl rfl (by decide) (Val.cast (v := .bool false) (Val.neq rfl rfl) (by first | (simp; done) | (simp; omega) | (refine congrArg Value.bool (decide_eq_false ?_); omega))) ?_
          refine LS.vv rfl rfl (by decide) (Val.pickF rfl rfl rfl) ?_
          refine LS.nil ?_
          refine W.condF rfl ?_
          refine W.skip ?_
          refine thenP_normal ?_
          refine W.seqR ?_
          refine LS.vv rfl rfl (by decide) (Val.move rfl) ?_
          refine LS.vv rfl rfl (by decide) (Val.fieldAddr0 fld40_0 rfl) ?_
          refine LS.m rfl (Step.load rfl rfl (by decide) flat38 rfl (hM.o0.rd) (rfl) ?_)
          refine LS.m rfl (Step.call body14 rfl rfl (by decide) rfl (CallsV.mono (written_any (allOf l) _ _ _ _ _ _ _ _ hM.o4.rd hM.o1.rd hlen ((splay_codes M (allOf l)).trans hlen) rfl (by omega)) ?_))
          rintro _ w15 ⟨p2, c2, rfl, hO2, hb15⟩
          replace hM := hM.add hB.size hb15 hO2
          replace hB := hB.trans (hb15.mono hB.size)
          rw [← hlen, wrt_splay] at hM
          rw [← hlen, wrt_splay]
          refine LS.vv rfl rfl (by decide) (Val.len Try.underlying37 rfl) ?_
          refine LS.vv rfl rfl (by decide) (Val.assign rfl) ?_
          refine LS.nil ?_
          refine W.seqR ?_
          refine LS.vv rfl rfl (by decide) (Val.fieldAddr0 fld40_4 rfl) ?_
          refine LS.m rfl (Step.load rfl rfl (by decide) flat31 rfl (hM.o1.rd) (rfl) ?_)
          refine LS.vv rfl rfl (by decide) (Val.fieldAddr0 fld40_5 rfl) ?_
          refine LS.m rfl (Step.load rfl rfl (by decide) flat31 rfl (hM.o1.rd) (rfl) ?_)
          refine LS.m rfl (Step.call body15 rfl rfl (by decide) rfl (CallsV.mono (bytesEqN _ _ _ _ _ _ _ _ _ hM.o3.rd hM.o4.rd hm8 ho8 (by omega)) ?_))
          rintro _ w16 ⟨hbe, hb16⟩
          replace hM := hM.below hb16
          replace hB := hB.trans (hb16.mono hB.size)
          rw [decide_eq_true hs4] at hbe
          subst hbe
          refine LS.vv rfl rfl (by decide) (Val.move rfl) ?_
          refine LS.vg rfl rfl rfl rfl (by decide) (Val.fieldAddr0 fld40_1 rfl) ?_
          refine LS.mg rfl rfl rfl (Step.load rfl rfl (by decide) flat3 rfl (hM.o1.rd) (rfl) ?_)
          refine LS.vg rfl rfl rfl rfl (by decide) (Val.move rfl) ?_
          refine LS.vg rfl rfl rfl rfl (by decide) (Val.cast (v := .bool true) (Val.eql rfl rfl) (by refine congrArg Value.bool (decide_eq_true ?_); omega)) ?_
          refine LS.vv rfl rfl (by decide) (Val.pickT rfl rfl rfl) ?_
          refine LS.vv rfl rfl (by decide) (Val.move rfl) ?_
          refine LS.vg rfl rfl rfl rfl (by decide) (Val.fieldAddr0 fld40_2 rfl) ?_
          refine LS.mg rfl rfl rfl (Step.load rfl rfl (by decide) flat3 rfl (hM.o1.rd) (rfl) ?_)
          refine LS.vg rfl rfl rfl rfl (by decide) (Val.move rfl) ?_
          refine LS.vg rfl rfl rfl rfl (by decide) (Val.cast (v := .bool true) (Val.eql rfl rfl) (by refine congrArg Value.bool (decide_eq_true ?_); omega)) ?_
          refine LS.vv rfl rfl (by decide) (Val.pickT rfl rfl rfl) ?_
          refine LS.vv rfl rfl (by decide) (Val.move rfl) ?_
          refine LS.vg rfl rfl rfl rfl (by decide) (Val.fieldAddr0 fld40_3 rfl) ?_
          refine LS.mg rfl rfl rfl (Step.load rfl rfl (by decide) flat3 rfl (hM.o1.rd) (rfl) ?_)
          refine LS.vg rfl rfl rfl rfl (by decide) (Val.move rfl) ?_
          refine LS.vg rfl rfl rfl rfl (by decide) (Val.cast (v := .bool true) (Val.eql rfl rfl) (by refine congrArg Value.bool (decide_eq_true ?_); omega)) ?_
          refine LS.vv rfl rfl (by decide) (Val.pickT rfl rfl rfl) ?_
          refine LS.vv rfl rfl (by decide) (Val.assign rfl) ?_
          refine LS.nil ?_
          refine W.ret ?_
          refine ret1 (by first | exact .inl rfl | exact .inr rfl) rfl ?_
          first | exact ⟨rfl, hB⟩ | contradiction | (exfalso; omega)

end Go.Proofs.Ytldcpihjoakigaa
