/-
  The walk of phrase.Join.
-/
import Derived.Test.YtcoplafphgpmpaaJoinPlain
import Derived.Test.YtcoplafphgpmpaaVfacts3
import Derived.Test.YtcoplafphgpmpaaVtx
namespace Go.Proofs.Ytcoplafphgpmpaa
open Go Go.RowKit V
set_option linter.unusedVariables false
set_option linter.unusedSimpArgs false

theorem Join_any (L : List (Nat × Nat)) (p : Option Addr) (c m : Nat) (w0 : World) (hr : Rd w0 p (pc2 L)) (hm : L.length = m) (hl : m ≤ 64) (hpv : ∀ i, i < L.length → (gp L i).1 ≤ i) (hj : (joined L).length ≤ 64) :
    CallsV Try.prog 15 #[.slice p m c] w0 (fun v w => ∃ (p2 : Option Addr) (c2 : Nat), v = .tuple #[.slice p2 (joined L).length c2, .int .i64 0] ∧ OwnZ w w0.heap.size 5 1 p2 (joined L).length c2 (yv (joined L)) ∧ Below w0.heap.size w0 w) := by
  refine enter2 Try.func15 rfl Try.ntmps15 (by simp) rfl ?_
  have hB := Below.refl w0.heap.size w0
  simp only [argLoc]
  have hM := Mz.nil w0 w0.heap.size
  subst hm
  have hjm : ∀ k, k ≤ L.length → (joined (L.take k)).length ≤ 64 := fun k hk => Nat.le_trans (joined_len_mono hk (Nat.le_refl _)) (by rw [List.take_length]; exact hj)
  refine W.seqR ?_
  refine LS.vv rfl rfl (by decide) (Val.assign rfl) ?_
  refine LS.vv rfl rfl (by decide) (Val.cast (v := .int .i64 ((0 : Nat) : Int)) (Val.assign rfl) rfl) ?_
  refine LS.nil ?_
  refine W.seq ?_
  refine W.seqR ?_
  refine LS.vv rfl rfl (by decide) (Val.move rfl) ?_
  refine LS.vv rfl rfl (by decide) (Val.len Try.underlying23 rfl) ?_
  refine LS.vv rfl rfl (by decide) (Val.gtr rfl rfl) ?_
  refine LS.nil ?_
  first | refine W.condD rfl (fun hc1 => ?_) (fun hc1 => ?_) | refine W.cond rfl (fun hc1 => ?_) (fun hc1 => ?_)
  ·
    exfalso; omega
  ·
    refine W.skip ?_
    refine thenP_normal ?_
    refine W.seqR ?_
    refine LS.m rfl (Step.litZ rfl rfl (by decide) Try.underlying33 elem3 rfl (by decide) rfl rfl (by decide) ?_)
    rintro w1 hO1 hg1 hbl1 hsz1
    replace hM := hM.add hB.size hbl1 hO1
    try simp only [nv_app1, nv_app, nv_set, nv_rep, nv_one, nv_cons, nv_take, nv_drop, List.nil_append] at hM
    try simp only [List.length_cons, List.length_nil, Nat.zero_add, Nat.reduceAdd, Value.cells, List.toList_toArray, List.append_nil, List.set_cons_zero, List.set_cons_succ] at hM
    replace hB := hB.trans (hbl1.mono hB.size)
    skip
    refine LS.vv rfl rfl (by decide) (Val.assign rfl) ?_
    refine LS.nil ?_
    refine W.seqR ?_
    refine LS.vv rfl rfl (by decide) (Val.cast (v := .int .i64 ((0 : Nat) : Int)) (Val.assign rfl) rfl) ?_
    refine LS.nil ?_
    refine W.seq ?_
    refine W.seqR ?_
    refine LS.vv rfl rfl (by decide) (Val.move rfl) ?_
    refine LS.vv rfl rfl (by decide) (Val.len Try.underlying23 rfl) ?_
    refine LS.vv rfl rfl (by decide) (Val.cast (v := .int .i64 ((0 : Nat) : Int)) (Val.move rfl) rfl) ?_
    refine LS.nil ?_
    refine W.block ?_
    refine W.loop (α := Nat × Option Addr × Nat) (fun g => [(4, .slice g.2.1 (g.1 + 1) g.2.2), (5, .int .i64 ((joined (L.take g.1)).length : Int)), (19, .int .i64 (g.1 : Int))]) [(0, _), (17, _), (18, _)] (fun g w => (g.1 ≤ L.length) ∧ Mz w w0.heap.size [⟨3, 1, g.2.1, g.1 + 1, g.2.2, nv (szs L g.1)⟩] ∧ Below w0.heap.size w0 w) (fun g => L.length - g.1) ((0, _, 1)) (Sub.cons rfl (Sub.cons rfl (Sub.cons rfl (Sub.nil _)))) (Sub.cons rfl (Sub.cons rfl (Sub.cons rfl (Sub.nil _)))) ?_ ?_
    · exact ⟨Nat.zero_le _, hM, hB⟩
    rintro ⟨k, po, co⟩ w2 ⟨hk, hM, hB⟩
    try simp only at hM
    simp only [List.cons_append, List.nil_append]
    simp only at hk
    refine W.seqR ?_
    refine LS.vv rfl rfl (by decide) (Val.lss rfl rfl) ?_
    refine LS.nil ?_
    refine W.seq ?_
    first | refine W.condD rfl (fun hc2 => ?_) (fun hc2 => ?_) | refine W.cond rfl (fun hc2 => ?_) (fun hc2 => ?_)
    ·
      refine W.skip ?_
      refine thenP_normal ?_
      refine W.seq ?_
      refine W.block ?_
      refine W.seqR ?_
      refine LS.vv rfl rfl (by decide) (Val.move rfl) ?_
      refine LS.vv rfl rfl (by decide) (Val.indexAddr Try.underlying23 elem28 rfl rfl (by omega) ((hr.below hB)) (by rw [pc2_len]; omega)) ?_
      refine LS.m rfl (Step.loadAgg (vs := [.int .i64 ((gp L k).1 : Int), .int .u8 ((gp L k).2 : Int)]) rfl rfl (by decide) agg28 rfl ((hr.below hB)) ((pc2_at (by omega)).2) rfl (by decide) ?_)
      refine LS.m rfl (Step.allocZ rfl rfl (by decide) elem28 rfl (by decide) ?_)
      rintro w3 hO3 hg3 hbl3 hsz3
      replace hM := hM.add hB.size hbl3 hO3
      try simp only [List.length_cons, List.length_nil, Nat.zero_add, Nat.reduceAdd, Value.cells, List.toList_toArray, List.append_nil, List.set_cons_zero, List.set_cons_succ] at hM
      replace hB := hB.trans (hbl3.mono hB.size)
      generalize w2.heap.size = gg3 at *
      refine LS.vv rfl rfl (by decide) (Val.assign rfl) ?_
      refine LS.m rfl (Step.storeAgg0 (B := w0.heap.size) rfl rfl agg28 rfl rfl rfl (by decide) (by first | exact one_map _ (fun _ => rfl) _ | simp [Value.oneCell']) (hM.o0) rfl hB.size ?_)
      rintro w4 hO4 hg4 hbl4 hsz4
      replace hM := hM.s0 (e := _) hg4 hO4 inl_block
      try simp only [List.set_cons_zero, List.set_cons_succ] at hM
      replace hB := hB.trans hbl4
      refine LS.nil ?_
      refine W.seq ?_
      refine W.seqR ?_
      refine LS.vv rfl rfl (by decide) (Val.fieldAddr0 fld28_0 rfl) ?_
      refine LS.m rfl (Step.load rfl rfl (by decide) flat3 rfl (hM.o0.rd) (rfl) ?_)
      refine LS.vv rfl rfl (by decide) (Val.cast (v := .bool false) (Val.lss rfl rfl) (by refine congrArg Value.bool (decide_eq_false ?_); omega)) ?_
      refine LS.vv rfl rfl (by decide) (Val.move rfl) ?_
      refine LS.vg rfl rfl rfl rfl (by decide) (Val.fieldAddr0 fld28_0 rfl) ?_
      refine LS.mg rfl rfl rfl (Step.load rfl rfl (by decide) flat3 rfl (hM.o0.rd) (rfl) ?_)
      refine LS.vg rfl rfl rfl rfl (by decide) (Val.move rfl) ?_
      have hpk := hpv k (by omega)
      refine LS.vg rfl rfl rfl rfl (by decide) (Val.cast (v := .bool false) (Val.gtr rfl rfl) (by refine congrArg Value.bool (decide_eq_false ?_); omega)) ?_
      refine LS.vv rfl rfl (by decide) (Val.pickF rfl rfl rfl) ?_
      refine LS.nil ?_
      refine W.condF rfl ?_
      refine W.skip ?_
      refine thenP_normal ?_
      refine W.seqR ?_
      refine LS.vv rfl rfl (by decide) (Val.move rfl) ?_
      refine LS.vv rfl rfl (by decide) (Val.move rfl) ?_
      refine LS.vv rfl rfl (by decide) (Val.fieldAddr0 fld28_0 rfl) ?_
      refine LS.m rfl (Step.load rfl rfl (by decide) flat3 rfl (hM.o0.rd) (rfl) ?_)
      have hszl := szs_len (L := L) (k := k) (by omega)
      have hszb : gn (szs L k) (gp L k).1 ≤ 64 := by { rw [szs_gn]; exact Nat.le_trans txs_short (hjm k (by omega)) }
      refine LS.vv rfl rfl (by decide) (Val.index1 Try.underlying33 elem3 rfl rfl (by omega) (hM.o1.rd) (nv_lt (by omega))) ?_
      refine LS.m rfl (Step.load rfl rfl (by decide) flat3 rfl (hM.o1.rd) (nv_at (by omega)) ?_)
      first | refine LS.vv rfl rfl (by decide) (Val.addN (j := 1) rfl rfl (by omega)) ?_ | refine LS.vv rfl rfl (by decide) (Val.add64 rfl rfl (by omega)) ?_
      refine LS.m rfl (Step.litZ rfl rfl (by decide) Try.underlying33 elem3 rfl (by decide) rfl rfl (by decide) ?_)
      rintro w5 hO5 hg5 hbl5 hsz5
      replace hM := hM.add hB.size hbl5 hO5
      try simp only [List.length_cons, List.length_nil, Nat.zero_add, Nat.reduceAdd, Value.cells, List.toList_toArray, List.append_nil, List.set_cons_zero, List.set_cons_succ] at hM
      replace hB := hB.trans (hbl5.mono hB.size)
      generalize w4.heap.size = gg5 at *
      refine LS.m rfl (Step.appendZ (B := w0.heap.size) rfl rfl (by decide) Try.underlying33 elem3 rfl (by decide) rfl rfl (hM.o2) (hM.o0.rd) (by first | rfl | (simp; done) | (simp; omega)) (by first | exact one_map _ (fun _ => rfl) _ | simp [Value.oneCell']) (by omega) (by omega) hB.size ?_)
      rintro p6 c6 w6 hO6 hg6 hbl6 hbk6
      replace hM := hM.s2 (e := _) hg6 hO6 hbk6
      replace hM := hM.tail
      try simp only [nv_app1, nv_app, nv_set, nv_rep, nv_one, nv_cons, nv_take, nv_drop, List.nil_append] at hM
      replace hB := hB.trans hbl6
      rw [← szs_succ (by omega)] at hM
      have hszl2 := szs_len (L := L) (k := k + 1) (by omega)
      have hall := all_succ (L := L) (k := k) (by omega)
      have hjk := hjm k (by omega)
      have hjk1 := hjm (k + 1) (by omega)
      refine LS.vv rfl rfl (by decide) (Val.assign rfl) ?_
      refine LS.nil ?_
      refine W.reg ?_
      refine LS.vv rfl rfl (by decide) (Val.move rfl) ?_
      refine LS.vv rfl rfl (by decide) (Val.move rfl) ?_
      refine LS.vv rfl rfl (by decide) (Val.move rfl) ?_
      first | refine LS.vv rfl rfl (by decide) (Val.addN (j := 1) rfl rfl (by omega)) ?_ | refine LS.vv rfl rfl (by decide) (Val.add64 rfl rfl (by omega)) ?_
      refine LS.vv rfl rfl (by decide) (Val.index1 Try.underlying33 elem3 rfl rfl (by omega) (hM.o1.rd) (nv_lt (by omega))) ?_
      refine LS.m rfl (Step.load rfl rfl (by decide) flat3 rfl (hM.o1.rd) (nv_at (by omega)) ?_)
      first | refine LS.vv rfl rfl (by decide) (Val.addN rfl rfl (by omega)) ?_ | refine LS.vv rfl rfl (by decide) (Val.add64 rfl rfl (by omega)) ?_
      refine LS.vv rfl rfl (by decide) (Val.assign rfl) ?_
      refine LS.nil ?_
      refine inBlk_normal ?_
      refine thenP_normal ?_
      refine W.reg ?_
      first | refine LS.vv rfl rfl (by decide) (Val.addN (j := 1) rfl rfl (by omega)) ?_ | refine LS.vv rfl rfl (by decide) (Val.add64 rfl rfl (by omega)) ?_
      refine LS.vv rfl rfl (by decide) (Val.move rfl) ?_
      refine LS.nil ?_
      refine thenP_normal ?_
      refine ⟨(k + 1, p6, c6), ?_, ?_, ⟨by simp only; omega, ?_, hB⟩, by simp only; omega⟩
      · exact (Sub.cons rfl (Sub.cons' rfl (by refine congrArg (Value.int .i64) ?_; simp only; omega) (Sub.cons rfl (Sub.nil _))))
      · repeat (first | exact Sub.nil _ | refine Sub.cons rfl ?_)
      · exact hM.tail
    ·
      refine W.exit ?_
      refine thenP_exit ?_
      refine thenP_exit ?_
      refine inBlk_exit ?_
      refine thenP_normal ?_
      refine W.seq ?_
      refine W.seqR ?_
      refine LS.vv rfl rfl (by decide) (Val.move rfl) ?_
      refine LS.vv rfl rfl (by decide) (Val.gtr rfl rfl) ?_
      refine LS.nil ?_
      first | refine W.condD rfl (fun hc3 => ?_) (fun hc3 => ?_) | refine W.cond rfl (fun hc3 => ?_) (fun hc3 => ?_)
      ·
        exfalso; obtain rfl : k = L.length := (by omega); have := hjm L.length (Nat.le_refl _); omega
      ·
        refine W.skip ?_
        refine thenP_normal ?_
        refine W.seqR ?_
        refine LS.m rfl (Step.litZ rfl rfl (by decide) Try.underlying62 elem22 rfl (by decide) rfl rfl (by decide) ?_)
        rintro w7 hO7 hg7 hbl7 hsz7
        replace hM := hM.add hB.size hbl7 hO7
        try simp only [List.length_cons, List.length_nil, Nat.zero_add, Nat.reduceAdd, Value.cells, List.toList_toArray, List.append_nil, List.set_cons_zero, List.set_cons_succ] at hM
        replace hB := hB.trans (hbl7.mono hB.size)
        generalize w2.heap.size = gg7 at *
        refine LS.vv rfl rfl (by decide) (Val.assign rfl) ?_
        refine LS.nil ?_
        refine W.seqR ?_
        refine LS.vv rfl rfl (by decide) (Val.assign rfl) ?_
        refine LS.nil ?_
        refine W.seq ?_
        refine W.seqR ?_
        refine LS.vv rfl rfl (by decide) (Val.move rfl) ?_
        refine LS.vv rfl rfl (by decide) (Val.len Try.underlying23 rfl) ?_
        refine LS.vv rfl rfl (by decide) (Val.cast (v := .int .i64 ((0 : Nat) : Int)) (Val.move rfl) rfl) ?_
        refine LS.nil ?_
        refine W.block ?_
        replace hM := hM.drop1.nil2 5
        refine W.loop (α := Nat × Option Addr × Nat × Option Addr × Nat × List Tx) (fun g => [(8, .slice g.2.1 g.2.2.2.2.2.length g.2.2.1), (9, .slice g.2.2.2.1 (joined (L.take g.1)).length g.2.2.2.2.1), (55, .int .i64 (g.1 : Int))]) [(53, _), (54, _)] (fun g w => (g.1 ≤ L.length ∧ g.2.2.2.2.2.map (·.l) = txs (L.take g.1)) ∧ Mz w w0.heap.size (⟨22, 1, g.2.1, g.2.2.2.2.2.length, g.2.2.1, tv g.2.2.2.2.2⟩ :: ⟨5, 1, g.2.2.2.1, (joined (L.take g.1)).length, g.2.2.2.2.1, yv (joined (L.take g.1))⟩ :: (tz 5 g.2.2.2.2.2)) ∧ Below w0.heap.size w0 w) (fun g => L.length - g.1) ((0, _, 1, none, 0, [⟨none, 0, []⟩])) (Sub.cons rfl (Sub.cons rfl (Sub.cons rfl (Sub.nil _)))) (Sub.cons rfl (Sub.cons rfl (Sub.nil _))) ?_ ?_
        · exact ⟨⟨Nat.zero_le _, rfl⟩, hM, hB⟩
        rintro ⟨k, pt, ct, po, co, T⟩ w8 ⟨⟨hk, hT⟩, hM, hB⟩
        try simp only at hM
        simp only [List.cons_append, List.nil_append]
        simp only at hk hT
        have hTl : T.length = k + 1 := by { have := congrArg List.length hT; rw [List.length_map, txs_take_len hk] at this; exact this }
        have hjk := hjm k hk
        refine W.seqR ?_
        refine LS.vv rfl rfl (by decide) (Val.lss rfl rfl) ?_
        refine LS.nil ?_
        refine W.seq ?_
        first | refine W.condD rfl (fun hc4 => ?_) (fun hc4 => ?_) | refine W.cond rfl (fun hc4 => ?_) (fun hc4 => ?_)
        ·
          refine W.skip ?_
          refine thenP_normal ?_
          refine W.seq ?_
          refine W.block ?_
          refine W.seqR ?_
          refine LS.vv rfl rfl (by decide) (Val.indexAddr Try.underlying23 elem28 rfl rfl (by omega) ((hr.below hB)) (by rw [pc2_len]; omega)) ?_
          refine LS.m rfl (Step.loadAgg (vs := [.int .i64 ((gp L k).1 : Int), .int .u8 ((gp L k).2 : Int)]) rfl rfl (by decide) agg28 rfl ((hr.below hB)) ((pc2_at (by omega)).2) rfl (by decide) ?_)
          refine LS.m rfl (Step.allocZ rfl rfl (by decide) elem28 rfl (by decide) ?_)
          rintro w9 hO9 hg9 hbl9 hsz9
          replace hM := hM.add hB.size hbl9 hO9
          try simp only [List.length_cons, List.length_nil, Nat.zero_add, Nat.reduceAdd, Value.cells, List.toList_toArray, List.append_nil, List.set_cons_zero, List.set_cons_succ] at hM
          replace hB := hB.trans (hbl9.mono hB.size)
          generalize w8.heap.size = gg9 at *
          refine LS.m rfl (Step.storeAgg0 (B := w0.heap.size) rfl rfl agg28 rfl rfl rfl (by decide) (by first | exact one_map _ (fun _ => rfl) _ | simp [Value.oneCell']) (hM.o0) rfl hB.size ?_)
          rintro w10 hO10 hg10 hbl10 hsz10
          replace hM := hM.s0 (e := _) hg10 hO10 inl_block
          try simp only [List.set_cons_zero, List.set_cons_succ] at hM
          replace hB := hB.trans hbl10
          refine LS.nil ?_
          have hstk := hM
          refine W.seqT (S := fun w => Below w0.heap.size w0 w ∧ Mz w w0.heap.size _) (.val 1 (.val 2 (.val 3 (.val 4 (.val 5 (.val 7 (.val 8 (.two (.mem 0 (.two (.mem 6 (.mem 9 (.mem 10 (.val 11 (.done))))) (.mem 9 (.mem 6 (.mem 10 (.val 11 (.done))))))) (.mem 9 (.mem 0 (.mem 6 (.mem 10 (.val 11 (.done)))))))))))))) mixed (by kernel_rfl) ⟨hB.drew, hM.drew⟩ ?_
          replace hB := hB.drew
          replace hM := hM.drew
          refine DT.vv rfl rfl rfl (by decide) (Val.move rfl) ?_
          refine DT.vv rfl rfl rfl (by decide) (Val.fieldAddr0 fld28_0 rfl) ?_
          refine DT.vv rfl rfl rfl (by decide) (Val.load flat3 rfl (fun _ h => h.2.o0.rd) (rfl)) ?_
          have hpk := hpv k (by omega)
          have hTp : (gp L k).1 < T.length := by omega
          have hx : (gT T (gp L k).1).l = (txs (L.take k)).getD (gp L k).1 [] := by { rw [← hT]; simp [gT, List.getD_eq_getElem?_getD, hTp] }
          have hxl : (gT T (gp L k).1).l.length ≤ 64 := by { rw [hx]; exact Nat.le_trans txs_short hjk }
          have hjk1 := hjm (k + 1) (by omega)
          have hjn := joined_take (L := L) (k := k) (by omega)
          have htn := txs_take (L := L) (k := k) (by omega)
          rw [← hx] at hjn htn
          refine DT.vv rfl rfl rfl (by decide) (Val.index1 Try.underlying62 elem22 rfl rfl (by omega) (hM.o1.rd) (by rw [tv_len]; omega)) ?_
          refine DT.vv rfl rfl rfl (by decide) (Val.load flat22 rfl (fun _ h => h.2.o1.rd) (tv_at hTp)) ?_
          refine DT.vv rfl rfl rfl (by decide) (Val.fieldAddr0 fld28_1 rfl) ?_
          refine DT.vv rfl rfl rfl (by decide) (Val.load flat5 rfl (fun _ h => h.2.o0.rd) (rfl)) ?_
          refine DT.two ?_ ?_
          ·
            refine DT.m rfl rfl (Step.litZ rfl rfl (by decide) Try.underlying22 elem5 rfl (by decide) rfl rfl (by decide) ?_)
            rintro w11 hO11 hg11 hbl11 hsz11
            replace hM := hM.add hB.size hbl11 hO11
            try simp only [yv_app1, yv_app, yv_set, yv_rep, yv_one, yv_cons, yv_take, yv_drop, List.nil_append] at hM
            try simp only [List.length_cons, List.length_nil, Nat.zero_add, Nat.reduceAdd, Value.cells, List.toList_toArray, List.append_nil, List.set_cons_zero, List.set_cons_succ] at hM
            replace hB := hB.trans (hbl11.mono hB.size)
            generalize w10.drew.heap.size = gg11 at *
            refine ⟨⟨hB, hM.tail⟩, ?_⟩
            refine DT.two ?_ ?_
            ·
              refine DT.m rfl rfl (Step.appendZ (B := w0.heap.size) rfl rfl (by decide) Try.underlying22 elem5 rfl (by decide) rfl rfl (hM.o0) ((hM.tx hTp (by intro o ho; repeat (first | exact ho | apply List.mem_cons_of_mem)))) (by simp) (by first | exact one_map _ (fun _ => rfl) _ | simp [Value.oneCell']) (by omega) (by omega) hB.size ?_)
              rintro p12 c12 w12 hO12 hg12 hbl12 hbk12
              replace hM := hM.s0 (e := _) hg12 hO12 hbk12
              try simp only [yv_app1, yv_app, yv_set, yv_rep, yv_one, yv_cons, yv_take, yv_drop, List.nil_append] at hM
              replace hB := hB.trans hbl12
              refine ⟨⟨hB, hM.tail⟩, ?_⟩
              rw [Nat.zero_add] at hM
              rw [Nat.zero_add]
              refine DT.m rfl rfl (Step.litZ rfl rfl (by decide) Try.underlying22 elem5 rfl (by decide) rfl rfl (by decide) ?_)
              rintro w13 hO13 hg13 hbl13 hsz13
              replace hM := hM.add hB.size hbl13 hO13
              try simp only [List.length_cons, List.length_nil, Nat.zero_add, Nat.reduceAdd, Value.cells, List.toList_toArray, List.append_nil, List.set_cons_zero, List.set_cons_succ] at hM
              replace hB := hB.trans (hbl13.mono hB.size)
              generalize w12.heap.size = gg13 at *
              refine ⟨⟨hB, hM.tail.tail⟩, ?_⟩
              refine DT.m rfl rfl (Step.appendZ (B := w0.heap.size) rfl rfl (by decide) Try.underlying22 elem5 rfl (by decide) rfl rfl (hM.o1) (hM.o0.rd) (by first | rfl | (simp; done) | (simp; omega)) (by first | exact one_map _ (fun _ => rfl) _ | simp [Value.oneCell']) (by omega) (by omega) hB.size ?_)
              rintro p14 c14 w14 hO14 hg14 hbl14 hbk14
              replace hM := hM.s1 (e := _) hg14 hO14 hbk14
              replace hM := hM.tail
              try simp only [yv_app1, yv_app, yv_set, yv_rep, yv_one, yv_cons, yv_take, yv_drop, List.nil_append] at hM
              replace hB := hB.trans hbl14
              refine ⟨⟨hB, hM.tail⟩, ?_⟩
              refine DT.vv rfl rfl rfl (by decide) (Val.assign rfl) ?_
              refine DT.nil ?_
              refine W.reg ?_
              refine LS.vv rfl rfl (by decide) (Val.move rfl) ?_
              refine LS.vv rfl rfl (by decide) (Val.move rfl) ?_
              refine LS.m rfl (Step.litZ rfl rfl (by decide) Try.underlying62 elem22 rfl (by decide) rfl rfl (by decide) ?_)
              rintro w15 hO15 hg15 hbl15 hsz15
              replace hM := hM.add hB.size hbl15 hO15
              try simp only [List.length_cons, List.length_nil, Nat.zero_add, Nat.reduceAdd, Value.cells, List.toList_toArray, List.append_nil, List.set_cons_zero, List.set_cons_succ] at hM
              replace hB := hB.trans (hbl15.mono hB.size)
              generalize w14.heap.size = gg15 at *
              refine LS.m rfl (Step.appendZ (B := w0.heap.size) rfl rfl (by decide) Try.underlying62 elem22 rfl (by decide) rfl rfl (hM.o3) (hM.o0.rd) (by first | rfl | (simp; done) | (simp; omega)) (by first | exact one_map _ (fun _ => rfl) _ | simp [Value.oneCell']) (by omega) (by omega) hB.size ?_)
              rintro p16 c16 w16 hO16 hg16 hbl16 hbk16
              replace hM := hM.s3 (e := _) hg16 hO16 hbk16
              replace hM := hM.tail
              replace hB := hB.trans hbl16
              refine LS.vv rfl rfl (by decide) (Val.move rfl) ?_
              refine LS.vv rfl rfl (by decide) (Val.move rfl) ?_
              refine LS.m rfl (Step.appendZ (B := w0.heap.size) rfl rfl (by decide) Try.underlying22 elem5 rfl (by decide) rfl rfl (hM.o3) (hM.o0.rd) (by first | rfl | (simp; done) | (simp; omega)) (by first | exact one_map _ (fun _ => rfl) _ | simp [Value.oneCell']) (by omega) (by omega) hB.size ?_)
              rintro p17 c17 w17 hO17 hg17 hbl17 hbk17
              replace hM := hM.s3 (e := _) hg17 hO17 hbk17
              try simp only [yv_app1, yv_app, yv_set, yv_rep, yv_one, yv_cons, yv_take, yv_drop, List.nil_append] at hM
              replace hB := hB.trans hbl17
              refine LS.vv rfl rfl (by decide) (Val.assign rfl) ?_
              refine LS.vv rfl rfl (by decide) (Val.assign rfl) ?_
              refine LS.nil ?_
              refine inBlk_normal ?_
              refine thenP_normal ?_
              refine W.reg ?_
              first | refine LS.vv rfl rfl (by decide) (Val.addN (j := 1) rfl rfl (by omega)) ?_ | refine LS.vv rfl rfl (by decide) (Val.add64 rfl rfl (by omega)) ?_
              refine LS.vv rfl rfl (by decide) (Val.move rfl) ?_
              refine LS.nil ?_
              refine thenP_normal ?_
              have hxa : (gT T (gp L k).1).l.length + 1 = ((gT T (gp L k).1).l ++ [(gp L k).2]).length := by simp
              have e1 : (T ++ [(⟨p14, c14, (gT T (gp L k).1).l ++ [(gp L k).2]⟩ : Tx)]).length = T.length + 1 := by simp
              have e2 : (joined (L.take (k + 1))).length = (joined (L.take k)).length + ((gT T (gp L k).1).l.length + 1) := by { rw [hjn]; simp }
              refine ⟨(k + 1, p16, c16, p17, c17, T ++ [⟨p14, c14, (gT T (gp L k).1).l ++ [(gp L k).2]⟩]), ?_, ?_, ⟨⟨by simp only; omega, ?_⟩, ?_, hB⟩, by simp only; omega⟩
              · exact (Sub.cons' rfl (by simp only [e1]) (Sub.cons' rfl (by simp only [e2]) (Sub.cons rfl (Sub.nil _))))
              · repeat (first | exact Sub.nil _ | refine Sub.cons rfl ?_)
              · simp only; rw [htn, List.map_append, hT]; rfl
              · simp only [e1, e2]; rw [hjn, tz_app1, ← tv_app1]; simp only [← hxa]; exact hM.drop1.last
            ·
              refine DT.m rfl rfl (Step.litZ rfl rfl (by decide) Try.underlying22 elem5 rfl (by decide) rfl rfl (by decide) ?_)
              rintro w18 hO18 hg18 hbl18 hsz18
              replace hM := hM.add hB.size hbl18 hO18
              try simp only [List.length_cons, List.length_nil, Nat.zero_add, Nat.reduceAdd, Value.cells, List.toList_toArray, List.append_nil, List.set_cons_zero, List.set_cons_succ] at hM
              replace hB := hB.trans (hbl18.mono hB.size)
              generalize w11.heap.size = gg18 at *
              refine ⟨⟨hB, hM.tail.tail⟩, ?_⟩
              refine DT.m rfl rfl (Step.appendZ (B := w0.heap.size) rfl rfl (by decide) Try.underlying22 elem5 rfl (by decide) rfl rfl (hM.o1) ((hM.tx hTp (by intro o ho; repeat (first | exact ho | apply List.mem_cons_of_mem)))) (by simp) (by first | exact one_map _ (fun _ => rfl) _ | simp [Value.oneCell']) (by omega) (by omega) hB.size ?_)
              rintro p19 c19 w19 hO19 hg19 hbl19 hbk19
              replace hM := hM.s1 (e := _) hg19 hO19 hbk19
              try simp only [yv_app1, yv_app, yv_set, yv_rep, yv_one, yv_cons, yv_take, yv_drop, List.nil_append] at hM
              replace hB := hB.trans hbl19
              refine ⟨⟨hB, hM.tail.tail⟩, ?_⟩
              rw [Nat.zero_add] at hM
              rw [Nat.zero_add]
              refine DT.m rfl rfl (Step.appendZ (B := w0.heap.size) rfl rfl (by decide) Try.underlying22 elem5 rfl (by decide) rfl rfl (hM.o1) (hM.o0.rd) (by first | rfl | (simp; done) | (simp; omega)) (by first | exact one_map _ (fun _ => rfl) _ | simp [Value.oneCell']) (by omega) (by omega) hB.size ?_)
              rintro p20 c20 w20 hO20 hg20 hbl20 hbk20
              replace hM := hM.s1 (e := _) hg20 hO20 hbk20
              replace hM := hM.tail
              try simp only [yv_app1, yv_app, yv_set, yv_rep, yv_one, yv_cons, yv_take, yv_drop, List.nil_append] at hM
              replace hB := hB.trans hbl20
              refine ⟨⟨hB, hM.tail⟩, ?_⟩
              refine DT.vv rfl rfl rfl (by decide) (Val.assign rfl) ?_
              refine DT.nil ?_
              refine W.reg ?_
              refine LS.vv rfl rfl (by decide) (Val.move rfl) ?_
              refine LS.vv rfl rfl (by decide) (Val.move rfl) ?_
              refine LS.m rfl (Step.litZ rfl rfl (by decide) Try.underlying62 elem22 rfl (by decide) rfl rfl (by decide) ?_)
              rintro w21 hO21 hg21 hbl21 hsz21
              replace hM := hM.add hB.size hbl21 hO21
              try simp only [List.length_cons, List.length_nil, Nat.zero_add, Nat.reduceAdd, Value.cells, List.toList_toArray, List.append_nil, List.set_cons_zero, List.set_cons_succ] at hM
              replace hB := hB.trans (hbl21.mono hB.size)
              generalize w20.heap.size = gg21 at *
              refine LS.m rfl (Step.appendZ (B := w0.heap.size) rfl rfl (by decide) Try.underlying62 elem22 rfl (by decide) rfl rfl (hM.o3) (hM.o0.rd) (by first | rfl | (simp; done) | (simp; omega)) (by first | exact one_map _ (fun _ => rfl) _ | simp [Value.oneCell']) (by omega) (by omega) hB.size ?_)
              rintro p22 c22 w22 hO22 hg22 hbl22 hbk22
              replace hM := hM.s3 (e := _) hg22 hO22 hbk22
              replace hM := hM.tail
              replace hB := hB.trans hbl22
              refine LS.vv rfl rfl (by decide) (Val.move rfl) ?_
              refine LS.vv rfl rfl (by decide) (Val.move rfl) ?_
              refine LS.m rfl (Step.appendZ (B := w0.heap.size) rfl rfl (by decide) Try.underlying22 elem5 rfl (by decide) rfl rfl (hM.o3) (hM.o0.rd) (by first | rfl | (simp; done) | (simp; omega)) (by first | exact one_map _ (fun _ => rfl) _ | simp [Value.oneCell']) (by omega) (by omega) hB.size ?_)
              rintro p23 c23 w23 hO23 hg23 hbl23 hbk23
              replace hM := hM.s3 (e := _) hg23 hO23 hbk23
              try simp only [yv_app1, yv_app, yv_set, yv_rep, yv_one, yv_cons, yv_take, yv_drop, List.nil_append] at hM
              replace hB := hB.trans hbl23
              refine LS.vv rfl rfl (by decide) (Val.assign rfl) ?_
              refine LS.vv rfl rfl (by decide) (Val.assign rfl) ?_
              refine LS.nil ?_
              refine inBlk_normal ?_
              refine thenP_normal ?_
              refine W.reg ?_
              first | refine LS.vv rfl rfl (by decide) (Val.addN (j := 1) rfl rfl (by omega)) ?_ | refine LS.vv rfl rfl (by decide) (Val.add64 rfl rfl (by omega)) ?_
              refine LS.vv rfl rfl (by decide) (Val.move rfl) ?_
              refine LS.nil ?_
              refine thenP_normal ?_
              have hxa : (gT T (gp L k).1).l.length + 1 = ((gT T (gp L k).1).l ++ [(gp L k).2]).length := by simp
              have e1 : (T ++ [(⟨p20, c20, (gT T (gp L k).1).l ++ [(gp L k).2]⟩ : Tx)]).length = T.length + 1 := by simp
              have e2 : (joined (L.take (k + 1))).length = (joined (L.take k)).length + ((gT T (gp L k).1).l.length + 1) := by { rw [hjn]; simp }
              refine ⟨(k + 1, p22, c22, p23, c23, T ++ [⟨p20, c20, (gT T (gp L k).1).l ++ [(gp L k).2]⟩]), ?_, ?_, ⟨⟨by simp only; omega, ?_⟩, ?_, hB⟩, by simp only; omega⟩
              · exact (Sub.cons' rfl (by simp only [e1]) (Sub.cons' rfl (by simp only [e2]) (Sub.cons rfl (Sub.nil _))))
              · repeat (first | exact Sub.nil _ | refine Sub.cons rfl ?_)
              · simp only; rw [htn, List.map_append, hT]; rfl
              · simp only [e1, e2]; rw [hjn, tz_app1, ← tv_app1]; simp only [← hxa]; exact hM.drop1.last
          ·
            refine DT.m rfl rfl (Step.litZ rfl rfl (by decide) Try.underlying22 elem5 rfl (by decide) rfl rfl (by decide) ?_)
            rintro w24 hO24 hg24 hbl24 hsz24
            replace hM := hM.add hB.size hbl24 hO24
            try simp only [List.length_cons, List.length_nil, Nat.zero_add, Nat.reduceAdd, Value.cells, List.toList_toArray, List.append_nil, List.set_cons_zero, List.set_cons_succ] at hM
            replace hB := hB.trans (hbl24.mono hB.size)
            generalize w10.drew.heap.size = gg24 at *
            refine ⟨⟨hB, hM.tail⟩, ?_⟩
            refine DT.m rfl rfl (Step.litZ rfl rfl (by decide) Try.underlying22 elem5 rfl (by decide) rfl rfl (by decide) ?_)
            rintro w25 hO25 hg25 hbl25 hsz25
            replace hM := hM.add hB.size hbl25 hO25
            try simp only [yv_app1, yv_app, yv_set, yv_rep, yv_one, yv_cons, yv_take, yv_drop, List.nil_append] at hM
            try simp only [List.length_cons, List.length_nil, Nat.zero_add, Nat.reduceAdd, Value.cells, List.toList_toArray, List.append_nil, List.set_cons_zero, List.set_cons_succ] at hM
            replace hB := hB.trans (hbl25.mono hB.size)
            generalize w24.heap.size = gg25 at *
            refine ⟨⟨hB, hM.tail.tail⟩, ?_⟩
            refine DT.m rfl rfl (Step.appendZ (B := w0.heap.size) rfl rfl (by decide) Try.underlying22 elem5 rfl (by decide) rfl rfl (hM.o0) ((hM.tx hTp (by intro o ho; repeat (first | exact ho | apply List.mem_cons_of_mem)))) (by simp) (by first | exact one_map _ (fun _ => rfl) _ | simp [Value.oneCell']) (by omega) (by omega) hB.size ?_)
            rintro p26 c26 w26 hO26 hg26 hbl26 hbk26
            replace hM := hM.s0 (e := _) hg26 hO26 hbk26
            try simp only [yv_app1, yv_app, yv_set, yv_rep, yv_one, yv_cons, yv_take, yv_drop, List.nil_append] at hM
            replace hB := hB.trans hbl26
            refine ⟨⟨hB, hM.tail.tail⟩, ?_⟩
            rw [Nat.zero_add] at hM
            rw [Nat.zero_add]
            refine DT.m rfl rfl (Step.appendZ (B := w0.heap.size) rfl rfl (by decide) Try.underlying22 elem5 rfl (by decide) rfl rfl (hM.o0) (hM.o1.rd) (by first | rfl | (simp; done) | (simp; omega)) (by first | exact one_map _ (fun _ => rfl) _ | simp [Value.oneCell']) (by omega) (by omega) hB.size ?_)
            rintro p27 c27 w27 hO27 hg27 hbl27 hbk27
            replace hM := hM.s0 (e := _) hg27 hO27 hbk27
            replace hM := hM.drop1
            try simp only [yv_app1, yv_app, yv_set, yv_rep, yv_one, yv_cons, yv_take, yv_drop, List.nil_append] at hM
            replace hB := hB.trans hbl27
            refine ⟨⟨hB, hM.tail⟩, ?_⟩
            refine DT.vv rfl rfl rfl (by decide) (Val.assign rfl) ?_
            refine DT.nil ?_
            refine W.reg ?_
            refine LS.vv rfl rfl (by decide) (Val.move rfl) ?_
            refine LS.vv rfl rfl (by decide) (Val.move rfl) ?_
            refine LS.m rfl (Step.litZ rfl rfl (by decide) Try.underlying62 elem22 rfl (by decide) rfl rfl (by decide) ?_)
            rintro w28 hO28 hg28 hbl28 hsz28
            replace hM := hM.add hB.size hbl28 hO28
            try simp only [List.length_cons, List.length_nil, Nat.zero_add, Nat.reduceAdd, Value.cells, List.toList_toArray, List.append_nil, List.set_cons_zero, List.set_cons_succ] at hM
            replace hB := hB.trans (hbl28.mono hB.size)
            generalize w27.heap.size = gg28 at *
            refine LS.m rfl (Step.appendZ (B := w0.heap.size) rfl rfl (by decide) Try.underlying62 elem22 rfl (by decide) rfl rfl (hM.o3) (hM.o0.rd) (by first | rfl | (simp; done) | (simp; omega)) (by first | exact one_map _ (fun _ => rfl) _ | simp [Value.oneCell']) (by omega) (by omega) hB.size ?_)
            rintro p29 c29 w29 hO29 hg29 hbl29 hbk29
            replace hM := hM.s3 (e := _) hg29 hO29 hbk29
            replace hM := hM.tail
            replace hB := hB.trans hbl29
            refine LS.vv rfl rfl (by decide) (Val.move rfl) ?_
            refine LS.vv rfl rfl (by decide) (Val.move rfl) ?_
            refine LS.m rfl (Step.appendZ (B := w0.heap.size) rfl rfl (by decide) Try.underlying22 elem5 rfl (by decide) rfl rfl (hM.o3) (hM.o0.rd) (by first | rfl | (simp; done) | (simp; omega)) (by first | exact one_map _ (fun _ => rfl) _ | simp [Value.oneCell']) (by omega) (by omega) hB.size ?_)
            rintro p30 c30 w30 hO30 hg30 hbl30 hbk30
            replace hM := hM.s3 (e := _) hg30 hO30 hbk30
            try simp only [yv_app1, yv_app, yv_set, yv_rep, yv_one, yv_cons, yv_take, yv_drop, List.nil_append] at hM
            replace hB := hB.trans hbl30
            refine LS.vv rfl rfl (by decide) (Val.assign rfl) ?_
            refine LS.vv rfl rfl (by decide) (Val.assign rfl) ?_
            refine LS.nil ?_
            refine inBlk_normal ?_
            refine thenP_normal ?_
            refine W.reg ?_
            first | refine LS.vv rfl rfl (by decide) (Val.addN (j := 1) rfl rfl (by omega)) ?_ | refine LS.vv rfl rfl (by decide) (Val.add64 rfl rfl (by omega)) ?_
            refine LS.vv rfl rfl (by decide) (Val.move rfl) ?_
            refine LS.nil ?_
            refine thenP_normal ?_
            have hxa : (gT T (gp L k).1).l.length + 1 = ((gT T (gp L k).1).l ++ [(gp L k).2]).length := by simp
            have e1 : (T ++ [(⟨p27, c27, (gT T (gp L k).1).l ++ [(gp L k).2]⟩ : Tx)]).length = T.length + 1 := by simp
            have e2 : (joined (L.take (k + 1))).length = (joined (L.take k)).length + ((gT T (gp L k).1).l.length + 1) := by { rw [hjn]; simp }
            refine ⟨(k + 1, p29, c29, p30, c30, T ++ [⟨p27, c27, (gT T (gp L k).1).l ++ [(gp L k).2]⟩]), ?_, ?_, ⟨⟨by simp only; omega, ?_⟩, ?_, hB⟩, by simp only; omega⟩
            · exact (Sub.cons' rfl (by simp only [e1]) (Sub.cons' rfl (by simp only [e2]) (Sub.cons rfl (Sub.nil _))))
            · repeat (first | exact Sub.nil _ | refine Sub.cons rfl ?_)
            · simp only; rw [htn, List.map_append, hT]; rfl
            · simp only [e1, e2]; rw [hjn, tz_app1, ← tv_app1]; simp only [← hxa]; exact hM.drop1.last
        ·
          refine W.exit ?_
          refine thenP_exit ?_
          refine thenP_exit ?_
          refine inBlk_exit ?_
          refine thenP_normal ?_
          refine W.seqR ?_
          refine LS.vv rfl rfl (by decide) (Val.move rfl) ?_
          refine LS.vv rfl rfl (by decide) (Val.assign rfl) ?_
          refine LS.vv rfl rfl (by decide) (Val.cast (v := .int .i64 ((0 : Nat) : Int)) (Val.assign rfl) rfl) ?_
          refine LS.nil ?_
          refine W.ret ?_
          refine ret2 (by first | exact .inl rfl | exact .inr rfl) rfl rfl ?_
          (obtain rfl : k = L.length := (by omega); rw [List.take_length] at hM ⊢; exact ⟨po, co, rfl, hM.o1, hB⟩)

end Go.Proofs.Ytcoplafphgpmpaa
