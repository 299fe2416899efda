/-
  The statements ShipPrefix, ShipTold, ShipAll.
-/
import Derived.Test.YtldcpihjoakigaaShipP
import Derived.Test.YtldcpihjoakigaaRefsY
namespace Go.Proofs.Ytldcpihjoakigaa
open Go Go.RowKit V
set_option linter.unusedVariables false
set_option linter.unusedSimpArgs false

theorem written_any (l : List St) (C : List Nat) (p q : Option Addr) (c d m n : Nat) (w0 : World) (hr : Rd w0 p (sv l)) (hr2 : Rd w0 q (nv C)) (hm : l.length = m) (hn : C.length = n) (hmn : m = n) (hl : m ≤ 1000) :
    CallsV Try.prog 14 #[.slice p m c, .slice q n d] w0 (fun v w => ∃ (p2 : Option Addr) (c2 : Nat), v = .slice p2 (wrt l C m).length c2 ∧ OwnZ w w0.heap.size 45 4 p2 (wrt l C m).length c2 (sv (wrt l C m)) ∧ Below w0.heap.size w0 w) := by
  refine enter1 Try.func14 rfl Try.ntmps14 (by simp) rfl ?_
  have hB := Below.refl w0.heap.size w0
  simp only [argLoc, Nat.zero_add]
  have hM := Mz.nil w0 w0.heap.size
  subst hm
  subst hn
  refine W.seqR ?_
  refine LS.vv rfl rfl (by decide) (Val.assign rfl) ?_
  refine LS.nil ?_
  refine W.seqR ?_
  refine LS.vv rfl rfl (by decide) (Val.assign rfl) ?_
  refine LS.nil ?_
  refine W.seq ?_
  refine W.seqR ?_
  refine LS.vv rfl rfl (by decide) (Val.move rfl) ?_
  refine LS.vv rfl rfl (by decide) (Val.len Try.underlying37 rfl) ?_
  refine LS.vv rfl rfl (by decide) (Val.cast (v := .int .i64 ((0 : Nat) : Int)) (Val.move rfl) rfl) ?_
  refine LS.nil ?_
  refine W.block ?_
  replace hM := hM.addNil 45 4
  refine W.loop (α := Nat × Option Addr × Nat) (fun g => [(5, .slice g.2.1 (wrt l C g.1).length g.2.2), (10, .int .i64 (g.1 : Int))]) [(1, _), (8, _), (9, _)] (fun g w => (g.1 ≤ l.length) ∧ Mz w w0.heap.size [⟨45, 4, g.2.1, (wrt l C g.1).length, g.2.2, sv (wrt l C g.1)⟩] ∧ Below w0.heap.size w0 w) (fun g => l.length - g.1) ((0, none, 0)) (Sub.cons rfl (Sub.cons rfl (Sub.nil _))) (Sub.cons rfl (Sub.cons rfl (Sub.cons rfl (Sub.nil _)))) ?_ ?_
  · exact ⟨Nat.zero_le _, hM, hB⟩
  rintro ⟨k, po, co⟩ w1 ⟨hk, hM, hB⟩
  try simp only at hM
  simp only [List.cons_append, List.nil_append]
  simp only at hk
  refine W.seqR ?_
  refine LS.vv rfl rfl (by decide) (Val.lss rfl rfl) ?_
  refine LS.nil ?_
  refine W.seq ?_
  first | refine W.condD rfl (fun hc1 => ?_) (fun hc1 => ?_) | refine W.cond rfl (fun hc1 => ?_) (fun hc1 => ?_)
  ·
    refine W.skip ?_
    refine thenP_normal ?_
    refine W.seq ?_
    refine W.block ?_
    refine W.seqR ?_
    refine LS.vv rfl rfl (by decide) (Val.move rfl) ?_
    refine LS.vv rfl rfl (by decide) (Val.indexAddr Try.underlying37 elem45 rfl rfl (by omega) ((hr.below hB)) (by first | (rw [sv_len]; omega) | (simp [nv]; omega))) ?_
    refine LS.m rfl (Step.loadAgg (vs := [.int .i64 (gS l k).kind, .int .i64 (gS l k).site, .int .i64 (gS l k).block, .int .u8 ((gS l k).val : Int)]) rfl rfl (by decide) agg45 rfl ((hr.below hB)) ((sv_at (by omega)).1) rfl (by decide) ?_)
    refine LS.m rfl (Step.allocZ rfl rfl (by decide) elem45 rfl (by decide) ?_)
    rintro w2 hO2 hg2 hbl2 hsz2
    replace hM := hM.add hB.size hbl2 hO2
    try simp only [List.length_cons, List.length_nil, Nat.zero_add, Nat.reduceAdd, Value.cells, List.toList_toArray, List.append_nil, List.set_cons_zero, List.set_cons_succ] at hM
    replace hB := hB.trans (hbl2.mono hB.size)
    generalize w1.heap.size = gg2 at *
    refine LS.vv rfl rfl (by decide) (Val.assign rfl) ?_
    refine LS.m rfl (Step.storeAgg0 (B := w0.heap.size) rfl rfl agg45 rfl rfl rfl (by decide) (by first | exact one_map _ (fun _ => rfl) _ | simp [Value.oneCell']) (hM.o0) rfl hB.size ?_)
    rintro w3 hO3 hg3 hbl3 hsz3
    replace hM := hM.s0 (e := _) hg3 hO3 inl_block
    try simp only [List.set_cons_zero, List.set_cons_succ] at hM
    replace hB := hB.trans hbl3
    refine LS.nil ?_
    refine W.seqR ?_
    refine LS.vv rfl rfl (by decide) (Val.fieldAddr0 fld45_0 rfl) ?_
    refine LS.m rfl (Step.load rfl rfl (by decide) flat3 rfl (hM.o0.rd) (rfl) ?_)
    refine LS.vv rfl rfl (by decide) (Val.eql rfl rfl) ?_
    refine LS.vv rfl rfl (by decide) (Val.move rfl) ?_
    refine LS.split 3 rfl (fun hg2 => ?_) (fun hg2 => ?_)
    ·
      first | (have hg2p := of_decide_eq_true hg2) | skip
      refine LS.vg rfl rfl rfl hg2 (by decide) (Val.move rfl) ?_
      refine LS.vg rfl rfl rfl hg2 (by decide) (Val.move rfl) ?_
      refine LS.vg rfl rfl rfl hg2 (by decide) (Val.index1 Try.underlying38 elem22 rfl rfl (by omega) ((hr2.below hB)) (nv_lt (by omega))) ?_
      refine LS.mg rfl rfl hg2 (Step.load rfl rfl (by decide) flat22 rfl ((hr2.below hB)) (nv_at (by omega)) ?_)
      refine LS.vg rfl rfl rfl hg2 (by decide) (Val.eql rfl rfl) ?_
      refine LS.vv rfl rfl (by decide) (Val.pickT rfl hg2 rfl) ?_
      refine LS.nil ?_
      first | refine W.condD rfl (fun hc3 => ?_) (fun hc3 => ?_) | refine W.cond rfl (fun hc3 => ?_) (fun hc3 => ?_)
      ·
        refine W.reg ?_
        refine LS.vv rfl rfl (by decide) (Val.move rfl) ?_
        refine LS.m rfl (Step.loadAgg0 rfl rfl (by decide) agg45 rfl (hM.o0.rd) rfl (by decide) ?_)
        refine LS.m rfl (Step.litZ rfl rfl (by decide) Try.underlying37 elem45 rfl (by decide) rfl rfl (by decide) ?_)
        rintro w4 hO4 hg4 hbl4 hsz4
        replace hM := hM.add hB.size hbl4 hO4
        try simp only [List.length_cons, List.length_nil, Nat.zero_add, Nat.reduceAdd, Value.cells, List.toList_toArray, List.append_nil, List.set_cons_zero, List.set_cons_succ] at hM
        replace hB := hB.trans (hbl4.mono hB.size)
        generalize w3.heap.size = gg4 at *
        have hwl := wrt_len l C k
        refine LS.m rfl (Step.appendZ (B := w0.heap.size) rfl rfl (by decide) Try.underlying37 elem45 rfl (by decide) rfl rfl (hM.o2) (hM.o0.rd) (by first | rfl | (simp; done) | (simp; omega)) (by first | exact one_map _ (fun _ => rfl) _ | simp [Value.oneCell']) (by omega) (by omega) hB.size ?_)
        rintro p5 c5 w5 hO5 hg5 hbl5 hbk5
        replace hM := hM.s2 (e := _) hg5 hO5 hbk5
        replace hM := hM.tail
        replace hB := hB.trans hbl5
        refine LS.vv rfl rfl (by decide) (Val.assign rfl) ?_
        refine LS.nil ?_
        refine inBlk_normal ?_
        refine thenP_normal ?_
        refine W.reg ?_
        first | refine LS.vv rfl rfl (by decide) (Val.addN (j := 1) rfl rfl (by omega)) ?_ | refine LS.vv rfl rfl (by decide) (Val.add64 rfl rfl (by omega)) ?_
        refine LS.vv rfl rfl (by decide) (Val.move rfl) ?_
        refine LS.nil ?_
        refine thenP_normal ?_
        replace hM := hM.er0
        have hws := wrt_succ l C k
        rw [if_pos ⟨by omega, by omega⟩] at hws
        refine ⟨(k + 1, p5, c5), ?_, ?_, ⟨by simp only; omega, ?_, hB⟩, by simp only; omega⟩
        · exact (Sub.cons' rfl (by simp only [hws, List.length_append, List.length_cons, List.length_nil]) (Sub.cons rfl (Sub.nil _)))
        · repeat (first | exact Sub.nil _ | refine Sub.cons rfl ?_)
        · simp only [hws]
          first
            | exact hM
            | (rw [← sv_app1, List.length_append]; exact hM)
      ·
        refine W.skip ?_
        refine inBlk_normal ?_
        refine thenP_normal ?_
        refine W.reg ?_
        first | refine LS.vv rfl rfl (by decide) (Val.addN (j := 1) rfl rfl (by omega)) ?_ | refine LS.vv rfl rfl (by decide) (Val.add64 rfl rfl (by omega)) ?_
        refine LS.vv rfl rfl (by decide) (Val.move rfl) ?_
        refine LS.nil ?_
        refine thenP_normal ?_
        replace hM := hM.er0
        have hws := wrt_succ l C k
        rw [if_neg (fun h => by have := h.1; have := h.2; omega)] at hws
        refine ⟨(k + 1, po, co), ?_, ?_, ⟨by simp only; omega, ?_, hB⟩, by simp only; omega⟩
        · exact (Sub.cons' rfl (by simp only [hws, List.length_append, List.length_cons, List.length_nil]) (Sub.cons rfl (Sub.nil _)))
        · repeat (first | exact Sub.nil _ | refine Sub.cons rfl ?_)
        · simp only [hws]
          first
            | exact hM
            | (rw [← sv_app1, List.length_append]; exact hM)
    ·
      first | (have hg2p := of_decide_eq_false hg2) | skip
      refine LS.s rfl rfl rfl hg2 (by decide) ?_
      refine LS.s rfl rfl rfl hg2 (by decide) ?_
      refine LS.s rfl rfl rfl hg2 (by decide) ?_
      refine LS.s rfl rfl rfl hg2 (by decide) ?_
      refine LS.s rfl rfl rfl hg2 (by decide) ?_
      refine LS.vv rfl rfl (by decide) (Val.pickF rfl hg2 rfl) ?_
      refine LS.nil ?_
      refine W.condF rfl ?_
      refine W.skip ?_
      refine inBlk_normal ?_
      refine thenP_normal ?_
      refine W.reg ?_
      first | refine LS.vv rfl rfl (by decide) (Val.addN (j := 1) rfl rfl (by omega)) ?_ | refine LS.vv rfl rfl (by decide) (Val.add64 rfl rfl (by omega)) ?_
      refine LS.vv rfl rfl (by decide) (Val.move rfl) ?_
      refine LS.nil ?_
      refine thenP_normal ?_
      replace hM := hM.er0
      have hws := wrt_succ l C k
      rw [if_neg (fun h => by have := h.1; have := h.2; omega)] at hws
      refine ⟨(k + 1, po, co), ?_, ?_, ⟨by simp only; omega, ?_, hB⟩, by simp only; omega⟩
      · exact (Sub.cons' rfl (by simp only [hws, List.length_append, List.length_cons, List.length_nil]) (Sub.cons rfl (Sub.nil _)))
      · repeat (first | exact Sub.nil _ | refine Sub.cons rfl ?_)
      · simp only [hws]
        first
          | exact hM
          | (rw [← sv_app1, List.length_append]; exact hM)
  ·
    refine W.exit ?_
    refine thenP_exit ?_
    refine thenP_exit ?_
    refine inBlk_exit ?_
    refine thenP_normal ?_
    refine W.seqR ?_
    refine LS.vv rfl rfl (by decide) (Val.move rfl) ?_
    refine LS.vv rfl rfl (by decide) (Val.assign rfl) ?_
    refine LS.nil ?_
    refine W.ret ?_
    refine ret1 (by first | exact .inl rfl | exact .inr rfl) rfl ?_
    (obtain rfl : k = l.length := (by omega); exact ⟨po, co, rfl, hM.o0, hB⟩)

theorem bytesEqN (xs ys : List Nat) (p q : Option Addr) (c d n m : Nat) (w0 : World) (hr1 : Rd w0 p (yv xs)) (hr2 : Rd w0 q (yv ys)) (hx : xs.length = n) (hy : ys.length = m) (hl : n ≤ 9223372036854775807) : CallsV Try.prog 15 #[.slice p n c, .slice q m d] w0 (fun v w => v = .bool (decide (xs = ys)) ∧ Below w0.heap.size w0 w) := by
  subst hx; subst hy
  exact bytesEq_any xs ys p q c d w0 hr1 hr2 hl

theorem shipPrefix_any (mode : Int) (l : List St) (p : Option Addr) (c : Nat) (w0 : World) (hr : Rd w0 p (sv l)) (hl : l.length ≤ 9223372036854775807) :
    CallsV Try.prog 6 #[.int .i64 mode, .slice p l.length c] w0 (fun v w => v = .bool true ∧ Below w0.heap.size w0 w) := by
  refine enter1 Try.func6 rfl Try.ntmps6 (by simp) rfl ?_
  have hB := Below.refl w0.heap.size w0
  simp only [argLoc, Nat.zero_add]
  have hM := Mz.nil w0 w0.heap.size
  refine W.seqR ?_
  refine LS.vv rfl rfl (by decide) (Val.assign rfl) ?_
  refine LS.nil ?_
  refine W.seqR ?_
  refine LS.vv rfl rfl (by decide) (Val.move rfl) ?_
  refine LS.vv rfl rfl (by decide) (Val.move rfl) ?_
  refine LS.m rfl (Step.call body13 rfl rfl (by decide) rfl (CallsV.mono (Play_any mode (l) _ _ _ _ (hr.below hB) rfl (by omega)) ?_))
  rintro _ w1 ⟨pc1, pm1, po1, cc1, cm1, co1, nc1, nm1, e1, told1, got1, put1, C1, MM1, OO1, rfl, he1, hMn1, h11, h21, hb1⟩
  replace hM := hM.adds hB.size hb1 hMn1
  replace hB := hB.trans (hb1.mono hB.size)
  simp only [List.cons_append, List.nil_append] at hM
  refine LS.vv rfl rfl (by decide) (Val.move rfl) ?_
  refine LS.vv rfl rfl (by decide) (Val.extract rfl rfl) ?_
  refine LS.vv rfl rfl (by decide) (Val.extract rfl rfl) ?_
  refine LS.m rfl (Step.allocZ rfl rfl (by decide) elem40 rfl (by decide) ?_)
  rintro w2 hO2 hg2 hbl2 hsz2
  replace hM := hM.add hB.size hbl2 hO2
  try simp only [List.length_cons, List.length_nil, Nat.zero_add, Nat.reduceAdd, Value.cells, List.toList_toArray, List.append_nil, List.set_cons_zero, List.set_cons_succ] at hM
  replace hB := hB.trans (hbl2.mono hB.size)
  generalize w1.heap.size = gg2 at *
  refine LS.m rfl (Step.storeAgg0 (B := w0.heap.size) rfl rfl agg40 rfl rfl rfl (by decide) (by first | exact one_map _ (fun _ => rfl) _ | simp [Value.oneCell']) (hM.o0) rfl hB.size ?_)
  rintro w3 hO3 hg3 hbl3 hsz3
  replace hM := hM.s0 (e := _) hg3 hO3 inl_block
  try simp only [List.set_cons_zero, List.set_cons_succ] at hM
  replace hB := hB.trans hbl3
  refine LS.vv rfl rfl (by decide) (Val.assign rfl) ?_
  refine LS.nil ?_
  refine W.seq ?_
  refine W.seqR ?_
  refine LS.vv rfl rfl (by decide) (Val.move rfl) ?_
  refine LS.vv rfl rfl (by decide) (Val.neq rfl rfl) ?_
  refine LS.nil ?_
  first | refine W.condD rfl (fun hc1 => ?_) (fun hc1 => ?_) | refine W.cond rfl (fun hc1 => ?_) (fun hc1 => ?_)
  ·
    refine W.seqR ?_
    refine LS.vv rfl rfl (by decide) (Val.fieldAddr0 fld40_0 rfl) ?_
    refine LS.m rfl (Step.load rfl rfl (by decide) flat38 rfl (hM.o0.rd) (rfl) ?_)
    refine LS.vv rfl rfl (by decide) (Val.len Try.underlying38 rfl) ?_
    obtain ⟨rfl, rfl, rfl⟩ := h21 (by omega)
    refine LS.vv rfl rfl (by decide) (Val.cast (v := .bool true) (Val.eql rfl rfl) (by first | (simp; done) | (simp; omega))) ?_
    refine LS.vv rfl rfl (by decide) (Val.move rfl) ?_
    refine LS.vg rfl rfl rfl rfl (by decide) (Val.fieldAddr0 fld40_4 rfl) ?_
    refine LS.mg rfl rfl rfl (Step.load rfl rfl (by decide) flat31 rfl (hM.o0.rd) (rfl) ?_)
    refine LS.vg rfl rfl rfl rfl (by decide) (Val.len Try.underlying31 rfl) ?_
    refine LS.vg rfl rfl rfl rfl (by decide) (Val.cast (v := .bool true) (Val.eql rfl rfl) (by first | (simp; done) | (simp; omega))) ?_
    refine LS.vv rfl rfl (by decide) (Val.pickT rfl rfl rfl) ?_
    refine LS.vv rfl rfl (by decide) (Val.assign rfl) ?_
    refine LS.nil ?_
    refine W.ret ?_
    refine thenP_ret ?_
    refine ret1 (by first | exact .inl rfl | exact .inr rfl) rfl ?_
    first | exact ⟨rfl, hB⟩ | contradiction | (exfalso; omega)
  ·
    refine W.skip ?_
    refine thenP_normal ?_
    refine W.seq ?_
    refine W.seqR ?_
    obtain ⟨ht1, hg1, hp1, rfl, rfl, rfl, rfl, rfl⟩ := h11 (by omega)
    obtain ⟨M, rfl⟩ := Int.eq_ofNat_of_zero_le (show 0 ≤ mode by omega)
    simp only [Int.toNat_natCast] at *
    have hI := SI.all M l
    have hi1 := hI.put; have hi2 := hI.got; have hi3 := hI.sent
    have hwll := splay_wr_len M l
    refine LS.vv rfl rfl (by decide) (Val.fieldAddr0 fld40_0 rfl) ?_
    refine LS.m rfl (Step.load rfl rfl (by decide) flat38 rfl (hM.o0.rd) (rfl) ?_)
    refine LS.vv rfl rfl (by decide) (Val.len Try.underlying38 rfl) ?_
    refine LS.vv rfl rfl (by decide) (Val.move rfl) ?_
    refine LS.vv rfl rfl (by decide) (Val.len Try.underlying37 rfl) ?_
    refine LS.vv rfl rfl (by decide) (Val.cast (v := .bool false) (Val.neq rfl rfl) (by first | (simp; done) | (simp; omega) | (refine congrArg Value.bool (decide_eq_false ?_); omega))) ?_
    refine LS.vv rfl rfl (by decide) (Val.move rfl) ?_
    refine LS.vg rfl rfl rfl rfl (by decide) (Val.fieldAddr0 fld40_4 rfl) ?_
    refine LS.mg rfl rfl rfl (Step.load rfl rfl (by decide) flat31 rfl (hM.o0.rd) (rfl) ?_)
    refine LS.vg rfl rfl rfl rfl (by decide) (Val.len Try.underlying31 rfl) ?_
    refine LS.vg rfl rfl rfl rfl (by decide) (Val.cast (v := .bool false) (Val.neq rfl rfl) (by first | (simp; done) | (simp; omega) | (refine congrArg Value.bool (decide_eq_false ?_); omega))) ?_
    refine LS.vv rfl rfl (by decide) (Val.pickF rfl rfl rfl) ?_
    refine LS.vv rfl rfl (by decide) (Val.move rfl) ?_
    refine LS.vg rfl rfl rfl rfl (by decide) (Val.fieldAddr0 fld40_5 rfl) ?_
    refine LS.mg rfl rfl rfl (Step.load rfl rfl (by decide) flat31 rfl (hM.o0.rd) (rfl) ?_)
    refine LS.vg rfl rfl rfl rfl (by decide) (Val.len Try.underlying31 rfl) ?_
    refine LS.vg rfl rfl rfl rfl (by decide) (Val.cast (v := .bool false) (Val.neq rfl rfl) (by first | (simp; done) | (simp; omega) | (refine congrArg Value.bool (decide_eq_false ?_); omega))) ?_
    refine LS.vv rfl rfl (by decide) (Val.pickF rfl rfl rfl) ?_
    refine LS.nil ?_
    refine W.condF rfl ?_
    refine W.skip ?_
    refine thenP_normal ?_
    refine W.seqR ?_
    refine LS.vv rfl rfl (by decide) (Val.move rfl) ?_
    refine LS.vv rfl rfl (by decide) (Val.fieldAddr0 fld40_0 rfl) ?_
    refine LS.m rfl (Step.load rfl rfl (by decide) flat38 rfl (hM.o0.rd) (rfl) ?_)
    refine LS.m rfl (Step.call body14 rfl rfl (by decide) rfl (CallsV.mono (written_any l _ _ _ _ _ _ _ _ (hr.below hB) hM.o1.rd rfl (splay_codes M l) rfl (by omega)) ?_))
    rintro _ w4 ⟨p2, c2, rfl, hO2, hb4⟩
    replace hM := hM.add hB.size hb4 hO2
    replace hB := hB.trans (hb4.mono hB.size)
    rw [wrt_splay] at hM
    rw [wrt_splay]
    generalize hW : (splay M l).l.wr = wl at *
    refine LS.vv rfl rfl (by decide) (Val.assign rfl) ?_
    refine LS.nil ?_
    refine W.seq ?_
    refine W.seqR ?_
    refine LS.vv rfl rfl (by decide) (Val.fieldAddr0 fld40_3 rfl) ?_
    refine LS.m rfl (Step.load rfl rfl (by decide) flat3 rfl (hM.o1.rd) (rfl) ?_)
    refine LS.vv rfl rfl (by decide) (Val.cast (v := .bool false) (Val.lss rfl rfl) (by first | (simp; done) | (simp; omega) | (refine congrArg Value.bool (decide_eq_false ?_); omega))) ?_
    refine LS.vv rfl rfl (by decide) (Val.move rfl) ?_
    refine LS.vg rfl rfl rfl rfl (by decide) (Val.fieldAddr0 fld40_3 rfl) ?_
    refine LS.mg rfl rfl rfl (Step.load rfl rfl (by decide) flat3 rfl (hM.o1.rd) (rfl) ?_)
    refine LS.vg rfl rfl rfl rfl (by decide) (Val.fieldAddr0 fld40_2 rfl) ?_
    refine LS.mg rfl rfl rfl (Step.load rfl rfl (by decide) flat3 rfl (hM.o1.rd) (rfl) ?_)
    refine LS.vg rfl rfl rfl rfl (by decide) (Val.cast (v := .bool false) (Val.gtr rfl rfl) (by first | (simp; done) | (simp; omega) | (refine congrArg Value.bool (decide_eq_false ?_); omega))) ?_
    refine LS.vv rfl rfl (by decide) (Val.pickF rfl rfl rfl) ?_
    refine LS.vv rfl rfl (by decide) (Val.move rfl) ?_
    refine LS.vg rfl rfl rfl rfl (by decide) (Val.fieldAddr0 fld40_2 rfl) ?_
    refine LS.mg rfl rfl rfl (Step.load rfl rfl (by decide) flat3 rfl (hM.o1.rd) (rfl) ?_)
    refine LS.vg rfl rfl rfl rfl (by decide) (Val.move rfl) ?_
    refine LS.vg rfl rfl rfl rfl (by decide) (Val.len Try.underlying37 rfl) ?_
    refine LS.vg rfl rfl rfl rfl (by decide) (Val.cast (v := .bool false) (Val.gtr rfl rfl) (by first | (simp; done) | (simp; omega) | (refine congrArg Value.bool (decide_eq_false ?_); omega))) ?_
    refine LS.vv rfl rfl (by decide) (Val.pickF rfl rfl rfl) ?_
    refine LS.nil ?_
    refine W.condF rfl ?_
    refine W.skip ?_
    refine thenP_normal ?_
    refine W.seqR ?_
    refine LS.m rfl (Step.makeZ (m := 8) rfl rfl (by decide) Try.underlying31 elem5 rfl rfl (by omega) (by omega) (made_one rfl _) ?_)
    rintro w5 hO5 hg5 hbl5
    replace hM := hM.add hB.size hbl5 hO5
    try simp only [yv_app1, yv_app, yv_set, yv_rep, yv_one, yv_cons, yv_take, yv_drop, List.nil_append] at hM
    replace hB := hB.trans (hbl5.mono hB.size)
    generalize w4.heap.size = gg5 at *
    refine LS.vv rfl rfl (by decide) (Val.assign rfl) ?_
    refine LS.nil ?_
    refine W.seqR ?_
    refine LS.m rfl (Step.makeZ (m := 8) rfl rfl (by decide) Try.underlying31 elem5 rfl rfl (by omega) (by omega) (made_one rfl _) ?_)
    rintro w6 hO6 hg6 hbl6
    replace hM := hM.add hB.size hbl6 hO6
    try simp only [yv_app1, yv_app, yv_set, yv_rep, yv_one, yv_cons, yv_take, yv_drop, List.nil_append] at hM
    replace hB := hB.trans (hbl6.mono hB.size)
    generalize w5.heap.size = gg6 at *
    refine LS.vv rfl rfl (by decide) (Val.assign rfl) ?_
    refine LS.nil ?_
    refine W.seq ?_
    refine W.seqR ?_
    refine LS.vv rfl rfl (by decide) (Val.move rfl) ?_
    refine LS.vv rfl rfl (by decide) (Val.len Try.underlying37 rfl) ?_
    refine LS.vv rfl rfl (by decide) (Val.cast (v := .int .i64 ((0 : Nat) : Int)) (Val.move rfl) rfl) ?_
    refine LS.nil ?_
    refine W.block ?_
    replace hM := hM.er4.sw0.sw2
    refine W.loop (α := Nat) (fun k => [(73, .int .i64 (k : Int))]) [(5, _), (8, _), (9, _), (71, _), (72, _)] (fun k w => (k ≤ wl.length) ∧ Mz w w0.heap.size [⟨5, 1, some ⟨gg5, 0, none⟩, 8, 8, yv (apply (wl.take k))⟩, ⟨5, 1, some ⟨gg6, 0, none⟩, 8, 8, yv (upto wl (splay M l).l.put k)⟩, ⟨40, 6, some ⟨gg2, 0, none⟩, 1, 1, [.slice pc1 l.length cc1, .int .i64 (told1 : Int), .int .i64 (got1 : Int), .int .i64 (put1 : Int), .slice pm1 8 cm1, .slice po1 8 co1]⟩, ⟨45, 4, p2, wl.length, c2, sv wl⟩, ⟨5, 1, pm1, 8, cm1, yv (splay M l).main⟩, ⟨5, 1, po1, 8, co1, yv (splay M l).other⟩] ∧ Below w0.heap.size w0 w) (fun k => wl.length - k) (0) (Sub.cons rfl (Sub.nil _)) (Sub.cons rfl (Sub.cons rfl (Sub.cons rfl (Sub.cons rfl (Sub.cons rfl (Sub.nil _)))))) ?_ ?_
    · exact ⟨Nat.zero_le _, hM, hB⟩
    rintro k w7 ⟨hk, hM, hB⟩
    try simp only at hM
    simp only [List.cons_append, List.nil_append]
    have hal := apply_len (wl.take k)
    have hul := upto_len wl (splay M l).l.put k
    refine W.seqR ?_
    refine LS.vv rfl rfl (by decide) (Val.lss rfl rfl) ?_
    refine LS.nil ?_
    refine W.seq ?_
    first | refine W.condD rfl (fun hc2 => ?_) (fun hc2 => ?_) | refine W.cond rfl (fun hc2 => ?_) (fun hc2 => ?_)
    ·
      refine W.skip ?_
      refine thenP_normal ?_
      refine W.seq ?_
      refine W.block ?_
      refine W.seqR ?_
      refine LS.vv rfl rfl (by decide) (Val.move rfl) ?_
      refine LS.vv rfl rfl (by decide) (Val.indexAddr Try.underlying37 elem45 rfl rfl (by omega) (hM.o3.rd) (by rw [sv_len]; omega)) ?_
      refine LS.m rfl (Step.loadAgg (vs := [.int .i64 (gS wl k).kind, .int .i64 (gS wl k).site, .int .i64 (gS wl k).block, .int .u8 ((gS wl k).val : Int)]) rfl rfl (by decide) agg45 rfl (hM.o3.rd) ((sv_at (by omega)).1) rfl (by decide) ?_)
      refine LS.m rfl (Step.allocZ rfl rfl (by decide) elem45 rfl (by decide) ?_)
      rintro w8 hO8 hg8 hbl8 hsz8
      replace hM := hM.add hB.size hbl8 hO8
      try simp only [List.length_cons, List.length_nil, Nat.zero_add, Nat.reduceAdd, Value.cells, List.toList_toArray, List.append_nil, List.set_cons_zero, List.set_cons_succ] at hM
      replace hB := hB.trans (hbl8.mono hB.size)
      generalize w7.heap.size = gg8 at *
      refine LS.vv rfl rfl (by decide) (Val.assign rfl) ?_
      refine LS.m rfl (Step.storeAgg0 (B := w0.heap.size) rfl rfl agg45 rfl rfl rfl (by decide) (by first | exact one_map _ (fun _ => rfl) _ | simp [Value.oneCell']) (hM.o0) rfl hB.size ?_)
      rintro w9 hO9 hg9 hbl9 hsz9
      replace hM := hM.s0 (e := _) hg9 hO9 inl_block
      try simp only [List.set_cons_zero, List.set_cons_succ] at hM
      replace hB := hB.trans hbl9
      refine LS.nil ?_
      refine W.seq ?_
      refine W.seqR ?_
      refine LS.vv rfl rfl (by decide) (Val.fieldAddr0 fld45_2 rfl) ?_
      refine LS.m rfl (Step.load rfl rfl (by decide) flat3 rfl (hM.o0.rd) (rfl) ?_)
      have hkp := hI.kept (gS wl k) (by rw [hW]; exact gS_mem (by omega))
      have hkp1 := hkp.1; have hkp2 := hkp.2
      have hblk : ([.int .i64 (gS wl k).kind, .int .i64 (gS wl k).site, .int .i64 (gS wl k).block, .int .u8 ((gS wl k).val : Int)] : List Value)[2]? = some (.int .i64 (((gS wl k).block.toNat : Nat) : Int)) := by { simp; omega }
      refine LS.vv rfl rfl (by decide) (Val.cast (v := .bool false) (Val.lss rfl rfl) (by first | (simp; done) | (simp; omega) | (refine congrArg Value.bool (decide_eq_false ?_); omega))) ?_
      refine LS.vv rfl rfl (by decide) (Val.move rfl) ?_
      refine LS.vg rfl rfl rfl rfl (by decide) (Val.fieldAddr0 fld45_2 rfl) ?_
      refine LS.mg rfl rfl rfl (Step.load rfl rfl (by decide) flat3 rfl (hM.o0.rd) (rfl) ?_)
      refine LS.vg rfl rfl rfl rfl (by decide) (Val.cast (v := .bool false) (Val.geq rfl rfl) (by first | (simp; done) | (simp; omega) | (refine congrArg Value.bool (decide_eq_false ?_); omega))) ?_
      refine LS.vv rfl rfl (by decide) (Val.pickF rfl rfl rfl) ?_
      refine LS.nil ?_
      refine W.condF rfl ?_
      refine W.skip ?_
      refine thenP_normal ?_
      refine W.seqR ?_
      refine LS.vv rfl rfl (by decide) (Val.move rfl) ?_
      refine LS.vv rfl rfl (by decide) (Val.fieldAddr0 fld45_2 rfl) ?_
      refine LS.m rfl (Step.load rfl rfl (by decide) flat3 rfl (hM.o0.rd) (hblk) ?_)
      refine LS.vv rfl rfl (by decide) (Val.fieldAddr0 fld45_3 rfl) ?_
      refine LS.m rfl (Step.load rfl rfl (by decide) flat5 rfl (hM.o0.rd) (rfl) ?_)
      refine LS.vv rfl rfl (by decide) (Val.index1 Try.underlying31 elem5 rfl rfl (by omega) (hM.o1.rd) (yv_lt (by omega))) ?_
      refine LS.m rfl (Step.storeZ (B := w0.heap.size) rfl rfl flat5 elem5 rfl rfl rfl (hM.o1) (by first | decide | (simp; done) | (simp; omega) | omega) hB.size ?_)
      rintro w10 hO10 hg10 hbl10 hsz10
      replace hM := hM.s1 (e := _) hg10 hO10 inl_block
      try simp only [yv_app1, yv_app, yv_set, yv_rep, yv_one, yv_cons, yv_take, yv_drop, List.nil_append] at hM
      try simp only [List.set_cons_zero, List.set_cons_succ] at hM
      replace hB := hB.trans hbl10
      refine LS.nil ?_
      refine W.seqR ?_
      refine LS.vv rfl rfl (by decide) (Val.move rfl) ?_
      refine LS.vv rfl rfl (by decide) (Val.fieldAddr0 fld40_3 rfl) ?_
      refine LS.m rfl (Step.load rfl rfl (by decide) flat3 rfl (hM.o3.rd) (rfl) ?_)
      refine LS.vv rfl rfl (by decide) (Val.lss rfl rfl) ?_
      refine LS.nil ?_
      first | refine W.condD rfl (fun hc3 => ?_) (fun hc3 => ?_) | refine W.cond rfl (fun hc3 => ?_) (fun hc3 => ?_)
      ·
        refine W.reg ?_
        refine LS.vv rfl rfl (by decide) (Val.move rfl) ?_
        refine LS.vv rfl rfl (by decide) (Val.fieldAddr0 fld45_2 rfl) ?_
        refine LS.m rfl (Step.load rfl rfl (by decide) flat3 rfl (hM.o0.rd) (hblk) ?_)
        refine LS.vv rfl rfl (by decide) (Val.fieldAddr0 fld45_3 rfl) ?_
        refine LS.m rfl (Step.load rfl rfl (by decide) flat5 rfl (hM.o0.rd) (rfl) ?_)
        refine LS.vv rfl rfl (by decide) (Val.index1 Try.underlying31 elem5 rfl rfl (by omega) (hM.o2.rd) (yv_lt (by omega))) ?_
        refine LS.m rfl (Step.storeZ (B := w0.heap.size) rfl rfl flat5 elem5 rfl rfl rfl (hM.o2) (by first | decide | (simp; done) | (simp; omega) | omega) hB.size ?_)
        rintro w11 hO11 hg11 hbl11 hsz11
        replace hM := hM.s2 (e := _) hg11 hO11 inl_block
        try simp only [yv_app1, yv_app, yv_set, yv_rep, yv_one, yv_cons, yv_take, yv_drop, List.nil_append] at hM
        try simp only [List.set_cons_zero, List.set_cons_succ] at hM
        replace hB := hB.trans hbl11
        refine LS.nil ?_
        refine inBlk_normal ?_
        refine thenP_normal ?_
        refine W.reg ?_
        first | refine LS.vv rfl rfl (by decide) (Val.addN (j := 1) rfl rfl (by omega)) ?_ | refine LS.vv rfl rfl (by decide) (Val.add64 rfl rfl (by omega)) ?_
        refine LS.vv rfl rfl (by decide) (Val.move rfl) ?_
        refine LS.nil ?_
        refine thenP_normal ?_
        replace hM := hM.er0
        refine ⟨k + 1, ?_, ?_, ⟨by omega, ?_, hB⟩, by omega⟩
        · exact (Sub.cons rfl (Sub.nil _))
        · repeat (first | exact Sub.nil _ | refine Sub.cons rfl ?_)
        · rw [apply_take_succ (by omega)]
          first
            | (rw [upto_lt (by omega) (by omega)]; exact hM)
            | (rw [upto_ge (by omega)]; exact hM)
      ·
        refine W.skip ?_
        refine inBlk_normal ?_
        refine thenP_normal ?_
        refine W.reg ?_
        first | refine LS.vv rfl rfl (by decide) (Val.addN (j := 1) rfl rfl (by omega)) ?_ | refine LS.vv rfl rfl (by decide) (Val.add64 rfl rfl (by omega)) ?_
        refine LS.vv rfl rfl (by decide) (Val.move rfl) ?_
        refine LS.nil ?_
        refine thenP_normal ?_
        replace hM := hM.er0
        refine ⟨k + 1, ?_, ?_, ⟨by omega, ?_, hB⟩, by omega⟩
        · exact (Sub.cons rfl (Sub.nil _))
        · repeat (first | exact Sub.nil _ | refine Sub.cons rfl ?_)
        · rw [apply_take_succ (by omega)]
          first
            | (rw [upto_lt (by omega) (by omega)]; exact hM)
            | (rw [upto_ge (by omega)]; exact hM)
    ·
      refine W.exit ?_
      refine thenP_exit ?_
      refine thenP_exit ?_
      refine inBlk_exit ?_
      refine thenP_normal ?_
      refine W.seqR ?_
      refine LS.vv rfl rfl (by decide) (Val.move rfl) ?_
      have hml := hI.main; rw [hW] at hml
      have hol := hI.other; rw [hW] at hol
      have hma : apply (wl.take k) = (splay M l).main := by rw [hml, show k = wl.length by omega, List.take_length]
      have hoa : upto wl (splay M l).l.put k = (splay M l).other := by { unfold upto; rw [hol, show (if k ≤ (splay M l).l.put then k else (splay M l).l.put) = (splay M l).l.put by split <;> omega] }
      rw [hma, hoa] at hM
      have hm8 : (splay M l).main.length = 8 := by rw [hml, apply_len]
      have ho8 : (splay M l).other.length = 8 := by rw [hol, apply_len]
      refine LS.vv rfl rfl (by decide) (Val.fieldAddr0 fld40_4 rfl) ?_
      refine LS.m rfl (Step.load rfl rfl (by decide) flat31 rfl (hM.o2.rd) (rfl) ?_)
      refine LS.m rfl (Step.call body15 rfl rfl (by decide) rfl (CallsV.mono (bytesEqN _ _ _ _ _ _ _ _ _ hM.o0.rd hM.o4.rd hm8 hm8 (by omega)) ?_))
      rintro _ w12 ⟨hbe, hb12⟩
      replace hM := hM.below hb12
      replace hB := hB.trans (hb12.mono hB.size)
      rw [decide_eq_true rfl] at hbe
      subst hbe
      refine LS.vv rfl rfl (by decide) (Val.move rfl) ?_
      refine LS.vg rfl rfl rfl rfl (by decide) (Val.move rfl) ?_
      refine LS.vg rfl rfl rfl rfl (by decide) (Val.fieldAddr0 fld40_5 rfl) ?_
      refine LS.mg rfl rfl rfl (Step.load rfl rfl (by decide) flat31 rfl (hM.o2.rd) (rfl) ?_)
      refine LS.mg rfl rfl rfl (Step.call body15 rfl rfl (by decide) rfl (CallsV.mono (bytesEqN _ _ _ _ _ _ _ _ _ hM.o1.rd hM.o5.rd ho8 ho8 (by omega)) ?_))
      rintro _ w13 ⟨hbe, hb13⟩
      replace hM := hM.below hb13
      replace hB := hB.trans (hb13.mono hB.size)
      rw [decide_eq_true rfl] at hbe
      subst hbe
      refine LS.vv rfl rfl (by decide) (Val.pickT rfl rfl rfl) ?_
      refine LS.vv rfl rfl (by decide) (Val.assign rfl) ?_
      refine LS.nil ?_
      refine W.ret ?_
      refine ret1 (by first | exact .inl rfl | exact .inr rfl) rfl ?_
      first | exact ⟨rfl, hB⟩ | contradiction | (exfalso; omega)

end Go.Proofs.Ytldcpihjoakigaa
