/-
  The statement ShipTold.
-/
import Derived.Test.YtldcpihjoakigaaShipL
namespace Go.Proofs.Ytldcpihjoakigaa
open Go Go.RowKit V
set_option linter.unusedVariables false
set_option linter.unusedSimpArgs false

theorem shipTold_any (mode : Int) (l : List St) (p : Option Addr) (c : Nat) (w0 : World) (hr : Rd w0 p (sv l)) (hl : l.length ≤ 9223372036854775807) :
    CallsV Try.prog 7 #[.int .i64 mode, .slice p l.length c] w0 (fun v w => v = .bool true ∧ Below w0.heap.size w0 w) := by
  refine enter1 Try.func7 rfl Try.ntmps7 (by simp) rfl ?_
  have hB := Below.refl w0.heap.size w0
  simp only [argLoc, Nat.zero_add]
  have hM := Mz.nil w0 w0.heap.size
  refine W.seqR ?_
  refine LS.vv rfl rfl (by decide) (Val.assign rfl) ?_
  refine LS.nil ?_
  refine W.seqR ?_
  refine LS.vv rfl rfl (by decide) (Val.move rfl) ?_
  refine LS.vv rfl rfl (by decide) (Val.move rfl) ?_
  refine LS.m rfl (Step.call body13 rfl rfl (by decide) rfl (CallsV.mono (Play_any mode l _ _ _ _ (hr.below hB) rfl (by omega)) ?_))
  rintro _ w1 ⟨pc1, pm1, po1, cc1, cm1, co1, nc1, nm1, e1, told1, got1, put1, C1, MM1, OO1, rfl, he1, hMn1, h11, h21, hb1⟩
  replace hM := hM.adds hB.size hb1 hMn1
  replace hB := hB.trans (hb1.mono hB.size)
  simp only [List.cons_append, List.nil_append] at hM
  refine LS.vv rfl rfl (by decide) (Val.move rfl) ?_
  refine LS.vv rfl rfl (by decide) (Val.extract rfl rfl) ?_
  refine LS.vv rfl rfl (by decide) (Val.extract rfl rfl) ?_
  refine LS.m rfl (Step.allocZ rfl rfl (by decide) elem40 rfl (by decide) ?_)
  rintro w2 hO2 hg2 hbl2 hsz2
  replace hM := hM.add hB.size hbl2 hO2
  try simp only [List.length_cons, List.length_nil, Nat.zero_add, Nat.reduceAdd, Value.cells, List.toList_toArray, List.append_nil, List.set_cons_zero, List.set_cons_succ] at hM
  replace hB := hB.trans (hbl2.mono hB.size)
  generalize w1.heap.size = gg2 at *
  refine LS.m rfl (Step.storeAgg0 (B := w0.heap.size) rfl rfl agg40 rfl rfl rfl (by decide) (by first | exact one_map _ (fun _ => rfl) _ | simp [Value.oneCell']) (hM.o0) rfl hB.size ?_)
  rintro w3 hO3 hg3 hbl3 hsz3
  replace hM := hM.s0 (e := _) hg3 hO3 inl_block
  try simp only [List.set_cons_zero, List.set_cons_succ] at hM
  replace hB := hB.trans hbl3
  refine LS.vv rfl rfl (by decide) (Val.assign rfl) ?_
  refine LS.nil ?_
  refine W.seqR ?_
  refine LS.vv rfl rfl (by decide) (Val.move rfl) ?_
  refine LS.m rfl (Step.call body13 rfl rfl (by decide) rfl (CallsV.mono (Play_any 1 l _ _ _ _ (hr.below hB) rfl (by omega)) ?_))
  rintro _ w4 ⟨pc2, pm2, po2, cc2, cm2, co2, nc2, nm2, e2, told2, got2, put2, C2, MM2, OO2, rfl, he2, hMn2, h12, h22, hb4⟩
  replace hM := hM.adds hB.size hb4 hMn2
  replace hB := hB.trans (hb4.mono hB.size)
  simp only [List.cons_append, List.nil_append] at hM
  refine LS.vv rfl rfl (by decide) (Val.move rfl) ?_
  refine LS.vv rfl rfl (by decide) (Val.extract rfl rfl) ?_
  refine LS.vv rfl rfl (by decide) (Val.extract rfl rfl) ?_
  refine LS.m rfl (Step.allocZ rfl rfl (by decide) elem40 rfl (by decide) ?_)
  rintro w5 hO5 hg5 hbl5 hsz5
  replace hM := hM.add hB.size hbl5 hO5
  try simp only [List.length_cons, List.length_nil, Nat.zero_add, Nat.reduceAdd, Value.cells, List.toList_toArray, List.append_nil, List.set_cons_zero, List.set_cons_succ] at hM
  replace hB := hB.trans (hbl5.mono hB.size)
  generalize w4.heap.size = gg5 at *
  refine LS.m rfl (Step.storeAgg0 (B := w0.heap.size) rfl rfl agg40 rfl rfl rfl (by decide) (by first | exact one_map _ (fun _ => rfl) _ | simp [Value.oneCell']) (hM.o0) rfl hB.size ?_)
  rintro w6 hO6 hg6 hbl6 hsz6
  replace hM := hM.s0 (e := _) hg6 hO6 inl_block
  try simp only [List.set_cons_zero, List.set_cons_succ] at hM
  replace hB := hB.trans hbl6
  refine LS.vv rfl rfl (by decide) (Val.assign rfl) ?_
  refine LS.nil ?_
  refine W.seqR ?_
  refine LS.vv rfl rfl (by decide) (Val.move rfl) ?_
  refine LS.m rfl (Step.call body13 rfl rfl (by decide) rfl (CallsV.mono (Play_any 2 l _ _ _ _ (hr.below hB) rfl (by omega)) ?_))
  rintro _ w7 ⟨pc3, pm3, po3, cc3, cm3, co3, nc3, nm3, e3, told3, got3, put3, C3, MM3, OO3, rfl, he3, hMn3, h13, h23, hb7⟩
  replace hM := hM.adds hB.size hb7 hMn3
  replace hB := hB.trans (hb7.mono hB.size)
  simp only [List.cons_append, List.nil_append] at hM
  refine LS.vv rfl rfl (by decide) (Val.move rfl) ?_
  refine LS.vv rfl rfl (by decide) (Val.extract rfl rfl) ?_
  refine LS.vv rfl rfl (by decide) (Val.extract rfl rfl) ?_
  refine LS.m rfl (Step.allocZ rfl rfl (by decide) elem40 rfl (by decide) ?_)
  rintro w8 hO8 hg8 hbl8 hsz8
  replace hM := hM.add hB.size hbl8 hO8
  try simp only [List.length_cons, List.length_nil, Nat.zero_add, Nat.reduceAdd, Value.cells, List.toList_toArray, List.append_nil, List.set_cons_zero, List.set_cons_succ] at hM
  replace hB := hB.trans (hbl8.mono hB.size)
  generalize w7.heap.size = gg8 at *
  refine LS.m rfl (Step.storeAgg0 (B := w0.heap.size) rfl rfl agg40 rfl rfl rfl (by decide) (by first | exact one_map _ (fun _ => rfl) _ | simp [Value.oneCell']) (hM.o0) rfl hB.size ?_)
  rintro w9 hO9 hg9 hbl9 hsz9
  replace hM := hM.s0 (e := _) hg9 hO9 inl_block
  try simp only [List.set_cons_zero, List.set_cons_succ] at hM
  replace hB := hB.trans hbl9
  refine LS.vv rfl rfl (by decide) (Val.assign rfl) ?_
  refine LS.nil ?_
  refine W.seqR ?_
  refine LS.vv rfl rfl (by decide) (Val.move rfl) ?_
  refine LS.m rfl (Step.call body13 rfl rfl (by decide) rfl (CallsV.mono (Play_any 3 l _ _ _ _ (hr.below hB) rfl (by omega)) ?_))
  rintro _ w10 ⟨pc4, pm4, po4, cc4, cm4, co4, nc4, nm4, e4, told4, got4, put4, C4, MM4, OO4, rfl, he4, hMn4, h14, h24, hb10⟩
  replace hM := hM.adds hB.size hb10 hMn4
  replace hB := hB.trans (hb10.mono hB.size)
  simp only [List.cons_append, List.nil_append] at hM
  refine LS.vv rfl rfl (by decide) (Val.move rfl) ?_
  refine LS.vv rfl rfl (by decide) (Val.extract rfl rfl) ?_
  refine LS.vv rfl rfl (by decide) (Val.extract rfl rfl) ?_
  refine LS.m rfl (Step.allocZ rfl rfl (by decide) elem40 rfl (by decide) ?_)
  rintro w11 hO11 hg11 hbl11 hsz11
  replace hM := hM.add hB.size hbl11 hO11
  try simp only [List.length_cons, List.length_nil, Nat.zero_add, Nat.reduceAdd, Value.cells, List.toList_toArray, List.append_nil, List.set_cons_zero, List.set_cons_succ] at hM
  replace hB := hB.trans (hbl11.mono hB.size)
  generalize w10.heap.size = gg11 at *
  refine LS.m rfl (Step.storeAgg0 (B := w0.heap.size) rfl rfl agg40 rfl rfl rfl (by decide) (by first | exact one_map _ (fun _ => rfl) _ | simp [Value.oneCell']) (hM.o0) rfl hB.size ?_)
  rintro w12 hO12 hg12 hbl12 hsz12
  replace hM := hM.s0 (e := _) hg12 hO12 inl_block
  try simp only [List.set_cons_zero, List.set_cons_succ] at hM
  replace hB := hB.trans hbl12
  refine LS.vv rfl rfl (by decide) (Val.assign rfl) ?_
  refine LS.nil ?_
  refine W.seq ?_
  refine W.seqR ?_
  refine LS.vv rfl rfl (by decide) (Val.move rfl) ?_
  refine LS.vv rfl rfl (by decide) (Val.len Try.underlying37 rfl) ?_
  refine LS.vv rfl rfl (by decide) (Val.gtr rfl rfl) ?_
  refine LS.nil ?_
  first | refine W.condD rfl (fun hc1 => ?_) (fun hc1 => ?_) | refine W.cond rfl (fun hc1 => ?_) (fun hc1 => ?_)
  ·
    refine W.seqR ?_
    refine LS.vv rfl rfl (by decide) (Val.move rfl) ?_
    refine LS.vv rfl rfl (by decide) (Val.cast (v := .bool true) (Val.neq rfl rfl) (by first | (simp; done) | (simp; omega))) ?_
    refine LS.vv rfl rfl (by decide) (Val.move rfl) ?_
    refine LS.vg rfl rfl rfl rfl (by decide) (Val.move rfl) ?_
    refine LS.vg rfl rfl rfl rfl (by decide) (Val.cast (v := .bool true) (Val.neq rfl rfl) (by first | (simp; done) | (simp; omega))) ?_
    refine LS.vv rfl rfl (by decide) (Val.pickT rfl rfl rfl) ?_
    refine LS.vv rfl rfl (by decide) (Val.move rfl) ?_
    refine LS.vg rfl rfl rfl rfl (by decide) (Val.move rfl) ?_
    refine LS.vg rfl rfl rfl rfl (by decide) (Val.cast (v := .bool true) (Val.neq rfl rfl) (by first | (simp; done) | (simp; omega))) ?_
    refine LS.vv rfl rfl (by decide) (Val.pickT rfl rfl rfl) ?_
    refine LS.vv rfl rfl (by decide) (Val.move rfl) ?_
    refine LS.vg rfl rfl rfl rfl (by decide) (Val.move rfl) ?_
    refine LS.vg rfl rfl rfl rfl (by decide) (Val.cast (v := .bool true) (Val.neq rfl rfl) (by first | (simp; done) | (simp; omega))) ?_
    refine LS.vv rfl rfl (by decide) (Val.pickT rfl rfl rfl) ?_
    refine LS.vv rfl rfl (by decide) (Val.assign rfl) ?_
    refine LS.nil ?_
    refine W.ret ?_
    refine thenP_ret ?_
    refine ret1 (by first | exact .inl rfl | exact .inr rfl) rfl ?_
    first | exact ⟨rfl, hB⟩ | contradiction | (exfalso; omega)
  ·
    refine W.skip ?_
    refine thenP_normal ?_
    refine W.seq ?_
    refine W.seqR ?_
    refine LS.vv rfl rfl (by decide) (Val.move rfl) ?_
    have he2z : e2 = 0 := he2.2 (by omega)
    have he3z : e3 = 0 := he3.2 (by omega)
    have he4z : e4 = 0 := he4.2 (by omega)
    obtain ⟨ht2, hg2, hp2, rfl, rfl, rfl, rfl, rfl⟩ := h12 he2z
    obtain ⟨ht3, hg3, hp3, rfl, rfl, rfl, rfl, rfl⟩ := h13 he3z
    obtain ⟨ht4, hg4, hp4, rfl, rfl, rfl, rfl, rfl⟩ := h14 he4z
    simp only [show (1 : Int).toNat = 1 from rfl, show (2 : Int).toNat = 2 from rfl, show (3 : Int).toNat = 3 from rfl] at *
    have hE := SE.all 2 1 l; have hE3 := SE.all 3 1 l
    have hI1 := SI.all 1 l; have hI2 := SI.all 2 l; have hI3 := SI.all 3 l
    have hkl := known_le l
    have hwr2 := congrArg List.length hE.wr; have hwr3 := congrArg List.length hE3.wr
    have hto1 : told2 = (splay 1 l).l.wr.length := by rw [ht2]; unfold stold; rw [if_pos hI1.mode_]
    have hto2 : told3 = (splay 2 l).l.known := by rw [ht3]; unfold stold; rw [if_neg (by rw [hI2.mode_]; decide)]
    have hto3 : told4 = (splay 3 l).l.known := by rw [ht4]; unfold stold; rw [if_neg (by rw [hI3.mode_]; decide)]
    have hq1 := hI2.known; have hq2 := hI3.known3 rfl; have hq3 := hI2.got; have hq4 := hI2.sent
    refine LS.vv rfl rfl (by decide) (Val.cast (v := .bool false) (Val.neq rfl rfl) (by first | (simp; done) | (simp; omega) | (refine congrArg Value.bool (decide_eq_false ?_); omega))) ?_
    refine LS.vv rfl rfl (by decide) (Val.move rfl) ?_
    refine LS.vg rfl rfl rfl rfl (by decide) (Val.move rfl) ?_
    refine LS.vg rfl rfl rfl rfl (by decide) (Val.cast (v := .bool false) (Val.neq rfl rfl) (by first | (simp; done) | (simp; omega) | (refine congrArg Value.bool (decide_eq_false ?_); omega))) ?_
    refine LS.vv rfl rfl (by decide) (Val.pickF rfl rfl rfl) ?_
    refine LS.vv rfl rfl (by decide) (Val.move rfl) ?_
    refine LS.vg rfl rfl rfl rfl (by decide) (Val.move rfl) ?_
    refine LS.vg rfl rfl rfl rfl (by decide) (Val.cast (v := .bool false) (Val.neq rfl rfl) (by first | (simp; done) | (simp; omega) | (refine congrArg Value.bool (decide_eq_false ?_); omega))) ?_
    refine LS.vv rfl rfl (by decide) (Val.pickF rfl rfl rfl) ?_
    refine LS.vv rfl rfl (by decide) (Val.move rfl) ?_
    refine LS.vg rfl rfl rfl rfl (by decide) (Val.move rfl) ?_
    refine LS.vg rfl rfl rfl rfl (by decide) (Val.eql rfl rfl) ?_
    refine LS.vg rfl rfl rfl rfl (by decide) (Val.move rfl) ?_
    refine LS.vg rfl rfl rfl rfl (by decide) (Val.geq rfl rfl) ?_
    refine LS.vg rfl rfl rfl rfl (by decide) (Val.move rfl) ?_
    refine LS.split 15 rfl (fun hg2 => ?_) (fun hg2 => ?_)
    ·
      first | (have hg2p := of_decide_eq_true hg2) | skip
      refine LS.vg rfl rfl rfl hg2 (by decide) (Val.move rfl) ?_
      refine LS.vg rfl rfl rfl hg2 (by decide) (Val.leq rfl rfl) ?_
      refine LS.vg rfl rfl rfl rfl (by decide) (Val.pickT rfl hg2 rfl) ?_
      refine LS.vg rfl rfl rfl rfl (by decide) (Val.cast (v := .bool false) (Val.neqB Try.underlying4 rfl rfl) (by first | (refine congrArg Value.bool (decide_eq_false fun h => ?_); apply h; first | (exact decide_eq_decide.2 (by omega)) | (simp; omega)))) ?_
      refine LS.vv rfl rfl (by decide) (Val.pickF rfl rfl rfl) ?_
      refine LS.nil ?_
      refine W.condF rfl ?_
      refine W.skip ?_
      refine thenP_normal ?_
      refine W.seq ?_
      refine W.seqR ?_
      refine LS.vv rfl rfl (by decide) (Val.fieldAddr0 fld40_0 rfl) ?_
      refine LS.m rfl (Step.load rfl rfl (by decide) flat38 rfl (hM.o8.rd) (rfl) ?_)
      refine LS.vv rfl rfl (by decide) (Val.len Try.underlying38 rfl) ?_
      refine LS.vv rfl rfl (by decide) (Val.move rfl) ?_
      refine LS.vv rfl rfl (by decide) (Val.len Try.underlying37 rfl) ?_
      refine LS.vv rfl rfl (by decide) (Val.cast (v := .bool false) (Val.neq rfl rfl) (by first | (simp; done) | (simp; omega) | (refine congrArg Value.bool (decide_eq_false ?_); omega))) ?_
      refine LS.vv rfl rfl (by decide) (Val.move rfl) ?_
      refine LS.vg rfl rfl rfl rfl (by decide) (Val.fieldAddr0 fld40_4 rfl) ?_
      refine LS.mg rfl rfl rfl (Step.load rfl rfl (by decide) flat31 rfl (hM.o8.rd) (rfl) ?_)
      refine LS.vg rfl rfl rfl rfl (by decide) (Val.len Try.underlying31 rfl) ?_
      refine LS.vg rfl rfl rfl rfl (by decide) (Val.cast (v := .bool false) (Val.neq rfl rfl) (by first | (simp; done) | (simp; omega) | (refine congrArg Value.bool (decide_eq_false ?_); omega))) ?_
      refine LS.vv rfl rfl (by decide) (Val.pickF rfl rfl rfl) ?_
      refine LS.nil ?_
      refine W.condF rfl ?_
      refine W.skip ?_
      refine thenP_normal ?_
      refine W.seqT (S := fun w => Below w0.heap.size w0 w ∧ Mz w w0.heap.size _) (.val 0 (.val 1 (.val 2 (.val 3 (.val 4 (.val 5 (.val 6 (.val 7 (.val 8 (.val 9 (.val 10 (.val 11 (.val 12 (.mem 13 (.val 14 (.val 15 (.val 16 (.val 17 (.val 18 (.val 19 (.val 20 (.val 21 (.val 22 (.val 23 (.val 24 (.val 25 (.val 26 (.val 27 (.val 28 (.val 29 (.val 30 (.val 31 (.val 32 (.val 33 (.val 34 (.val 35 (.val 36 (.val 37 (.val 38 (.val 39 (.val 40 (.val 41 (.val 42 (.val 43 (.val 44 (.val 45 (.done))))))))))))))))))))))))))))))))))))))))))))))) mixed (by kernel_rfl) ⟨hB.drew, hM.drew.er15.er14.er13.er11.er10.er7.er6.er5.er3.er2.er1⟩ ?_
      replace hB := hB.drew
      replace hM := hM.drew
      refine DT.vv rfl rfl rfl (by decide) (Val.move rfl) ?_
      refine DT.vv rfl rfl rfl (by decide) (Val.eql rfl rfl) ?_
      refine DT.vv rfl rfl rfl (by decide) (Val.move rfl) ?_
      refine DT.split 2 rfl (fun hg3 => ?_) (fun hg3 => ?_)
      ·
        first | (have hg3p := of_decide_eq_true hg3) | skip
        refine DT.sv rfl rfl rfl rfl hg3 (by decide) ?_
        refine DT.sv rfl rfl rfl rfl hg3 (by decide) ?_
        refine DT.sv rfl rfl rfl rfl hg3 (by decide) ?_
        refine DT.vv rfl rfl rfl (by decide) (Val.pickT rfl hg3 rfl) ?_
        refine DT.vv rfl rfl rfl (by decide) (Val.move rfl) ?_
        refine DT.vg rfl rfl rfl rfl rfl (by decide) (Val.fieldAddr0 fld40_1 rfl) ?_
        refine DT.vg rfl rfl rfl rfl rfl (by decide) (Val.load flat3 rfl (fun _ h => h.2.o2.rd) (rfl)) ?_
        refine DT.vg rfl rfl rfl rfl rfl (by decide) (Val.move rfl) ?_
        refine DT.vg rfl rfl rfl rfl rfl (by decide) (Val.fieldAddr0 fld40_0 rfl) ?_
        refine DT.vg rfl rfl rfl rfl rfl (by decide) (Val.load flat38 rfl (fun _ h => h.2.o2.rd) (rfl)) ?_
        refine DT.mg rfl rfl rfl rfl (Step.call body14 rfl rfl (by decide) rfl (CallsV.mono (written_any l _ _ _ _ _ _ _ _ (hr.below hB) hM.o9.rd rfl (splay_codes 1 l) rfl (by omega)) ?_))
        rintro _ w13 ⟨p2, c2, rfl, hO2, hb13⟩
        replace hM := hM.add hB.size hb13 hO2
        replace hB := hB.trans (hb13.mono hB.size)
        rw [wrt_splay] at hM
        have hwsl := congrArg List.length (wrt_splay 1 l)
        refine ⟨⟨hB, hM.er16.er15.er14.er12.er11.er8.er7.er6.er4.er3.er2.er0⟩, ?_⟩
        refine DT.vg rfl rfl rfl rfl rfl (by decide) (Val.len Try.underlying37 rfl) ?_
        refine DT.vg rfl rfl rfl rfl rfl (by decide) (Val.cast (v := .bool true) (Val.eql rfl rfl) (by refine congrArg Value.bool (decide_eq_true ?_); omega)) ?_
        refine DT.vv rfl rfl rfl (by decide) (Val.pickT rfl rfl rfl) ?_
        refine DT.vv rfl rfl rfl (by decide) (Val.move rfl) ?_
        refine DT.vg rfl rfl rfl rfl rfl (by decide) (Val.fieldAddr0 fld40_1 rfl) ?_
        refine DT.vg rfl rfl rfl rfl rfl (by decide) (Val.load flat3 rfl (fun _ h => h.2.o1.rd) (rfl)) ?_
        refine DT.vg rfl rfl rfl rfl rfl (by decide) (Val.fieldAddr0 fld40_2 rfl) ?_
        refine DT.vg rfl rfl rfl rfl rfl (by decide) (Val.load flat3 rfl (fun _ h => h.2.o1.rd) (rfl)) ?_
        refine DT.vg rfl rfl rfl rfl rfl (by decide) (Val.cast (v := .bool true) (Val.leq rfl rfl) (by refine congrArg Value.bool (decide_eq_true ?_); omega)) ?_
        refine DT.vv rfl rfl rfl (by decide) (Val.pickT rfl rfl rfl) ?_
        refine DT.vv rfl rfl rfl (by decide) (Val.move rfl) ?_
        refine DT.vg rfl rfl rfl rfl rfl (by decide) (Val.fieldAddr0 fld40_1 rfl) ?_
        refine DT.vg rfl rfl rfl rfl rfl (by decide) (Val.load flat3 rfl (fun _ h => h.2.o0.rd) (rfl)) ?_
        refine DT.vg rfl rfl rfl rfl rfl (by decide) (Val.fieldAddr0 fld40_3 rfl) ?_
        refine DT.vg rfl rfl rfl rfl rfl (by decide) (Val.load flat3 rfl (fun _ h => h.2.o0.rd) (rfl)) ?_
        refine DT.vg rfl rfl rfl rfl rfl (by decide) (Val.cast (v := .bool true) (Val.leq rfl rfl) (by refine congrArg Value.bool (decide_eq_true ?_); omega)) ?_
        refine DT.vv rfl rfl rfl (by decide) (Val.pickT rfl rfl rfl) ?_
        refine DT.vv rfl rfl rfl (by decide) (Val.move rfl) ?_
        refine DT.vg rfl rfl rfl rfl rfl (by decide) (Val.fieldAddr0 fld40_1 rfl) ?_
        refine DT.vg rfl rfl rfl rfl rfl (by decide) (Val.load flat3 rfl (fun _ h => h.2.o0.rd) (rfl)) ?_
        refine DT.vg rfl rfl rfl rfl rfl (by decide) (Val.fieldAddr0 fld40_1 rfl) ?_
        refine DT.vg rfl rfl rfl rfl rfl (by decide) (Val.load flat3 rfl (fun _ h => h.2.o1.rd) (rfl)) ?_
        refine DT.vg rfl rfl rfl rfl rfl (by decide) (Val.cast (v := .bool true) (Val.leq rfl rfl) (by refine congrArg Value.bool (decide_eq_true ?_); omega)) ?_
        refine DT.vv rfl rfl rfl (by decide) (Val.pickT rfl rfl rfl) ?_
        refine DT.vv rfl rfl rfl (by decide) (Val.move rfl) ?_
        refine DT.vg rfl rfl rfl rfl rfl (by decide) (Val.fieldAddr0 fld40_1 rfl) ?_
        refine DT.vg rfl rfl rfl rfl rfl (by decide) (Val.load flat3 rfl (fun _ h => h.2.o1.rd) (rfl)) ?_
        refine DT.vg rfl rfl rfl rfl rfl (by decide) (Val.fieldAddr0 fld40_1 rfl) ?_
        refine DT.vg rfl rfl rfl rfl rfl (by decide) (Val.load flat3 rfl (fun _ h => h.2.o2.rd) (rfl)) ?_
        refine DT.vg rfl rfl rfl rfl rfl (by decide) (Val.cast (v := .bool true) (Val.leq rfl rfl) (by refine congrArg Value.bool (decide_eq_true ?_); omega)) ?_
        refine DT.vv rfl rfl rfl (by decide) (Val.pickT rfl rfl rfl) ?_
        refine DT.vv rfl rfl rfl (by decide) (Val.assign rfl) ?_
        refine DT.nil ?_
        refine W.ret ?_
        refine ret1 (by first | exact .inl rfl | exact .inr rfl) rfl ?_
        first | exact ⟨rfl, hB⟩ | contradiction | (exfalso; omega)
      ·
        first | (have hg3p := of_decide_eq_false hg3) | skip
        refine DT.vg rfl rfl rfl rfl hg3 (by decide) (Val.fieldAddr0 fld40_1 rfl) ?_
        refine DT.vg rfl rfl rfl rfl hg3 (by decide) (Val.load flat3 rfl (fun _ h => h.2.o4.rd) (rfl)) ?_
        obtain ⟨_, _, ht1⟩ := h21 (by omega)
        refine DT.vg rfl rfl rfl rfl hg3 (by decide) (Val.cast (v := .bool true) (Val.eql rfl rfl) (by refine congrArg Value.bool (decide_eq_true ?_); omega)) ?_
        refine DT.vv rfl rfl rfl (by decide) (Val.pickF rfl hg3 rfl) ?_
        refine DT.vv rfl rfl rfl (by decide) (Val.move rfl) ?_
        refine DT.vg rfl rfl rfl rfl rfl (by decide) (Val.fieldAddr0 fld40_1 rfl) ?_
        refine DT.vg rfl rfl rfl rfl rfl (by decide) (Val.load flat3 rfl (fun _ h => h.2.o2.rd) (rfl)) ?_
        refine DT.vg rfl rfl rfl rfl rfl (by decide) (Val.move rfl) ?_
        refine DT.vg rfl rfl rfl rfl rfl (by decide) (Val.fieldAddr0 fld40_0 rfl) ?_
        refine DT.vg rfl rfl rfl rfl rfl (by decide) (Val.load flat38 rfl (fun _ h => h.2.o2.rd) (rfl)) ?_
        refine DT.mg rfl rfl rfl rfl (Step.call body14 rfl rfl (by decide) rfl (CallsV.mono (written_any l _ _ _ _ _ _ _ _ (hr.below hB) hM.o9.rd rfl (splay_codes 1 l) rfl (by omega)) ?_))
        rintro _ w14 ⟨p2, c2, rfl, hO2, hb14⟩
        replace hM := hM.add hB.size hb14 hO2
        replace hB := hB.trans (hb14.mono hB.size)
        rw [wrt_splay] at hM
        have hwsl := congrArg List.length (wrt_splay 1 l)
        refine ⟨⟨hB, hM.er16.er15.er14.er12.er11.er8.er7.er6.er4.er3.er2.er0⟩, ?_⟩
        refine DT.vg rfl rfl rfl rfl rfl (by decide) (Val.len Try.underlying37 rfl) ?_
        refine DT.vg rfl rfl rfl rfl rfl (by decide) (Val.cast (v := .bool true) (Val.eql rfl rfl) (by refine congrArg Value.bool (decide_eq_true ?_); omega)) ?_
        refine DT.vv rfl rfl rfl (by decide) (Val.pickT rfl rfl rfl) ?_
        refine DT.vv rfl rfl rfl (by decide) (Val.move rfl) ?_
        refine DT.vg rfl rfl rfl rfl rfl (by decide) (Val.fieldAddr0 fld40_1 rfl) ?_
        refine DT.vg rfl rfl rfl rfl rfl (by decide) (Val.load flat3 rfl (fun _ h => h.2.o1.rd) (rfl)) ?_
        refine DT.vg rfl rfl rfl rfl rfl (by decide) (Val.fieldAddr0 fld40_2 rfl) ?_
        refine DT.vg rfl rfl rfl rfl rfl (by decide) (Val.load flat3 rfl (fun _ h => h.2.o1.rd) (rfl)) ?_
        refine DT.vg rfl rfl rfl rfl rfl (by decide) (Val.cast (v := .bool true) (Val.leq rfl rfl) (by refine congrArg Value.bool (decide_eq_true ?_); omega)) ?_
        refine DT.vv rfl rfl rfl (by decide) (Val.pickT rfl rfl rfl) ?_
        refine DT.vv rfl rfl rfl (by decide) (Val.move rfl) ?_
        refine DT.vg rfl rfl rfl rfl rfl (by decide) (Val.fieldAddr0 fld40_1 rfl) ?_
        refine DT.vg rfl rfl rfl rfl rfl (by decide) (Val.load flat3 rfl (fun _ h => h.2.o0.rd) (rfl)) ?_
        refine DT.vg rfl rfl rfl rfl rfl (by decide) (Val.fieldAddr0 fld40_3 rfl) ?_
        refine DT.vg rfl rfl rfl rfl rfl (by decide) (Val.load flat3 rfl (fun _ h => h.2.o0.rd) (rfl)) ?_
        refine DT.vg rfl rfl rfl rfl rfl (by decide) (Val.cast (v := .bool true) (Val.leq rfl rfl) (by refine congrArg Value.bool (decide_eq_true ?_); omega)) ?_
        refine DT.vv rfl rfl rfl (by decide) (Val.pickT rfl rfl rfl) ?_
        refine DT.vv rfl rfl rfl (by decide) (Val.move rfl) ?_
        refine DT.vg rfl rfl rfl rfl rfl (by decide) (Val.fieldAddr0 fld40_1 rfl) ?_
        refine DT.vg rfl rfl rfl rfl rfl (by decide) (Val.load flat3 rfl (fun _ h => h.2.o0.rd) (rfl)) ?_
        refine DT.vg rfl rfl rfl rfl rfl (by decide) (Val.fieldAddr0 fld40_1 rfl) ?_
        refine DT.vg rfl rfl rfl rfl rfl (by decide) (Val.load flat3 rfl (fun _ h => h.2.o1.rd) (rfl)) ?_
        refine DT.vg rfl rfl rfl rfl rfl (by decide) (Val.cast (v := .bool true) (Val.leq rfl rfl) (by refine congrArg Value.bool (decide_eq_true ?_); omega)) ?_
        refine DT.vv rfl rfl rfl (by decide) (Val.pickT rfl rfl rfl) ?_
        refine DT.vv rfl rfl rfl (by decide) (Val.move rfl) ?_
        refine DT.vg rfl rfl rfl rfl rfl (by decide) (Val.fieldAddr0 fld40_1 rfl) ?_
        refine DT.vg rfl rfl rfl rfl rfl (by decide) (Val.load flat3 rfl (fun _ h => h.2.o1.rd) (rfl)) ?_
        refine DT.vg rfl rfl rfl rfl rfl (by decide) (Val.fieldAddr0 fld40_1 rfl) ?_
        refine DT.vg rfl rfl rfl rfl rfl (by decide) (Val.load flat3 rfl (fun _ h => h.2.o2.rd) (rfl)) ?_
        refine DT.vg rfl rfl rfl rfl rfl (by decide) (Val.cast (v := .bool true) (Val.leq rfl rfl) (by refine congrArg Value.bool (decide_eq_true ?_); omega)) ?_
        refine DT.vv rfl rfl rfl (by decide) (Val.pickT rfl rfl rfl) ?_
        refine DT.vv rfl rfl rfl (by decide) (Val.assign rfl) ?_
        refine DT.nil ?_
        refine W.ret ?_
        refine ret1 (by first | exact .inl rfl | exact .inr rfl) rfl ?_
        first | exact ⟨rfl, hB⟩ | contradiction | (exfalso; omega)
    ·
      first | (have hg2p := of_decide_eq_false hg2) | skip
      refine LS.s rfl rfl rfl hg2 (by decide) ?_
      refine LS.s rfl rfl rfl hg2 (by decide) ?_
      refine LS.vg rfl rfl rfl rfl (by decide) (Val.pickF rfl hg2 rfl) ?_
      refine LS.vg rfl rfl rfl rfl (by decide) (Val.cast (v := .bool false) (Val.neqB Try.underlying4 rfl rfl) (by first | (refine congrArg Value.bool (decide_eq_false fun h => ?_); apply h; first | (exact decide_eq_decide.2 (by omega)) | (simp; omega)))) ?_
      refine LS.vv rfl rfl (by decide) (Val.pickF rfl rfl rfl) ?_
      refine LS.nil ?_
      refine W.condF rfl ?_
      refine W.skip ?_
      refine thenP_normal ?_
      refine W.seq ?_
      refine W.seqR ?_
      refine LS.vv rfl rfl (by decide) (Val.fieldAddr0 fld40_0 rfl) ?_
      refine LS.m rfl (Step.load rfl rfl (by decide) flat38 rfl (hM.o8.rd) (rfl) ?_)
      refine LS.vv rfl rfl (by decide) (Val.len Try.underlying38 rfl) ?_
      refine LS.vv rfl rfl (by decide) (Val.move rfl) ?_
      refine LS.vv rfl rfl (by decide) (Val.len Try.underlying37 rfl) ?_
      refine LS.vv rfl rfl (by decide) (Val.cast (v := .bool false) (Val.neq rfl rfl) (by first | (simp; done) | (simp; omega) | (refine congrArg Value.bool (decide_eq_false ?_); omega))) ?_
      refine LS.vv rfl rfl (by decide) (Val.move rfl) ?_
      refine LS.vg rfl rfl rfl rfl (by decide) (Val.fieldAddr0 fld40_4 rfl) ?_
      refine LS.mg rfl rfl rfl (Step.load rfl rfl (by decide) flat31 rfl (hM.o8.rd) (rfl) ?_)
      refine LS.vg rfl rfl rfl rfl (by decide) (Val.len Try.underlying31 rfl) ?_
      refine LS.vg rfl rfl rfl rfl (by decide) (Val.cast (v := .bool false) (Val.neq rfl rfl) (by first | (simp; done) | (simp; omega) | (refine congrArg Value.bool (decide_eq_false ?_); omega))) ?_
      refine LS.vv rfl rfl (by decide) (Val.pickF rfl rfl rfl) ?_
      refine LS.nil ?_
      refine W.condF rfl ?_
      refine W.skip ?_
      refine thenP_normal ?_
      refine W.seqT (S := fun w => Below w0.heap.size w0 w ∧ Mz w w0.heap.size _) (.val 0 (.val 1 (.val 2 (.val 3 (.val 4 (.val 5 (.val 6 (.val 7 (.val 8 (.val 9 (.val 10 (.val 11 (.val 12 (.mem 13 (.val 14 (.val 15 (.val 16 (.val 17 (.val 18 (.val 19 (.val 20 (.val 21 (.val 22 (.val 23 (.val 24 (.val 25 (.val 26 (.val 27 (.val 28 (.val 29 (.val 30 (.val 31 (.val 32 (.val 33 (.val 34 (.val 35 (.val 36 (.val 37 (.val 38 (.val 39 (.val 40 (.val 41 (.val 42 (.val 43 (.val 44 (.val 45 (.done))))))))))))))))))))))))))))))))))))))))))))))) mixed (by kernel_rfl) ⟨hB.drew, hM.drew.er15.er14.er13.er11.er10.er7.er6.er5.er3.er2.er1⟩ ?_
      replace hB := hB.drew
      replace hM := hM.drew
      refine DT.vv rfl rfl rfl (by decide) (Val.move rfl) ?_
      refine DT.vv rfl rfl rfl (by decide) (Val.eql rfl rfl) ?_
      refine DT.vv rfl rfl rfl (by decide) (Val.move rfl) ?_
      refine DT.split 2 rfl (fun hg4 => ?_) (fun hg4 => ?_)
      ·
        first | (have hg4p := of_decide_eq_true hg4) | skip
        refine DT.sv rfl rfl rfl rfl hg4 (by decide) ?_
        refine DT.sv rfl rfl rfl rfl hg4 (by decide) ?_
        refine DT.sv rfl rfl rfl rfl hg4 (by decide) ?_
        refine DT.vv rfl rfl rfl (by decide) (Val.pickT rfl hg4 rfl) ?_
        refine DT.vv rfl rfl rfl (by decide) (Val.move rfl) ?_
        refine DT.vg rfl rfl rfl rfl rfl (by decide) (Val.fieldAddr0 fld40_1 rfl) ?_
        refine DT.vg rfl rfl rfl rfl rfl (by decide) (Val.load flat3 rfl (fun _ h => h.2.o2.rd) (rfl)) ?_
        refine DT.vg rfl rfl rfl rfl rfl (by decide) (Val.move rfl) ?_
        refine DT.vg rfl rfl rfl rfl rfl (by decide) (Val.fieldAddr0 fld40_0 rfl) ?_
        refine DT.vg rfl rfl rfl rfl rfl (by decide) (Val.load flat38 rfl (fun _ h => h.2.o2.rd) (rfl)) ?_
        refine DT.mg rfl rfl rfl rfl (Step.call body14 rfl rfl (by decide) rfl (CallsV.mono (written_any l _ _ _ _ _ _ _ _ (hr.below hB) hM.o9.rd rfl (splay_codes 1 l) rfl (by omega)) ?_))
        rintro _ w15 ⟨p2, c2, rfl, hO2, hb15⟩
        replace hM := hM.add hB.size hb15 hO2
        replace hB := hB.trans (hb15.mono hB.size)
        rw [wrt_splay] at hM
        have hwsl := congrArg List.length (wrt_splay 1 l)
        refine ⟨⟨hB, hM.er16.er15.er14.er12.er11.er8.er7.er6.er4.er3.er2.er0⟩, ?_⟩
        refine DT.vg rfl rfl rfl rfl rfl (by decide) (Val.len Try.underlying37 rfl) ?_
        refine DT.vg rfl rfl rfl rfl rfl (by decide) (Val.cast (v := .bool true) (Val.eql rfl rfl) (by refine congrArg Value.bool (decide_eq_true ?_); omega)) ?_
        refine DT.vv rfl rfl rfl (by decide) (Val.pickT rfl rfl rfl) ?_
        refine DT.vv rfl rfl rfl (by decide) (Val.move rfl) ?_
        refine DT.vg rfl rfl rfl rfl rfl (by decide) (Val.fieldAddr0 fld40_1 rfl) ?_
        refine DT.vg rfl rfl rfl rfl rfl (by decide) (Val.load flat3 rfl (fun _ h => h.2.o1.rd) (rfl)) ?_
        refine DT.vg rfl rfl rfl rfl rfl (by decide) (Val.fieldAddr0 fld40_2 rfl) ?_
        refine DT.vg rfl rfl rfl rfl rfl (by decide) (Val.load flat3 rfl (fun _ h => h.2.o1.rd) (rfl)) ?_
        refine DT.vg rfl rfl rfl rfl rfl (by decide) (Val.cast (v := .bool true) (Val.leq rfl rfl) (by refine congrArg Value.bool (decide_eq_true ?_); omega)) ?_
        refine DT.vv rfl rfl rfl (by decide) (Val.pickT rfl rfl rfl) ?_
        refine DT.vv rfl rfl rfl (by decide) (Val.move rfl) ?_
        refine DT.vg rfl rfl rfl rfl rfl (by decide) (Val.fieldAddr0 fld40_1 rfl) ?_
        refine DT.vg rfl rfl rfl rfl rfl (by decide) (Val.load flat3 rfl (fun _ h => h.2.o0.rd) (rfl)) ?_
        refine DT.vg rfl rfl rfl rfl rfl (by decide) (Val.fieldAddr0 fld40_3 rfl) ?_
        refine DT.vg rfl rfl rfl rfl rfl (by decide) (Val.load flat3 rfl (fun _ h => h.2.o0.rd) (rfl)) ?_
        refine DT.vg rfl rfl rfl rfl rfl (by decide) (Val.cast (v := .bool true) (Val.leq rfl rfl) (by refine congrArg Value.bool (decide_eq_true ?_); omega)) ?_
        refine DT.vv rfl rfl rfl (by decide) (Val.pickT rfl rfl rfl) ?_
        refine DT.vv rfl rfl rfl (by decide) (Val.move rfl) ?_
        refine DT.vg rfl rfl rfl rfl rfl (by decide) (Val.fieldAddr0 fld40_1 rfl) ?_
        refine DT.vg rfl rfl rfl rfl rfl (by decide) (Val.load flat3 rfl (fun _ h => h.2.o0.rd) (rfl)) ?_
        refine DT.vg rfl rfl rfl rfl rfl (by decide) (Val.fieldAddr0 fld40_1 rfl) ?_
        refine DT.vg rfl rfl rfl rfl rfl (by decide) (Val.load flat3 rfl (fun _ h => h.2.o1.rd) (rfl)) ?_
        refine DT.vg rfl rfl rfl rfl rfl (by decide) (Val.cast (v := .bool true) (Val.leq rfl rfl) (by refine congrArg Value.bool (decide_eq_true ?_); omega)) ?_
        refine DT.vv rfl rfl rfl (by decide) (Val.pickT rfl rfl rfl) ?_
        refine DT.vv rfl rfl rfl (by decide) (Val.move rfl) ?_
        refine DT.vg rfl rfl rfl rfl rfl (by decide) (Val.fieldAddr0 fld40_1 rfl) ?_
        refine DT.vg rfl rfl rfl rfl rfl (by decide) (Val.load flat3 rfl (fun _ h => h.2.o1.rd) (rfl)) ?_
        refine DT.vg rfl rfl rfl rfl rfl (by decide) (Val.fieldAddr0 fld40_1 rfl) ?_
        refine DT.vg rfl rfl rfl rfl rfl (by decide) (Val.load flat3 rfl (fun _ h => h.2.o2.rd) (rfl)) ?_
        refine DT.vg rfl rfl rfl rfl rfl (by decide) (Val.cast (v := .bool true) (Val.leq rfl rfl) (by refine congrArg Value.bool (decide_eq_true ?_); omega)) ?_
        refine DT.vv rfl rfl rfl (by decide) (Val.pickT rfl rfl rfl) ?_
        refine DT.vv rfl rfl rfl (by decide) (Val.assign rfl) ?_
        refine DT.nil ?_
        refine W.ret ?_
        refine ret1 (by first | exact .inl rfl | exact .inr rfl) rfl ?_
        first | exact ⟨rfl, hB⟩ | contradiction | (exfalso; omega)
      ·
        first | (have hg4p := of_decide_eq_false hg4) | skip
        refine DT.vg rfl rfl rfl rfl hg4 (by decide) (Val.fieldAddr0 fld40_1 rfl) ?_
        refine DT.vg rfl rfl rfl rfl hg4 (by decide) (Val.load flat3 rfl (fun _ h => h.2.o4.rd) (rfl)) ?_
        obtain ⟨_, _, ht1⟩ := h21 (by omega)
        refine DT.vg rfl rfl rfl rfl hg4 (by decide) (Val.cast (v := .bool true) (Val.eql rfl rfl) (by refine congrArg Value.bool (decide_eq_true ?_); omega)) ?_
        refine DT.vv rfl rfl rfl (by decide) (Val.pickF rfl hg4 rfl) ?_
        refine DT.vv rfl rfl rfl (by decide) (Val.move rfl) ?_
        refine DT.vg rfl rfl rfl rfl rfl (by decide) (Val.fieldAddr0 fld40_1 rfl) ?_
        refine DT.vg rfl rfl rfl rfl rfl (by decide) (Val.load flat3 rfl (fun _ h => h.2.o2.rd) (rfl)) ?_
        refine DT.vg rfl rfl rfl rfl rfl (by decide) (Val.move rfl) ?_
        refine DT.vg rfl rfl rfl rfl rfl (by decide) (Val.fieldAddr0 fld40_0 rfl) ?_
        refine DT.vg rfl rfl rfl rfl rfl (by decide) (Val.load flat38 rfl (fun _ h => h.2.o2.rd) (rfl)) ?_
        refine DT.mg rfl rfl rfl rfl (Step.call body14 rfl rfl (by decide) rfl (CallsV.mono (written_any l _ _ _ _ _ _ _ _ (hr.below hB) hM.o9.rd rfl (splay_codes 1 l) rfl (by omega)) ?_))
        rintro _ w16 ⟨p2, c2, rfl, hO2, hb16⟩
        replace hM := hM.add hB.size hb16 hO2
        replace hB := hB.trans (hb16.mono hB.size)
        rw [wrt_splay] at hM
        have hwsl := congrArg List.length (wrt_splay 1 l)
        refine ⟨⟨hB, hM.er16.er15.er14.er12.er11.er8.er7.er6.er4.er3.er2.er0⟩, ?_⟩
        refine DT.vg rfl rfl rfl rfl rfl (by decide) (Val.len Try.underlying37 rfl) ?_
        refine DT.vg rfl rfl rfl rfl rfl (by decide) (Val.cast (v := .bool true) (Val.eql rfl rfl) (by refine congrArg Value.bool (decide_eq_true ?_); omega)) ?_
        refine DT.vv rfl rfl rfl (by decide) (Val.pickT rfl rfl rfl) ?_
        refine DT.vv rfl rfl rfl (by decide) (Val.move rfl) ?_
        refine DT.vg rfl rfl rfl rfl rfl (by decide) (Val.fieldAddr0 fld40_1 rfl) ?_
        refine DT.vg rfl rfl rfl rfl rfl (by decide) (Val.load flat3 rfl (fun _ h => h.2.o1.rd) (rfl)) ?_
        refine DT.vg rfl rfl rfl rfl rfl (by decide) (Val.fieldAddr0 fld40_2 rfl) ?_
        refine DT.vg rfl rfl rfl rfl rfl (by decide) (Val.load flat3 rfl (fun _ h => h.2.o1.rd) (rfl)) ?_
        refine DT.vg rfl rfl rfl rfl rfl (by decide) (Val.cast (v := .bool true) (Val.leq rfl rfl) (by refine congrArg Value.bool (decide_eq_true ?_); omega)) ?_
        refine DT.vv rfl rfl rfl (by decide) (Val.pickT rfl rfl rfl) ?_
        refine DT.vv rfl rfl rfl (by decide) (Val.move rfl) ?_
        refine DT.vg rfl rfl rfl rfl rfl (by decide) (Val.fieldAddr0 fld40_1 rfl) ?_
        refine DT.vg rfl rfl rfl rfl rfl (by decide) (Val.load flat3 rfl (fun _ h => h.2.o0.rd) (rfl)) ?_
        refine DT.vg rfl rfl rfl rfl rfl (by decide) (Val.fieldAddr0 fld40_3 rfl) ?_
        refine DT.vg rfl rfl rfl rfl rfl (by decide) (Val.load flat3 rfl (fun _ h => h.2.o0.rd) (rfl)) ?_
        refine DT.vg rfl rfl rfl rfl rfl (by decide) (Val.cast (v := .bool true) (Val.leq rfl rfl) (by refine congrArg Value.bool (decide_eq_true ?_); omega)) ?_
        refine DT.vv rfl rfl rfl (by decide) (Val.pickT rfl rfl rfl) ?_
        refine DT.vv rfl rfl rfl (by decide) (Val.move rfl) ?_
        refine DT.vg rfl rfl rfl rfl rfl (by decide) (Val.fieldAddr0 fld40_1 rfl) ?_
        refine DT.vg rfl rfl rfl rfl rfl (by decide) (Val.load flat3 rfl (fun _ h => h.2.o0.rd) (rfl)) ?_
        refine DT.vg rfl rfl rfl rfl rfl (by decide) (Val.fieldAddr0 fld40_1 rfl) ?_
        refine DT.vg rfl rfl rfl rfl rfl (by decide) (Val.load flat3 rfl (fun _ h => h.2.o1.rd) (rfl)) ?_
        refine DT.vg rfl rfl rfl rfl rfl (by decide) (Val.cast (v := .bool true) (Val.leq rfl rfl) (by refine congrArg Value.bool (decide_eq_true ?_); omega)) ?_
        refine DT.vv rfl rfl rfl (by decide) (Val.pickT rfl rfl rfl) ?_
        refine DT.vv rfl rfl rfl (by decide) (Val.move rfl) ?_
        refine DT.vg rfl rfl rfl rfl rfl (by decide) (Val.fieldAddr0 fld40_1 rfl) ?_
        refine DT.vg rfl rfl rfl rfl rfl (by decide) (Val.load flat3 rfl (fun _ h => h.2.o1.rd) (rfl)) ?_
        refine DT.vg rfl rfl rfl rfl rfl (by decide) (Val.fieldAddr0 fld40_1 rfl) ?_
        refine DT.vg rfl rfl rfl rfl rfl (by decide) (Val.load flat3 rfl (fun _ h => h.2.o2.rd) (rfl)) ?_
        refine DT.vg rfl rfl rfl rfl rfl (by decide) (Val.cast (v := .bool true) (Val.leq rfl rfl) (by refine congrArg Value.bool (decide_eq_true ?_); omega)) ?_
        refine DT.vv rfl rfl rfl (by decide) (Val.pickT rfl rfl rfl) ?_
        refine DT.vv rfl rfl rfl (by decide) (Val.assign rfl) ?_
        refine DT.nil ?_
        refine W.ret ?_
        refine ret1 (by first | exact .inl rfl | exact .inr rfl) rfl ?_
        first | exact ⟨rfl, hB⟩ | contradiction | (exfalso; omega)

end Go.Proofs.Ytldcpihjoakigaa
