/-
  The array of package stripe: a new one.
-/
import Derived.Test.YtldcpihjoakigaaArray2
namespace Go.Proofs.Ytldcpihjoakigaa
open Go Go.RowKit V
set_option linter.unusedVariables false
set_option linter.unusedSimpArgs false

theorem New_any (d : Nat) (w0 : World) (hd3 : 3 ≤ d) (hd6 : d ≤ 6) :
    CallsV Try.prog 20 #[.int .i64 (d : Int)] w0 (fun v w => ∃ (g : Nat) (po : Option Addr) (co : Nat) (T : List Tx), v = .pointer (some ⟨g, 0, none⟩) ∧ AM w w0.heap.size g po co T (-1) [] ∧ T.length = d ∧ dT T = List.replicate d (List.replicate (rowsOf d) 0) ∧ Below w0.heap.size w0 w) := by
  refine enter1 Try.func20 rfl Try.ntmps20 (by simp) rfl ?_
  have hB := Below.refl w0.heap.size w0
  simp only [argLoc]
  have hM := Mz.nil w0 w0.heap.size
  have h24 := rowsOf_le hd3 hd6
  have hrw : rowsOf d = (24 + d - 2) / (d - 1) := rfl
  refine W.seqR ?_
  refine LS.vv rfl rfl (by decide) (Val.assign rfl) ?_
  refine LS.nil ?_
  refine W.seqR ?_
  refine LS.vv rfl rfl (by decide) (Val.move rfl) ?_
  first | refine LS.vv rfl rfl (by decide) (Val.addN (i := 24) rfl rfl (by omega)) ?_ | refine LS.vv rfl rfl (by decide) (Val.add64 rfl rfl (by omega)) ?_
  first | refine LS.vv rfl rfl (by decide) (Val.subN (j := 2) rfl rfl (by omega) (by omega)) ?_ | refine LS.vv rfl rfl (by decide) (Val.sub64 rfl rfl (by omega)) ?_
  refine LS.vv rfl rfl (by decide) (Val.move rfl) ?_
  first | refine LS.vv rfl rfl (by decide) (Val.subN (j := 1) rfl rfl (by omega) (by omega)) ?_ | refine LS.vv rfl rfl (by decide) (Val.sub64 rfl rfl (by omega)) ?_
  first | refine LS.vv rfl rfl (by decide) (Val.quoN rfl rfl (by omega) (by omega)) ?_ | refine LS.vv rfl rfl (by decide) (Val.quo64 rfl rfl (by omega) (by omega)) ?_
  rw [← hrw]
  refine LS.vv rfl rfl (by decide) (Val.assign rfl) ?_
  refine LS.nil ?_
  refine W.seqR ?_
  refine LS.vv rfl rfl (by decide) (Val.move rfl) ?_
  refine LS.m rfl (Step.makeZ rfl rfl (by decide) Try.underlying28 elem31 rfl rfl (by omega) (by omega) (made_one rfl _) ?_)
  rintro w1 hO1 hg1 hbl1
  replace hM := hM.add hB.size hbl1 hO1
  replace hB := hB.trans (hbl1.mono hB.size)
  skip
  refine LS.vv rfl rfl (by decide) (Val.build str64 elem64 rfl rfl rfl) ?_
  refine LS.m rfl (Step.boxZ rfl rfl (by decide) rfl rfl ?_)
  rintro w2 hO2 hg2 hbl2 hsz2
  replace hM := hM.add hB.size hbl2 hO2
  try simp only [List.length_cons, List.length_nil, Nat.zero_add, Nat.reduceAdd, Value.cells, List.toList_toArray, List.append_nil, List.set_cons_zero, List.set_cons_succ] at hM
  replace hB := hB.trans (hbl2.mono hB.size)
  generalize w1.heap.size = gg2 at *
  refine LS.vv rfl rfl (by decide) (Val.assign rfl) ?_
  refine LS.nil ?_
  refine W.seq ?_
  refine W.seqR ?_
  refine LS.vv rfl rfl (by decide) (Val.move rfl) ?_
  first | refine LS.vv rfl rfl (by decide) (Val.nilCheck rfl) ?_ | refine LS.vv rfl rfl (by decide) (Val.nilCheckP rfl) ?_
  refine LS.vv rfl rfl (by decide) (Val.fieldAddr0 fld64_0 rfl) ?_
  refine LS.m rfl (Step.load rfl rfl (by decide) flat28 rfl (hM.o0.rd) (rfl) ?_)
  refine LS.vv rfl rfl (by decide) (Val.len Try.underlying28 rfl) ?_
  refine LS.vv rfl rfl (by decide) (Val.cast (v := .int .i64 ((0 : Nat) : Int)) (Val.move rfl) rfl) ?_
  refine LS.nil ?_
  refine W.block ?_
  rw [← tv_nil] at hM
  refine W.loop (α := Nat × List Tx) (fun g => [(21, .int .i64 (g.1 : Int))]) [(3, _), (4, _), (20, _)] (fun g w => (g.1 ≤ d ∧ g.2.length = g.1 ∧ dT g.2 = List.replicate g.1 (List.replicate (rowsOf d) 0)) ∧ Mz w w0.heap.size (⟨64, 2, some ⟨gg2, 0, none⟩, 1, 1, [.slice (some ⟨w0.heap.size, 0, none⟩) d d, .int .i64 (-1)]⟩ :: ⟨31, 1, some ⟨w0.heap.size, 0, none⟩, d, d, tv (g.2 ++ nilT (d - g.1))⟩ :: (tz 5 g.2)) ∧ Below w0.heap.size w0 w) (fun g => d - g.1) ((0, [])) (Sub.cons rfl (Sub.nil _)) (Sub.cons rfl (Sub.cons rfl (Sub.cons rfl (Sub.nil _)))) ?_ ?_
  · exact ⟨⟨Nat.zero_le _, rfl, rfl⟩, hM, hB⟩
  rintro ⟨k, U⟩ w3 ⟨⟨hk, hU, hdt⟩, hM, hB⟩
  try simp only at hM
  simp only [List.cons_append, List.nil_append]
  simp only at hk hU hdt
  refine W.seqR ?_
  refine LS.vv rfl rfl (by decide) (Val.lss rfl rfl) ?_
  refine LS.nil ?_
  refine W.seq ?_
  first | refine W.condD rfl (fun hc1 => ?_) (fun hc1 => ?_) | refine W.cond rfl (fun hc1 => ?_) (fun hc1 => ?_)
  ·
    refine W.skip ?_
    refine thenP_normal ?_
    refine W.seq ?_
    refine W.block ?_
    refine W.seqR ?_
    refine LS.vv rfl rfl (by decide) (Val.move rfl) ?_
    refine LS.vv rfl rfl (by decide) (Val.assign rfl) ?_
    refine LS.nil ?_
    refine W.regFz 8 [(0, true), (1, true), (2, true), (3, true), (4, true), (5, true), (6, false), (7, true), (8, false)] mixed (by kernel_rfl) hB hM ?_
    replace hB := hB.drew
    replace hM := hM.drew
    refine DF.vv rfl rfl rfl (by decide) (Val.move rfl) ?_
    first | refine DF.vv rfl rfl rfl (by decide) (Val.nilCheck rfl) ?_ | refine DF.vv rfl rfl rfl (by decide) (Val.nilCheckP rfl) ?_
    refine DF.vv rfl rfl rfl (by decide) (Val.fieldAddr0 fld64_0 rfl) ?_
    refine DF.vv rfl rfl rfl (by decide) (Val.load flat28 rfl (fun _ h => h.2.o0.rd) (rfl)) ?_
    refine DF.vv rfl rfl rfl (by decide) (Val.move rfl) ?_
    refine DF.vv rfl rfl rfl (by decide) (Val.move rfl) ?_
    refine DF.m rfl rfl (Step.makeZ rfl rfl (by decide) Try.underlying31 elem5 rfl rfl (by omega) (by omega) (made_one rfl _) ?_)
    rintro w4 hO4 hg4 hbl4
    replace hM := hM.add hB.size hbl4 hO4
    try simp only [yv_app1, yv_app, yv_set, yv_rep, yv_one, yv_cons, yv_take, yv_drop, List.nil_append] at hM
    replace hB := hB.trans (hbl4.mono hB.size)
    generalize w3.drew.heap.size = gg4 at *
    refine ⟨fun _ => ⟨hB, hM.tail⟩, ?_⟩
    refine DF.vv rfl rfl rfl (by decide) (Val.index1 Try.underlying28 elem31 rfl rfl (by omega) (hM.o2.rd) (by rw [tv_len, List.length_append, hU]; simp [nilT]; omega)) ?_
    refine DF.m rfl rfl (Step.storeZ (B := w0.heap.size) rfl rfl flat31 elem31 rfl rfl rfl (hM.o2) (by rw [tv_len, List.length_append, hU]; simp [nilT]; omega) hB.size ?_)
    rintro w5 hO5 hg5 hbl5 hsz5
    replace hM := hM.s2 (e := _) hg5 hO5 inl_block
    try simp only [List.set_cons_zero, List.set_cons_succ] at hM
    replace hB := hB.trans hbl5
    refine ⟨fun h => absurd rfl h, ?_⟩
    refine DF.nil ?_
    refine inBlk_normal ?_
    refine thenP_normal ?_
    refine W.reg ?_
    first | refine LS.vv rfl rfl (by decide) (Val.addN (j := 1) rfl rfl (by omega)) ?_ | refine LS.vv rfl rfl (by decide) (Val.add64 rfl rfl (by omega)) ?_
    refine LS.vv rfl rfl (by decide) (Val.move rfl) ?_
    refine LS.nil ?_
    refine thenP_normal ?_
    have htf := tv_fill (U := U) (k := k) (d := d) ⟨some ⟨gg4, 0, none⟩, rowsOf d, List.replicate (rowsOf d) 0⟩ hU (by omega)
    simp only [List.length_replicate] at htf
    rw [htf] at hM
    refine ⟨(k + 1, U ++ [⟨some ⟨gg4, 0, none⟩, rowsOf d, List.replicate (rowsOf d) 0⟩]), ?_, ?_, ⟨⟨by simp only; omega, by simp only [List.length_append, List.length_cons, List.length_nil]; omega, ?_⟩, ?_, hB⟩, by simp only; omega⟩
    · exact (Sub.cons rfl (Sub.nil _))
    · repeat (first | exact Sub.nil _ | refine Sub.cons rfl ?_)
    · simp only; rw [dT_app, hdt]; exact List.replicate_succ'.symm
    · simp only; rw [tz_app1, List.length_replicate]; exact hM.last
  ·
    refine W.exit ?_
    refine thenP_exit ?_
    refine thenP_exit ?_
    refine inBlk_exit ?_
    refine thenP_normal ?_
    refine W.seqR ?_
    refine LS.vv rfl rfl (by decide) (Val.move rfl) ?_
    refine LS.vv rfl rfl (by decide) (Val.assign rfl) ?_
    refine LS.nil ?_
    refine W.ret ?_
    refine ret1 (by first | exact .inl rfl | exact .inr rfl) rfl ?_
    obtain rfl : k = d := by omega
    rw [Nat.sub_self] at hM
    have e0 : U ++ nilT 0 = U := by simp [nilT]
    rw [e0] at hM
    refine ⟨_, some ⟨w0.heap.size, 0, none⟩, k, U, rfl, ?_, hU, hdt, hB⟩
    unfold AM
    rw [List.append_nil]
    subst hU
    exact hM

end Go.Proofs.Ytldcpihjoakigaa
