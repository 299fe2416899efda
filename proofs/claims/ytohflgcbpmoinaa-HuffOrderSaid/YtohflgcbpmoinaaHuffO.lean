/-
  The statement HuffOrder.
-/
import Derived.Test.YtohflgcbpmoinaaHuffC
namespace Go.Proofs.Ytohflgcbpmoinaa
open Go Go.RowKit V
set_option linter.unusedVariables false
set_option linter.unusedSimpArgs false

theorem huffOrder_any (zs : List Int) (p : Option Addr) (c m : Nat) (w0 : World) (hr : Rd w0 p (iv zs)) (hm : zs.length = m) :
    CallsV Try.prog 6 #[.slice p m c] w0 (fun v w => v = .bool true ∧ Below w0.heap.size w0 w) := by
  refine enter1 Try.func6 rfl Try.ntmps6 (by simp) rfl ?_
  have hB := Below.refl w0.heap.size w0
  simp only [argLoc]
  have hM := Mem.nil w0 w0.heap.size
  subst hm
  refine W.seqR ?_
  refine LS.vv rfl rfl (by decide) (Val.assign rfl) ?_
  refine LS.nil ?_
  refine W.seqR ?_
  refine LS.vv rfl rfl (by decide) (Val.move rfl) ?_
  refine LS.m rfl (Step.call body18 rfl rfl (by decide) rfl (CallsV.mono (lensW_any zs _ _ _ _ (hr.below hB) rfl) ?_))
  rintro _ w1 ⟨e, p2, c2, l, rfl, he, hop, hl, hb1⟩
  replace hM := hM.add hB.size hb1 hl
  replace hB := hB.trans (hb1.mono hB.size)
  refine LS.vv rfl rfl (by decide) (Val.move rfl) ?_
  refine LS.vv rfl rfl (by decide) (Val.extract rfl rfl) ?_
  refine LS.vv rfl rfl (by decide) (Val.extract rfl rfl) ?_
  refine LS.vv rfl rfl (by decide) (Val.assign rfl) ?_
  refine LS.vv rfl rfl (by decide) (Val.assign rfl) ?_
  refine LS.nil ?_
  refine W.seq ?_
  refine W.seqR ?_
  refine LS.vv rfl rfl (by decide) (Val.move rfl) ?_
  refine LS.m rfl (Step.call body11 rfl rfl (by decide) rfl (CallsV.mono (weighed_any zs _ _ _ _ (hr.below hB) rfl) ?_))
  rintro _ w2 ⟨b, rfl, hwd, hb2⟩
  replace hM := hM.below hb2
  replace hB := hB.trans (hb2.mono hB.size)
  refine LS.vv rfl rfl (by decide) (Val.not rfl) ?_
  refine LS.nil ?_
  first | refine W.condD rfl (fun hc1 => ?_) (fun hc1 => ?_) | refine W.cond rfl (fun hc1 => ?_) (fun hc1 => ?_)
  ·
    refine W.seqR ?_
    refine LS.vv rfl rfl (by decide) (Val.move rfl) ?_
    have hen : e ≠ 0 := fun h => by have := hwd.2 (he.1 h); simp_all
    refine LS.vv rfl rfl (by decide) (Val.cast (v := .bool true) (Val.neq rfl rfl) (by refine congrArg Value.bool (decide_eq_true ?_); omega)) ?_
    refine LS.vv rfl rfl (by decide) (Val.assign rfl) ?_
    refine LS.nil ?_
    refine W.ret ?_
    refine thenP_ret ?_
    refine ret1 (by first | exact .inl rfl | exact .inr rfl) rfl ?_
    first | exact ⟨rfl, hB⟩ | (exfalso; omega)
  ·
    refine W.skip ?_
    refine thenP_normal ?_
    refine W.seq ?_
    refine W.seqR ?_
    refine LS.vv rfl rfl (by decide) (Val.move rfl) ?_
    refine LS.vv rfl rfl (by decide) (Val.neq rfl rfl) ?_
    refine LS.vv rfl rfl (by decide) (Val.move rfl) ?_
    refine LS.split 2 rfl (fun hg2 => ?_) (fun hg2 => ?_)
    ·
      first | (have hg2p := of_decide_eq_true hg2) | skip
      refine LS.s rfl rfl rfl hg2 (by decide) ?_
      refine LS.s rfl rfl rfl hg2 (by decide) ?_
      refine LS.s rfl rfl rfl hg2 (by decide) ?_
      refine LS.s rfl rfl rfl hg2 (by decide) ?_
      refine LS.s rfl rfl rfl hg2 (by decide) ?_
      have hok := hwd.1 (by simp_all)
      have he0 := he.2 hok
      have hopt := hop he0
      have hll := hopt.len
      rw [List.length_map] at hll
      refine LS.vv rfl rfl (by decide) (Val.cast (v := .bool false) (Val.pickT rfl hg2 rfl) (by first | rfl | (exfalso; omega) | (refine congrArg Value.bool (decide_eq_false ?_); omega))) ?_
      refine LS.nil ?_
      refine W.condF rfl ?_
      refine W.skip ?_
      refine thenP_normal ?_
      refine W.seq ?_
      refine W.seqR ?_
      refine LS.vv rfl rfl (by decide) (Val.cast (v := .int .i64 ((0 : Nat) : Int)) (Val.assign rfl) rfl) ?_
      refine LS.nil ?_
      refine W.block ?_
      refine W.loop (α := Nat) (fun i => [(5, .int .i64 (i : Int))]) [(0, _), (3, _)] (fun i w => (i ≤ l.length) ∧ Mem w w0.heap.size [⟨3, p2, l.length, c2, nv l⟩] ∧ Below w0.heap.size w0 w) (fun i => l.length - i) (0) (Sub.cons rfl (Sub.nil _)) (Sub.cons rfl (Sub.cons rfl (Sub.nil _))) ?_ ?_
      · exact ⟨Nat.zero_le _, hM, hB⟩
      rintro i w3 ⟨hi, hM, hB⟩
      try simp only at hM
      simp only [List.cons_append, List.nil_append]
      refine W.seq ?_
      refine W.seqR ?_
      refine LS.vv rfl rfl (by decide) (Val.move rfl) ?_
      refine LS.vv rfl rfl (by decide) (Val.move rfl) ?_
      refine LS.vv rfl rfl (by decide) (Val.len Try.underlying23 rfl) ?_
      refine LS.vv rfl rfl (by decide) (Val.lss rfl rfl) ?_
      refine LS.nil ?_
      first | refine W.condD rfl (fun hc3 => ?_) (fun hc3 => ?_) | refine W.cond rfl (fun hc3 => ?_) (fun hc3 => ?_)
      ·
        refine W.skip ?_
        refine thenP_normal ?_
        refine W.seq ?_
        refine W.block ?_
        refine W.seqR ?_
        refine LS.vv rfl rfl (by decide) (Val.cast (v := .int .i64 ((0 : Nat) : Int)) (Val.assign rfl) rfl) ?_
        refine LS.nil ?_
        refine W.block ?_
        refine W.loop (α := Nat) (fun j => [(6, .int .i64 (j : Int))]) [(0, _), (3, _), (5, _)] (fun j w => (j ≤ l.length) ∧ Mem w w0.heap.size [⟨3, p2, l.length, c2, nv l⟩] ∧ Below w0.heap.size w0 w) (fun j => l.length - j) (0) (Sub.cons rfl (Sub.nil _)) (Sub.cons rfl (Sub.cons rfl (Sub.cons rfl (Sub.nil _)))) ?_ ?_
        · exact ⟨Nat.zero_le _, hM, hB⟩
        rintro j w4 ⟨hj, hM, hB⟩
        try simp only at hM
        simp only [List.cons_append, List.nil_append]
        refine W.seq ?_
        refine W.seqR ?_
        refine LS.vv rfl rfl (by decide) (Val.move rfl) ?_
        refine LS.vv rfl rfl (by decide) (Val.move rfl) ?_
        refine LS.vv rfl rfl (by decide) (Val.len Try.underlying23 rfl) ?_
        refine LS.vv rfl rfl (by decide) (Val.lss rfl rfl) ?_
        refine LS.nil ?_
        first | refine W.condD rfl (fun hc4 => ?_) (fun hc4 => ?_) | refine W.cond rfl (fun hc4 => ?_) (fun hc4 => ?_)
        ·
          refine W.skip ?_
          refine thenP_normal ?_
          refine W.seq ?_
          refine W.block ?_
          refine W.seqF 20 [(0, true), (1, true), (2, true), (3, true), (4, true), (5, true), (6, true), (7, true), (8, true), (9, true), (10, true), (11, true), (12, true), (13, true), (14, true), (15, true), (16, true), (17, true), (18, true), (19, true)] mixed (by kernel_rfl) hB hM ?_
          replace hB := hB.drew
          replace hM := hM.drew
          refine DF.vv rfl rfl rfl (by decide) (Val.move rfl) ?_
          refine DF.vv rfl rfl rfl (by decide) (Val.move rfl) ?_
          refine DF.vv rfl rfl rfl (by decide) (Val.index1 Try.underlying22 elem2 rfl rfl (by omega) ((hr.below hB)) (iv_lt (by omega))) ?_
          refine DF.vv rfl rfl rfl (by decide) (Val.load flat2 rfl (fun _ h => (hr.below h.1)) (iv_at (by omega))) ?_
          refine DF.vv rfl rfl rfl (by decide) (Val.move rfl) ?_
          refine DF.vv rfl rfl rfl (by decide) (Val.move rfl) ?_
          refine DF.vv rfl rfl rfl (by decide) (Val.index1 Try.underlying22 elem2 rfl rfl (by omega) ((hr.below hB)) (iv_lt (by omega))) ?_
          refine DF.vv rfl rfl rfl (by decide) (Val.load flat2 rfl (fun _ h => (hr.below h.1)) (iv_at (by omega))) ?_
          refine DF.vv rfl rfl rfl (by decide) (Val.gtr rfl rfl) ?_
          refine DF.vv rfl rfl rfl (by decide) (Val.move rfl) ?_
          refine DF.split 9 rfl (fun hg5 => ?_) (fun hg5 => ?_)
          ·
            first | (have hg5p := of_decide_eq_true hg5) | skip
            refine DF.vg rfl rfl rfl rfl hg5 (by decide) (Val.move rfl) ?_
            refine DF.vg rfl rfl rfl rfl hg5 (by decide) (Val.move rfl) ?_
            refine DF.vg rfl rfl rfl rfl hg5 (by decide) (Val.index1 Try.underlying23 elem3 rfl rfl (by omega) (hM.o0.rd) (nv_lt (by omega))) ?_
            refine DF.vg rfl rfl rfl rfl hg5 (by decide) (Val.load flat3 rfl (fun _ h => h.2.o0.rd) (nv_at (by omega))) ?_
            refine DF.vg rfl rfl rfl rfl hg5 (by decide) (Val.move rfl) ?_
            refine DF.vg rfl rfl rfl rfl hg5 (by decide) (Val.move rfl) ?_
            refine DF.vg rfl rfl rfl rfl hg5 (by decide) (Val.index1 Try.underlying23 elem3 rfl rfl (by omega) (hM.o0.rd) (nv_lt (by omega))) ?_
            refine DF.vg rfl rfl rfl rfl hg5 (by decide) (Val.load flat3 rfl (fun _ h => h.2.o0.rd) (nv_at (by omega))) ?_
            refine DF.vg rfl rfl rfl rfl hg5 (by decide) (Val.gtr rfl rfl) ?_
            have hoo : i < l.length → j < l.length → gz zs j < gz zs i → gn l i ≤ gn l j := fun h1 h2 h3 => hopt.order (by rw [List.length_map]; exact hok.1) (by rw [List.length_map]; omega) (by rw [List.length_map]; omega) (by have h4 := hok.2 (gz zs j) (by rw [gz_lt (show j < zs.length by omega)]; exact List.getElem_mem _); rw [gn_toNat (by omega), gn_toNat (by omega)]; omega)
            refine DF.vv rfl rfl rfl (by decide) (Val.cast (v := .bool false) (Val.pickT rfl hg5 rfl) (by first | rfl | (exfalso; omega) | (refine congrArg Value.bool (decide_eq_false ?_); omega))) ?_
            refine DF.nil ?_
            refine W.condF rfl ?_
            refine W.skip ?_
            refine inBlk_normal ?_
            refine thenP_normal ?_
            refine W.reg ?_
            refine LS.vv rfl rfl (by decide) (Val.move rfl) ?_
            first | refine LS.vv rfl rfl (by decide) (Val.addN (j := 1) rfl rfl (by omega)) ?_ | refine LS.vv rfl rfl (by decide) (Val.add64 rfl rfl (by omega)) ?_
            refine LS.vv rfl rfl (by decide) (Val.assign rfl) ?_
            refine LS.nil ?_
            refine thenP_normal ?_
            refine ⟨j + 1, ?_, ?_, ⟨by omega, hM, hB⟩, by omega⟩
            · exact (Sub.cons rfl (Sub.nil _))
            · repeat (first | exact Sub.nil _ | refine Sub.cons rfl ?_)
          ·
            first | (have hg5p := of_decide_eq_false hg5) | skip
            refine DF.s rfl rfl rfl rfl hg5 (by decide) ?_
            refine DF.s rfl rfl rfl rfl hg5 (by decide) ?_
            refine DF.s rfl rfl rfl rfl hg5 (by decide) ?_
            refine DF.s rfl rfl rfl rfl hg5 (by decide) ?_
            refine DF.s rfl rfl rfl rfl hg5 (by decide) ?_
            refine DF.s rfl rfl rfl rfl hg5 (by decide) ?_
            refine DF.s rfl rfl rfl rfl hg5 (by decide) ?_
            refine DF.s rfl rfl rfl rfl hg5 (by decide) ?_
            refine DF.s rfl rfl rfl rfl hg5 (by decide) ?_
            have hoo : i < l.length → j < l.length → gz zs j < gz zs i → gn l i ≤ gn l j := fun h1 h2 h3 => hopt.order (by rw [List.length_map]; exact hok.1) (by rw [List.length_map]; omega) (by rw [List.length_map]; omega) (by have h4 := hok.2 (gz zs j) (by rw [gz_lt (show j < zs.length by omega)]; exact List.getElem_mem _); rw [gn_toNat (by omega), gn_toNat (by omega)]; omega)
            refine DF.vv rfl rfl rfl (by decide) (Val.cast (v := .bool false) (Val.pickF rfl hg5 rfl) (by first | rfl | (exfalso; omega) | (refine congrArg Value.bool (decide_eq_false ?_); omega))) ?_
            refine DF.nil ?_
            refine W.condF rfl ?_
            refine W.skip ?_
            refine inBlk_normal ?_
            refine thenP_normal ?_
            refine W.reg ?_
            refine LS.vv rfl rfl (by decide) (Val.move rfl) ?_
            first | refine LS.vv rfl rfl (by decide) (Val.addN (j := 1) rfl rfl (by omega)) ?_ | refine LS.vv rfl rfl (by decide) (Val.add64 rfl rfl (by omega)) ?_
            refine LS.vv rfl rfl (by decide) (Val.assign rfl) ?_
            refine LS.nil ?_
            refine thenP_normal ?_
            refine ⟨j + 1, ?_, ?_, ⟨by omega, hM, hB⟩, by omega⟩
            · exact (Sub.cons rfl (Sub.nil _))
            · repeat (first | exact Sub.nil _ | refine Sub.cons rfl ?_)
        ·
          refine W.exit ?_
          refine thenP_exit ?_
          refine thenP_exit ?_
          refine inBlk_exit ?_
          refine inBlk_normal ?_
          refine thenP_normal ?_
          refine W.reg ?_
          refine LS.vv rfl rfl (by decide) (Val.move rfl) ?_
          first | refine LS.vv rfl rfl (by decide) (Val.addN (j := 1) rfl rfl (by omega)) ?_ | refine LS.vv rfl rfl (by decide) (Val.add64 rfl rfl (by omega)) ?_
          refine LS.vv rfl rfl (by decide) (Val.assign rfl) ?_
          refine LS.nil ?_
          refine thenP_normal ?_
          refine ⟨i + 1, ?_, ?_, ⟨by omega, hM, hB⟩, by omega⟩
          · exact (Sub.cons rfl (Sub.nil _))
          · repeat (first | exact Sub.nil _ | refine Sub.cons rfl ?_)
      ·
        refine W.exit ?_
        refine thenP_exit ?_
        refine thenP_exit ?_
        refine inBlk_exit ?_
        refine thenP_normal ?_
        refine W.seqR ?_
        refine LS.vv rfl rfl (by decide) (Val.assign rfl) ?_
        refine LS.nil ?_
        refine W.ret ?_
        refine ret1 (by first | exact .inl rfl | exact .inr rfl) rfl ?_
        first | exact ⟨rfl, hB⟩ | (exfalso; omega)
    ·
      first | (have hg2p := of_decide_eq_false hg2) | skip
      refine LS.vg rfl rfl rfl hg2 (by decide) (Val.move rfl) ?_
      refine LS.vg rfl rfl rfl hg2 (by decide) (Val.len Try.underlying23 rfl) ?_
      refine LS.vg rfl rfl rfl hg2 (by decide) (Val.move rfl) ?_
      refine LS.vg rfl rfl rfl hg2 (by decide) (Val.len Try.underlying22 rfl) ?_
      refine LS.vg rfl rfl rfl hg2 (by decide) (Val.neq rfl rfl) ?_
      have hok := hwd.1 (by simp_all)
      have he0 := he.2 hok
      have hopt := hop he0
      have hll := hopt.len
      rw [List.length_map] at hll
      refine LS.vv rfl rfl (by decide) (Val.cast (v := .bool false) (Val.pickF rfl hg2 rfl) (by first | rfl | (exfalso; omega) | (refine congrArg Value.bool (decide_eq_false ?_); omega))) ?_
      refine LS.nil ?_
      refine W.condF rfl ?_
      refine W.skip ?_
      refine thenP_normal ?_
      refine W.seq ?_
      refine W.seqR ?_
      refine LS.vv rfl rfl (by decide) (Val.cast (v := .int .i64 ((0 : Nat) : Int)) (Val.assign rfl) rfl) ?_
      refine LS.nil ?_
      refine W.block ?_
      refine W.loop (α := Nat) (fun i => [(5, .int .i64 (i : Int))]) [(0, _), (3, _)] (fun i w => (i ≤ l.length) ∧ Mem w w0.heap.size [⟨3, p2, l.length, c2, nv l⟩] ∧ Below w0.heap.size w0 w) (fun i => l.length - i) (0) (Sub.cons rfl (Sub.nil _)) (Sub.cons rfl (Sub.cons rfl (Sub.nil _))) ?_ ?_
      · exact ⟨Nat.zero_le _, hM, hB⟩
      rintro i w5 ⟨hi, hM, hB⟩
      try simp only at hM
      simp only [List.cons_append, List.nil_append]
      refine W.seq ?_
      refine W.seqR ?_
      refine LS.vv rfl rfl (by decide) (Val.move rfl) ?_
      refine LS.vv rfl rfl (by decide) (Val.move rfl) ?_
      refine LS.vv rfl rfl (by decide) (Val.len Try.underlying23 rfl) ?_
      refine LS.vv rfl rfl (by decide) (Val.lss rfl rfl) ?_
      refine LS.nil ?_
      first | refine W.condD rfl (fun hc6 => ?_) (fun hc6 => ?_) | refine W.cond rfl (fun hc6 => ?_) (fun hc6 => ?_)
      ·
        refine W.skip ?_
        refine thenP_normal ?_
        refine W.seq ?_
        refine W.block ?_
        refine W.seqR ?_
        refine LS.vv rfl rfl (by decide) (Val.cast (v := .int .i64 ((0 : Nat) : Int)) (Val.assign rfl) rfl) ?_
        refine LS.nil ?_
        refine W.block ?_
        refine W.loop (α := Nat) (fun j => [(6, .int .i64 (j : Int))]) [(0, _), (3, _), (5, _)] (fun j w => (j ≤ l.length) ∧ Mem w w0.heap.size [⟨3, p2, l.length, c2, nv l⟩] ∧ Below w0.heap.size w0 w) (fun j => l.length - j) (0) (Sub.cons rfl (Sub.nil _)) (Sub.cons rfl (Sub.cons rfl (Sub.cons rfl (Sub.nil _)))) ?_ ?_
        · exact ⟨Nat.zero_le _, hM, hB⟩
        rintro j w6 ⟨hj, hM, hB⟩
        try simp only at hM
        simp only [List.cons_append, List.nil_append]
        refine W.seq ?_
        refine W.seqR ?_
        refine LS.vv rfl rfl (by decide) (Val.move rfl) ?_
        refine LS.vv rfl rfl (by decide) (Val.move rfl) ?_
        refine LS.vv rfl rfl (by decide) (Val.len Try.underlying23 rfl) ?_
        refine LS.vv rfl rfl (by decide) (Val.lss rfl rfl) ?_
        refine LS.nil ?_
        first | refine W.condD rfl (fun hc7 => ?_) (fun hc7 => ?_) | refine W.cond rfl (fun hc7 => ?_) (fun hc7 => ?_)
        ·
          refine W.skip ?_
          refine thenP_normal ?_
          refine W.seq ?_
          refine W.block ?_
          refine W.seqF 20 [(0, true), (1, true), (2, true), (3, true), (4, true), (5, true), (6, true), (7, true), (8, true), (9, true), (10, true), (11, true), (12, true), (13, true), (14, true), (15, true), (16, true), (17, true), (18, true), (19, true)] mixed (by kernel_rfl) hB hM ?_
          replace hB := hB.drew
          replace hM := hM.drew
          refine DF.vv rfl rfl rfl (by decide) (Val.move rfl) ?_
          refine DF.vv rfl rfl rfl (by decide) (Val.move rfl) ?_
          refine DF.vv rfl rfl rfl (by decide) (Val.index1 Try.underlying22 elem2 rfl rfl (by omega) ((hr.below hB)) (iv_lt (by omega))) ?_
          refine DF.vv rfl rfl rfl (by decide) (Val.load flat2 rfl (fun _ h => (hr.below h.1)) (iv_at (by omega))) ?_
          refine DF.vv rfl rfl rfl (by decide) (Val.move rfl) ?_
          refine DF.vv rfl rfl rfl (by decide) (Val.move rfl) ?_
          refine DF.vv rfl rfl rfl (by decide) (Val.index1 Try.underlying22 elem2 rfl rfl (by omega) ((hr.below hB)) (iv_lt (by omega))) ?_
          refine DF.vv rfl rfl rfl (by decide) (Val.load flat2 rfl (fun _ h => (hr.below h.1)) (iv_at (by omega))) ?_
          refine DF.vv rfl rfl rfl (by decide) (Val.gtr rfl rfl) ?_
          refine DF.vv rfl rfl rfl (by decide) (Val.move rfl) ?_
          refine DF.split 9 rfl (fun hg8 => ?_) (fun hg8 => ?_)
          ·
            first | (have hg8p := of_decide_eq_true hg8) | skip
            refine DF.vg rfl rfl rfl rfl hg8 (by decide) (Val.move rfl) ?_
            refine DF.vg rfl rfl rfl rfl hg8 (by decide) (Val.move rfl) ?_
            refine DF.vg rfl rfl rfl rfl hg8 (by decide) (Val.index1 Try.underlying23 elem3 rfl rfl (by omega) (hM.o0.rd) (nv_lt (by omega))) ?_
            refine DF.vg rfl rfl rfl rfl hg8 (by decide) (Val.load flat3 rfl (fun _ h => h.2.o0.rd) (nv_at (by omega))) ?_
            refine DF.vg rfl rfl rfl rfl hg8 (by decide) (Val.move rfl) ?_
            refine DF.vg rfl rfl rfl rfl hg8 (by decide) (Val.move rfl) ?_
            refine DF.vg rfl rfl rfl rfl hg8 (by decide) (Val.index1 Try.underlying23 elem3 rfl rfl (by omega) (hM.o0.rd) (nv_lt (by omega))) ?_
            refine DF.vg rfl rfl rfl rfl hg8 (by decide) (Val.load flat3 rfl (fun _ h => h.2.o0.rd) (nv_at (by omega))) ?_
            refine DF.vg rfl rfl rfl rfl hg8 (by decide) (Val.gtr rfl rfl) ?_
            have hoo : i < l.length → j < l.length → gz zs j < gz zs i → gn l i ≤ gn l j := fun h1 h2 h3 => hopt.order (by rw [List.length_map]; exact hok.1) (by rw [List.length_map]; omega) (by rw [List.length_map]; omega) (by have h4 := hok.2 (gz zs j) (by rw [gz_lt (show j < zs.length by omega)]; exact List.getElem_mem _); rw [gn_toNat (by omega), gn_toNat (by omega)]; omega)
            refine DF.vv rfl rfl rfl (by decide) (Val.cast (v := .bool false) (Val.pickT rfl hg8 rfl) (by first | rfl | (exfalso; omega) | (refine congrArg Value.bool (decide_eq_false ?_); omega))) ?_
            refine DF.nil ?_
            refine W.condF rfl ?_
            refine W.skip ?_
            refine inBlk_normal ?_
            refine thenP_normal ?_
            refine W.reg ?_
            refine LS.vv rfl rfl (by decide) (Val.move rfl) ?_
            first | refine LS.vv rfl rfl (by decide) (Val.addN (j := 1) rfl rfl (by omega)) ?_ | refine LS.vv rfl rfl (by decide) (Val.add64 rfl rfl (by omega)) ?_
            refine LS.vv rfl rfl (by decide) (Val.assign rfl) ?_
            refine LS.nil ?_
            refine thenP_normal ?_
            refine ⟨j + 1, ?_, ?_, ⟨by omega, hM, hB⟩, by omega⟩
            · exact (Sub.cons rfl (Sub.nil _))
            · repeat (first | exact Sub.nil _ | refine Sub.cons rfl ?_)
          ·
            first | (have hg8p := of_decide_eq_false hg8) | skip
            refine DF.s rfl rfl rfl rfl hg8 (by decide) ?_
            refine DF.s rfl rfl rfl rfl hg8 (by decide) ?_
            refine DF.s rfl rfl rfl rfl hg8 (by decide) ?_
            refine DF.s rfl rfl rfl rfl hg8 (by decide) ?_
            refine DF.s rfl rfl rfl rfl hg8 (by decide) ?_
            refine DF.s rfl rfl rfl rfl hg8 (by decide) ?_
            refine DF.s rfl rfl rfl rfl hg8 (by decide) ?_
            refine DF.s rfl rfl rfl rfl hg8 (by decide) ?_
            refine DF.s rfl rfl rfl rfl hg8 (by decide) ?_
            have hoo : i < l.length → j < l.length → gz zs j < gz zs i → gn l i ≤ gn l j := fun h1 h2 h3 => hopt.order (by rw [List.length_map]; exact hok.1) (by rw [List.length_map]; omega) (by rw [List.length_map]; omega) (by have h4 := hok.2 (gz zs j) (by rw [gz_lt (show j < zs.length by omega)]; exact List.getElem_mem _); rw [gn_toNat (by omega), gn_toNat (by omega)]; omega)
            refine DF.vv rfl rfl rfl (by decide) (Val.cast (v := .bool false) (Val.pickF rfl hg8 rfl) (by first | rfl | (exfalso; omega) | (refine congrArg Value.bool (decide_eq_false ?_); omega))) ?_
            refine DF.nil ?_
            refine W.condF rfl ?_
            refine W.skip ?_
            refine inBlk_normal ?_
            refine thenP_normal ?_
            refine W.reg ?_
            refine LS.vv rfl rfl (by decide) (Val.move rfl) ?_
            first | refine LS.vv rfl rfl (by decide) (Val.addN (j := 1) rfl rfl (by omega)) ?_ | refine LS.vv rfl rfl (by decide) (Val.add64 rfl rfl (by omega)) ?_
            refine LS.vv rfl rfl (by decide) (Val.assign rfl) ?_
            refine LS.nil ?_
            refine thenP_normal ?_
            refine ⟨j + 1, ?_, ?_, ⟨by omega, hM, hB⟩, by omega⟩
            · exact (Sub.cons rfl (Sub.nil _))
            · repeat (first | exact Sub.nil _ | refine Sub.cons rfl ?_)
        ·
          refine W.exit ?_
          refine thenP_exit ?_
          refine thenP_exit ?_
          refine inBlk_exit ?_
          refine inBlk_normal ?_
          refine thenP_normal ?_
          refine W.reg ?_
          refine LS.vv rfl rfl (by decide) (Val.move rfl) ?_
          first | refine LS.vv rfl rfl (by decide) (Val.addN (j := 1) rfl rfl (by omega)) ?_ | refine LS.vv rfl rfl (by decide) (Val.add64 rfl rfl (by omega)) ?_
          refine LS.vv rfl rfl (by decide) (Val.assign rfl) ?_
          refine LS.nil ?_
          refine thenP_normal ?_
          refine ⟨i + 1, ?_, ?_, ⟨by omega, hM, hB⟩, by omega⟩
          · exact (Sub.cons rfl (Sub.nil _))
          · repeat (first | exact Sub.nil _ | refine Sub.cons rfl ?_)
      ·
        refine W.exit ?_
        refine thenP_exit ?_
        refine thenP_exit ?_
        refine inBlk_exit ?_
        refine thenP_normal ?_
        refine W.seqR ?_
        refine LS.vv rfl rfl (by decide) (Val.assign rfl) ?_
        refine LS.nil ?_
        refine W.ret ?_
        refine ret1 (by first | exact .inl rfl | exact .inr rfl) rfl ?_
        first | exact ⟨rfl, hB⟩ | (exfalso; omega)

end Go.Proofs.Ytohflgcbpmoinaa
