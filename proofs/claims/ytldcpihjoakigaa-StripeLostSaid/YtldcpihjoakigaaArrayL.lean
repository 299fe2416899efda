/-
  The statement StripeLost.
-/
import Derived.Test.YtldcpihjoakigaaArray4
namespace Go.Proofs.Ytldcpihjoakigaa
open Go Go.RowKit V
set_option linter.unusedVariables false
set_option linter.unusedSimpArgs false

theorem stripeLost_any (d : Int) (l : List Mv) (p : Option Addr) (c m : Nat) (w0 : World) (hr : Rd w0 p (mv l)) (hm : l.length = m) (hl : m ≤ 9223372036854775807) (hv : ∀ x ∈ l, x.val < 256) :
    CallsV Try.prog 4 #[.int .i64 d, .slice p m c] w0 (fun v w => v = .bool true ∧ Below w0.heap.size w0 w) := by
  refine enter1 Try.func4 rfl Try.ntmps4 (by simp) rfl ?_
  have hB := Below.refl w0.heap.size w0
  simp only [argLoc, Nat.zero_add]
  have hM := Mz.nil w0 w0.heap.size
  subst hm
  refine W.seqR ?_
  refine LS.vv rfl rfl (by decide) (Val.assign rfl) ?_
  refine LS.nil ?_
  refine W.seqR ?_
  refine LS.vv rfl rfl (by decide) (Val.move rfl) ?_
  refine LS.vv rfl rfl (by decide) (Val.move rfl) ?_
  refine LS.m rfl (Step.call body12 rfl rfl (by decide) rfl (CallsV.mono (Play_any d l _ _ _ _ (hr.below hB) rfl hl hv) ?_))
  rintro _ w1 ⟨pl, cl, nl, po, co, nd, e, out, T, rfl, he, hMn, hnd, h0, h1, hb1⟩
  replace hM := hM.adds hB.size hb1 hMn
  replace hM := hM.sub (List.Sublist.cons_cons _ (List.nil_sublist _))
  replace hB := hB.trans (hb1.mono hB.size)
  refine LS.vv rfl rfl (by decide) (Val.move rfl) ?_
  refine LS.vv rfl rfl (by decide) (Val.extract rfl rfl) ?_
  refine LS.vv rfl rfl (by decide) (Val.extract rfl rfl) ?_
  refine LS.vv rfl rfl (by decide) (Val.extract rfl rfl) ?_
  refine LS.vv rfl rfl (by decide) (Val.assign rfl) ?_
  refine LS.vv rfl rfl (by decide) (Val.assign rfl) ?_
  refine LS.vv rfl rfl (by decide) (Val.assign rfl) ?_
  refine LS.nil ?_
  refine W.seq ?_
  refine W.seqR ?_
  refine LS.vv rfl rfl (by decide) (Val.move rfl) ?_
  refine LS.vv rfl rfl (by decide) (Val.lss rfl rfl) ?_
  refine LS.vv rfl rfl (by decide) (Val.move rfl) ?_
  refine LS.split 2 rfl (fun hg1 => ?_) (fun hg1 => ?_)
  ·
    first | (have hg1p := of_decide_eq_true hg1) | skip
    refine LS.s rfl rfl rfl hg1 (by decide) ?_
    refine LS.s rfl rfl rfl hg1 (by decide) ?_
    refine LS.vv rfl rfl (by decide) (Val.pickT rfl hg1 rfl) ?_
    refine LS.vv rfl rfl (by decide) (Val.move rfl) ?_
    refine LS.s rfl rfl rfl rfl (by decide) ?_
    refine LS.s rfl rfl rfl rfl (by decide) ?_
    refine LS.s rfl rfl rfl rfl (by decide) ?_
    refine LS.vv rfl rfl (by decide) (Val.pickT rfl rfl rfl) ?_
    refine LS.nil ?_
    refine W.condT rfl ?_
    refine W.seqR ?_
    refine LS.vv rfl rfl (by decide) (Val.move rfl) ?_
    refine LS.vv rfl rfl (by decide) (Val.neq rfl rfl) ?_
    refine LS.vv rfl rfl (by decide) (Val.assign rfl) ?_
    refine LS.nil ?_
    refine W.ret ?_
    refine thenP_ret ?_
    refine ret1 (by first | exact .inl rfl | exact .inr rfl) rfl ?_
    first | exact ⟨rfl, hB⟩ | contradiction | (exfalso; omega) | exact ⟨congrArg Value.bool (decide_eq_true (by omega)), hB⟩
  ·
    first | (have hg1p := of_decide_eq_false hg1) | skip
    refine LS.vg rfl rfl rfl hg1 (by decide) (Val.move rfl) ?_
    refine LS.vg rfl rfl rfl hg1 (by decide) (Val.gtr rfl rfl) ?_
    refine LS.vv rfl rfl (by decide) (Val.pickF rfl hg1 rfl) ?_
    refine LS.vv rfl rfl (by decide) (Val.move rfl) ?_
    refine LS.split 6 rfl (fun hg2 => ?_) (fun hg2 => ?_)
    ·
      first | (have hg2p := of_decide_eq_true hg2) | skip
      refine LS.s rfl rfl rfl hg2 (by decide) ?_
      refine LS.s rfl rfl rfl hg2 (by decide) ?_
      refine LS.s rfl rfl rfl hg2 (by decide) ?_
      refine LS.vv rfl rfl (by decide) (Val.pickT rfl hg2 rfl) ?_
      refine LS.nil ?_
      refine W.condT rfl ?_
      refine W.seqR ?_
      refine LS.vv rfl rfl (by decide) (Val.move rfl) ?_
      refine LS.vv rfl rfl (by decide) (Val.neq rfl rfl) ?_
      refine LS.vv rfl rfl (by decide) (Val.assign rfl) ?_
      refine LS.nil ?_
      refine W.ret ?_
      refine thenP_ret ?_
      refine ret1 (by first | exact .inl rfl | exact .inr rfl) rfl ?_
      first | exact ⟨rfl, hB⟩ | contradiction | (exfalso; omega) | exact ⟨congrArg Value.bool (decide_eq_true (by omega)), hB⟩
    ·
      first | (have hg2p := of_decide_eq_false hg2) | skip
      refine LS.vg rfl rfl rfl hg2 (by decide) (Val.move rfl) ?_
      refine LS.vg rfl rfl rfl hg2 (by decide) (Val.len Try.underlying26 rfl) ?_
      refine LS.vg rfl rfl rfl hg2 (by decide) (Val.gtr rfl rfl) ?_
      refine LS.vv rfl rfl (by decide) (Val.pickF rfl hg2 rfl) ?_
      refine LS.nil ?_
      first | refine W.condD rfl (fun hc3 => ?_) (fun hc3 => ?_) | refine W.cond rfl (fun hc3 => ?_) (fun hc3 => ?_)
      ·
        refine W.seqR ?_
        refine LS.vv rfl rfl (by decide) (Val.move rfl) ?_
        refine LS.vv rfl rfl (by decide) (Val.neq rfl rfl) ?_
        refine LS.vv rfl rfl (by decide) (Val.assign rfl) ?_
        refine LS.nil ?_
        refine W.ret ?_
        refine thenP_ret ?_
        refine ret1 (by first | exact .inl rfl | exact .inr rfl) rfl ?_
        first | exact ⟨rfl, hB⟩ | contradiction | (exfalso; omega) | exact ⟨congrArg Value.bool (decide_eq_true (by omega)), hB⟩
      ·
        refine W.skip ?_
        refine thenP_normal ?_
        refine W.seq ?_
        refine W.seqR ?_
        refine LS.vv rfl rfl (by decide) (Val.move rfl) ?_
        refine LS.vv rfl rfl (by decide) (Val.neq rfl rfl) ?_
        refine LS.vv rfl rfl (by decide) (Val.move rfl) ?_
        refine LS.split 2 rfl (fun hg4 => ?_) (fun hg4 => ?_)
        ·
          first | (have hg4p := of_decide_eq_true hg4) | skip
          refine LS.s rfl rfl rfl hg4 (by decide) ?_
          refine LS.s rfl rfl rfl hg4 (by decide) ?_
          refine LS.s rfl rfl rfl hg4 (by decide) ?_
          refine LS.s rfl rfl rfl hg4 (by decide) ?_
          refine LS.s rfl rfl rfl hg4 (by decide) ?_
          refine LS.vv rfl rfl (by decide) (Val.pickT rfl hg4 rfl) ?_
          refine LS.nil ?_
          refine W.condT rfl ?_
          refine W.seqR ?_
          refine LS.vv rfl rfl (by decide) (Val.assign rfl) ?_
          refine LS.nil ?_
          refine W.ret ?_
          refine thenP_ret ?_
          refine ret1 (by first | exact .inl rfl | exact .inr rfl) rfl ?_
          first | exact ⟨rfl, hB⟩ | contradiction | (exfalso; omega) | exact ⟨congrArg Value.bool (decide_eq_true (by omega)), hB⟩
        ·
          first | (have hg4p := of_decide_eq_false hg4) | skip
          refine LS.vg rfl rfl rfl hg4 (by decide) (Val.move rfl) ?_
          refine LS.vg rfl rfl rfl hg4 (by decide) (Val.len Try.underlying27 rfl) ?_
          refine LS.vg rfl rfl rfl hg4 (by decide) (Val.move rfl) ?_
          refine LS.vg rfl rfl rfl hg4 (by decide) (Val.len Try.underlying26 rfl) ?_
          refine LS.vg rfl rfl rfl hg4 (by decide) (Val.neq rfl rfl) ?_
          refine LS.vv rfl rfl (by decide) (Val.pickF rfl hg4 rfl) ?_
          refine LS.nil ?_
          first | refine W.condD rfl (fun hc5 => ?_) (fun hc5 => ?_) | refine W.cond rfl (fun hc5 => ?_) (fun hc5 => ?_)
          ·
            refine W.seqR ?_
            refine LS.vv rfl rfl (by decide) (Val.assign rfl) ?_
            refine LS.nil ?_
            refine W.ret ?_
            refine thenP_ret ?_
            refine ret1 (by first | exact .inl rfl | exact .inr rfl) rfl ?_
            first | exact ⟨rfl, hB⟩ | contradiction | (exfalso; omega) | exact ⟨congrArg Value.bool (decide_eq_true (by omega)), hB⟩
          ·
            obtain rfl : e = 0 := by omega
            obtain ⟨hnl, rfl, _, _⟩ := h0 rfl
            obtain ⟨D0, rfl⟩ := Int.eq_ofNat_of_zero_le (show 0 ≤ d by omega)
            simp only [Int.toNat_natCast] at hM
            have hd3 : 3 ≤ D0 := by omega
            have hd6 : D0 ≤ 6 := by omega
            have hol := aplay_out_len D0 l
            refine W.skip ?_
            refine thenP_normal ?_
            refine W.seqR ?_
            refine LS.m rfl (Step.makeZ (m := 24) rfl rfl (by decide) Try.underlying31 elem5 rfl rfl (by omega) (by omega) (made_one rfl _) ?_)
            rintro w2 hO2 hg2 hbl2
            replace hM := hM.add hB.size hbl2 hO2
            try simp only [yv_app1, yv_app, yv_set, yv_rep, yv_one, yv_cons, yv_take, yv_drop, List.nil_append] at hM
            replace hB := hB.trans (hbl2.mono hB.size)
            generalize w1.heap.size = gg2 at *
            refine LS.vv rfl rfl (by decide) (Val.assign rfl) ?_
            refine LS.nil ?_
            refine W.seq ?_
            refine W.seqR ?_
            refine LS.vv rfl rfl (by decide) (Val.move rfl) ?_
            refine LS.vv rfl rfl (by decide) (Val.len Try.underlying26 rfl) ?_
            refine LS.vv rfl rfl (by decide) (Val.cast (v := .int .i64 ((0 : Nat) : Int)) (Val.move rfl) rfl) ?_
            refine LS.nil ?_
            refine W.block ?_
            refine W.loop (α := Nat) (fun k => [(43, .int .i64 (k : Int))]) [(5, _), (8, _), (41, _), (42, _)] (fun k w => (k ≤ l.length) ∧ Mz w w0.heap.size [⟨5, 1, some ⟨gg2, 0, none⟩, 24, 24, yv (aplay D0 (l.take k)).blk⟩, ⟨35, 2, pl, nl, cl, pc2 (aplay D0 l).out⟩] ∧ Below w0.heap.size w0 w) (fun k => l.length - k) (0) (Sub.cons rfl (Sub.nil _)) (Sub.cons rfl (Sub.cons rfl (Sub.cons rfl (Sub.cons rfl (Sub.nil _))))) ?_ ?_
            · exact ⟨Nat.zero_le _, hM, hB⟩
            rintro k w3 ⟨hk, hM, hB⟩
            try simp only at hM
            simp only [List.cons_append, List.nil_append]
            refine W.seqR ?_
            refine LS.vv rfl rfl (by decide) (Val.lss rfl rfl) ?_
            refine LS.nil ?_
            refine W.seq ?_
            first | refine W.condD rfl (fun hc6 => ?_) (fun hc6 => ?_) | refine W.cond rfl (fun hc6 => ?_) (fun hc6 => ?_)
            ·
              obtain ⟨F1, F2, F3, F4, F5, _⟩ := told_facts (d := D0) (k := k) (by omega) hd3 hd6 hv
              refine W.skip ?_
              refine thenP_normal ?_
              refine W.seq ?_
              refine W.block ?_
              refine W.seqR ?_
              refine LS.vv rfl rfl (by decide) (Val.move rfl) ?_
              refine LS.vv rfl rfl (by decide) (Val.indexAddr Try.underlying26 elem33 rfl rfl (by omega) ((hr.below hB)) (by first | (rw [mv_len]; omega) | (rw [pc2_len]; omega))) ?_
              refine LS.m rfl (Step.loadAgg (vs := [.int .i64 (gM l k).kind, .int .i64 (gM l k).block, .int .u8 ((gM l k).val : Int)]) rfl rfl (by decide) agg33 rfl ((hr.below hB)) ((mv_at (by omega)).1) rfl (by decide) ?_)
              refine LS.m rfl (Step.allocZ rfl rfl (by decide) elem33 rfl (by decide) ?_)
              rintro w4 hO4 hg4 hbl4 hsz4
              replace hM := hM.add hB.size hbl4 hO4
              try simp only [List.length_cons, List.length_nil, Nat.zero_add, Nat.reduceAdd, Value.cells, List.toList_toArray, List.append_nil, List.set_cons_zero, List.set_cons_succ] at hM
              replace hB := hB.trans (hbl4.mono hB.size)
              generalize w3.heap.size = gg4 at *
              refine LS.vv rfl rfl (by decide) (Val.assign rfl) ?_
              refine LS.m rfl (Step.storeAgg0 (B := w0.heap.size) rfl rfl agg33 rfl rfl rfl (by decide) (by first | exact one_map _ (fun _ => rfl) _ | simp [Value.oneCell']) (hM.o0) rfl hB.size ?_)
              rintro w5 hO5 hg5 hbl5 hsz5
              replace hM := hM.s0 (e := _) hg5 hO5 inl_block
              try simp only [List.set_cons_zero, List.set_cons_succ] at hM
              replace hB := hB.trans hbl5
              refine LS.nil ?_
              refine W.seq ?_
              refine W.seqR ?_
              refine LS.vv rfl rfl (by decide) (Val.fieldAddr0 fld33_0 rfl) ?_
              refine LS.m rfl (Step.load rfl rfl (by decide) flat3 rfl (hM.o0.rd) (rfl) ?_)
              refine LS.vv rfl rfl (by decide) (Val.eql rfl rfl) ?_
              refine LS.vv rfl rfl (by decide) (Val.move rfl) ?_
              refine LS.split 3 rfl (fun hg7 => ?_) (fun hg7 => ?_)
              ·
                first | (have hg7p := of_decide_eq_true hg7) | skip
                refine LS.vg rfl rfl rfl hg7 (by decide) (Val.move rfl) ?_
                refine LS.vg rfl rfl rfl hg7 (by decide) (Val.move rfl) ?_
                refine LS.vg rfl rfl rfl hg7 (by decide) (Val.indexAddr Try.underlying27 elem35 rfl rfl (by omega) (hM.o2.rd) (by first | (rw [mv_len]; omega) | (rw [pc2_len]; omega))) ?_
                refine LS.vg rfl rfl rfl hg7 (by decide) (Val.fieldAddr fld35_0 rfl (hM.o2.rd) (by first | (rw [mv_len]; omega) | (rw [pc2_len]; omega))) ?_
                refine LS.mg rfl rfl hg7 (Step.load rfl rfl (by decide) flat22 rfl (hM.o2.rd) ((pc2_at (by omega)).1) ?_)
                refine LS.vg rfl rfl rfl hg7 (by decide) (Val.eql rfl rfl) ?_
                refine LS.vv rfl rfl (by decide) (Val.pickT rfl hg7 rfl) ?_
                refine LS.nil ?_
                first | refine W.condD rfl (fun hc8 => ?_) (fun hc8 => ?_) | refine W.cond rfl (fun hc8 => ?_) (fun hc8 => ?_)
                ·
                  refine W.seq ?_
                  refine W.seqR ?_
                  refine LS.vv rfl rfl (by decide) (Val.fieldAddr0 fld33_1 rfl) ?_
                  refine LS.m rfl (Step.load rfl rfl (by decide) flat3 rfl (hM.o0.rd) (rfl) ?_)
                  refine LS.vv rfl rfl (by decide) (Val.lss rfl rfl) ?_
                  refine LS.vv rfl rfl (by decide) (Val.move rfl) ?_
                  refine LS.split 3 rfl (fun hg9 => ?_) (fun hg9 => ?_)
                  ·
                    first | (have hg9p := of_decide_eq_true hg9) | skip
                    refine LS.s rfl rfl rfl hg9 (by decide) ?_
                    refine LS.s rfl rfl rfl hg9 (by decide) ?_
                    refine LS.s rfl rfl rfl hg9 (by decide) ?_
                    refine LS.vv rfl rfl (by decide) (Val.pickT rfl hg9 rfl) ?_
                    refine LS.nil ?_
                    refine W.condT rfl ?_
                    refine W.seqR ?_
                    refine LS.vv rfl rfl (by decide) (Val.assign rfl) ?_
                    refine LS.nil ?_
                    refine W.ret ?_
                    refine thenP_ret ?_
                    refine thenP_ret ?_
                    refine inBlk_ret ?_
                    refine thenP_ret ?_
                    refine thenP_ret ?_
                    refine inBlk_ret ?_
                    refine thenP_ret ?_
                    refine ret1 (by first | exact .inl rfl | exact .inr rfl) rfl ?_
                    first | exact ⟨rfl, hB⟩ | contradiction | (exfalso; omega) | exact ⟨congrArg Value.bool (decide_eq_true (by omega)), hB⟩
                  ·
                    first | (have hg9p := of_decide_eq_false hg9) | skip
                    refine LS.vg rfl rfl rfl hg9 (by decide) (Val.fieldAddr0 fld33_1 rfl) ?_
                    refine LS.mg rfl rfl hg9 (Step.load rfl rfl (by decide) flat3 rfl (hM.o0.rd) (rfl) ?_)
                    refine LS.vg rfl rfl rfl hg9 (by decide) (Val.geq rfl rfl) ?_
                    refine LS.vv rfl rfl (by decide) (Val.pickF rfl hg9 rfl) ?_
                    refine LS.nil ?_
                    first | refine W.condD rfl (fun hc10 => ?_) (fun hc10 => ?_) | refine W.cond rfl (fun hc10 => ?_) (fun hc10 => ?_)
                    ·
                      refine W.seqR ?_
                      refine LS.vv rfl rfl (by decide) (Val.assign rfl) ?_
                      refine LS.nil ?_
                      refine W.ret ?_
                      refine thenP_ret ?_
                      refine thenP_ret ?_
                      refine inBlk_ret ?_
                      refine thenP_ret ?_
                      refine thenP_ret ?_
                      refine inBlk_ret ?_
                      refine thenP_ret ?_
                      refine ret1 (by first | exact .inl rfl | exact .inr rfl) rfl ?_
                      first | exact ⟨rfl, hB⟩ | contradiction | (exfalso; omega) | exact ⟨congrArg Value.bool (decide_eq_true (by omega)), hB⟩
                    ·
                      refine W.skip ?_
                      refine thenP_normal ?_
                      refine W.reg ?_
                      refine LS.vv rfl rfl (by decide) (Val.move rfl) ?_
                      refine LS.vv rfl rfl (by decide) (Val.fieldAddr0 fld33_1 rfl) ?_
                      have hblk : ([.int .i64 (gM l k).kind, .int .i64 (gM l k).block, .int .u8 ((gM l k).val : Int)] : List Value)[1]? = some (.int .i64 (((gM l k).block.toNat : Nat) : Int)) := by { simp; omega }
                      refine LS.m rfl (Step.load rfl rfl (by decide) flat3 rfl (hM.o0.rd) (hblk) ?_)
                      refine LS.vv rfl rfl (by decide) (Val.fieldAddr0 fld33_2 rfl) ?_
                      refine LS.m rfl (Step.load rfl rfl (by decide) flat5 rfl (hM.o0.rd) (rfl) ?_)
                      refine LS.vv rfl rfl (by decide) (Val.index1 Try.underlying31 elem5 rfl rfl (by omega) (hM.o1.rd) (yv_lt (by omega))) ?_
                      refine LS.m rfl (Step.storeZ (B := w0.heap.size) rfl rfl flat5 elem5 rfl rfl rfl (hM.o1) (by first | decide | (simp; done) | (simp; omega) | omega) hB.size ?_)
                      rintro w6 hO6 hg6 hbl6 hsz6
                      replace hM := hM.s1 (e := _) hg6 hO6 inl_block
                      try simp only [yv_app1, yv_app, yv_set, yv_rep, yv_one, yv_cons, yv_take, yv_drop, List.nil_append] at hM
                      try simp only [List.set_cons_zero, List.set_cons_succ] at hM
                      replace hB := hB.trans hbl6
                      refine LS.nil ?_
                      refine thenP_normal ?_
                      refine W.seq ?_
                      refine W.seqFz 20 [(0, true), (1, true), (2, true), (3, true), (4, true), (5, true), (6, true), (7, true), (8, true), (9, true), (10, true), (11, true), (12, true), (13, true), (14, true), (15, true), (16, true), (17, true), (18, true), (19, true)] mixed (by kernel_rfl) hB hM ?_
                      replace hB := hB.drew
                      replace hM := hM.drew
                      refine DF.vv rfl rfl rfl (by decide) (Val.fieldAddr0 fld33_0 rfl) ?_
                      refine DF.vv rfl rfl rfl (by decide) (Val.load flat3 rfl (fun _ h => h.2.o0.rd) (rfl)) ?_
                      refine DF.vv rfl rfl rfl (by decide) (Val.eql rfl rfl) ?_
                      refine DF.vv rfl rfl rfl (by decide) (Val.move rfl) ?_
                      refine DF.split 3 rfl (fun hg11 => ?_) (fun hg11 => ?_)
                      ·
                        first | (have hg11p := of_decide_eq_true hg11) | skip
                        refine DF.vg rfl rfl rfl rfl hg11 (by decide) (Val.move rfl) ?_
                        refine DF.vg rfl rfl rfl rfl hg11 (by decide) (Val.move rfl) ?_
                        refine DF.vg rfl rfl rfl rfl hg11 (by decide) (Val.indexAddr Try.underlying27 elem35 rfl rfl (by omega) (hM.o2.rd) (by first | (rw [mv_len]; omega) | (rw [pc2_len]; omega))) ?_
                        refine DF.vg rfl rfl rfl rfl hg11 (by decide) (Val.fieldAddr fld35_0 rfl (hM.o2.rd) (by first | (rw [mv_len]; omega) | (rw [pc2_len]; omega))) ?_
                        refine DF.vg rfl rfl rfl rfl hg11 (by decide) (Val.load flat22 rfl (fun _ h => h.2.o2.rd) ((pc2_at (by omega)).1)) ?_
                        refine DF.vg rfl rfl rfl rfl hg11 (by decide) (Val.eql rfl rfl) ?_
                        refine DF.vg rfl rfl rfl rfl hg11 (by decide) (Val.fieldAddr0 fld33_1 rfl) ?_
                        refine DF.vg rfl rfl rfl rfl hg11 (by decide) (Val.load flat3 rfl (fun _ h => h.2.o0.rd) (rfl)) ?_
                        refine DF.vg rfl rfl rfl rfl hg11 (by decide) (Val.geq rfl rfl) ?_
                        refine DF.vg rfl rfl rfl rfl hg11 (by decide) (Val.move rfl) ?_
                        refine DF.split 13 rfl (fun hg12 => ?_) (fun hg12 => ?_)
                        ·
                          first | (have hg12p := of_decide_eq_true hg12) | skip
                          refine DF.vg rfl rfl rfl rfl hg12 (by decide) (Val.fieldAddr0 fld33_1 rfl) ?_
                          refine DF.vg rfl rfl rfl rfl hg12 (by decide) (Val.load flat3 rfl (fun _ h => h.2.o0.rd) (rfl)) ?_
                          refine DF.vg rfl rfl rfl rfl hg12 (by decide) (Val.lss rfl rfl) ?_
                          refine DF.vg rfl rfl rfl rfl hg11 (by decide) (Val.pickT rfl hg12 rfl) ?_
                          refine DF.vg rfl rfl rfl rfl hg11 (by decide) (Val.cast (v := .bool false) (Val.neqB Try.underlying4 rfl rfl) (by refine congrArg Value.bool ?_; first | (simp; omega) | (rw [bne_eq_false_iff_eq, decide_eq_decide]; omega))) ?_
                          refine DF.vv rfl rfl rfl (by decide) (Val.pickT rfl hg11 rfl) ?_
                          refine DF.nil ?_
                          refine W.condF rfl ?_
                          refine W.skip ?_
                          refine thenP_normal ?_
                          refine W.seqFz 24 [(0, true), (1, true), (2, true), (3, true), (4, true), (5, true), (6, true), (7, true), (8, true), (9, true), (10, true), (11, true), (12, true), (13, true), (14, true), (15, true), (16, true), (17, true), (18, true), (19, true), (20, true), (21, true), (22, true), (23, true)] mixed (by kernel_rfl) hB hM ?_
                          replace hB := hB.drew
                          replace hM := hM.drew
                          refine DF.vv rfl rfl rfl (by decide) (Val.fieldAddr0 fld33_0 rfl) ?_
                          refine DF.vv rfl rfl rfl (by decide) (Val.load flat3 rfl (fun _ h => h.2.o0.rd) (rfl)) ?_
                          refine DF.vv rfl rfl rfl (by decide) (Val.eql rfl rfl) ?_
                          refine DF.vv rfl rfl rfl (by decide) (Val.move rfl) ?_
                          refine DF.split 3 rfl (fun hg13 => ?_) (fun hg13 => ?_)
                          ·
                            first | (have hg13p := of_decide_eq_true hg13) | skip
                            refine DF.vg rfl rfl rfl rfl hg13 (by decide) (Val.move rfl) ?_
                            refine DF.vg rfl rfl rfl rfl hg13 (by decide) (Val.move rfl) ?_
                            refine DF.vg rfl rfl rfl rfl hg13 (by decide) (Val.indexAddr Try.underlying27 elem35 rfl rfl (by omega) (hM.o2.rd) (by first | (rw [mv_len]; omega) | (rw [pc2_len]; omega))) ?_
                            refine DF.vg rfl rfl rfl rfl hg13 (by decide) (Val.fieldAddr fld35_0 rfl (hM.o2.rd) (by first | (rw [mv_len]; omega) | (rw [pc2_len]; omega))) ?_
                            refine DF.vg rfl rfl rfl rfl hg13 (by decide) (Val.load flat22 rfl (fun _ h => h.2.o2.rd) ((pc2_at (by omega)).1)) ?_
                            refine DF.vg rfl rfl rfl rfl hg13 (by decide) (Val.eql rfl rfl) ?_
                            refine DF.vv rfl rfl rfl (by decide) (Val.pickT rfl hg13 rfl) ?_
                            refine DF.vv rfl rfl rfl (by decide) (Val.move rfl) ?_
                            refine DF.split 11 rfl (fun hg14 => ?_) (fun hg14 => ?_)
                            ·
                              first | (have hg14p := of_decide_eq_true hg14) | skip
                              refine DF.vg rfl rfl rfl rfl hg14 (by decide) (Val.move rfl) ?_
                              refine DF.vg rfl rfl rfl rfl hg14 (by decide) (Val.move rfl) ?_
                              refine DF.vg rfl rfl rfl rfl hg14 (by decide) (Val.indexAddr Try.underlying27 elem35 rfl rfl (by omega) (hM.o2.rd) (by first | (rw [mv_len]; omega) | (rw [pc2_len]; omega))) ?_
                              refine DF.vg rfl rfl rfl rfl hg14 (by decide) (Val.fieldAddr fld35_1 rfl (hM.o2.rd) (by first | (rw [mv_len]; omega) | (rw [pc2_len]; omega))) ?_
                              refine DF.vg rfl rfl rfl rfl hg14 (by decide) (Val.load flat5 rfl (fun _ h => h.2.o2.rd) ((pc2_at (by omega)).2)) ?_
                              refine DF.vg rfl rfl rfl rfl hg14 (by decide) (Val.move rfl) ?_
                              refine DF.vg rfl rfl rfl rfl hg14 (by decide) (Val.fieldAddr0 fld33_1 rfl) ?_
                              have hblk : ([.int .i64 (gM l k).kind, .int .i64 (gM l k).block, .int .u8 ((gM l k).val : Int)] : List Value)[1]? = some (.int .i64 (((gM l k).block.toNat : Nat) : Int)) := by { simp; omega }
                              refine DF.vg rfl rfl rfl rfl hg14 (by decide) (Val.load flat3 rfl (fun _ h => h.2.o0.rd) (hblk)) ?_
                              refine DF.vg rfl rfl rfl rfl hg14 (by decide) (Val.index1 Try.underlying31 elem5 rfl rfl (by omega) (hM.o1.rd) (yv_lt (by omega))) ?_
                              refine DF.vg rfl rfl rfl rfl hg14 (by decide) (Val.load flat5 rfl (fun _ h => h.2.o1.rd) (yv_at (by omega))) ?_
                              refine DF.vg rfl rfl rfl rfl hg14 (by decide) (Val.cast (v := .bool false) (Val.neq rfl rfl) (by refine congrArg Value.bool (decide_eq_false ?_); omega)) ?_
                              refine DF.vv rfl rfl rfl (by decide) (Val.pickT rfl hg14 rfl) ?_
                              refine DF.nil ?_
                              refine W.condF rfl ?_
                              refine W.skip ?_
                              refine inBlk_normal ?_
                              refine thenP_normal ?_
                              refine W.reg ?_
                              first | refine LS.vv rfl rfl (by decide) (Val.addN (j := 1) rfl rfl (by omega)) ?_ | refine LS.vv rfl rfl (by decide) (Val.add64 rfl rfl (by omega)) ?_
                              refine LS.vv rfl rfl (by decide) (Val.move rfl) ?_
                              refine LS.nil ?_
                              refine thenP_normal ?_
                              replace hM := hM.er0
                              refine ⟨k + 1, ?_, ?_, ⟨by omega, ?_, hB⟩, by omega⟩
                              · exact (Sub.cons rfl (Sub.nil _))
                              · repeat (first | exact Sub.nil _ | refine Sub.cons rfl ?_)
                              · rw [F5]; first | (rw [if_pos ⟨by omega, by omega⟩]; exact hM) | (rw [if_neg (by omega)]; exact hM)
                            ·
                              first | (have hg14p := of_decide_eq_false hg14) | skip
                              refine DF.s rfl rfl rfl rfl hg14 (by decide) ?_
                              refine DF.s rfl rfl rfl rfl hg14 (by decide) ?_
                              refine DF.s rfl rfl rfl rfl hg14 (by decide) ?_
                              refine DF.s rfl rfl rfl rfl hg14 (by decide) ?_
                              refine DF.s rfl rfl rfl rfl hg14 (by decide) ?_
                              refine DF.s rfl rfl rfl rfl hg14 (by decide) ?_
                              refine DF.s rfl rfl rfl rfl hg14 (by decide) ?_
                              refine DF.s rfl rfl rfl rfl hg14 (by decide) ?_
                              refine DF.s rfl rfl rfl rfl hg14 (by decide) ?_
                              refine DF.s rfl rfl rfl rfl hg14 (by decide) ?_
                              refine DF.s rfl rfl rfl rfl hg14 (by decide) ?_
                              refine DF.vv rfl rfl rfl (by decide) (Val.pickF rfl hg14 rfl) ?_
                              refine DF.nil ?_
                              refine W.condF rfl ?_
                              refine W.skip ?_
                              refine inBlk_normal ?_
                              refine thenP_normal ?_
                              refine W.reg ?_
                              first | refine LS.vv rfl rfl (by decide) (Val.addN (j := 1) rfl rfl (by omega)) ?_ | refine LS.vv rfl rfl (by decide) (Val.add64 rfl rfl (by omega)) ?_
                              refine LS.vv rfl rfl (by decide) (Val.move rfl) ?_
                              refine LS.nil ?_
                              refine thenP_normal ?_
                              replace hM := hM.er0
                              refine ⟨k + 1, ?_, ?_, ⟨by omega, ?_, hB⟩, by omega⟩
                              · exact (Sub.cons rfl (Sub.nil _))
                              · repeat (first | exact Sub.nil _ | refine Sub.cons rfl ?_)
                              · rw [F5]; first | (rw [if_pos ⟨by omega, by omega⟩]; exact hM) | (rw [if_neg (by omega)]; exact hM)
                          ·
                            first | (have hg13p := of_decide_eq_false hg13) | skip
                            refine DF.s rfl rfl rfl rfl hg13 (by decide) ?_
                            refine DF.s rfl rfl rfl rfl hg13 (by decide) ?_
                            refine DF.s rfl rfl rfl rfl hg13 (by decide) ?_
                            refine DF.s rfl rfl rfl rfl hg13 (by decide) ?_
                            refine DF.s rfl rfl rfl rfl hg13 (by decide) ?_
                            refine DF.s rfl rfl rfl rfl hg13 (by decide) ?_
                            refine DF.vv rfl rfl rfl (by decide) (Val.pickF rfl hg13 rfl) ?_
                            refine DF.vv rfl rfl rfl (by decide) (Val.move rfl) ?_
                            refine DF.s rfl rfl rfl rfl rfl (by decide) ?_
                            refine DF.s rfl rfl rfl rfl rfl (by decide) ?_
                            refine DF.s rfl rfl rfl rfl rfl (by decide) ?_
                            refine DF.s rfl rfl rfl rfl rfl (by decide) ?_
                            refine DF.s rfl rfl rfl rfl rfl (by decide) ?_
                            refine DF.s rfl rfl rfl rfl rfl (by decide) ?_
                            refine DF.s rfl rfl rfl rfl rfl (by decide) ?_
                            refine DF.s rfl rfl rfl rfl rfl (by decide) ?_
                            refine DF.s rfl rfl rfl rfl rfl (by decide) ?_
                            refine DF.s rfl rfl rfl rfl rfl (by decide) ?_
                            refine DF.s rfl rfl rfl rfl rfl (by decide) ?_
                            refine DF.vv rfl rfl rfl (by decide) (Val.pickF rfl rfl rfl) ?_
                            refine DF.nil ?_
                            refine W.condF rfl ?_
                            refine W.skip ?_
                            refine inBlk_normal ?_
                            refine thenP_normal ?_
                            refine W.reg ?_
                            first | refine LS.vv rfl rfl (by decide) (Val.addN (j := 1) rfl rfl (by omega)) ?_ | refine LS.vv rfl rfl (by decide) (Val.add64 rfl rfl (by omega)) ?_
                            refine LS.vv rfl rfl (by decide) (Val.move rfl) ?_
                            refine LS.nil ?_
                            refine thenP_normal ?_
                            replace hM := hM.er0
                            refine ⟨k + 1, ?_, ?_, ⟨by omega, ?_, hB⟩, by omega⟩
                            · exact (Sub.cons rfl (Sub.nil _))
                            · repeat (first | exact Sub.nil _ | refine Sub.cons rfl ?_)
                            · rw [F5]; first | (rw [if_pos ⟨by omega, by omega⟩]; exact hM) | (rw [if_neg (by omega)]; exact hM)
                        ·
                          first | (have hg12p := of_decide_eq_false hg12) | skip
                          refine DF.s rfl rfl rfl rfl hg12 (by decide) ?_
                          refine DF.s rfl rfl rfl rfl hg12 (by decide) ?_
                          refine DF.s rfl rfl rfl rfl hg12 (by decide) ?_
                          refine DF.vg rfl rfl rfl rfl hg11 (by decide) (Val.pickF rfl hg12 rfl) ?_
                          refine DF.vg rfl rfl rfl rfl hg11 (by decide) (Val.cast (v := .bool false) (Val.neqB Try.underlying4 rfl rfl) (by refine congrArg Value.bool ?_; first | (simp; omega) | (rw [bne_eq_false_iff_eq, decide_eq_decide]; omega))) ?_
                          refine DF.vv rfl rfl rfl (by decide) (Val.pickT rfl hg11 rfl) ?_
                          refine DF.nil ?_
                          refine W.condF rfl ?_
                          refine W.skip ?_
                          refine thenP_normal ?_
                          refine W.seqFz 24 [(0, true), (1, true), (2, true), (3, true), (4, true), (5, true), (6, true), (7, true), (8, true), (9, true), (10, true), (11, true), (12, true), (13, true), (14, true), (15, true), (16, true), (17, true), (18, true), (19, true), (20, true), (21, true), (22, true), (23, true)] mixed (by kernel_rfl) hB hM ?_
                          replace hB := hB.drew
                          replace hM := hM.drew
                          refine DF.vv rfl rfl rfl (by decide) (Val.fieldAddr0 fld33_0 rfl) ?_
                          refine DF.vv rfl rfl rfl (by decide) (Val.load flat3 rfl (fun _ h => h.2.o0.rd) (rfl)) ?_
                          refine DF.vv rfl rfl rfl (by decide) (Val.eql rfl rfl) ?_
                          refine DF.vv rfl rfl rfl (by decide) (Val.move rfl) ?_
                          refine DF.split 3 rfl (fun hg15 => ?_) (fun hg15 => ?_)
                          ·
                            first | (have hg15p := of_decide_eq_true hg15) | skip
                            refine DF.vg rfl rfl rfl rfl hg15 (by decide) (Val.move rfl) ?_
                            refine DF.vg rfl rfl rfl rfl hg15 (by decide) (Val.move rfl) ?_
                            refine DF.vg rfl rfl rfl rfl hg15 (by decide) (Val.indexAddr Try.underlying27 elem35 rfl rfl (by omega) (hM.o2.rd) (by first | (rw [mv_len]; omega) | (rw [pc2_len]; omega))) ?_
                            refine DF.vg rfl rfl rfl rfl hg15 (by decide) (Val.fieldAddr fld35_0 rfl (hM.o2.rd) (by first | (rw [mv_len]; omega) | (rw [pc2_len]; omega))) ?_
                            refine DF.vg rfl rfl rfl rfl hg15 (by decide) (Val.load flat22 rfl (fun _ h => h.2.o2.rd) ((pc2_at (by omega)).1)) ?_
                            refine DF.vg rfl rfl rfl rfl hg15 (by decide) (Val.eql rfl rfl) ?_
                            refine DF.vv rfl rfl rfl (by decide) (Val.pickT rfl hg15 rfl) ?_
                            refine DF.vv rfl rfl rfl (by decide) (Val.move rfl) ?_
                            refine DF.split 11 rfl (fun hg16 => ?_) (fun hg16 => ?_)
                            ·
                              first | (have hg16p := of_decide_eq_true hg16) | skip
                              refine DF.vg rfl rfl rfl rfl hg16 (by decide) (Val.move rfl) ?_
                              refine DF.vg rfl rfl rfl rfl hg16 (by decide) (Val.move rfl) ?_
                              refine DF.vg rfl rfl rfl rfl hg16 (by decide) (Val.indexAddr Try.underlying27 elem35 rfl rfl (by omega) (hM.o2.rd) (by first | (rw [mv_len]; omega) | (rw [pc2_len]; omega))) ?_
                              refine DF.vg rfl rfl rfl rfl hg16 (by decide) (Val.fieldAddr fld35_1 rfl (hM.o2.rd) (by first | (rw [mv_len]; omega) | (rw [pc2_len]; omega))) ?_
                              refine DF.vg rfl rfl rfl rfl hg16 (by decide) (Val.load flat5 rfl (fun _ h => h.2.o2.rd) ((pc2_at (by omega)).2)) ?_
                              refine DF.vg rfl rfl rfl rfl hg16 (by decide) (Val.move rfl) ?_
                              refine DF.vg rfl rfl rfl rfl hg16 (by decide) (Val.fieldAddr0 fld33_1 rfl) ?_
                              have hblk : ([.int .i64 (gM l k).kind, .int .i64 (gM l k).block, .int .u8 ((gM l k).val : Int)] : List Value)[1]? = some (.int .i64 (((gM l k).block.toNat : Nat) : Int)) := by { simp; omega }
                              refine DF.vg rfl rfl rfl rfl hg16 (by decide) (Val.load flat3 rfl (fun _ h => h.2.o0.rd) (hblk)) ?_
                              refine DF.vg rfl rfl rfl rfl hg16 (by decide) (Val.index1 Try.underlying31 elem5 rfl rfl (by omega) (hM.o1.rd) (yv_lt (by omega))) ?_
                              refine DF.vg rfl rfl rfl rfl hg16 (by decide) (Val.load flat5 rfl (fun _ h => h.2.o1.rd) (yv_at (by omega))) ?_
                              refine DF.vg rfl rfl rfl rfl hg16 (by decide) (Val.cast (v := .bool false) (Val.neq rfl rfl) (by refine congrArg Value.bool (decide_eq_false ?_); omega)) ?_
                              refine DF.vv rfl rfl rfl (by decide) (Val.pickT rfl hg16 rfl) ?_
                              refine DF.nil ?_
                              refine W.condF rfl ?_
                              refine W.skip ?_
                              refine inBlk_normal ?_
                              refine thenP_normal ?_
                              refine W.reg ?_
                              first | refine LS.vv rfl rfl (by decide) (Val.addN (j := 1) rfl rfl (by omega)) ?_ | refine LS.vv rfl rfl (by decide) (Val.add64 rfl rfl (by omega)) ?_
                              refine LS.vv rfl rfl (by decide) (Val.move rfl) ?_
                              refine LS.nil ?_
                              refine thenP_normal ?_
                              replace hM := hM.er0
                              refine ⟨k + 1, ?_, ?_, ⟨by omega, ?_, hB⟩, by omega⟩
                              · exact (Sub.cons rfl (Sub.nil _))
                              · repeat (first | exact Sub.nil _ | refine Sub.cons rfl ?_)
                              · rw [F5]; first | (rw [if_pos ⟨by omega, by omega⟩]; exact hM) | (rw [if_neg (by omega)]; exact hM)
                            ·
                              first | (have hg16p := of_decide_eq_false hg16) | skip
                              refine DF.s rfl rfl rfl rfl hg16 (by decide) ?_
                              refine DF.s rfl rfl rfl rfl hg16 (by decide) ?_
                              refine DF.s rfl rfl rfl rfl hg16 (by decide) ?_
                              refine DF.s rfl rfl rfl rfl hg16 (by decide) ?_
                              refine DF.s rfl rfl rfl rfl hg16 (by decide) ?_
                              refine DF.s rfl rfl rfl rfl hg16 (by decide) ?_
                              refine DF.s rfl rfl rfl rfl hg16 (by decide) ?_
                              refine DF.s rfl rfl rfl rfl hg16 (by decide) ?_
                              refine DF.s rfl rfl rfl rfl hg16 (by decide) ?_
                              refine DF.s rfl rfl rfl rfl hg16 (by decide) ?_
                              refine DF.s rfl rfl rfl rfl hg16 (by decide) ?_
                              refine DF.vv rfl rfl rfl (by decide) (Val.pickF rfl hg16 rfl) ?_
                              refine DF.nil ?_
                              refine W.condF rfl ?_
                              refine W.skip ?_
                              refine inBlk_normal ?_
                              refine thenP_normal ?_
                              refine W.reg ?_
                              first | refine LS.vv rfl rfl (by decide) (Val.addN (j := 1) rfl rfl (by omega)) ?_ | refine LS.vv rfl rfl (by decide) (Val.add64 rfl rfl (by omega)) ?_
                              refine LS.vv rfl rfl (by decide) (Val.move rfl) ?_
                              refine LS.nil ?_
                              refine thenP_normal ?_
                              replace hM := hM.er0
                              refine ⟨k + 1, ?_, ?_, ⟨by omega, ?_, hB⟩, by omega⟩
                              · exact (Sub.cons rfl (Sub.nil _))
                              · repeat (first | exact Sub.nil _ | refine Sub.cons rfl ?_)
                              · rw [F5]; first | (rw [if_pos ⟨by omega, by omega⟩]; exact hM) | (rw [if_neg (by omega)]; exact hM)
                          ·
                            first | (have hg15p := of_decide_eq_false hg15) | skip
                            refine DF.s rfl rfl rfl rfl hg15 (by decide) ?_
                            refine DF.s rfl rfl rfl rfl hg15 (by decide) ?_
                            refine DF.s rfl rfl rfl rfl hg15 (by decide) ?_
                            refine DF.s rfl rfl rfl rfl hg15 (by decide) ?_
                            refine DF.s rfl rfl rfl rfl hg15 (by decide) ?_
                            refine DF.s rfl rfl rfl rfl hg15 (by decide) ?_
                            refine DF.vv rfl rfl rfl (by decide) (Val.pickF rfl hg15 rfl) ?_
                            refine DF.vv rfl rfl rfl (by decide) (Val.move rfl) ?_
                            refine DF.s rfl rfl rfl rfl rfl (by decide) ?_
                            refine DF.s rfl rfl rfl rfl rfl (by decide) ?_
                            refine DF.s rfl rfl rfl rfl rfl (by decide) ?_
                            refine DF.s rfl rfl rfl rfl rfl (by decide) ?_
                            refine DF.s rfl rfl rfl rfl rfl (by decide) ?_
                            refine DF.s rfl rfl rfl rfl rfl (by decide) ?_
                            refine DF.s rfl rfl rfl rfl rfl (by decide) ?_
                            refine DF.s rfl rfl rfl rfl rfl (by decide) ?_
                            refine DF.s rfl rfl rfl rfl rfl (by decide) ?_
                            refine DF.s rfl rfl rfl rfl rfl (by decide) ?_
                            refine DF.s rfl rfl rfl rfl rfl (by decide) ?_
                            refine DF.vv rfl rfl rfl (by decide) (Val.pickF rfl rfl rfl) ?_
                            refine DF.nil ?_
                            refine W.condF rfl ?_
                            refine W.skip ?_
                            refine inBlk_normal ?_
                            refine thenP_normal ?_
                            refine W.reg ?_
                            first | refine LS.vv rfl rfl (by decide) (Val.addN (j := 1) rfl rfl (by omega)) ?_ | refine LS.vv rfl rfl (by decide) (Val.add64 rfl rfl (by omega)) ?_
                            refine LS.vv rfl rfl (by decide) (Val.move rfl) ?_
                            refine LS.nil ?_
                            refine thenP_normal ?_
                            replace hM := hM.er0
                            refine ⟨k + 1, ?_, ?_, ⟨by omega, ?_, hB⟩, by omega⟩
                            · exact (Sub.cons rfl (Sub.nil _))
                            · repeat (first | exact Sub.nil _ | refine Sub.cons rfl ?_)
                            · rw [F5]; first | (rw [if_pos ⟨by omega, by omega⟩]; exact hM) | (rw [if_neg (by omega)]; exact hM)
                      ·
                        first | (have hg11p := of_decide_eq_false hg11) | skip
                        refine DF.s rfl rfl rfl rfl hg11 (by decide) ?_
                        refine DF.s rfl rfl rfl rfl hg11 (by decide) ?_
                        refine DF.s rfl rfl rfl rfl hg11 (by decide) ?_
                        refine DF.s rfl rfl rfl rfl hg11 (by decide) ?_
                        refine DF.s rfl rfl rfl rfl hg11 (by decide) ?_
                        refine DF.s rfl rfl rfl rfl hg11 (by decide) ?_
                        refine DF.s rfl rfl rfl rfl hg11 (by decide) ?_
                        refine DF.s rfl rfl rfl rfl hg11 (by decide) ?_
                        refine DF.s rfl rfl rfl rfl hg11 (by decide) ?_
                        refine DF.s rfl rfl rfl rfl hg11 (by decide) ?_
                        refine DF.skipU rfl rfl rfl rfl (by decide) ?_
                        refine DF.skipU rfl rfl rfl rfl (by decide) ?_
                        refine DF.skipU rfl rfl rfl rfl (by decide) ?_
                        refine DF.s rfl rfl rfl rfl hg11 (by decide) ?_
                        refine DF.s rfl rfl rfl rfl hg11 (by decide) ?_
                        refine DF.vv rfl rfl rfl (by decide) (Val.pickF rfl hg11 rfl) ?_
                        refine DF.nil ?_
                        refine W.condF rfl ?_
                        refine W.skip ?_
                        refine thenP_normal ?_
                        refine W.seqFz 24 [(0, true), (1, true), (2, true), (3, true), (4, true), (5, true), (6, true), (7, true), (8, true), (9, true), (10, true), (11, true), (12, true), (13, true), (14, true), (15, true), (16, true), (17, true), (18, true), (19, true), (20, true), (21, true), (22, true), (23, true)] mixed (by kernel_rfl) hB hM ?_
                        replace hB := hB.drew
                        replace hM := hM.drew
                        refine DF.vv rfl rfl rfl (by decide) (Val.fieldAddr0 fld33_0 rfl) ?_
                        refine DF.vv rfl rfl rfl (by decide) (Val.load flat3 rfl (fun _ h => h.2.o0.rd) (rfl)) ?_
                        refine DF.vv rfl rfl rfl (by decide) (Val.eql rfl rfl) ?_
                        refine DF.vv rfl rfl rfl (by decide) (Val.move rfl) ?_
                        refine DF.split 3 rfl (fun hg17 => ?_) (fun hg17 => ?_)
                        ·
                          first | (have hg17p := of_decide_eq_true hg17) | skip
                          refine DF.vg rfl rfl rfl rfl hg17 (by decide) (Val.move rfl) ?_
                          refine DF.vg rfl rfl rfl rfl hg17 (by decide) (Val.move rfl) ?_
                          refine DF.vg rfl rfl rfl rfl hg17 (by decide) (Val.indexAddr Try.underlying27 elem35 rfl rfl (by omega) (hM.o2.rd) (by first | (rw [mv_len]; omega) | (rw [pc2_len]; omega))) ?_
                          refine DF.vg rfl rfl rfl rfl hg17 (by decide) (Val.fieldAddr fld35_0 rfl (hM.o2.rd) (by first | (rw [mv_len]; omega) | (rw [pc2_len]; omega))) ?_
                          refine DF.vg rfl rfl rfl rfl hg17 (by decide) (Val.load flat22 rfl (fun _ h => h.2.o2.rd) ((pc2_at (by omega)).1)) ?_
                          refine DF.vg rfl rfl rfl rfl hg17 (by decide) (Val.eql rfl rfl) ?_
                          refine DF.vv rfl rfl rfl (by decide) (Val.pickT rfl hg17 rfl) ?_
                          refine DF.vv rfl rfl rfl (by decide) (Val.move rfl) ?_
                          refine DF.split 11 rfl (fun hg18 => ?_) (fun hg18 => ?_)
                          ·
                            first | (have hg18p := of_decide_eq_true hg18) | skip
                            refine DF.vg rfl rfl rfl rfl hg18 (by decide) (Val.move rfl) ?_
                            refine DF.vg rfl rfl rfl rfl hg18 (by decide) (Val.move rfl) ?_
                            refine DF.vg rfl rfl rfl rfl hg18 (by decide) (Val.indexAddr Try.underlying27 elem35 rfl rfl (by omega) (hM.o2.rd) (by first | (rw [mv_len]; omega) | (rw [pc2_len]; omega))) ?_
                            refine DF.vg rfl rfl rfl rfl hg18 (by decide) (Val.fieldAddr fld35_1 rfl (hM.o2.rd) (by first | (rw [mv_len]; omega) | (rw [pc2_len]; omega))) ?_
                            refine DF.vg rfl rfl rfl rfl hg18 (by decide) (Val.load flat5 rfl (fun _ h => h.2.o2.rd) ((pc2_at (by omega)).2)) ?_
                            refine DF.vg rfl rfl rfl rfl hg18 (by decide) (Val.move rfl) ?_
                            refine DF.vg rfl rfl rfl rfl hg18 (by decide) (Val.fieldAddr0 fld33_1 rfl) ?_
                            have hblk : ([.int .i64 (gM l k).kind, .int .i64 (gM l k).block, .int .u8 ((gM l k).val : Int)] : List Value)[1]? = some (.int .i64 (((gM l k).block.toNat : Nat) : Int)) := by { simp; omega }
                            refine DF.vg rfl rfl rfl rfl hg18 (by decide) (Val.load flat3 rfl (fun _ h => h.2.o0.rd) (hblk)) ?_
                            refine DF.vg rfl rfl rfl rfl hg18 (by decide) (Val.index1 Try.underlying31 elem5 rfl rfl (by omega) (hM.o1.rd) (yv_lt (by omega))) ?_
                            refine DF.vg rfl rfl rfl rfl hg18 (by decide) (Val.load flat5 rfl (fun _ h => h.2.o1.rd) (yv_at (by omega))) ?_
                            refine DF.vg rfl rfl rfl rfl hg18 (by decide) (Val.cast (v := .bool false) (Val.neq rfl rfl) (by refine congrArg Value.bool (decide_eq_false ?_); omega)) ?_
                            refine DF.vv rfl rfl rfl (by decide) (Val.pickT rfl hg18 rfl) ?_
                            refine DF.nil ?_
                            refine W.condF rfl ?_
                            refine W.skip ?_
                            refine inBlk_normal ?_
                            refine thenP_normal ?_
                            refine W.reg ?_
                            first | refine LS.vv rfl rfl (by decide) (Val.addN (j := 1) rfl rfl (by omega)) ?_ | refine LS.vv rfl rfl (by decide) (Val.add64 rfl rfl (by omega)) ?_
                            refine LS.vv rfl rfl (by decide) (Val.move rfl) ?_
                            refine LS.nil ?_
                            refine thenP_normal ?_
                            replace hM := hM.er0
                            refine ⟨k + 1, ?_, ?_, ⟨by omega, ?_, hB⟩, by omega⟩
                            · exact (Sub.cons rfl (Sub.nil _))
                            · repeat (first | exact Sub.nil _ | refine Sub.cons rfl ?_)
                            · rw [F5]; first | (rw [if_pos ⟨by omega, by omega⟩]; exact hM) | (rw [if_neg (by omega)]; exact hM)
                          ·
                            first | (have hg18p := of_decide_eq_false hg18) | skip
                            refine DF.s rfl rfl rfl rfl hg18 (by decide) ?_
                            refine DF.s rfl rfl rfl rfl hg18 (by decide) ?_
                            refine DF.s rfl rfl rfl rfl hg18 (by decide) ?_
                            refine DF.s rfl rfl rfl rfl hg18 (by decide) ?_
                            refine DF.s rfl rfl rfl rfl hg18 (by decide) ?_
                            refine DF.s rfl rfl rfl rfl hg18 (by decide) ?_
                            refine DF.s rfl rfl rfl rfl hg18 (by decide) ?_
                            refine DF.s rfl rfl rfl rfl hg18 (by decide) ?_
                            refine DF.s rfl rfl rfl rfl hg18 (by decide) ?_
                            refine DF.s rfl rfl rfl rfl hg18 (by decide) ?_
                            refine DF.s rfl rfl rfl rfl hg18 (by decide) ?_
                            refine DF.vv rfl rfl rfl (by decide) (Val.pickF rfl hg18 rfl) ?_
                            refine DF.nil ?_
                            refine W.condF rfl ?_
                            refine W.skip ?_
                            refine inBlk_normal ?_
                            refine thenP_normal ?_
                            refine W.reg ?_
                            first | refine LS.vv rfl rfl (by decide) (Val.addN (j := 1) rfl rfl (by omega)) ?_ | refine LS.vv rfl rfl (by decide) (Val.add64 rfl rfl (by omega)) ?_
                            refine LS.vv rfl rfl (by decide) (Val.move rfl) ?_
                            refine LS.nil ?_
                            refine thenP_normal ?_
                            replace hM := hM.er0
                            refine ⟨k + 1, ?_, ?_, ⟨by omega, ?_, hB⟩, by omega⟩
                            · exact (Sub.cons rfl (Sub.nil _))
                            · repeat (first | exact Sub.nil _ | refine Sub.cons rfl ?_)
                            · rw [F5]; first | (rw [if_pos ⟨by omega, by omega⟩]; exact hM) | (rw [if_neg (by omega)]; exact hM)
                        ·
                          first | (have hg17p := of_decide_eq_false hg17) | skip
                          refine DF.s rfl rfl rfl rfl hg17 (by decide) ?_
                          refine DF.s rfl rfl rfl rfl hg17 (by decide) ?_
                          refine DF.s rfl rfl rfl rfl hg17 (by decide) ?_
                          refine DF.s rfl rfl rfl rfl hg17 (by decide) ?_
                          refine DF.s rfl rfl rfl rfl hg17 (by decide) ?_
                          refine DF.s rfl rfl rfl rfl hg17 (by decide) ?_
                          refine DF.vv rfl rfl rfl (by decide) (Val.pickF rfl hg17 rfl) ?_
                          refine DF.vv rfl rfl rfl (by decide) (Val.move rfl) ?_
                          refine DF.s rfl rfl rfl rfl rfl (by decide) ?_
                          refine DF.s rfl rfl rfl rfl rfl (by decide) ?_
                          refine DF.s rfl rfl rfl rfl rfl (by decide) ?_
                          refine DF.s rfl rfl rfl rfl rfl (by decide) ?_
                          refine DF.s rfl rfl rfl rfl rfl (by decide) ?_
                          refine DF.s rfl rfl rfl rfl rfl (by decide) ?_
                          refine DF.s rfl rfl rfl rfl rfl (by decide) ?_
                          refine DF.s rfl rfl rfl rfl rfl (by decide) ?_
                          refine DF.s rfl rfl rfl rfl rfl (by decide) ?_
                          refine DF.s rfl rfl rfl rfl rfl (by decide) ?_
                          refine DF.s rfl rfl rfl rfl rfl (by decide) ?_
                          refine DF.vv rfl rfl rfl (by decide) (Val.pickF rfl rfl rfl) ?_
                          refine DF.nil ?_
                          refine W.condF rfl ?_
                          refine W.skip ?_
                          refine inBlk_normal ?_
                          refine thenP_normal ?_
                          refine W.reg ?_
                          first | refine LS.vv rfl rfl (by decide) (Val.addN (j := 1) rfl rfl (by omega)) ?_ | refine LS.vv rfl rfl (by decide) (Val.add64 rfl rfl (by omega)) ?_
                          refine LS.vv rfl rfl (by decide) (Val.move rfl) ?_
                          refine LS.nil ?_
                          refine thenP_normal ?_
                          replace hM := hM.er0
                          refine ⟨k + 1, ?_, ?_, ⟨by omega, ?_, hB⟩, by omega⟩
                          · exact (Sub.cons rfl (Sub.nil _))
                          · repeat (first | exact Sub.nil _ | refine Sub.cons rfl ?_)
                          · rw [F5]; first | (rw [if_pos ⟨by omega, by omega⟩]; exact hM) | (rw [if_neg (by omega)]; exact hM)
                ·
                  refine W.skip ?_
                  refine thenP_normal ?_
                  refine W.seq ?_
                  refine W.seqFz 20 [(0, true), (1, true), (2, true), (3, true), (4, true), (5, true), (6, true), (7, true), (8, true), (9, true), (10, true), (11, true), (12, true), (13, true), (14, true), (15, true), (16, true), (17, true), (18, true), (19, true)] mixed (by kernel_rfl) hB hM ?_
                  replace hB := hB.drew
                  replace hM := hM.drew
                  refine DF.vv rfl rfl rfl (by decide) (Val.fieldAddr0 fld33_0 rfl) ?_
                  refine DF.vv rfl rfl rfl (by decide) (Val.load flat3 rfl (fun _ h => h.2.o0.rd) (rfl)) ?_
                  refine DF.vv rfl rfl rfl (by decide) (Val.eql rfl rfl) ?_
                  refine DF.vv rfl rfl rfl (by decide) (Val.move rfl) ?_
                  refine DF.split 3 rfl (fun hg19 => ?_) (fun hg19 => ?_)
                  ·
                    first | (have hg19p := of_decide_eq_true hg19) | skip
                    refine DF.vg rfl rfl rfl rfl hg19 (by decide) (Val.move rfl) ?_
                    refine DF.vg rfl rfl rfl rfl hg19 (by decide) (Val.move rfl) ?_
                    refine DF.vg rfl rfl rfl rfl hg19 (by decide) (Val.indexAddr Try.underlying27 elem35 rfl rfl (by omega) (hM.o2.rd) (by first | (rw [mv_len]; omega) | (rw [pc2_len]; omega))) ?_
                    refine DF.vg rfl rfl rfl rfl hg19 (by decide) (Val.fieldAddr fld35_0 rfl (hM.o2.rd) (by first | (rw [mv_len]; omega) | (rw [pc2_len]; omega))) ?_
                    refine DF.vg rfl rfl rfl rfl hg19 (by decide) (Val.load flat22 rfl (fun _ h => h.2.o2.rd) ((pc2_at (by omega)).1)) ?_
                    refine DF.vg rfl rfl rfl rfl hg19 (by decide) (Val.eql rfl rfl) ?_
                    refine DF.vg rfl rfl rfl rfl hg19 (by decide) (Val.fieldAddr0 fld33_1 rfl) ?_
                    refine DF.vg rfl rfl rfl rfl hg19 (by decide) (Val.load flat3 rfl (fun _ h => h.2.o0.rd) (rfl)) ?_
                    refine DF.vg rfl rfl rfl rfl hg19 (by decide) (Val.geq rfl rfl) ?_
                    refine DF.vg rfl rfl rfl rfl hg19 (by decide) (Val.move rfl) ?_
                    refine DF.split 13 rfl (fun hg20 => ?_) (fun hg20 => ?_)
                    ·
                      first | (have hg20p := of_decide_eq_true hg20) | skip
                      refine DF.vg rfl rfl rfl rfl hg20 (by decide) (Val.fieldAddr0 fld33_1 rfl) ?_
                      refine DF.vg rfl rfl rfl rfl hg20 (by decide) (Val.load flat3 rfl (fun _ h => h.2.o0.rd) (rfl)) ?_
                      refine DF.vg rfl rfl rfl rfl hg20 (by decide) (Val.lss rfl rfl) ?_
                      refine DF.vg rfl rfl rfl rfl hg19 (by decide) (Val.pickT rfl hg20 rfl) ?_
                      refine DF.vg rfl rfl rfl rfl hg19 (by decide) (Val.cast (v := .bool false) (Val.neqB Try.underlying4 rfl rfl) (by refine congrArg Value.bool ?_; first | (simp; omega) | (rw [bne_eq_false_iff_eq, decide_eq_decide]; omega))) ?_
                      refine DF.vv rfl rfl rfl (by decide) (Val.pickT rfl hg19 rfl) ?_
                      refine DF.nil ?_
                      refine W.condF rfl ?_
                      refine W.skip ?_
                      refine thenP_normal ?_
                      refine W.seqFz 24 [(0, true), (1, true), (2, true), (3, true), (4, true), (5, true), (6, true), (7, true), (8, true), (9, true), (10, true), (11, true), (12, true), (13, true), (14, true), (15, true), (16, true), (17, true), (18, true), (19, true), (20, true), (21, true), (22, true), (23, true)] mixed (by kernel_rfl) hB hM ?_
                      replace hB := hB.drew
                      replace hM := hM.drew
                      refine DF.vv rfl rfl rfl (by decide) (Val.fieldAddr0 fld33_0 rfl) ?_
                      refine DF.vv rfl rfl rfl (by decide) (Val.load flat3 rfl (fun _ h => h.2.o0.rd) (rfl)) ?_
                      refine DF.vv rfl rfl rfl (by decide) (Val.eql rfl rfl) ?_
                      refine DF.vv rfl rfl rfl (by decide) (Val.move rfl) ?_
                      refine DF.split 3 rfl (fun hg21 => ?_) (fun hg21 => ?_)
                      ·
                        first | (have hg21p := of_decide_eq_true hg21) | skip
                        refine DF.vg rfl rfl rfl rfl hg21 (by decide) (Val.move rfl) ?_
                        refine DF.vg rfl rfl rfl rfl hg21 (by decide) (Val.move rfl) ?_
                        refine DF.vg rfl rfl rfl rfl hg21 (by decide) (Val.indexAddr Try.underlying27 elem35 rfl rfl (by omega) (hM.o2.rd) (by first | (rw [mv_len]; omega) | (rw [pc2_len]; omega))) ?_
                        refine DF.vg rfl rfl rfl rfl hg21 (by decide) (Val.fieldAddr fld35_0 rfl (hM.o2.rd) (by first | (rw [mv_len]; omega) | (rw [pc2_len]; omega))) ?_
                        refine DF.vg rfl rfl rfl rfl hg21 (by decide) (Val.load flat22 rfl (fun _ h => h.2.o2.rd) ((pc2_at (by omega)).1)) ?_
                        refine DF.vg rfl rfl rfl rfl hg21 (by decide) (Val.eql rfl rfl) ?_
                        refine DF.vv rfl rfl rfl (by decide) (Val.pickT rfl hg21 rfl) ?_
                        refine DF.vv rfl rfl rfl (by decide) (Val.move rfl) ?_
                        refine DF.split 11 rfl (fun hg22 => ?_) (fun hg22 => ?_)
                        ·
                          first | (have hg22p := of_decide_eq_true hg22) | skip
                          refine DF.vg rfl rfl rfl rfl hg22 (by decide) (Val.move rfl) ?_
                          refine DF.vg rfl rfl rfl rfl hg22 (by decide) (Val.move rfl) ?_
                          refine DF.vg rfl rfl rfl rfl hg22 (by decide) (Val.indexAddr Try.underlying27 elem35 rfl rfl (by omega) (hM.o2.rd) (by first | (rw [mv_len]; omega) | (rw [pc2_len]; omega))) ?_
                          refine DF.vg rfl rfl rfl rfl hg22 (by decide) (Val.fieldAddr fld35_1 rfl (hM.o2.rd) (by first | (rw [mv_len]; omega) | (rw [pc2_len]; omega))) ?_
                          refine DF.vg rfl rfl rfl rfl hg22 (by decide) (Val.load flat5 rfl (fun _ h => h.2.o2.rd) ((pc2_at (by omega)).2)) ?_
                          refine DF.vg rfl rfl rfl rfl hg22 (by decide) (Val.move rfl) ?_
                          refine DF.vg rfl rfl rfl rfl hg22 (by decide) (Val.fieldAddr0 fld33_1 rfl) ?_
                          have hblk : ([.int .i64 (gM l k).kind, .int .i64 (gM l k).block, .int .u8 ((gM l k).val : Int)] : List Value)[1]? = some (.int .i64 (((gM l k).block.toNat : Nat) : Int)) := by { simp; omega }
                          refine DF.vg rfl rfl rfl rfl hg22 (by decide) (Val.load flat3 rfl (fun _ h => h.2.o0.rd) (hblk)) ?_
                          refine DF.vg rfl rfl rfl rfl hg22 (by decide) (Val.index1 Try.underlying31 elem5 rfl rfl (by omega) (hM.o1.rd) (yv_lt (by omega))) ?_
                          refine DF.vg rfl rfl rfl rfl hg22 (by decide) (Val.load flat5 rfl (fun _ h => h.2.o1.rd) (yv_at (by omega))) ?_
                          refine DF.vg rfl rfl rfl rfl hg22 (by decide) (Val.cast (v := .bool false) (Val.neq rfl rfl) (by refine congrArg Value.bool (decide_eq_false ?_); omega)) ?_
                          refine DF.vv rfl rfl rfl (by decide) (Val.pickT rfl hg22 rfl) ?_
                          refine DF.nil ?_
                          refine W.condF rfl ?_
                          refine W.skip ?_
                          refine inBlk_normal ?_
                          refine thenP_normal ?_
                          refine W.reg ?_
                          first | refine LS.vv rfl rfl (by decide) (Val.addN (j := 1) rfl rfl (by omega)) ?_ | refine LS.vv rfl rfl (by decide) (Val.add64 rfl rfl (by omega)) ?_
                          refine LS.vv rfl rfl (by decide) (Val.move rfl) ?_
                          refine LS.nil ?_
                          refine thenP_normal ?_
                          replace hM := hM.er0
                          refine ⟨k + 1, ?_, ?_, ⟨by omega, ?_, hB⟩, by omega⟩
                          · exact (Sub.cons rfl (Sub.nil _))
                          · repeat (first | exact Sub.nil _ | refine Sub.cons rfl ?_)
                          · rw [F5]; first | (rw [if_pos ⟨by omega, by omega⟩]; exact hM) | (rw [if_neg (by omega)]; exact hM)
                        ·
                          first | (have hg22p := of_decide_eq_false hg22) | skip
                          refine DF.s rfl rfl rfl rfl hg22 (by decide) ?_
                          refine DF.s rfl rfl rfl rfl hg22 (by decide) ?_
                          refine DF.s rfl rfl rfl rfl hg22 (by decide) ?_
                          refine DF.s rfl rfl rfl rfl hg22 (by decide) ?_
                          refine DF.s rfl rfl rfl rfl hg22 (by decide) ?_
                          refine DF.s rfl rfl rfl rfl hg22 (by decide) ?_
                          refine DF.s rfl rfl rfl rfl hg22 (by decide) ?_
                          refine DF.s rfl rfl rfl rfl hg22 (by decide) ?_
                          refine DF.s rfl rfl rfl rfl hg22 (by decide) ?_
                          refine DF.s rfl rfl rfl rfl hg22 (by decide) ?_
                          refine DF.s rfl rfl rfl rfl hg22 (by decide) ?_
                          refine DF.vv rfl rfl rfl (by decide) (Val.pickF rfl hg22 rfl) ?_
                          refine DF.nil ?_
                          refine W.condF rfl ?_
                          refine W.skip ?_
                          refine inBlk_normal ?_
                          refine thenP_normal ?_
                          refine W.reg ?_
                          first | refine LS.vv rfl rfl (by decide) (Val.addN (j := 1) rfl rfl (by omega)) ?_ | refine LS.vv rfl rfl (by decide) (Val.add64 rfl rfl (by omega)) ?_
                          refine LS.vv rfl rfl (by decide) (Val.move rfl) ?_
                          refine LS.nil ?_
                          refine thenP_normal ?_
                          replace hM := hM.er0
                          refine ⟨k + 1, ?_, ?_, ⟨by omega, ?_, hB⟩, by omega⟩
                          · exact (Sub.cons rfl (Sub.nil _))
                          · repeat (first | exact Sub.nil _ | refine Sub.cons rfl ?_)
                          · rw [F5]; first | (rw [if_pos ⟨by omega, by omega⟩]; exact hM) | (rw [if_neg (by omega)]; exact hM)
                      ·
                        first | (have hg21p := of_decide_eq_false hg21) | skip
                        refine DF.s rfl rfl rfl rfl hg21 (by decide) ?_
                        refine DF.s rfl rfl rfl rfl hg21 (by decide) ?_
                        refine DF.s rfl rfl rfl rfl hg21 (by decide) ?_
                        refine DF.s rfl rfl rfl rfl hg21 (by decide) ?_
                        refine DF.s rfl rfl rfl rfl hg21 (by decide) ?_
                        refine DF.s rfl rfl rfl rfl hg21 (by decide) ?_
                        refine DF.vv rfl rfl rfl (by decide) (Val.pickF rfl hg21 rfl) ?_
                        refine DF.vv rfl rfl rfl (by decide) (Val.move rfl) ?_
                        refine DF.s rfl rfl rfl rfl rfl (by decide) ?_
                        refine DF.s rfl rfl rfl rfl rfl (by decide) ?_
                        refine DF.s rfl rfl rfl rfl rfl (by decide) ?_
                        refine DF.s rfl rfl rfl rfl rfl (by decide) ?_
                        refine DF.s rfl rfl rfl rfl rfl (by decide) ?_
                        refine DF.s rfl rfl rfl rfl rfl (by decide) ?_
                        refine DF.s rfl rfl rfl rfl rfl (by decide) ?_
                        refine DF.s rfl rfl rfl rfl rfl (by decide) ?_
                        refine DF.s rfl rfl rfl rfl rfl (by decide) ?_
                        refine DF.s rfl rfl rfl rfl rfl (by decide) ?_
                        refine DF.s rfl rfl rfl rfl rfl (by decide) ?_
                        refine DF.vv rfl rfl rfl (by decide) (Val.pickF rfl rfl rfl) ?_
                        refine DF.nil ?_
                        refine W.condF rfl ?_
                        refine W.skip ?_
                        refine inBlk_normal ?_
                        refine thenP_normal ?_
                        refine W.reg ?_
                        first | refine LS.vv rfl rfl (by decide) (Val.addN (j := 1) rfl rfl (by omega)) ?_ | refine LS.vv rfl rfl (by decide) (Val.add64 rfl rfl (by omega)) ?_
                        refine LS.vv rfl rfl (by decide) (Val.move rfl) ?_
                        refine LS.nil ?_
                        refine thenP_normal ?_
                        replace hM := hM.er0
                        refine ⟨k + 1, ?_, ?_, ⟨by omega, ?_, hB⟩, by omega⟩
                        · exact (Sub.cons rfl (Sub.nil _))
                        · repeat (first | exact Sub.nil _ | refine Sub.cons rfl ?_)
                        · rw [F5]; first | (rw [if_pos ⟨by omega, by omega⟩]; exact hM) | (rw [if_neg (by omega)]; exact hM)
                    ·
                      first | (have hg20p := of_decide_eq_false hg20) | skip
                      refine DF.s rfl rfl rfl rfl hg20 (by decide) ?_
                      refine DF.s rfl rfl rfl rfl hg20 (by decide) ?_
                      refine DF.s rfl rfl rfl rfl hg20 (by decide) ?_
                      refine DF.vg rfl rfl rfl rfl hg19 (by decide) (Val.pickF rfl hg20 rfl) ?_
                      refine DF.vg rfl rfl rfl rfl hg19 (by decide) (Val.cast (v := .bool false) (Val.neqB Try.underlying4 rfl rfl) (by refine congrArg Value.bool ?_; first | (simp; omega) | (rw [bne_eq_false_iff_eq, decide_eq_decide]; omega))) ?_
                      refine DF.vv rfl rfl rfl (by decide) (Val.pickT rfl hg19 rfl) ?_
                      refine DF.nil ?_
                      refine W.condF rfl ?_
                      refine W.skip ?_
                      refine thenP_normal ?_
                      refine W.seqFz 24 [(0, true), (1, true), (2, true), (3, true), (4, true), (5, true), (6, true), (7, true), (8, true), (9, true), (10, true), (11, true), (12, true), (13, true), (14, true), (15, true), (16, true), (17, true), (18, true), (19, true), (20, true), (21, true), (22, true), (23, true)] mixed (by kernel_rfl) hB hM ?_
                      replace hB := hB.drew
                      replace hM := hM.drew
                      refine DF.vv rfl rfl rfl (by decide) (Val.fieldAddr0 fld33_0 rfl) ?_
                      refine DF.vv rfl rfl rfl (by decide) (Val.load flat3 rfl (fun _ h => h.2.o0.rd) (rfl)) ?_
                      refine DF.vv rfl rfl rfl (by decide) (Val.eql rfl rfl) ?_
                      refine DF.vv rfl rfl rfl (by decide) (Val.move rfl) ?_
                      refine DF.split 3 rfl (fun hg23 => ?_) (fun hg23 => ?_)
                      ·
                        first | (have hg23p := of_decide_eq_true hg23) | skip
                        refine DF.vg rfl rfl rfl rfl hg23 (by decide) (Val.move rfl) ?_
                        refine DF.vg rfl rfl rfl rfl hg23 (by decide) (Val.move rfl) ?_
                        refine DF.vg rfl rfl rfl rfl hg23 (by decide) (Val.indexAddr Try.underlying27 elem35 rfl rfl (by omega) (hM.o2.rd) (by first | (rw [mv_len]; omega) | (rw [pc2_len]; omega))) ?_
                        refine DF.vg rfl rfl rfl rfl hg23 (by decide) (Val.fieldAddr fld35_0 rfl (hM.o2.rd) (by first | (rw [mv_len]; omega) | (rw [pc2_len]; omega))) ?_
                        refine DF.vg rfl rfl rfl rfl hg23 (by decide) (Val.load flat22 rfl (fun _ h => h.2.o2.rd) ((pc2_at (by omega)).1)) ?_
                        refine DF.vg rfl rfl rfl rfl hg23 (by decide) (Val.eql rfl rfl) ?_
                        refine DF.vv rfl rfl rfl (by decide) (Val.pickT rfl hg23 rfl) ?_
                        refine DF.vv rfl rfl rfl (by decide) (Val.move rfl) ?_
                        refine DF.split 11 rfl (fun hg24 => ?_) (fun hg24 => ?_)
                        ·
                          first | (have hg24p := of_decide_eq_true hg24) | skip
                          refine DF.vg rfl rfl rfl rfl hg24 (by decide) (Val.move rfl) ?_
                          refine DF.vg rfl rfl rfl rfl hg24 (by decide) (Val.move rfl) ?_
                          refine DF.vg rfl rfl rfl rfl hg24 (by decide) (Val.indexAddr Try.underlying27 elem35 rfl rfl (by omega) (hM.o2.rd) (by first | (rw [mv_len]; omega) | (rw [pc2_len]; omega))) ?_
                          refine DF.vg rfl rfl rfl rfl hg24 (by decide) (Val.fieldAddr fld35_1 rfl (hM.o2.rd) (by first | (rw [mv_len]; omega) | (rw [pc2_len]; omega))) ?_
                          refine DF.vg rfl rfl rfl rfl hg24 (by decide) (Val.load flat5 rfl (fun _ h => h.2.o2.rd) ((pc2_at (by omega)).2)) ?_
                          refine DF.vg rfl rfl rfl rfl hg24 (by decide) (Val.move rfl) ?_
                          refine DF.vg rfl rfl rfl rfl hg24 (by decide) (Val.fieldAddr0 fld33_1 rfl) ?_
                          have hblk : ([.int .i64 (gM l k).kind, .int .i64 (gM l k).block, .int .u8 ((gM l k).val : Int)] : List Value)[1]? = some (.int .i64 (((gM l k).block.toNat : Nat) : Int)) := by { simp; omega }
                          refine DF.vg rfl rfl rfl rfl hg24 (by decide) (Val.load flat3 rfl (fun _ h => h.2.o0.rd) (hblk)) ?_
                          refine DF.vg rfl rfl rfl rfl hg24 (by decide) (Val.index1 Try.underlying31 elem5 rfl rfl (by omega) (hM.o1.rd) (yv_lt (by omega))) ?_
                          refine DF.vg rfl rfl rfl rfl hg24 (by decide) (Val.load flat5 rfl (fun _ h => h.2.o1.rd) (yv_at (by omega))) ?_
                          refine DF.vg rfl rfl rfl rfl hg24 (by decide) (Val.cast (v := .bool false) (Val.neq rfl rfl) (by refine congrArg Value.bool (decide_eq_false ?_); omega)) ?_
                          refine DF.vv rfl rfl rfl (by decide) (Val.pickT rfl hg24 rfl) ?_
                          refine DF.nil ?_
                          refine W.condF rfl ?_
                          refine W.skip ?_
                          refine inBlk_normal ?_
                          refine thenP_normal ?_
                          refine W.reg ?_
                          first | refine LS.vv rfl rfl (by decide) (Val.addN (j := 1) rfl rfl (by omega)) ?_ | refine LS.vv rfl rfl (by decide) (Val.add64 rfl rfl (by omega)) ?_
                          refine LS.vv rfl rfl (by decide) (Val.move rfl) ?_
                          refine LS.nil ?_
                          refine thenP_normal ?_
                          replace hM := hM.er0
                          refine ⟨k + 1, ?_, ?_, ⟨by omega, ?_, hB⟩, by omega⟩
                          · exact (Sub.cons rfl (Sub.nil _))
                          · repeat (first | exact Sub.nil _ | refine Sub.cons rfl ?_)
                          · rw [F5]; first | (rw [if_pos ⟨by omega, by omega⟩]; exact hM) | (rw [if_neg (by omega)]; exact hM)
                        ·
                          first | (have hg24p := of_decide_eq_false hg24) | skip
                          refine DF.s rfl rfl rfl rfl hg24 (by decide) ?_
                          refine DF.s rfl rfl rfl rfl hg24 (by decide) ?_
                          refine DF.s rfl rfl rfl rfl hg24 (by decide) ?_
                          refine DF.s rfl rfl rfl rfl hg24 (by decide) ?_
                          refine DF.s rfl rfl rfl rfl hg24 (by decide) ?_
                          refine DF.s rfl rfl rfl rfl hg24 (by decide) ?_
                          refine DF.s rfl rfl rfl rfl hg24 (by decide) ?_
                          refine DF.s rfl rfl rfl rfl hg24 (by decide) ?_
                          refine DF.s rfl rfl rfl rfl hg24 (by decide) ?_
                          refine DF.s rfl rfl rfl rfl hg24 (by decide) ?_
                          refine DF.s rfl rfl rfl rfl hg24 (by decide) ?_
                          refine DF.vv rfl rfl rfl (by decide) (Val.pickF rfl hg24 rfl) ?_
                          refine DF.nil ?_
                          refine W.condF rfl ?_
                          refine W.skip ?_
                          refine inBlk_normal ?_
                          refine thenP_normal ?_
                          refine W.reg ?_
                          first | refine LS.vv rfl rfl (by decide) (Val.addN (j := 1) rfl rfl (by omega)) ?_ | refine LS.vv rfl rfl (by decide) (Val.add64 rfl rfl (by omega)) ?_
                          refine LS.vv rfl rfl (by decide) (Val.move rfl) ?_
                          refine LS.nil ?_
                          refine thenP_normal ?_
                          replace hM := hM.er0
                          refine ⟨k + 1, ?_, ?_, ⟨by omega, ?_, hB⟩, by omega⟩
                          · exact (Sub.cons rfl (Sub.nil _))
                          · repeat (first | exact Sub.nil _ | refine Sub.cons rfl ?_)
                          · rw [F5]; first | (rw [if_pos ⟨by omega, by omega⟩]; exact hM) | (rw [if_neg (by omega)]; exact hM)
                      ·
                        first | (have hg23p := of_decide_eq_false hg23) | skip
                        refine DF.s rfl rfl rfl rfl hg23 (by decide) ?_
                        refine DF.s rfl rfl rfl rfl hg23 (by decide) ?_
                        refine DF.s rfl rfl rfl rfl hg23 (by decide) ?_
                        refine DF.s rfl rfl rfl rfl hg23 (by decide) ?_
                        refine DF.s rfl rfl rfl rfl hg23 (by decide) ?_
                        refine DF.s rfl rfl rfl rfl hg23 (by decide) ?_
                        refine DF.vv rfl rfl rfl (by decide) (Val.pickF rfl hg23 rfl) ?_
                        refine DF.vv rfl rfl rfl (by decide) (Val.move rfl) ?_
                        refine DF.s rfl rfl rfl rfl rfl (by decide) ?_
                        refine DF.s rfl rfl rfl rfl rfl (by decide) ?_
                        refine DF.s rfl rfl rfl rfl rfl (by decide) ?_
                        refine DF.s rfl rfl rfl rfl rfl (by decide) ?_
                        refine DF.s rfl rfl rfl rfl rfl (by decide) ?_
                        refine DF.s rfl rfl rfl rfl rfl (by decide) ?_
                        refine DF.s rfl rfl rfl rfl rfl (by decide) ?_
                        refine DF.s rfl rfl rfl rfl rfl (by decide) ?_
                        refine DF.s rfl rfl rfl rfl rfl (by decide) ?_
                        refine DF.s rfl rfl rfl rfl rfl (by decide) ?_
                        refine DF.s rfl rfl rfl rfl rfl (by decide) ?_
                        refine DF.vv rfl rfl rfl (by decide) (Val.pickF rfl rfl rfl) ?_
                        refine DF.nil ?_
                        refine W.condF rfl ?_
                        refine W.skip ?_
                        refine inBlk_normal ?_
                        refine thenP_normal ?_
                        refine W.reg ?_
                        first | refine LS.vv rfl rfl (by decide) (Val.addN (j := 1) rfl rfl (by omega)) ?_ | refine LS.vv rfl rfl (by decide) (Val.add64 rfl rfl (by omega)) ?_
                        refine LS.vv rfl rfl (by decide) (Val.move rfl) ?_
                        refine LS.nil ?_
                        refine thenP_normal ?_
                        replace hM := hM.er0
                        refine ⟨k + 1, ?_, ?_, ⟨by omega, ?_, hB⟩, by omega⟩
                        · exact (Sub.cons rfl (Sub.nil _))
                        · repeat (first | exact Sub.nil _ | refine Sub.cons rfl ?_)
                        · rw [F5]; first | (rw [if_pos ⟨by omega, by omega⟩]; exact hM) | (rw [if_neg (by omega)]; exact hM)
                  ·
                    first | (have hg19p := of_decide_eq_false hg19) | skip
                    refine DF.s rfl rfl rfl rfl hg19 (by decide) ?_
                    refine DF.s rfl rfl rfl rfl hg19 (by decide) ?_
                    refine DF.s rfl rfl rfl rfl hg19 (by decide) ?_
                    refine DF.s rfl rfl rfl rfl hg19 (by decide) ?_
                    refine DF.s rfl rfl rfl rfl hg19 (by decide) ?_
                    refine DF.s rfl rfl rfl rfl hg19 (by decide) ?_
                    refine DF.s rfl rfl rfl rfl hg19 (by decide) ?_
                    refine DF.s rfl rfl rfl rfl hg19 (by decide) ?_
                    refine DF.s rfl rfl rfl rfl hg19 (by decide) ?_
                    refine DF.s rfl rfl rfl rfl hg19 (by decide) ?_
                    refine DF.skipU rfl rfl rfl rfl (by decide) ?_
                    refine DF.skipU rfl rfl rfl rfl (by decide) ?_
                    refine DF.skipU rfl rfl rfl rfl (by decide) ?_
                    refine DF.s rfl rfl rfl rfl hg19 (by decide) ?_
                    refine DF.s rfl rfl rfl rfl hg19 (by decide) ?_
                    refine DF.vv rfl rfl rfl (by decide) (Val.pickF rfl hg19 rfl) ?_
                    refine DF.nil ?_
                    refine W.condF rfl ?_
                    refine W.skip ?_
                    refine thenP_normal ?_
                    refine W.seqFz 24 [(0, true), (1, true), (2, true), (3, true), (4, true), (5, true), (6, true), (7, true), (8, true), (9, true), (10, true), (11, true), (12, true), (13, true), (14, true), (15, true), (16, true), (17, true), (18, true), (19, true), (20, true), (21, true), (22, true), (23, true)] mixed (by kernel_rfl) hB hM ?_
                    replace hB := hB.drew
                    replace hM := hM.drew
                    refine DF.vv rfl rfl rfl (by decide) (Val.fieldAddr0 fld33_0 rfl) ?_
                    refine DF.vv rfl rfl rfl (by decide) (Val.load flat3 rfl (fun _ h => h.2.o0.rd) (rfl)) ?_
                    refine DF.vv rfl rfl rfl (by decide) (Val.eql rfl rfl) ?_
                    refine DF.vv rfl rfl rfl (by decide) (Val.move rfl) ?_
                    refine DF.split 3 rfl (fun hg25 => ?_) (fun hg25 => ?_)
                    ·
                      first | (have hg25p := of_decide_eq_true hg25) | skip
                      refine DF.vg rfl rfl rfl rfl hg25 (by decide) (Val.move rfl) ?_
                      refine DF.vg rfl rfl rfl rfl hg25 (by decide) (Val.move rfl) ?_
                      refine DF.vg rfl rfl rfl rfl hg25 (by decide) (Val.indexAddr Try.underlying27 elem35 rfl rfl (by omega) (hM.o2.rd) (by first | (rw [mv_len]; omega) | (rw [pc2_len]; omega))) ?_
                      refine DF.vg rfl rfl rfl rfl hg25 (by decide) (Val.fieldAddr fld35_0 rfl (hM.o2.rd) (by first | (rw [mv_len]; omega) | (rw [pc2_len]; omega))) ?_
                      refine DF.vg rfl rfl rfl rfl hg25 (by decide) (Val.load flat22 rfl (fun _ h => h.2.o2.rd) ((pc2_at (by omega)).1)) ?_
                      refine DF.vg rfl rfl rfl rfl hg25 (by decide) (Val.eql rfl rfl) ?_
                      refine DF.vv rfl rfl rfl (by decide) (Val.pickT rfl hg25 rfl) ?_
                      refine DF.vv rfl rfl rfl (by decide) (Val.move rfl) ?_
                      refine DF.split 11 rfl (fun hg26 => ?_) (fun hg26 => ?_)
                      ·
                        first | (have hg26p := of_decide_eq_true hg26) | skip
                        refine DF.vg rfl rfl rfl rfl hg26 (by decide) (Val.move rfl) ?_
                        refine DF.vg rfl rfl rfl rfl hg26 (by decide) (Val.move rfl) ?_
                        refine DF.vg rfl rfl rfl rfl hg26 (by decide) (Val.indexAddr Try.underlying27 elem35 rfl rfl (by omega) (hM.o2.rd) (by first | (rw [mv_len]; omega) | (rw [pc2_len]; omega))) ?_
                        refine DF.vg rfl rfl rfl rfl hg26 (by decide) (Val.fieldAddr fld35_1 rfl (hM.o2.rd) (by first | (rw [mv_len]; omega) | (rw [pc2_len]; omega))) ?_
                        refine DF.vg rfl rfl rfl rfl hg26 (by decide) (Val.load flat5 rfl (fun _ h => h.2.o2.rd) ((pc2_at (by omega)).2)) ?_
                        refine DF.vg rfl rfl rfl rfl hg26 (by decide) (Val.move rfl) ?_
                        refine DF.vg rfl rfl rfl rfl hg26 (by decide) (Val.fieldAddr0 fld33_1 rfl) ?_
                        have hblk : ([.int .i64 (gM l k).kind, .int .i64 (gM l k).block, .int .u8 ((gM l k).val : Int)] : List Value)[1]? = some (.int .i64 (((gM l k).block.toNat : Nat) : Int)) := by { simp; omega }
                        refine DF.vg rfl rfl rfl rfl hg26 (by decide) (Val.load flat3 rfl (fun _ h => h.2.o0.rd) (hblk)) ?_
                        refine DF.vg rfl rfl rfl rfl hg26 (by decide) (Val.index1 Try.underlying31 elem5 rfl rfl (by omega) (hM.o1.rd) (yv_lt (by omega))) ?_
                        refine DF.vg rfl rfl rfl rfl hg26 (by decide) (Val.load flat5 rfl (fun _ h => h.2.o1.rd) (yv_at (by omega))) ?_
                        refine DF.vg rfl rfl rfl rfl hg26 (by decide) (Val.cast (v := .bool false) (Val.neq rfl rfl) (by refine congrArg Value.bool (decide_eq_false ?_); omega)) ?_
                        refine DF.vv rfl rfl rfl (by decide) (Val.pickT rfl hg26 rfl) ?_
                        refine DF.nil ?_
                        refine W.condF rfl ?_
                        refine W.skip ?_
                        refine inBlk_normal ?_
                        refine thenP_normal ?_
                        refine W.reg ?_
                        first | refine LS.vv rfl rfl (by decide) (Val.addN (j := 1) rfl rfl (by omega)) ?_ | refine LS.vv rfl rfl (by decide) (Val.add64 rfl rfl (by omega)) ?_
                        refine LS.vv rfl rfl (by decide) (Val.move rfl) ?_
                        refine LS.nil ?_
                        refine thenP_normal ?_
                        replace hM := hM.er0
                        refine ⟨k + 1, ?_, ?_, ⟨by omega, ?_, hB⟩, by omega⟩
                        · exact (Sub.cons rfl (Sub.nil _))
                        · repeat (first | exact Sub.nil _ | refine Sub.cons rfl ?_)
                        · rw [F5]; first | (rw [if_pos ⟨by omega, by omega⟩]; exact hM) | (rw [if_neg (by omega)]; exact hM)
                      ·
                        first | (have hg26p := of_decide_eq_false hg26) | skip
                        refine DF.s rfl rfl rfl rfl hg26 (by decide) ?_
                        refine DF.s rfl rfl rfl rfl hg26 (by decide) ?_
                        refine DF.s rfl rfl rfl rfl hg26 (by decide) ?_
                        refine DF.s rfl rfl rfl rfl hg26 (by decide) ?_
                        refine DF.s rfl rfl rfl rfl hg26 (by decide) ?_
                        refine DF.s rfl rfl rfl rfl hg26 (by decide) ?_
                        refine DF.s rfl rfl rfl rfl hg26 (by decide) ?_
                        refine DF.s rfl rfl rfl rfl hg26 (by decide) ?_
                        refine DF.s rfl rfl rfl rfl hg26 (by decide) ?_
                        refine DF.s rfl rfl rfl rfl hg26 (by decide) ?_
                        refine DF.s rfl rfl rfl rfl hg26 (by decide) ?_
                        refine DF.vv rfl rfl rfl (by decide) (Val.pickF rfl hg26 rfl) ?_
                        refine DF.nil ?_
                        refine W.condF rfl ?_
                        refine W.skip ?_
                        refine inBlk_normal ?_
                        refine thenP_normal ?_
                        refine W.reg ?_
                        first | refine LS.vv rfl rfl (by decide) (Val.addN (j := 1) rfl rfl (by omega)) ?_ | refine LS.vv rfl rfl (by decide) (Val.add64 rfl rfl (by omega)) ?_
                        refine LS.vv rfl rfl (by decide) (Val.move rfl) ?_
                        refine LS.nil ?_
                        refine thenP_normal ?_
                        replace hM := hM.er0
                        refine ⟨k + 1, ?_, ?_, ⟨by omega, ?_, hB⟩, by omega⟩
                        · exact (Sub.cons rfl (Sub.nil _))
                        · repeat (first | exact Sub.nil _ | refine Sub.cons rfl ?_)
                        · rw [F5]; first | (rw [if_pos ⟨by omega, by omega⟩]; exact hM) | (rw [if_neg (by omega)]; exact hM)
                    ·
                      first | (have hg25p := of_decide_eq_false hg25) | skip
                      refine DF.s rfl rfl rfl rfl hg25 (by decide) ?_
                      refine DF.s rfl rfl rfl rfl hg25 (by decide) ?_
                      refine DF.s rfl rfl rfl rfl hg25 (by decide) ?_
                      refine DF.s rfl rfl rfl rfl hg25 (by decide) ?_
                      refine DF.s rfl rfl rfl rfl hg25 (by decide) ?_
                      refine DF.s rfl rfl rfl rfl hg25 (by decide) ?_
                      refine DF.vv rfl rfl rfl (by decide) (Val.pickF rfl hg25 rfl) ?_
                      refine DF.vv rfl rfl rfl (by decide) (Val.move rfl) ?_
                      refine DF.s rfl rfl rfl rfl rfl (by decide) ?_
                      refine DF.s rfl rfl rfl rfl rfl (by decide) ?_
                      refine DF.s rfl rfl rfl rfl rfl (by decide) ?_
                      refine DF.s rfl rfl rfl rfl rfl (by decide) ?_
                      refine DF.s rfl rfl rfl rfl rfl (by decide) ?_
                      refine DF.s rfl rfl rfl rfl rfl (by decide) ?_
                      refine DF.s rfl rfl rfl rfl rfl (by decide) ?_
                      refine DF.s rfl rfl rfl rfl rfl (by decide) ?_
                      refine DF.s rfl rfl rfl rfl rfl (by decide) ?_
                      refine DF.s rfl rfl rfl rfl rfl (by decide) ?_
                      refine DF.s rfl rfl rfl rfl rfl (by decide) ?_
                      refine DF.vv rfl rfl rfl (by decide) (Val.pickF rfl rfl rfl) ?_
                      refine DF.nil ?_
                      refine W.condF rfl ?_
                      refine W.skip ?_
                      refine inBlk_normal ?_
                      refine thenP_normal ?_
                      refine W.reg ?_
                      first | refine LS.vv rfl rfl (by decide) (Val.addN (j := 1) rfl rfl (by omega)) ?_ | refine LS.vv rfl rfl (by decide) (Val.add64 rfl rfl (by omega)) ?_
                      refine LS.vv rfl rfl (by decide) (Val.move rfl) ?_
                      refine LS.nil ?_
                      refine thenP_normal ?_
                      replace hM := hM.er0
                      refine ⟨k + 1, ?_, ?_, ⟨by omega, ?_, hB⟩, by omega⟩
                      · exact (Sub.cons rfl (Sub.nil _))
                      · repeat (first | exact Sub.nil _ | refine Sub.cons rfl ?_)
                      · rw [F5]; first | (rw [if_pos ⟨by omega, by omega⟩]; exact hM) | (rw [if_neg (by omega)]; exact hM)
              ·
                first | (have hg7p := of_decide_eq_false hg7) | skip
                refine LS.s rfl rfl rfl hg7 (by decide) ?_
                refine LS.s rfl rfl rfl hg7 (by decide) ?_
                refine LS.s rfl rfl rfl hg7 (by decide) ?_
                refine LS.s rfl rfl rfl hg7 (by decide) ?_
                refine LS.s rfl rfl rfl hg7 (by decide) ?_
                refine LS.s rfl rfl rfl hg7 (by decide) ?_
                refine LS.vv rfl rfl (by decide) (Val.pickF rfl hg7 rfl) ?_
                refine LS.nil ?_
                refine W.condF rfl ?_
                refine W.skip ?_
                refine thenP_normal ?_
                refine W.seq ?_
                refine W.seqFz 20 [(0, true), (1, true), (2, true), (3, true), (4, true), (5, true), (6, true), (7, true), (8, true), (9, true), (10, true), (11, true), (12, true), (13, true), (14, true), (15, true), (16, true), (17, true), (18, true), (19, true)] mixed (by kernel_rfl) hB hM ?_
                replace hB := hB.drew
                replace hM := hM.drew
                refine DF.vv rfl rfl rfl (by decide) (Val.fieldAddr0 fld33_0 rfl) ?_
                refine DF.vv rfl rfl rfl (by decide) (Val.load flat3 rfl (fun _ h => h.2.o0.rd) (rfl)) ?_
                refine DF.vv rfl rfl rfl (by decide) (Val.eql rfl rfl) ?_
                refine DF.vv rfl rfl rfl (by decide) (Val.move rfl) ?_
                refine DF.split 3 rfl (fun hg27 => ?_) (fun hg27 => ?_)
                ·
                  first | (have hg27p := of_decide_eq_true hg27) | skip
                  refine DF.vg rfl rfl rfl rfl hg27 (by decide) (Val.move rfl) ?_
                  refine DF.vg rfl rfl rfl rfl hg27 (by decide) (Val.move rfl) ?_
                  refine DF.vg rfl rfl rfl rfl hg27 (by decide) (Val.indexAddr Try.underlying27 elem35 rfl rfl (by omega) (hM.o2.rd) (by first | (rw [mv_len]; omega) | (rw [pc2_len]; omega))) ?_
                  refine DF.vg rfl rfl rfl rfl hg27 (by decide) (Val.fieldAddr fld35_0 rfl (hM.o2.rd) (by first | (rw [mv_len]; omega) | (rw [pc2_len]; omega))) ?_
                  refine DF.vg rfl rfl rfl rfl hg27 (by decide) (Val.load flat22 rfl (fun _ h => h.2.o2.rd) ((pc2_at (by omega)).1)) ?_
                  refine DF.vg rfl rfl rfl rfl hg27 (by decide) (Val.eql rfl rfl) ?_
                  refine DF.vg rfl rfl rfl rfl hg27 (by decide) (Val.fieldAddr0 fld33_1 rfl) ?_
                  refine DF.vg rfl rfl rfl rfl hg27 (by decide) (Val.load flat3 rfl (fun _ h => h.2.o0.rd) (rfl)) ?_
                  refine DF.vg rfl rfl rfl rfl hg27 (by decide) (Val.geq rfl rfl) ?_
                  refine DF.vg rfl rfl rfl rfl hg27 (by decide) (Val.move rfl) ?_
                  refine DF.split 13 rfl (fun hg28 => ?_) (fun hg28 => ?_)
                  ·
                    first | (have hg28p := of_decide_eq_true hg28) | skip
                    refine DF.vg rfl rfl rfl rfl hg28 (by decide) (Val.fieldAddr0 fld33_1 rfl) ?_
                    refine DF.vg rfl rfl rfl rfl hg28 (by decide) (Val.load flat3 rfl (fun _ h => h.2.o0.rd) (rfl)) ?_
                    refine DF.vg rfl rfl rfl rfl hg28 (by decide) (Val.lss rfl rfl) ?_
                    refine DF.vg rfl rfl rfl rfl hg27 (by decide) (Val.pickT rfl hg28 rfl) ?_
                    refine DF.vg rfl rfl rfl rfl hg27 (by decide) (Val.cast (v := .bool false) (Val.neqB Try.underlying4 rfl rfl) (by refine congrArg Value.bool ?_; first | (simp; omega) | (rw [bne_eq_false_iff_eq, decide_eq_decide]; omega))) ?_
                    refine DF.vv rfl rfl rfl (by decide) (Val.pickT rfl hg27 rfl) ?_
                    refine DF.nil ?_
                    refine W.condF rfl ?_
                    refine W.skip ?_
                    refine thenP_normal ?_
                    refine W.seqFz 24 [(0, true), (1, true), (2, true), (3, true), (4, true), (5, true), (6, true), (7, true), (8, true), (9, true), (10, true), (11, true), (12, true), (13, true), (14, true), (15, true), (16, true), (17, true), (18, true), (19, true), (20, true), (21, true), (22, true), (23, true)] mixed (by kernel_rfl) hB hM ?_
                    replace hB := hB.drew
                    replace hM := hM.drew
                    refine DF.vv rfl rfl rfl (by decide) (Val.fieldAddr0 fld33_0 rfl) ?_
                    refine DF.vv rfl rfl rfl (by decide) (Val.load flat3 rfl (fun _ h => h.2.o0.rd) (rfl)) ?_
                    refine DF.vv rfl rfl rfl (by decide) (Val.eql rfl rfl) ?_
                    refine DF.vv rfl rfl rfl (by decide) (Val.move rfl) ?_
                    refine DF.split 3 rfl (fun hg29 => ?_) (fun hg29 => ?_)
                    ·
                      first | (have hg29p := of_decide_eq_true hg29) | skip
                      refine DF.vg rfl rfl rfl rfl hg29 (by decide) (Val.move rfl) ?_
                      refine DF.vg rfl rfl rfl rfl hg29 (by decide) (Val.move rfl) ?_
                      refine DF.vg rfl rfl rfl rfl hg29 (by decide) (Val.indexAddr Try.underlying27 elem35 rfl rfl (by omega) (hM.o2.rd) (by first | (rw [mv_len]; omega) | (rw [pc2_len]; omega))) ?_
                      refine DF.vg rfl rfl rfl rfl hg29 (by decide) (Val.fieldAddr fld35_0 rfl (hM.o2.rd) (by first | (rw [mv_len]; omega) | (rw [pc2_len]; omega))) ?_
                      refine DF.vg rfl rfl rfl rfl hg29 (by decide) (Val.load flat22 rfl (fun _ h => h.2.o2.rd) ((pc2_at (by omega)).1)) ?_
                      refine DF.vg rfl rfl rfl rfl hg29 (by decide) (Val.eql rfl rfl) ?_
                      refine DF.vv rfl rfl rfl (by decide) (Val.pickT rfl hg29 rfl) ?_
                      refine DF.vv rfl rfl rfl (by decide) (Val.move rfl) ?_
                      refine DF.split 11 rfl (fun hg30 => ?_) (fun hg30 => ?_)
                      ·
                        first | (have hg30p := of_decide_eq_true hg30) | skip
                        refine DF.vg rfl rfl rfl rfl hg30 (by decide) (Val.move rfl) ?_
                        refine DF.vg rfl rfl rfl rfl hg30 (by decide) (Val.move rfl) ?_
                        refine DF.vg rfl rfl rfl rfl hg30 (by decide) (Val.indexAddr Try.underlying27 elem35 rfl rfl (by omega) (hM.o2.rd) (by first | (rw [mv_len]; omega) | (rw [pc2_len]; omega))) ?_
                        refine DF.vg rfl rfl rfl rfl hg30 (by decide) (Val.fieldAddr fld35_1 rfl (hM.o2.rd) (by first | (rw [mv_len]; omega) | (rw [pc2_len]; omega))) ?_
                        refine DF.vg rfl rfl rfl rfl hg30 (by decide) (Val.load flat5 rfl (fun _ h => h.2.o2.rd) ((pc2_at (by omega)).2)) ?_
                        refine DF.vg rfl rfl rfl rfl hg30 (by decide) (Val.move rfl) ?_
                        refine DF.vg rfl rfl rfl rfl hg30 (by decide) (Val.fieldAddr0 fld33_1 rfl) ?_
                        have hblk : ([.int .i64 (gM l k).kind, .int .i64 (gM l k).block, .int .u8 ((gM l k).val : Int)] : List Value)[1]? = some (.int .i64 (((gM l k).block.toNat : Nat) : Int)) := by { simp; omega }
                        refine DF.vg rfl rfl rfl rfl hg30 (by decide) (Val.load flat3 rfl (fun _ h => h.2.o0.rd) (hblk)) ?_
                        refine DF.vg rfl rfl rfl rfl hg30 (by decide) (Val.index1 Try.underlying31 elem5 rfl rfl (by omega) (hM.o1.rd) (yv_lt (by omega))) ?_
                        refine DF.vg rfl rfl rfl rfl hg30 (by decide) (Val.load flat5 rfl (fun _ h => h.2.o1.rd) (yv_at (by omega))) ?_
                        refine DF.vg rfl rfl rfl rfl hg30 (by decide) (Val.cast (v := .bool false) (Val.neq rfl rfl) (by refine congrArg Value.bool (decide_eq_false ?_); omega)) ?_
                        refine DF.vv rfl rfl rfl (by decide) (Val.pickT rfl hg30 rfl) ?_
                        refine DF.nil ?_
                        refine W.condF rfl ?_
                        refine W.skip ?_
                        refine inBlk_normal ?_
                        refine thenP_normal ?_
                        refine W.reg ?_
                        first | refine LS.vv rfl rfl (by decide) (Val.addN (j := 1) rfl rfl (by omega)) ?_ | refine LS.vv rfl rfl (by decide) (Val.add64 rfl rfl (by omega)) ?_
                        refine LS.vv rfl rfl (by decide) (Val.move rfl) ?_
                        refine LS.nil ?_
                        refine thenP_normal ?_
                        replace hM := hM.er0
                        refine ⟨k + 1, ?_, ?_, ⟨by omega, ?_, hB⟩, by omega⟩
                        · exact (Sub.cons rfl (Sub.nil _))
                        · repeat (first | exact Sub.nil _ | refine Sub.cons rfl ?_)
                        · rw [F5]; first | (rw [if_pos ⟨by omega, by omega⟩]; exact hM) | (rw [if_neg (by omega)]; exact hM)
                      ·
                        first | (have hg30p := of_decide_eq_false hg30) | skip
                        refine DF.s rfl rfl rfl rfl hg30 (by decide) ?_
                        refine DF.s rfl rfl rfl rfl hg30 (by decide) ?_
                        refine DF.s rfl rfl rfl rfl hg30 (by decide) ?_
                        refine DF.s rfl rfl rfl rfl hg30 (by decide) ?_
                        refine DF.s rfl rfl rfl rfl hg30 (by decide) ?_
                        refine DF.s rfl rfl rfl rfl hg30 (by decide) ?_
                        refine DF.s rfl rfl rfl rfl hg30 (by decide) ?_
                        refine DF.s rfl rfl rfl rfl hg30 (by decide) ?_
                        refine DF.s rfl rfl rfl rfl hg30 (by decide) ?_
                        refine DF.s rfl rfl rfl rfl hg30 (by decide) ?_
                        refine DF.s rfl rfl rfl rfl hg30 (by decide) ?_
                        refine DF.vv rfl rfl rfl (by decide) (Val.pickF rfl hg30 rfl) ?_
                        refine DF.nil ?_
                        refine W.condF rfl ?_
                        refine W.skip ?_
                        refine inBlk_normal ?_
                        refine thenP_normal ?_
                        refine W.reg ?_
                        first | refine LS.vv rfl rfl (by decide) (Val.addN (j := 1) rfl rfl (by omega)) ?_ | refine LS.vv rfl rfl (by decide) (Val.add64 rfl rfl (by omega)) ?_
                        refine LS.vv rfl rfl (by decide) (Val.move rfl) ?_
                        refine LS.nil ?_
                        refine thenP_normal ?_
                        replace hM := hM.er0
                        refine ⟨k + 1, ?_, ?_, ⟨by omega, ?_, hB⟩, by omega⟩
                        · exact (Sub.cons rfl (Sub.nil _))
                        · repeat (first | exact Sub.nil _ | refine Sub.cons rfl ?_)
                        · rw [F5]; first | (rw [if_pos ⟨by omega, by omega⟩]; exact hM) | (rw [if_neg (by omega)]; exact hM)
                    ·
                      first | (have hg29p := of_decide_eq_false hg29) | skip
                      refine DF.s rfl rfl rfl rfl hg29 (by decide) ?_
                      refine DF.s rfl rfl rfl rfl hg29 (by decide) ?_
                      refine DF.s rfl rfl rfl rfl hg29 (by decide) ?_
                      refine DF.s rfl rfl rfl rfl hg29 (by decide) ?_
                      refine DF.s rfl rfl rfl rfl hg29 (by decide) ?_
                      refine DF.s rfl rfl rfl rfl hg29 (by decide) ?_
                      refine DF.vv rfl rfl rfl (by decide) (Val.pickF rfl hg29 rfl) ?_
                      refine DF.vv rfl rfl rfl (by decide) (Val.move rfl) ?_
                      refine DF.s rfl rfl rfl rfl rfl (by decide) ?_
                      refine DF.s rfl rfl rfl rfl rfl (by decide) ?_
                      refine DF.s rfl rfl rfl rfl rfl (by decide) ?_
                      refine DF.s rfl rfl rfl rfl rfl (by decide) ?_
                      refine DF.s rfl rfl rfl rfl rfl (by decide) ?_
                      refine DF.s rfl rfl rfl rfl rfl (by decide) ?_
                      refine DF.s rfl rfl rfl rfl rfl (by decide) ?_
                      refine DF.s rfl rfl rfl rfl rfl (by decide) ?_
                      refine DF.s rfl rfl rfl rfl rfl (by decide) ?_
                      refine DF.s rfl rfl rfl rfl rfl (by decide) ?_
                      refine DF.s rfl rfl rfl rfl rfl (by decide) ?_
                      refine DF.vv rfl rfl rfl (by decide) (Val.pickF rfl rfl rfl) ?_
                      refine DF.nil ?_
                      refine W.condF rfl ?_
                      refine W.skip ?_
                      refine inBlk_normal ?_
                      refine thenP_normal ?_
                      refine W.reg ?_
                      first | refine LS.vv rfl rfl (by decide) (Val.addN (j := 1) rfl rfl (by omega)) ?_ | refine LS.vv rfl rfl (by decide) (Val.add64 rfl rfl (by omega)) ?_
                      refine LS.vv rfl rfl (by decide) (Val.move rfl) ?_
                      refine LS.nil ?_
                      refine thenP_normal ?_
                      replace hM := hM.er0
                      refine ⟨k + 1, ?_, ?_, ⟨by omega, ?_, hB⟩, by omega⟩
                      · exact (Sub.cons rfl (Sub.nil _))
                      · repeat (first | exact Sub.nil _ | refine Sub.cons rfl ?_)
                      · rw [F5]; first | (rw [if_pos ⟨by omega, by omega⟩]; exact hM) | (rw [if_neg (by omega)]; exact hM)
                  ·
                    first | (have hg28p := of_decide_eq_false hg28) | skip
                    refine DF.s rfl rfl rfl rfl hg28 (by decide) ?_
                    refine DF.s rfl rfl rfl rfl hg28 (by decide) ?_
                    refine DF.s rfl rfl rfl rfl hg28 (by decide) ?_
                    refine DF.vg rfl rfl rfl rfl hg27 (by decide) (Val.pickF rfl hg28 rfl) ?_
                    refine DF.vg rfl rfl rfl rfl hg27 (by decide) (Val.cast (v := .bool false) (Val.neqB Try.underlying4 rfl rfl) (by refine congrArg Value.bool ?_; first | (simp; omega) | (rw [bne_eq_false_iff_eq, decide_eq_decide]; omega))) ?_
                    refine DF.vv rfl rfl rfl (by decide) (Val.pickT rfl hg27 rfl) ?_
                    refine DF.nil ?_
                    refine W.condF rfl ?_
                    refine W.skip ?_
                    refine thenP_normal ?_
                    refine W.seqFz 24 [(0, true), (1, true), (2, true), (3, true), (4, true), (5, true), (6, true), (7, true), (8, true), (9, true), (10, true), (11, true), (12, true), (13, true), (14, true), (15, true), (16, true), (17, true), (18, true), (19, true), (20, true), (21, true), (22, true), (23, true)] mixed (by kernel_rfl) hB hM ?_
                    replace hB := hB.drew
                    replace hM := hM.drew
                    refine DF.vv rfl rfl rfl (by decide) (Val.fieldAddr0 fld33_0 rfl) ?_
                    refine DF.vv rfl rfl rfl (by decide) (Val.load flat3 rfl (fun _ h => h.2.o0.rd) (rfl)) ?_
                    refine DF.vv rfl rfl rfl (by decide) (Val.eql rfl rfl) ?_
                    refine DF.vv rfl rfl rfl (by decide) (Val.move rfl) ?_
                    refine DF.split 3 rfl (fun hg31 => ?_) (fun hg31 => ?_)
                    ·
                      first | (have hg31p := of_decide_eq_true hg31) | skip
                      refine DF.vg rfl rfl rfl rfl hg31 (by decide) (Val.move rfl) ?_
                      refine DF.vg rfl rfl rfl rfl hg31 (by decide) (Val.move rfl) ?_
                      refine DF.vg rfl rfl rfl rfl hg31 (by decide) (Val.indexAddr Try.underlying27 elem35 rfl rfl (by omega) (hM.o2.rd) (by first | (rw [mv_len]; omega) | (rw [pc2_len]; omega))) ?_
                      refine DF.vg rfl rfl rfl rfl hg31 (by decide) (Val.fieldAddr fld35_0 rfl (hM.o2.rd) (by first | (rw [mv_len]; omega) | (rw [pc2_len]; omega))) ?_
                      refine DF.vg rfl rfl rfl rfl hg31 (by decide) (Val.load flat22 rfl (fun _ h => h.2.o2.rd) ((pc2_at (by omega)).1)) ?_
                      refine DF.vg rfl rfl rfl rfl hg31 (by decide) (Val.eql rfl rfl) ?_
                      refine DF.vv rfl rfl rfl (by decide) (Val.pickT rfl hg31 rfl) ?_
                      refine DF.vv rfl rfl rfl (by decide) (Val.move rfl) ?_
                      refine DF.split 11 rfl (fun hg32 => ?_) (fun hg32 => ?_)
                      ·
                        first | (have hg32p := of_decide_eq_true hg32) | skip
                        refine DF.vg rfl rfl rfl rfl hg32 (by decide) (Val.move rfl) ?_
                        refine DF.vg rfl rfl rfl rfl hg32 (by decide) (Val.move rfl) ?_
                        refine DF.vg rfl rfl rfl rfl hg32 (by decide) (Val.indexAddr Try.underlying27 elem35 rfl rfl (by omega) (hM.o2.rd) (by first | (rw [mv_len]; omega) | (rw [pc2_len]; omega))) ?_
                        refine DF.vg rfl rfl rfl rfl hg32 (by decide) (Val.fieldAddr fld35_1 rfl (hM.o2.rd) (by first | (rw [mv_len]; omega) | (rw [pc2_len]; omega))) ?_
                        refine DF.vg rfl rfl rfl rfl hg32 (by decide) (Val.load flat5 rfl (fun _ h => h.2.o2.rd) ((pc2_at (by omega)).2)) ?_
                        refine DF.vg rfl rfl rfl rfl hg32 (by decide) (Val.move rfl) ?_
                        refine DF.vg rfl rfl rfl rfl hg32 (by decide) (Val.fieldAddr0 fld33_1 rfl) ?_
                        have hblk : ([.int .i64 (gM l k).kind, .int .i64 (gM l k).block, .int .u8 ((gM l k).val : Int)] : List Value)[1]? = some (.int .i64 (((gM l k).block.toNat : Nat) : Int)) := by { simp; omega }
                        refine DF.vg rfl rfl rfl rfl hg32 (by decide) (Val.load flat3 rfl (fun _ h => h.2.o0.rd) (hblk)) ?_
                        refine DF.vg rfl rfl rfl rfl hg32 (by decide) (Val.index1 Try.underlying31 elem5 rfl rfl (by omega) (hM.o1.rd) (yv_lt (by omega))) ?_
                        refine DF.vg rfl rfl rfl rfl hg32 (by decide) (Val.load flat5 rfl (fun _ h => h.2.o1.rd) (yv_at (by omega))) ?_
                        refine DF.vg rfl rfl rfl rfl hg32 (by decide) (Val.cast (v := .bool false) (Val.neq rfl rfl) (by refine congrArg Value.bool (decide_eq_false ?_); omega)) ?_
                        refine DF.vv rfl rfl rfl (by decide) (Val.pickT rfl hg32 rfl) ?_
                        refine DF.nil ?_
                        refine W.condF rfl ?_
                        refine W.skip ?_
                        refine inBlk_normal ?_
                        refine thenP_normal ?_
                        refine W.reg ?_
                        first | refine LS.vv rfl rfl (by decide) (Val.addN (j := 1) rfl rfl (by omega)) ?_ | refine LS.vv rfl rfl (by decide) (Val.add64 rfl rfl (by omega)) ?_
                        refine LS.vv rfl rfl (by decide) (Val.move rfl) ?_
                        refine LS.nil ?_
                        refine thenP_normal ?_
                        replace hM := hM.er0
                        refine ⟨k + 1, ?_, ?_, ⟨by omega, ?_, hB⟩, by omega⟩
                        · exact (Sub.cons rfl (Sub.nil _))
                        · repeat (first | exact Sub.nil _ | refine Sub.cons rfl ?_)
                        · rw [F5]; first | (rw [if_pos ⟨by omega, by omega⟩]; exact hM) | (rw [if_neg (by omega)]; exact hM)
                      ·
                        first | (have hg32p := of_decide_eq_false hg32) | skip
                        refine DF.s rfl rfl rfl rfl hg32 (by decide) ?_
                        refine DF.s rfl rfl rfl rfl hg32 (by decide) ?_
                        refine DF.s rfl rfl rfl rfl hg32 (by decide) ?_
                        refine DF.s rfl rfl rfl rfl hg32 (by decide) ?_
                        refine DF.s rfl rfl rfl rfl hg32 (by decide) ?_
                        refine DF.s rfl rfl rfl rfl hg32 (by decide) ?_
                        refine DF.s rfl rfl rfl rfl hg32 (by decide) ?_
                        refine DF.s rfl rfl rfl rfl hg32 (by decide) ?_
                        refine DF.s rfl rfl rfl rfl hg32 (by decide) ?_
                        refine DF.s rfl rfl rfl rfl hg32 (by decide) ?_
                        refine DF.s rfl rfl rfl rfl hg32 (by decide) ?_
                        refine DF.vv rfl rfl rfl (by decide) (Val.pickF rfl hg32 rfl) ?_
                        refine DF.nil ?_
                        refine W.condF rfl ?_
                        refine W.skip ?_
                        refine inBlk_normal ?_
                        refine thenP_normal ?_
                        refine W.reg ?_
                        first | refine LS.vv rfl rfl (by decide) (Val.addN (j := 1) rfl rfl (by omega)) ?_ | refine LS.vv rfl rfl (by decide) (Val.add64 rfl rfl (by omega)) ?_
                        refine LS.vv rfl rfl (by decide) (Val.move rfl) ?_
                        refine LS.nil ?_
                        refine thenP_normal ?_
                        replace hM := hM.er0
                        refine ⟨k + 1, ?_, ?_, ⟨by omega, ?_, hB⟩, by omega⟩
                        · exact (Sub.cons rfl (Sub.nil _))
                        · repeat (first | exact Sub.nil _ | refine Sub.cons rfl ?_)
                        · rw [F5]; first | (rw [if_pos ⟨by omega, by omega⟩]; exact hM) | (rw [if_neg (by omega)]; exact hM)
                    ·
                      first | (have hg31p := of_decide_eq_false hg31) | skip
                      refine DF.s rfl rfl rfl rfl hg31 (by decide) ?_
                      refine DF.s rfl rfl rfl rfl hg31 (by decide) ?_
                      refine DF.s rfl rfl rfl rfl hg31 (by decide) ?_
                      refine DF.s rfl rfl rfl rfl hg31 (by decide) ?_
                      refine DF.s rfl rfl rfl rfl hg31 (by decide) ?_
                      refine DF.s rfl rfl rfl rfl hg31 (by decide) ?_
                      refine DF.vv rfl rfl rfl (by decide) (Val.pickF rfl hg31 rfl) ?_
                      refine DF.vv rfl rfl rfl (by decide) (Val.move rfl) ?_
                      refine DF.s rfl rfl rfl rfl rfl (by decide) ?_
                      refine DF.s rfl rfl rfl rfl rfl (by decide) ?_
                      refine DF.s rfl rfl rfl rfl rfl (by decide) ?_
                      refine DF.s rfl rfl rfl rfl rfl (by decide) ?_
                      refine DF.s rfl rfl rfl rfl rfl (by decide) ?_
                      refine DF.s rfl rfl rfl rfl rfl (by decide) ?_
                      refine DF.s rfl rfl rfl rfl rfl (by decide) ?_
                      refine DF.s rfl rfl rfl rfl rfl (by decide) ?_
                      refine DF.s rfl rfl rfl rfl rfl (by decide) ?_
                      refine DF.s rfl rfl rfl rfl rfl (by decide) ?_
                      refine DF.s rfl rfl rfl rfl rfl (by decide) ?_
                      refine DF.vv rfl rfl rfl (by decide) (Val.pickF rfl rfl rfl) ?_
                      refine DF.nil ?_
                      refine W.condF rfl ?_
                      refine W.skip ?_
                      refine inBlk_normal ?_
                      refine thenP_normal ?_
                      refine W.reg ?_
                      first | refine LS.vv rfl rfl (by decide) (Val.addN (j := 1) rfl rfl (by omega)) ?_ | refine LS.vv rfl rfl (by decide) (Val.add64 rfl rfl (by omega)) ?_
                      refine LS.vv rfl rfl (by decide) (Val.move rfl) ?_
                      refine LS.nil ?_
                      refine thenP_normal ?_
                      replace hM := hM.er0
                      refine ⟨k + 1, ?_, ?_, ⟨by omega, ?_, hB⟩, by omega⟩
                      · exact (Sub.cons rfl (Sub.nil _))
                      · repeat (first | exact Sub.nil _ | refine Sub.cons rfl ?_)
                      · rw [F5]; first | (rw [if_pos ⟨by omega, by omega⟩]; exact hM) | (rw [if_neg (by omega)]; exact hM)
                ·
                  first | (have hg27p := of_decide_eq_false hg27) | skip
                  refine DF.s rfl rfl rfl rfl hg27 (by decide) ?_
                  refine DF.s rfl rfl rfl rfl hg27 (by decide) ?_
                  refine DF.s rfl rfl rfl rfl hg27 (by decide) ?_
                  refine DF.s rfl rfl rfl rfl hg27 (by decide) ?_
                  refine DF.s rfl rfl rfl rfl hg27 (by decide) ?_
                  refine DF.s rfl rfl rfl rfl hg27 (by decide) ?_
                  refine DF.s rfl rfl rfl rfl hg27 (by decide) ?_
                  refine DF.s rfl rfl rfl rfl hg27 (by decide) ?_
                  refine DF.s rfl rfl rfl rfl hg27 (by decide) ?_
                  refine DF.s rfl rfl rfl rfl hg27 (by decide) ?_
                  refine DF.skipU rfl rfl rfl rfl (by decide) ?_
                  refine DF.skipU rfl rfl rfl rfl (by decide) ?_
                  refine DF.skipU rfl rfl rfl rfl (by decide) ?_
                  refine DF.s rfl rfl rfl rfl hg27 (by decide) ?_
                  refine DF.s rfl rfl rfl rfl hg27 (by decide) ?_
                  refine DF.vv rfl rfl rfl (by decide) (Val.pickF rfl hg27 rfl) ?_
                  refine DF.nil ?_
                  refine W.condF rfl ?_
                  refine W.skip ?_
                  refine thenP_normal ?_
                  refine W.seqFz 24 [(0, true), (1, true), (2, true), (3, true), (4, true), (5, true), (6, true), (7, true), (8, true), (9, true), (10, true), (11, true), (12, true), (13, true), (14, true), (15, true), (16, true), (17, true), (18, true), (19, true), (20, true), (21, true), (22, true), (23, true)] mixed (by kernel_rfl) hB hM ?_
                  replace hB := hB.drew
                  replace hM := hM.drew
                  refine DF.vv rfl rfl rfl (by decide) (Val.fieldAddr0 fld33_0 rfl) ?_
                  refine DF.vv rfl rfl rfl (by decide) (Val.load flat3 rfl (fun _ h => h.2.o0.rd) (rfl)) ?_
                  refine DF.vv rfl rfl rfl (by decide) (Val.eql rfl rfl) ?_
                  refine DF.vv rfl rfl rfl (by decide) (Val.move rfl) ?_
                  refine DF.split 3 rfl (fun hg33 => ?_) (fun hg33 => ?_)
                  ·
                    first | (have hg33p := of_decide_eq_true hg33) | skip
                    refine DF.vg rfl rfl rfl rfl hg33 (by decide) (Val.move rfl) ?_
                    refine DF.vg rfl rfl rfl rfl hg33 (by decide) (Val.move rfl) ?_
                    refine DF.vg rfl rfl rfl rfl hg33 (by decide) (Val.indexAddr Try.underlying27 elem35 rfl rfl (by omega) (hM.o2.rd) (by first | (rw [mv_len]; omega) | (rw [pc2_len]; omega))) ?_
                    refine DF.vg rfl rfl rfl rfl hg33 (by decide) (Val.fieldAddr fld35_0 rfl (hM.o2.rd) (by first | (rw [mv_len]; omega) | (rw [pc2_len]; omega))) ?_
                    refine DF.vg rfl rfl rfl rfl hg33 (by decide) (Val.load flat22 rfl (fun _ h => h.2.o2.rd) ((pc2_at (by omega)).1)) ?_
                    refine DF.vg rfl rfl rfl rfl hg33 (by decide) (Val.eql rfl rfl) ?_
                    refine DF.vv rfl rfl rfl (by decide) (Val.pickT rfl hg33 rfl) ?_
                    refine DF.vv rfl rfl rfl (by decide) (Val.move rfl) ?_
                    refine DF.split 11 rfl (fun hg34 => ?_) (fun hg34 => ?_)
                    ·
                      first | (have hg34p := of_decide_eq_true hg34) | skip
                      refine DF.vg rfl rfl rfl rfl hg34 (by decide) (Val.move rfl) ?_
                      refine DF.vg rfl rfl rfl rfl hg34 (by decide) (Val.move rfl) ?_
                      refine DF.vg rfl rfl rfl rfl hg34 (by decide) (Val.indexAddr Try.underlying27 elem35 rfl rfl (by omega) (hM.o2.rd) (by first | (rw [mv_len]; omega) | (rw [pc2_len]; omega))) ?_
                      refine DF.vg rfl rfl rfl rfl hg34 (by decide) (Val.fieldAddr fld35_1 rfl (hM.o2.rd) (by first | (rw [mv_len]; omega) | (rw [pc2_len]; omega))) ?_
                      refine DF.vg rfl rfl rfl rfl hg34 (by decide) (Val.load flat5 rfl (fun _ h => h.2.o2.rd) ((pc2_at (by omega)).2)) ?_
                      refine DF.vg rfl rfl rfl rfl hg34 (by decide) (Val.move rfl) ?_
                      refine DF.vg rfl rfl rfl rfl hg34 (by decide) (Val.fieldAddr0 fld33_1 rfl) ?_
                      have hblk : ([.int .i64 (gM l k).kind, .int .i64 (gM l k).block, .int .u8 ((gM l k).val : Int)] : List Value)[1]? = some (.int .i64 (((gM l k).block.toNat : Nat) : Int)) := by { simp; omega }
                      refine DF.vg rfl rfl rfl rfl hg34 (by decide) (Val.load flat3 rfl (fun _ h => h.2.o0.rd) (hblk)) ?_
                      refine DF.vg rfl rfl rfl rfl hg34 (by decide) (Val.index1 Try.underlying31 elem5 rfl rfl (by omega) (hM.o1.rd) (yv_lt (by omega))) ?_
                      refine DF.vg rfl rfl rfl rfl hg34 (by decide) (Val.load flat5 rfl (fun _ h => h.2.o1.rd) (yv_at (by omega))) ?_
                      refine DF.vg rfl rfl rfl rfl hg34 (by decide) (Val.cast (v := .bool false) (Val.neq rfl rfl) (by refine congrArg Value.bool (decide_eq_false ?_); omega)) ?_
                      refine DF.vv rfl rfl rfl (by decide) (Val.pickT rfl hg34 rfl) ?_
                      refine DF.nil ?_
                      refine W.condF rfl ?_
                      refine W.skip ?_
                      refine inBlk_normal ?_
                      refine thenP_normal ?_
                      refine W.reg ?_
                      first | refine LS.vv rfl rfl (by decide) (Val.addN (j := 1) rfl rfl (by omega)) ?_ | refine LS.vv rfl rfl (by decide) (Val.add64 rfl rfl (by omega)) ?_
                      refine LS.vv rfl rfl (by decide) (Val.move rfl) ?_
                      refine LS.nil ?_
                      refine thenP_normal ?_
                      replace hM := hM.er0
                      refine ⟨k + 1, ?_, ?_, ⟨by omega, ?_, hB⟩, by omega⟩
                      · exact (Sub.cons rfl (Sub.nil _))
                      · repeat (first | exact Sub.nil _ | refine Sub.cons rfl ?_)
                      · rw [F5]; first | (rw [if_pos ⟨by omega, by omega⟩]; exact hM) | (rw [if_neg (by omega)]; exact hM)
                    ·
                      first | (have hg34p := of_decide_eq_false hg34) | skip
                      refine DF.s rfl rfl rfl rfl hg34 (by decide) ?_
                      refine DF.s rfl rfl rfl rfl hg34 (by decide) ?_
                      refine DF.s rfl rfl rfl rfl hg34 (by decide) ?_
                      refine DF.s rfl rfl rfl rfl hg34 (by decide) ?_
                      refine DF.s rfl rfl rfl rfl hg34 (by decide) ?_
                      refine DF.s rfl rfl rfl rfl hg34 (by decide) ?_
                      refine DF.s rfl rfl rfl rfl hg34 (by decide) ?_
                      refine DF.s rfl rfl rfl rfl hg34 (by decide) ?_
                      refine DF.s rfl rfl rfl rfl hg34 (by decide) ?_
                      refine DF.s rfl rfl rfl rfl hg34 (by decide) ?_
                      refine DF.s rfl rfl rfl rfl hg34 (by decide) ?_
                      refine DF.vv rfl rfl rfl (by decide) (Val.pickF rfl hg34 rfl) ?_
                      refine DF.nil ?_
                      refine W.condF rfl ?_
                      refine W.skip ?_
                      refine inBlk_normal ?_
                      refine thenP_normal ?_
                      refine W.reg ?_
                      first | refine LS.vv rfl rfl (by decide) (Val.addN (j := 1) rfl rfl (by omega)) ?_ | refine LS.vv rfl rfl (by decide) (Val.add64 rfl rfl (by omega)) ?_
                      refine LS.vv rfl rfl (by decide) (Val.move rfl) ?_
                      refine LS.nil ?_
                      refine thenP_normal ?_
                      replace hM := hM.er0
                      refine ⟨k + 1, ?_, ?_, ⟨by omega, ?_, hB⟩, by omega⟩
                      · exact (Sub.cons rfl (Sub.nil _))
                      · repeat (first | exact Sub.nil _ | refine Sub.cons rfl ?_)
                      · rw [F5]; first | (rw [if_pos ⟨by omega, by omega⟩]; exact hM) | (rw [if_neg (by omega)]; exact hM)
                  ·
                    first | (have hg33p := of_decide_eq_false hg33) | skip
                    refine DF.s rfl rfl rfl rfl hg33 (by decide) ?_
                    refine DF.s rfl rfl rfl rfl hg33 (by decide) ?_
                    refine DF.s rfl rfl rfl rfl hg33 (by decide) ?_
                    refine DF.s rfl rfl rfl rfl hg33 (by decide) ?_
                    refine DF.s rfl rfl rfl rfl hg33 (by decide) ?_
                    refine DF.s rfl rfl rfl rfl hg33 (by decide) ?_
                    refine DF.vv rfl rfl rfl (by decide) (Val.pickF rfl hg33 rfl) ?_
                    refine DF.vv rfl rfl rfl (by decide) (Val.move rfl) ?_
                    refine DF.s rfl rfl rfl rfl rfl (by decide) ?_
                    refine DF.s rfl rfl rfl rfl rfl (by decide) ?_
                    refine DF.s rfl rfl rfl rfl rfl (by decide) ?_
                    refine DF.s rfl rfl rfl rfl rfl (by decide) ?_
                    refine DF.s rfl rfl rfl rfl rfl (by decide) ?_
                    refine DF.s rfl rfl rfl rfl rfl (by decide) ?_
                    refine DF.s rfl rfl rfl rfl rfl (by decide) ?_
                    refine DF.s rfl rfl rfl rfl rfl (by decide) ?_
                    refine DF.s rfl rfl rfl rfl rfl (by decide) ?_
                    refine DF.s rfl rfl rfl rfl rfl (by decide) ?_
                    refine DF.s rfl rfl rfl rfl rfl (by decide) ?_
                    refine DF.vv rfl rfl rfl (by decide) (Val.pickF rfl rfl rfl) ?_
                    refine DF.nil ?_
                    refine W.condF rfl ?_
                    refine W.skip ?_
                    refine inBlk_normal ?_
                    refine thenP_normal ?_
                    refine W.reg ?_
                    first | refine LS.vv rfl rfl (by decide) (Val.addN (j := 1) rfl rfl (by omega)) ?_ | refine LS.vv rfl rfl (by decide) (Val.add64 rfl rfl (by omega)) ?_
                    refine LS.vv rfl rfl (by decide) (Val.move rfl) ?_
                    refine LS.nil ?_
                    refine thenP_normal ?_
                    replace hM := hM.er0
                    refine ⟨k + 1, ?_, ?_, ⟨by omega, ?_, hB⟩, by omega⟩
                    · exact (Sub.cons rfl (Sub.nil _))
                    · repeat (first | exact Sub.nil _ | refine Sub.cons rfl ?_)
                    · rw [F5]; first | (rw [if_pos ⟨by omega, by omega⟩]; exact hM) | (rw [if_neg (by omega)]; exact hM)
            ·
              refine W.exit ?_
              refine thenP_exit ?_
              refine thenP_exit ?_
              refine inBlk_exit ?_
              refine thenP_normal ?_
              refine W.seqR ?_
              refine LS.vv rfl rfl (by decide) (Val.assign rfl) ?_
              refine LS.nil ?_
              refine W.ret ?_
              refine ret1 (by first | exact .inl rfl | exact .inr rfl) rfl ?_
              first | exact ⟨rfl, hB⟩ | contradiction | (exfalso; omega) | exact ⟨congrArg Value.bool (decide_eq_true (by omega)), hB⟩

end Go.Proofs.Ytldcpihjoakigaa
