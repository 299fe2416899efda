/-
  The statement StripeSums.
-/
import Derived.Test.YtldcpihjoakigaaArray4
namespace Go.Proofs.Ytldcpihjoakigaa
open Go Go.RowKit V
set_option linter.unusedVariables false
set_option linter.unusedSimpArgs false

theorem stripeSums_any (d : Int) (l : List Mv) (p : Option Addr) (c m : Nat) (w0 : World) (hr : Rd w0 p (mv l)) (hm : l.length = m) (hl : m ≤ 9223372036854775807) (hv : ∀ x ∈ l, x.val < 256) :
    CallsV Try.prog 5 #[.int .i64 d, .slice p m c] w0 (fun v w => v = .bool true ∧ Below w0.heap.size w0 w) := by
  refine enter1 Try.func5 rfl Try.ntmps5 (by simp) rfl ?_
  have hB := Below.refl w0.heap.size w0
  simp only [argLoc, Nat.zero_add]
  have hM := Mz.nil w0 w0.heap.size
  subst hm
  refine W.seqR ?_
  refine LS.vv rfl rfl (by decide) (Val.assign rfl) ?_
  refine LS.nil ?_
  refine W.seqR ?_
  refine LS.vv rfl rfl (by decide) (Val.move rfl) ?_
  refine LS.vv rfl rfl (by decide) (Val.move rfl) ?_
  refine LS.m rfl (Step.call body12 rfl rfl (by decide) rfl (CallsV.mono (Play_any d l _ _ _ _ (hr.below hB) rfl hl hv) ?_))
  rintro _ w1 ⟨pl, cl, nl, po, co, nd, e, out, T, rfl, he, hMn, hnd, h0, h1, hb1⟩
  replace hM := hM.adds hB.size hb1 hMn
  simp only [List.cons_append, List.append_nil] at hM
  replace hB := hB.trans (hb1.mono hB.size)
  refine LS.vv rfl rfl (by decide) (Val.move rfl) ?_
  refine LS.vv rfl rfl (by decide) (Val.extract rfl rfl) ?_
  refine LS.vv rfl rfl (by decide) (Val.extract rfl rfl) ?_
  refine LS.vv rfl rfl (by decide) (Val.extract rfl rfl) ?_
  refine LS.vv rfl rfl (by decide) (Val.assign rfl) ?_
  refine LS.vv rfl rfl (by decide) (Val.assign rfl) ?_
  refine LS.vv rfl rfl (by decide) (Val.assign rfl) ?_
  refine LS.nil ?_
  refine W.seq ?_
  refine W.seqR ?_
  refine LS.vv rfl rfl (by decide) (Val.move rfl) ?_
  refine LS.vv rfl rfl (by decide) (Val.lss rfl rfl) ?_
  refine LS.vv rfl rfl (by decide) (Val.move rfl) ?_
  refine LS.split 2 rfl (fun hg1 => ?_) (fun hg1 => ?_)
  ·
    first | (have hg1p := of_decide_eq_true hg1) | skip
    refine LS.s rfl rfl rfl hg1 (by decide) ?_
    refine LS.s rfl rfl rfl hg1 (by decide) ?_
    refine LS.vv rfl rfl (by decide) (Val.pickT rfl hg1 rfl) ?_
    refine LS.vv rfl rfl (by decide) (Val.move rfl) ?_
    refine LS.s rfl rfl rfl rfl (by decide) ?_
    refine LS.s rfl rfl rfl rfl (by decide) ?_
    refine LS.s rfl rfl rfl rfl (by decide) ?_
    refine LS.vv rfl rfl (by decide) (Val.pickT rfl rfl rfl) ?_
    refine LS.nil ?_
    refine W.condT rfl ?_
    refine W.seqR ?_
    refine LS.vv rfl rfl (by decide) (Val.move rfl) ?_
    refine LS.vv rfl rfl (by decide) (Val.neq rfl rfl) ?_
    refine LS.vv rfl rfl (by decide) (Val.assign rfl) ?_
    refine LS.nil ?_
    refine W.ret ?_
    refine thenP_ret ?_
    refine ret1 (by first | exact .inl rfl | exact .inr rfl) rfl ?_
    first | exact ⟨rfl, hB⟩ | contradiction | (exfalso; omega) | exact ⟨congrArg Value.bool (decide_eq_true (by omega)), hB⟩
  ·
    first | (have hg1p := of_decide_eq_false hg1) | skip
    refine LS.vg rfl rfl rfl hg1 (by decide) (Val.move rfl) ?_
    refine LS.vg rfl rfl rfl hg1 (by decide) (Val.gtr rfl rfl) ?_
    refine LS.vv rfl rfl (by decide) (Val.pickF rfl hg1 rfl) ?_
    refine LS.vv rfl rfl (by decide) (Val.move rfl) ?_
    refine LS.split 6 rfl (fun hg2 => ?_) (fun hg2 => ?_)
    ·
      first | (have hg2p := of_decide_eq_true hg2) | skip
      refine LS.s rfl rfl rfl hg2 (by decide) ?_
      refine LS.s rfl rfl rfl hg2 (by decide) ?_
      refine LS.s rfl rfl rfl hg2 (by decide) ?_
      refine LS.vv rfl rfl (by decide) (Val.pickT rfl hg2 rfl) ?_
      refine LS.nil ?_
      refine W.condT rfl ?_
      refine W.seqR ?_
      refine LS.vv rfl rfl (by decide) (Val.move rfl) ?_
      refine LS.vv rfl rfl (by decide) (Val.neq rfl rfl) ?_
      refine LS.vv rfl rfl (by decide) (Val.assign rfl) ?_
      refine LS.nil ?_
      refine W.ret ?_
      refine thenP_ret ?_
      refine ret1 (by first | exact .inl rfl | exact .inr rfl) rfl ?_
      first | exact ⟨rfl, hB⟩ | contradiction | (exfalso; omega) | exact ⟨congrArg Value.bool (decide_eq_true (by omega)), hB⟩
    ·
      first | (have hg2p := of_decide_eq_false hg2) | skip
      refine LS.vg rfl rfl rfl hg2 (by decide) (Val.move rfl) ?_
      refine LS.vg rfl rfl rfl hg2 (by decide) (Val.len Try.underlying26 rfl) ?_
      refine LS.vg rfl rfl rfl hg2 (by decide) (Val.gtr rfl rfl) ?_
      refine LS.vv rfl rfl (by decide) (Val.pickF rfl hg2 rfl) ?_
      refine LS.nil ?_
      first | refine W.condD rfl (fun hc3 => ?_) (fun hc3 => ?_) | refine W.cond rfl (fun hc3 => ?_) (fun hc3 => ?_)
      ·
        refine W.seqR ?_
        refine LS.vv rfl rfl (by decide) (Val.move rfl) ?_
        refine LS.vv rfl rfl (by decide) (Val.neq rfl rfl) ?_
        refine LS.vv rfl rfl (by decide) (Val.assign rfl) ?_
        refine LS.nil ?_
        refine W.ret ?_
        refine thenP_ret ?_
        refine ret1 (by first | exact .inl rfl | exact .inr rfl) rfl ?_
        first | exact ⟨rfl, hB⟩ | contradiction | (exfalso; omega) | exact ⟨congrArg Value.bool (decide_eq_true (by omega)), hB⟩
      ·
        refine W.skip ?_
        refine thenP_normal ?_
        refine W.seq ?_
        refine W.seqR ?_
        refine LS.vv rfl rfl (by decide) (Val.move rfl) ?_
        refine LS.vv rfl rfl (by decide) (Val.neq rfl rfl) ?_
        refine LS.vv rfl rfl (by decide) (Val.move rfl) ?_
        refine LS.split 2 rfl (fun hg4 => ?_) (fun hg4 => ?_)
        ·
          first | (have hg4p := of_decide_eq_true hg4) | skip
          refine LS.s rfl rfl rfl hg4 (by decide) ?_
          refine LS.s rfl rfl rfl hg4 (by decide) ?_
          refine LS.s rfl rfl rfl hg4 (by decide) ?_
          refine LS.s rfl rfl rfl hg4 (by decide) ?_
          refine LS.s rfl rfl rfl hg4 (by decide) ?_
          refine LS.vv rfl rfl (by decide) (Val.pickT rfl hg4 rfl) ?_
          refine LS.vv rfl rfl (by decide) (Val.move rfl) ?_
          refine LS.s rfl rfl rfl rfl (by decide) ?_
          refine LS.s rfl rfl rfl rfl (by decide) ?_
          refine LS.s rfl rfl rfl rfl (by decide) ?_
          refine LS.s rfl rfl rfl rfl (by decide) ?_
          refine LS.vv rfl rfl (by decide) (Val.pickT rfl rfl rfl) ?_
          refine LS.nil ?_
          refine W.condT rfl ?_
          refine W.seqR ?_
          refine LS.vv rfl rfl (by decide) (Val.assign rfl) ?_
          refine LS.nil ?_
          refine W.ret ?_
          refine thenP_ret ?_
          refine ret1 (by first | exact .inl rfl | exact .inr rfl) rfl ?_
          first | exact ⟨rfl, hB⟩ | contradiction | (exfalso; omega) | exact ⟨congrArg Value.bool (decide_eq_true (by omega)), hB⟩
        ·
          first | (have hg4p := of_decide_eq_false hg4) | skip
          refine LS.vg rfl rfl rfl hg4 (by decide) (Val.move rfl) ?_
          refine LS.vg rfl rfl rfl hg4 (by decide) (Val.len Try.underlying27 rfl) ?_
          refine LS.vg rfl rfl rfl hg4 (by decide) (Val.move rfl) ?_
          refine LS.vg rfl rfl rfl hg4 (by decide) (Val.len Try.underlying26 rfl) ?_
          refine LS.vg rfl rfl rfl hg4 (by decide) (Val.neq rfl rfl) ?_
          refine LS.vv rfl rfl (by decide) (Val.pickF rfl hg4 rfl) ?_
          refine LS.vv rfl rfl (by decide) (Val.move rfl) ?_
          refine LS.split 9 rfl (fun hg5 => ?_) (fun hg5 => ?_)
          ·
            first | (have hg5p := of_decide_eq_true hg5) | skip
            refine LS.s rfl rfl rfl hg5 (by decide) ?_
            refine LS.s rfl rfl rfl hg5 (by decide) ?_
            refine LS.s rfl rfl rfl hg5 (by decide) ?_
            refine LS.s rfl rfl rfl hg5 (by decide) ?_
            refine LS.vv rfl rfl (by decide) (Val.pickT rfl hg5 rfl) ?_
            refine LS.nil ?_
            refine W.condT rfl ?_
            refine W.seqR ?_
            refine LS.vv rfl rfl (by decide) (Val.assign rfl) ?_
            refine LS.nil ?_
            refine W.ret ?_
            refine thenP_ret ?_
            refine ret1 (by first | exact .inl rfl | exact .inr rfl) rfl ?_
            first | exact ⟨rfl, hB⟩ | contradiction | (exfalso; omega) | exact ⟨congrArg Value.bool (decide_eq_true (by omega)), hB⟩
          ·
            first | (have hg5p := of_decide_eq_false hg5) | skip
            refine LS.vg rfl rfl rfl hg5 (by decide) (Val.move rfl) ?_
            refine LS.vg rfl rfl rfl hg5 (by decide) (Val.len Try.underlying28 rfl) ?_
            refine LS.vg rfl rfl rfl hg5 (by decide) (Val.move rfl) ?_
            refine LS.vg rfl rfl rfl hg5 (by decide) (Val.neq rfl rfl) ?_
            refine LS.vv rfl rfl (by decide) (Val.pickF rfl hg5 rfl) ?_
            refine LS.nil ?_
            first | refine W.condD rfl (fun hc6 => ?_) (fun hc6 => ?_) | refine W.cond rfl (fun hc6 => ?_) (fun hc6 => ?_)
            ·
              refine W.seqR ?_
              refine LS.vv rfl rfl (by decide) (Val.assign rfl) ?_
              refine LS.nil ?_
              refine W.ret ?_
              refine thenP_ret ?_
              refine ret1 (by first | exact .inl rfl | exact .inr rfl) rfl ?_
              first | exact ⟨rfl, hB⟩ | contradiction | (exfalso; omega) | exact ⟨congrArg Value.bool (decide_eq_true (by omega)), hB⟩
            ·
              obtain rfl : e = 0 := by omega
              obtain ⟨hnl, rfl, hdt, hTl⟩ := h0 rfl
              obtain ⟨D0, rfl⟩ := Int.eq_ofNat_of_zero_le (show 0 ≤ d by omega)
              simp only [Int.toNat_natCast] at hM hdt hTl
              have hd3 : 3 ≤ D0 := by omega
              have hd6 : D0 ≤ 6 := by omega
              have hol := aplay_out_len D0 l
              have h24 := rowsOf_le hd3 hd6
              refine W.skip ?_
              refine thenP_normal ?_
              refine W.seqR ?_
              refine LS.vv rfl rfl (by decide) (Val.cast (v := .int .i64 ((0 : Nat) : Int)) (Val.assign rfl) rfl) ?_
              refine LS.nil ?_
              refine W.seq ?_
              refine W.seqR ?_
              refine LS.vv rfl rfl (by decide) (Val.move rfl) ?_
              refine LS.vv rfl rfl (by decide) (Val.len Try.underlying26 rfl) ?_
              refine LS.vv rfl rfl (by decide) (Val.cast (v := .int .i64 ((0 : Nat) : Int)) (Val.move rfl) rfl) ?_
              refine LS.nil ?_
              refine W.block ?_
              refine W.loop (α := Nat) (fun k => [(8, .int .i64 (aplay D0 (l.take k)).cnt), (52, .int .i64 (k : Int))]) [(5, _), (6, _), (50, _), (51, _)] (fun k w => (k ≤ l.length) ∧ Mz w w0.heap.size (⟨35, 2, pl, nl, cl, pc2 (aplay D0 l).out⟩ :: outO po co T :: (tz 5 T)) ∧ Below w0.heap.size w0 w) (fun k => l.length - k) (0) (Sub.cons rfl (Sub.cons rfl (Sub.nil _))) (Sub.cons rfl (Sub.cons rfl (Sub.cons rfl (Sub.cons rfl (Sub.nil _))))) ?_ ?_
              · exact ⟨Nat.zero_le _, hM, hB⟩
              rintro k w2 ⟨hk, hM, hB⟩
              try simp only at hM
              simp only [List.cons_append, List.nil_append]
              have hcn := (AV.all hd3 hd6 (l.take k) (fun x hx => hv x (List.mem_of_mem_take hx))).cnt
              have hcn2 : 0 ≤ (aplay D0 (l.take k)).cnt ∧ (aplay D0 (l.take k)).cnt ≤ 1 := by rw [hcn]; split <;> omega
              refine W.seqR ?_
              refine LS.vv rfl rfl (by decide) (Val.lss rfl rfl) ?_
              refine LS.nil ?_
              refine W.seq ?_
              first | refine W.condD rfl (fun hc7 => ?_) (fun hc7 => ?_) | refine W.cond rfl (fun hc7 => ?_) (fun hc7 => ?_)
              ·
                obtain ⟨_, _, _, _, _, F6⟩ := told_facts (d := D0) (k := k) (by omega) hd3 hd6 hv
                refine W.skip ?_
                refine thenP_normal ?_
                refine W.seq ?_
                refine W.block ?_
                refine W.seqR ?_
                refine LS.vv rfl rfl (by decide) (Val.move rfl) ?_
                refine LS.vv rfl rfl (by decide) (Val.indexAddr Try.underlying26 elem33 rfl rfl (by omega) ((hr.below hB)) (by first | (rw [mv_len]; omega) | (rw [pc2_len]; omega) | (rw [tv_len]; omega))) ?_
                refine LS.m rfl (Step.loadAgg (vs := [.int .i64 (gM l k).kind, .int .i64 (gM l k).block, .int .u8 ((gM l k).val : Int)]) rfl rfl (by decide) agg33 rfl ((hr.below hB)) ((mv_at (by omega)).1) rfl (by decide) ?_)
                refine LS.m rfl (Step.allocZ rfl rfl (by decide) elem33 rfl (by decide) ?_)
                rintro w3 hO3 hg3 hbl3 hsz3
                replace hM := hM.add hB.size hbl3 hO3
                try simp only [List.length_cons, List.length_nil, Nat.zero_add, Nat.reduceAdd, Value.cells, List.toList_toArray, List.append_nil, List.set_cons_zero, List.set_cons_succ] at hM
                replace hB := hB.trans (hbl3.mono hB.size)
                generalize w2.heap.size = gg3 at *
                refine LS.vv rfl rfl (by decide) (Val.assign rfl) ?_
                refine LS.m rfl (Step.storeAgg0 (B := w0.heap.size) rfl rfl agg33 rfl rfl rfl (by decide) (by first | exact one_map _ (fun _ => rfl) _ | simp [Value.oneCell']) (hM.o0) rfl hB.size ?_)
                rintro w4 hO4 hg4 hbl4 hsz4
                replace hM := hM.s0 (e := _) hg4 hO4 inl_block
                try simp only [List.set_cons_zero, List.set_cons_succ] at hM
                replace hB := hB.trans hbl4
                refine LS.nil ?_
                refine W.seq ?_
                refine W.seqR ?_
                refine LS.vv rfl rfl (by decide) (Val.fieldAddr0 fld33_0 rfl) ?_
                refine LS.m rfl (Step.load rfl rfl (by decide) flat3 rfl (hM.o0.rd) (rfl) ?_)
                refine LS.vv rfl rfl (by decide) (Val.eql rfl rfl) ?_
                refine LS.vv rfl rfl (by decide) (Val.move rfl) ?_
                refine LS.split 3 rfl (fun hg8 => ?_) (fun hg8 => ?_)
                ·
                  first | (have hg8p := of_decide_eq_true hg8) | skip
                  refine LS.vg rfl rfl rfl hg8 (by decide) (Val.move rfl) ?_
                  refine LS.vg rfl rfl rfl hg8 (by decide) (Val.move rfl) ?_
                  refine LS.vg rfl rfl rfl hg8 (by decide) (Val.indexAddr Try.underlying27 elem35 rfl rfl (by omega) (hM.o1.rd) (by first | (rw [mv_len]; omega) | (rw [pc2_len]; omega) | (rw [tv_len]; omega))) ?_
                  refine LS.vg rfl rfl rfl hg8 (by decide) (Val.fieldAddr fld35_0 rfl (hM.o1.rd) (by first | (rw [mv_len]; omega) | (rw [pc2_len]; omega) | (rw [tv_len]; omega))) ?_
                  refine LS.mg rfl rfl hg8 (Step.load rfl rfl (by decide) flat22 rfl (hM.o1.rd) ((pc2_at (by omega)).1) ?_)
                  refine LS.vg rfl rfl rfl hg8 (by decide) (Val.eql rfl rfl) ?_
                  refine LS.vv rfl rfl (by decide) (Val.pickT rfl hg8 rfl) ?_
                  refine LS.nil ?_
                  first | refine W.condD rfl (fun hc9 => ?_) (fun hc9 => ?_) | refine W.cond rfl (fun hc9 => ?_) (fun hc9 => ?_)
                  ·
                    refine W.reg ?_
                    refine LS.vv rfl rfl (by decide) (Val.move rfl) ?_
                    first | refine LS.vv rfl rfl (by decide) (Val.addN (j := 1) rfl rfl (by omega)) ?_ | refine LS.vv rfl rfl (by decide) (Val.add64 rfl rfl (by omega)) ?_
                    refine LS.vv rfl rfl (by decide) (Val.assign rfl) ?_
                    refine LS.nil ?_
                    refine thenP_normal ?_
                    refine W.seqR ?_
                    refine LS.vv rfl rfl (by decide) (Val.fieldAddr0 fld33_0 rfl) ?_
                    refine LS.m rfl (Step.load rfl rfl (by decide) flat3 rfl (hM.o0.rd) (rfl) ?_)
                    refine LS.vv rfl rfl (by decide) (Val.eql rfl rfl) ?_
                    refine LS.vv rfl rfl (by decide) (Val.move rfl) ?_
                    refine LS.split 3 rfl (fun hg10 => ?_) (fun hg10 => ?_)
                    ·
                      first | (have hg10p := of_decide_eq_true hg10) | skip
                      refine LS.vg rfl rfl rfl hg10 (by decide) (Val.move rfl) ?_
                      refine LS.vg rfl rfl rfl hg10 (by decide) (Val.move rfl) ?_
                      refine LS.vg rfl rfl rfl hg10 (by decide) (Val.indexAddr Try.underlying27 elem35 rfl rfl (by omega) (hM.o1.rd) (by first | (rw [mv_len]; omega) | (rw [pc2_len]; omega) | (rw [tv_len]; omega))) ?_
                      refine LS.vg rfl rfl rfl hg10 (by decide) (Val.fieldAddr fld35_0 rfl (hM.o1.rd) (by first | (rw [mv_len]; omega) | (rw [pc2_len]; omega) | (rw [tv_len]; omega))) ?_
                      refine LS.mg rfl rfl hg10 (Step.load rfl rfl (by decide) flat22 rfl (hM.o1.rd) ((pc2_at (by omega)).1) ?_)
                      refine LS.vg rfl rfl rfl hg10 (by decide) (Val.eql rfl rfl) ?_
                      refine LS.vv rfl rfl (by decide) (Val.pickT rfl hg10 rfl) ?_
                      refine LS.nil ?_
                      first | refine W.condD rfl (fun hc11 => ?_) (fun hc11 => ?_) | refine W.cond rfl (fun hc11 => ?_) (fun hc11 => ?_)
                      ·
                        refine W.reg ?_
                        refine LS.vv rfl rfl (by decide) (Val.move rfl) ?_
                        first | refine LS.vv rfl rfl (by decide) (Val.subN (j := 1) rfl rfl (by omega) (by omega)) ?_ | refine LS.vv rfl rfl (by decide) (Val.sub64 rfl rfl (by omega)) ?_
                        refine LS.vv rfl rfl (by decide) (Val.assign rfl) ?_
                        refine LS.nil ?_
                        refine inBlk_normal ?_
                        refine thenP_normal ?_
                        refine W.reg ?_
                        first | refine LS.vv rfl rfl (by decide) (Val.addN (j := 1) rfl rfl (by omega)) ?_ | refine LS.vv rfl rfl (by decide) (Val.add64 rfl rfl (by omega)) ?_
                        refine LS.vv rfl rfl (by decide) (Val.move rfl) ?_
                        refine LS.nil ?_
                        refine thenP_normal ?_
                        refine ⟨k + 1, ?_, ?_, ⟨by omega, hM.tail, hB⟩, by omega⟩
                        · exact Sub.cons' rfl (by rw [F6]; first | (exfalso; omega) | (rw [if_pos ⟨by omega, by omega⟩]; done) | (rw [if_neg (by omega), if_pos ⟨by omega, by omega⟩]; done) | (rw [if_neg (by omega), if_neg (by omega)]; done)) (Sub.cons rfl (Sub.nil _))
                        · repeat (first | exact Sub.nil _ | refine Sub.cons rfl ?_)
                      ·
                        refine W.skip ?_
                        refine inBlk_normal ?_
                        refine thenP_normal ?_
                        refine W.reg ?_
                        first | refine LS.vv rfl rfl (by decide) (Val.addN (j := 1) rfl rfl (by omega)) ?_ | refine LS.vv rfl rfl (by decide) (Val.add64 rfl rfl (by omega)) ?_
                        refine LS.vv rfl rfl (by decide) (Val.move rfl) ?_
                        refine LS.nil ?_
                        refine thenP_normal ?_
                        refine ⟨k + 1, ?_, ?_, ⟨by omega, hM.tail, hB⟩, by omega⟩
                        · exact Sub.cons' rfl (by rw [F6]; first | (exfalso; omega) | (rw [if_pos ⟨by omega, by omega⟩]; done) | (rw [if_neg (by omega), if_pos ⟨by omega, by omega⟩]; done) | (rw [if_neg (by omega), if_neg (by omega)]; done)) (Sub.cons rfl (Sub.nil _))
                        · repeat (first | exact Sub.nil _ | refine Sub.cons rfl ?_)
                    ·
                      first | (have hg10p := of_decide_eq_false hg10) | skip
                      refine LS.s rfl rfl rfl hg10 (by decide) ?_
                      refine LS.s rfl rfl rfl hg10 (by decide) ?_
                      refine LS.s rfl rfl rfl hg10 (by decide) ?_
                      refine LS.s rfl rfl rfl hg10 (by decide) ?_
                      refine LS.s rfl rfl rfl hg10 (by decide) ?_
                      refine LS.s rfl rfl rfl hg10 (by decide) ?_
                      refine LS.vv rfl rfl (by decide) (Val.pickF rfl hg10 rfl) ?_
                      refine LS.nil ?_
                      refine W.condF rfl ?_
                      refine W.skip ?_
                      refine inBlk_normal ?_
                      refine thenP_normal ?_
                      refine W.reg ?_
                      first | refine LS.vv rfl rfl (by decide) (Val.addN (j := 1) rfl rfl (by omega)) ?_ | refine LS.vv rfl rfl (by decide) (Val.add64 rfl rfl (by omega)) ?_
                      refine LS.vv rfl rfl (by decide) (Val.move rfl) ?_
                      refine LS.nil ?_
                      refine thenP_normal ?_
                      refine ⟨k + 1, ?_, ?_, ⟨by omega, hM.tail, hB⟩, by omega⟩
                      · exact Sub.cons' rfl (by rw [F6]; first | (exfalso; omega) | (rw [if_pos ⟨by omega, by omega⟩]; done) | (rw [if_neg (by omega), if_pos ⟨by omega, by omega⟩]; done) | (rw [if_neg (by omega), if_neg (by omega)]; done)) (Sub.cons rfl (Sub.nil _))
                      · repeat (first | exact Sub.nil _ | refine Sub.cons rfl ?_)
                  ·
                    refine W.skip ?_
                    refine thenP_normal ?_
                    refine W.seqR ?_
                    refine LS.vv rfl rfl (by decide) (Val.fieldAddr0 fld33_0 rfl) ?_
                    refine LS.m rfl (Step.load rfl rfl (by decide) flat3 rfl (hM.o0.rd) (rfl) ?_)
                    refine LS.vv rfl rfl (by decide) (Val.eql rfl rfl) ?_
                    refine LS.vv rfl rfl (by decide) (Val.move rfl) ?_
                    refine LS.split 3 rfl (fun hg12 => ?_) (fun hg12 => ?_)
                    ·
                      first | (have hg12p := of_decide_eq_true hg12) | skip
                      refine LS.vg rfl rfl rfl hg12 (by decide) (Val.move rfl) ?_
                      refine LS.vg rfl rfl rfl hg12 (by decide) (Val.move rfl) ?_
                      refine LS.vg rfl rfl rfl hg12 (by decide) (Val.indexAddr Try.underlying27 elem35 rfl rfl (by omega) (hM.o1.rd) (by first | (rw [mv_len]; omega) | (rw [pc2_len]; omega) | (rw [tv_len]; omega))) ?_
                      refine LS.vg rfl rfl rfl hg12 (by decide) (Val.fieldAddr fld35_0 rfl (hM.o1.rd) (by first | (rw [mv_len]; omega) | (rw [pc2_len]; omega) | (rw [tv_len]; omega))) ?_
                      refine LS.mg rfl rfl hg12 (Step.load rfl rfl (by decide) flat22 rfl (hM.o1.rd) ((pc2_at (by omega)).1) ?_)
                      refine LS.vg rfl rfl rfl hg12 (by decide) (Val.eql rfl rfl) ?_
                      refine LS.vv rfl rfl (by decide) (Val.pickT rfl hg12 rfl) ?_
                      refine LS.nil ?_
                      first | refine W.condD rfl (fun hc13 => ?_) (fun hc13 => ?_) | refine W.cond rfl (fun hc13 => ?_) (fun hc13 => ?_)
                      ·
                        refine W.reg ?_
                        refine LS.vv rfl rfl (by decide) (Val.move rfl) ?_
                        first | refine LS.vv rfl rfl (by decide) (Val.subN (j := 1) rfl rfl (by omega) (by omega)) ?_ | refine LS.vv rfl rfl (by decide) (Val.sub64 rfl rfl (by omega)) ?_
                        refine LS.vv rfl rfl (by decide) (Val.assign rfl) ?_
                        refine LS.nil ?_
                        refine inBlk_normal ?_
                        refine thenP_normal ?_
                        refine W.reg ?_
                        first | refine LS.vv rfl rfl (by decide) (Val.addN (j := 1) rfl rfl (by omega)) ?_ | refine LS.vv rfl rfl (by decide) (Val.add64 rfl rfl (by omega)) ?_
                        refine LS.vv rfl rfl (by decide) (Val.move rfl) ?_
                        refine LS.nil ?_
                        refine thenP_normal ?_
                        refine ⟨k + 1, ?_, ?_, ⟨by omega, hM.tail, hB⟩, by omega⟩
                        · exact Sub.cons' rfl (by rw [F6]; first | (exfalso; omega) | (rw [if_pos ⟨by omega, by omega⟩]; done) | (rw [if_neg (by omega), if_pos ⟨by omega, by omega⟩]; done) | (rw [if_neg (by omega), if_neg (by omega)]; done)) (Sub.cons rfl (Sub.nil _))
                        · repeat (first | exact Sub.nil _ | refine Sub.cons rfl ?_)
                      ·
                        refine W.skip ?_
                        refine inBlk_normal ?_
                        refine thenP_normal ?_
                        refine W.reg ?_
                        first | refine LS.vv rfl rfl (by decide) (Val.addN (j := 1) rfl rfl (by omega)) ?_ | refine LS.vv rfl rfl (by decide) (Val.add64 rfl rfl (by omega)) ?_
                        refine LS.vv rfl rfl (by decide) (Val.move rfl) ?_
                        refine LS.nil ?_
                        refine thenP_normal ?_
                        refine ⟨k + 1, ?_, ?_, ⟨by omega, hM.tail, hB⟩, by omega⟩
                        · exact Sub.cons' rfl (by rw [F6]; first | (exfalso; omega) | (rw [if_pos ⟨by omega, by omega⟩]; done) | (rw [if_neg (by omega), if_pos ⟨by omega, by omega⟩]; done) | (rw [if_neg (by omega), if_neg (by omega)]; done)) (Sub.cons rfl (Sub.nil _))
                        · repeat (first | exact Sub.nil _ | refine Sub.cons rfl ?_)
                    ·
                      first | (have hg12p := of_decide_eq_false hg12) | skip
                      refine LS.s rfl rfl rfl hg12 (by decide) ?_
                      refine LS.s rfl rfl rfl hg12 (by decide) ?_
                      refine LS.s rfl rfl rfl hg12 (by decide) ?_
                      refine LS.s rfl rfl rfl hg12 (by decide) ?_
                      refine LS.s rfl rfl rfl hg12 (by decide) ?_
                      refine LS.s rfl rfl rfl hg12 (by decide) ?_
                      refine LS.vv rfl rfl (by decide) (Val.pickF rfl hg12 rfl) ?_
                      refine LS.nil ?_
                      refine W.condF rfl ?_
                      refine W.skip ?_
                      refine inBlk_normal ?_
                      refine thenP_normal ?_
                      refine W.reg ?_
                      first | refine LS.vv rfl rfl (by decide) (Val.addN (j := 1) rfl rfl (by omega)) ?_ | refine LS.vv rfl rfl (by decide) (Val.add64 rfl rfl (by omega)) ?_
                      refine LS.vv rfl rfl (by decide) (Val.move rfl) ?_
                      refine LS.nil ?_
                      refine thenP_normal ?_
                      refine ⟨k + 1, ?_, ?_, ⟨by omega, hM.tail, hB⟩, by omega⟩
                      · exact Sub.cons' rfl (by rw [F6]; first | (exfalso; omega) | (rw [if_pos ⟨by omega, by omega⟩]; done) | (rw [if_neg (by omega), if_pos ⟨by omega, by omega⟩]; done) | (rw [if_neg (by omega), if_neg (by omega)]; done)) (Sub.cons rfl (Sub.nil _))
                      · repeat (first | exact Sub.nil _ | refine Sub.cons rfl ?_)
                ·
                  first | (have hg8p := of_decide_eq_false hg8) | skip
                  refine LS.s rfl rfl rfl hg8 (by decide) ?_
                  refine LS.s rfl rfl rfl hg8 (by decide) ?_
                  refine LS.s rfl rfl rfl hg8 (by decide) ?_
                  refine LS.s rfl rfl rfl hg8 (by decide) ?_
                  refine LS.s rfl rfl rfl hg8 (by decide) ?_
                  refine LS.s rfl rfl rfl hg8 (by decide) ?_
                  refine LS.vv rfl rfl (by decide) (Val.pickF rfl hg8 rfl) ?_
                  refine LS.nil ?_
                  refine W.condF rfl ?_
                  refine W.skip ?_
                  refine thenP_normal ?_
                  refine W.seqR ?_
                  refine LS.vv rfl rfl (by decide) (Val.fieldAddr0 fld33_0 rfl) ?_
                  refine LS.m rfl (Step.load rfl rfl (by decide) flat3 rfl (hM.o0.rd) (rfl) ?_)
                  refine LS.vv rfl rfl (by decide) (Val.eql rfl rfl) ?_
                  refine LS.vv rfl rfl (by decide) (Val.move rfl) ?_
                  refine LS.split 3 rfl (fun hg14 => ?_) (fun hg14 => ?_)
                  ·
                    first | (have hg14p := of_decide_eq_true hg14) | skip
                    refine LS.vg rfl rfl rfl hg14 (by decide) (Val.move rfl) ?_
                    refine LS.vg rfl rfl rfl hg14 (by decide) (Val.move rfl) ?_
                    refine LS.vg rfl rfl rfl hg14 (by decide) (Val.indexAddr Try.underlying27 elem35 rfl rfl (by omega) (hM.o1.rd) (by first | (rw [mv_len]; omega) | (rw [pc2_len]; omega) | (rw [tv_len]; omega))) ?_
                    refine LS.vg rfl rfl rfl hg14 (by decide) (Val.fieldAddr fld35_0 rfl (hM.o1.rd) (by first | (rw [mv_len]; omega) | (rw [pc2_len]; omega) | (rw [tv_len]; omega))) ?_
                    refine LS.mg rfl rfl hg14 (Step.load rfl rfl (by decide) flat22 rfl (hM.o1.rd) ((pc2_at (by omega)).1) ?_)
                    refine LS.vg rfl rfl rfl hg14 (by decide) (Val.eql rfl rfl) ?_
                    refine LS.vv rfl rfl (by decide) (Val.pickT rfl hg14 rfl) ?_
                    refine LS.nil ?_
                    first | refine W.condD rfl (fun hc15 => ?_) (fun hc15 => ?_) | refine W.cond rfl (fun hc15 => ?_) (fun hc15 => ?_)
                    ·
                      refine W.reg ?_
                      refine LS.vv rfl rfl (by decide) (Val.move rfl) ?_
                      first | refine LS.vv rfl rfl (by decide) (Val.subN (j := 1) rfl rfl (by omega) (by omega)) ?_ | refine LS.vv rfl rfl (by decide) (Val.sub64 rfl rfl (by omega)) ?_
                      refine LS.vv rfl rfl (by decide) (Val.assign rfl) ?_
                      refine LS.nil ?_
                      refine inBlk_normal ?_
                      refine thenP_normal ?_
                      refine W.reg ?_
                      first | refine LS.vv rfl rfl (by decide) (Val.addN (j := 1) rfl rfl (by omega)) ?_ | refine LS.vv rfl rfl (by decide) (Val.add64 rfl rfl (by omega)) ?_
                      refine LS.vv rfl rfl (by decide) (Val.move rfl) ?_
                      refine LS.nil ?_
                      refine thenP_normal ?_
                      refine ⟨k + 1, ?_, ?_, ⟨by omega, hM.tail, hB⟩, by omega⟩
                      · exact Sub.cons' rfl (by rw [F6]; first | (exfalso; omega) | (rw [if_pos ⟨by omega, by omega⟩]; done) | (rw [if_neg (by omega), if_pos ⟨by omega, by omega⟩]; done) | (rw [if_neg (by omega), if_neg (by omega)]; done)) (Sub.cons rfl (Sub.nil _))
                      · repeat (first | exact Sub.nil _ | refine Sub.cons rfl ?_)
                    ·
                      refine W.skip ?_
                      refine inBlk_normal ?_
                      refine thenP_normal ?_
                      refine W.reg ?_
                      first | refine LS.vv rfl rfl (by decide) (Val.addN (j := 1) rfl rfl (by omega)) ?_ | refine LS.vv rfl rfl (by decide) (Val.add64 rfl rfl (by omega)) ?_
                      refine LS.vv rfl rfl (by decide) (Val.move rfl) ?_
                      refine LS.nil ?_
                      refine thenP_normal ?_
                      refine ⟨k + 1, ?_, ?_, ⟨by omega, hM.tail, hB⟩, by omega⟩
                      · exact Sub.cons' rfl (by rw [F6]; first | (exfalso; omega) | (rw [if_pos ⟨by omega, by omega⟩]; done) | (rw [if_neg (by omega), if_pos ⟨by omega, by omega⟩]; done) | (rw [if_neg (by omega), if_neg (by omega)]; done)) (Sub.cons rfl (Sub.nil _))
                      · repeat (first | exact Sub.nil _ | refine Sub.cons rfl ?_)
                  ·
                    first | (have hg14p := of_decide_eq_false hg14) | skip
                    refine LS.s rfl rfl rfl hg14 (by decide) ?_
                    refine LS.s rfl rfl rfl hg14 (by decide) ?_
                    refine LS.s rfl rfl rfl hg14 (by decide) ?_
                    refine LS.s rfl rfl rfl hg14 (by decide) ?_
                    refine LS.s rfl rfl rfl hg14 (by decide) ?_
                    refine LS.s rfl rfl rfl hg14 (by decide) ?_
                    refine LS.vv rfl rfl (by decide) (Val.pickF rfl hg14 rfl) ?_
                    refine LS.nil ?_
                    refine W.condF rfl ?_
                    refine W.skip ?_
                    refine inBlk_normal ?_
                    refine thenP_normal ?_
                    refine W.reg ?_
                    first | refine LS.vv rfl rfl (by decide) (Val.addN (j := 1) rfl rfl (by omega)) ?_ | refine LS.vv rfl rfl (by decide) (Val.add64 rfl rfl (by omega)) ?_
                    refine LS.vv rfl rfl (by decide) (Val.move rfl) ?_
                    refine LS.nil ?_
                    refine thenP_normal ?_
                    refine ⟨k + 1, ?_, ?_, ⟨by omega, hM.tail, hB⟩, by omega⟩
                    · exact Sub.cons' rfl (by rw [F6]; first | (exfalso; omega) | (rw [if_pos ⟨by omega, by omega⟩]; done) | (rw [if_neg (by omega), if_pos ⟨by omega, by omega⟩]; done) | (rw [if_neg (by omega), if_neg (by omega)]; done)) (Sub.cons rfl (Sub.nil _))
                    · repeat (first | exact Sub.nil _ | refine Sub.cons rfl ?_)
              ·
                refine W.exit ?_
                refine thenP_exit ?_
                refine thenP_exit ?_
                refine inBlk_exit ?_
                refine thenP_normal ?_
                refine W.seq ?_
                refine W.seqR ?_
                refine LS.vv rfl rfl (by decide) (Val.move rfl) ?_
                refine LS.vv rfl rfl (by decide) (Val.lss rfl rfl) ?_
                refine LS.vv rfl rfl (by decide) (Val.move rfl) ?_
                refine LS.split 2 rfl (fun hg16 => ?_) (fun hg16 => ?_)
                ·
                  first | (have hg16p := of_decide_eq_true hg16) | skip
                  refine LS.s rfl rfl rfl hg16 (by decide) ?_
                  refine LS.s rfl rfl rfl hg16 (by decide) ?_
                  refine LS.vv rfl rfl (by decide) (Val.pickT rfl hg16 rfl) ?_
                  refine LS.nil ?_
                  refine W.condT rfl ?_
                  refine W.seqR ?_
                  refine LS.vv rfl rfl (by decide) (Val.assign rfl) ?_
                  refine LS.nil ?_
                  refine W.ret ?_
                  refine thenP_ret ?_
                  refine ret1 (by first | exact .inl rfl | exact .inr rfl) rfl ?_
                  first | exact ⟨rfl, hB⟩ | contradiction | (exfalso; omega) | exact ⟨congrArg Value.bool (decide_eq_true (by omega)), hB⟩
                ·
                  first | (have hg16p := of_decide_eq_false hg16) | skip
                  refine LS.vg rfl rfl rfl hg16 (by decide) (Val.move rfl) ?_
                  refine LS.vg rfl rfl rfl hg16 (by decide) (Val.gtr rfl rfl) ?_
                  refine LS.vv rfl rfl (by decide) (Val.pickF rfl hg16 rfl) ?_
                  refine LS.nil ?_
                  first | refine W.condD rfl (fun hc17 => ?_) (fun hc17 => ?_) | refine W.cond rfl (fun hc17 => ?_) (fun hc17 => ?_)
                  ·
                    refine W.seqR ?_
                    refine LS.vv rfl rfl (by decide) (Val.assign rfl) ?_
                    refine LS.nil ?_
                    refine W.ret ?_
                    refine thenP_ret ?_
                    refine ret1 (by first | exact .inl rfl | exact .inr rfl) rfl ?_
                    first | exact ⟨rfl, hB⟩ | contradiction | (exfalso; omega) | exact ⟨congrArg Value.bool (decide_eq_true (by omega)), hB⟩
                  ·
                    refine W.skip ?_
                    refine thenP_normal ?_
                    refine W.seq ?_
                    refine W.seqR ?_
                    refine LS.vv rfl rfl (by decide) (Val.cast (v := .int .i64 ((0 : Nat) : Int)) (Val.assign rfl) rfl) ?_
                    refine LS.nil ?_
                    refine W.block ?_
                    obtain rfl : k = l.length := by omega
                    rw [List.take_length] at hcn hcn2
                    have hav := AV.all hd3 hd6 l hv
                    obtain ⟨LL, hAI⟩ := hav.ai
                    have hsh : Shape D0 (dT T) := by rw [hdt]; exact hAI.shape
                    have hl0 : (gT T 0).l.length = rowsOf D0 := by { have := hsh.rows 0 (by omega); rwa [dk_dT] at this }
                    rw [List.take_length]
                    refine W.loop (α := Nat) (fun row => [(11, .int .i64 (row : Int))]) [(6, _), (8, _)] (fun row w => (row ≤ rowsOf D0) ∧ Mz w w0.heap.size (⟨35, 2, pl, nl, cl, pc2 (aplay D0 l).out⟩ :: outO po co T :: (tz 5 T)) ∧ Below w0.heap.size w0 w) (fun row => rowsOf D0 - row) (0) (Sub.cons rfl (Sub.nil _)) (Sub.cons rfl (Sub.cons rfl (Sub.nil _))) ?_ ?_
                    · exact ⟨Nat.zero_le _, hM, hB⟩
                    rintro row w5 ⟨hrow, hM, hB⟩
                    try simp only at hM
                    simp only [List.cons_append, List.nil_append]
                    refine W.seq ?_
                    refine W.seqR ?_
                    refine LS.vv rfl rfl (by decide) (Val.move rfl) ?_
                    refine LS.vv rfl rfl (by decide) (Val.move rfl) ?_
                    refine LS.vv rfl rfl (by decide) (Val.index1 (j := 0) Try.underlying28 elem31 rfl rfl (by omega) (hM.o1.rd) (by first | (rw [mv_len]; omega) | (rw [pc2_len]; omega) | (rw [tv_len]; omega))) ?_
                    refine LS.m rfl (Step.load rfl rfl (by decide) flat31 rfl (hM.o1.rd) (tv_at (by omega)) ?_)
                    refine LS.vv rfl rfl (by decide) (Val.len Try.underlying31 rfl) ?_
                    refine LS.vv rfl rfl (by decide) (Val.lss rfl rfl) ?_
                    refine LS.nil ?_
                    first | refine W.condD rfl (fun hc18 => ?_) (fun hc18 => ?_) | refine W.cond rfl (fun hc18 => ?_) (fun hc18 => ?_)
                    ·
                      refine W.skip ?_
                      refine thenP_normal ?_
                      refine W.seq ?_
                      refine W.block ?_
                      refine W.seqR ?_
                      refine LS.vv rfl rfl (by decide) (Val.cast (v := .int .u8 ((0 : Nat) : Int)) (Val.assign rfl) rfl) ?_
                      refine LS.nil ?_
                      refine W.seq ?_
                      refine W.seqR ?_
                      refine LS.vv rfl rfl (by decide) (Val.move rfl) ?_
                      refine LS.vv rfl rfl (by decide) (Val.len Try.underlying28 rfl) ?_
                      refine LS.vv rfl rfl (by decide) (Val.cast (v := .int .i64 ((0 : Nat) : Int)) (Val.move rfl) rfl) ?_
                      refine LS.nil ?_
                      refine W.block ?_
                      refine W.loop (α := Nat) (fun j => [(12, .int .u8 (xr (fun i => cel (dT T) i row) j : Int)), (100, .int .i64 (j : Int))]) [(6, _), (8, _), (11, _), (98, _), (99, _)] (fun j w => (j ≤ D0) ∧ Mz w w0.heap.size (⟨35, 2, pl, nl, cl, pc2 (aplay D0 l).out⟩ :: outO po co T :: (tz 5 T)) ∧ Below w0.heap.size w0 w) (fun j => D0 - j) (0) (Sub.cons rfl (Sub.cons rfl (Sub.nil _))) (Sub.cons rfl (Sub.cons rfl (Sub.cons rfl (Sub.cons rfl (Sub.cons rfl (Sub.nil _)))))) ?_ ?_
                      · exact ⟨Nat.zero_le _, hM, hB⟩
                      rintro j w6 ⟨hj, hM, hB⟩
                      try simp only at hM
                      simp only [List.cons_append, List.nil_append]
                      have hxs := xr_succ (fun i => cel (dT T) i row) j
                      have hxl := xr_lt (f := fun i => cel (dT T) i row) (m := 8) (fun i => hsh.small i row) j
                      refine W.seqR ?_
                      refine LS.vv rfl rfl (by decide) (Val.lss rfl rfl) ?_
                      refine LS.nil ?_
                      refine W.seq ?_
                      first | refine W.condD rfl (fun hc19 => ?_) (fun hc19 => ?_) | refine W.cond rfl (fun hc19 => ?_) (fun hc19 => ?_)
                      ·
                        have hlj : (gT T j).l.length = rowsOf D0 := by { have := hsh.rows j (by omega); rwa [dk_dT] at this }
                        refine W.skip ?_
                        refine thenP_normal ?_
                        refine W.seq ?_
                        refine W.block ?_
                        refine W.seqR ?_
                        refine LS.vv rfl rfl (by decide) (Val.index1 Try.underlying28 elem31 rfl rfl (by omega) (hM.o1.rd) (by first | (rw [mv_len]; omega) | (rw [pc2_len]; omega) | (rw [tv_len]; omega))) ?_
                        refine LS.m rfl (Step.load rfl rfl (by decide) flat31 rfl (hM.o1.rd) (tv_at (by omega)) ?_)
                        refine LS.vv rfl rfl (by decide) (Val.assign rfl) ?_
                        refine LS.nil ?_
                        refine W.seq ?_
                        refine W.seqR ?_
                        refine LS.vv rfl rfl (by decide) (Val.move rfl) ?_
                        refine LS.vv rfl rfl (by decide) (Val.move rfl) ?_
                        refine LS.vv rfl rfl (by decide) (Val.len Try.underlying31 rfl) ?_
                        refine LS.vv rfl rfl (by decide) (Val.geq rfl rfl) ?_
                        refine LS.nil ?_
                        first | refine W.condD rfl (fun hc20 => ?_) (fun hc20 => ?_) | refine W.cond rfl (fun hc20 => ?_) (fun hc20 => ?_)
                        ·
                          refine W.seqR ?_
                          refine LS.vv rfl rfl (by decide) (Val.assign rfl) ?_
                          refine LS.nil ?_
                          refine W.ret ?_
                          refine thenP_ret ?_
                          refine inBlk_ret ?_
                          refine thenP_ret ?_
                          refine thenP_ret ?_
                          refine inBlk_ret ?_
                          refine thenP_ret ?_
                          refine inBlk_ret ?_
                          refine thenP_ret ?_
                          refine thenP_ret ?_
                          refine inBlk_ret ?_
                          refine thenP_ret ?_
                          refine ret1 (by first | exact .inl rfl | exact .inr rfl) rfl ?_
                          first | exact ⟨rfl, hB⟩ | contradiction | (exfalso; omega) | exact ⟨congrArg Value.bool (decide_eq_true (by omega)), hB⟩
                        ·
                          refine W.skip ?_
                          refine thenP_normal ?_
                          refine W.reg ?_
                          refine LS.vv rfl rfl (by decide) (Val.move rfl) ?_
                          refine LS.vv rfl rfl (by decide) (Val.move rfl) ?_
                          refine LS.vv rfl rfl (by decide) (Val.move rfl) ?_
                          refine LS.vv rfl rfl (by decide) (Val.index1 Try.underlying31 elem5 rfl rfl (by omega) ((hM.tx (k := j) (by omega) in2)) (yv_lt (by omega))) ?_
                          refine LS.m rfl (Step.load rfl rfl (by decide) flat5 rfl ((hM.tx (k := j) (by omega) in2)) (yv_at (by omega)) ?_)
                          have hc1 := hsh.small j row
                          have hce := cel_gT T j row
                          refine LS.vv rfl rfl (by decide) (Val.xorU8 rfl rfl (by omega) (by omega)) ?_
                          refine LS.vv rfl rfl (by decide) (Val.assign rfl) ?_
                          refine LS.nil ?_
                          refine inBlk_normal ?_
                          refine thenP_normal ?_
                          refine W.reg ?_
                          first | refine LS.vv rfl rfl (by decide) (Val.addN (j := 1) rfl rfl (by omega)) ?_ | refine LS.vv rfl rfl (by decide) (Val.add64 rfl rfl (by omega)) ?_
                          refine LS.vv rfl rfl (by decide) (Val.move rfl) ?_
                          refine LS.nil ?_
                          refine thenP_normal ?_
                          refine ⟨j + 1, ?_, ?_, ⟨by omega, hM, hB⟩, by omega⟩
                          · exact Sub.cons' rfl (by rw [hxs, ← hce]) (Sub.cons rfl (Sub.nil _))
                          · repeat (first | exact Sub.nil _ | refine Sub.cons rfl ?_)
                      ·
                        obtain rfl : j = D0 := by omega
                        have hrs : (aplay j l).lost = -1 → xr (fun i => cel (dT T) i row) j = 0 := fun h => by rw [hdt]; exact hav.rows h (by omega)
                        have hrs2 : (aplay j l).cnt = 0 → xr (fun i => cel (dT T) i row) j = 0 := fun h => hrs (by rw [hcn] at h; split at h; assumption; omega)
                        refine W.exit ?_
                        refine thenP_exit ?_
                        refine thenP_exit ?_
                        refine inBlk_exit ?_
                        refine thenP_normal ?_
                        refine W.seqR ?_
                        refine LS.vv rfl rfl (by decide) (Val.move rfl) ?_
                        refine LS.vv rfl rfl (by decide) (Val.eql rfl rfl) ?_
                        refine LS.vv rfl rfl (by decide) (Val.move rfl) ?_
                        refine LS.split 2 rfl (fun hg21 => ?_) (fun hg21 => ?_)
                        ·
                          first | (have hg21p := of_decide_eq_true hg21) | skip
                          refine LS.vg rfl rfl rfl hg21 (by decide) (Val.move rfl) ?_
                          refine LS.vg rfl rfl rfl hg21 (by decide) (Val.neq rfl rfl) ?_
                          refine LS.vv rfl rfl (by decide) (Val.pickT rfl hg21 rfl) ?_
                          refine LS.nil ?_
                          first | refine W.condD rfl (fun hc22 => ?_) (fun hc22 => ?_) | refine W.cond rfl (fun hc22 => ?_) (fun hc22 => ?_)
                          ·
                            refine W.seqR ?_
                            refine LS.vv rfl rfl (by decide) (Val.assign rfl) ?_
                            refine LS.nil ?_
                            refine W.ret ?_
                            refine inBlk_ret ?_
                            refine thenP_ret ?_
                            refine thenP_ret ?_
                            refine inBlk_ret ?_
                            refine thenP_ret ?_
                            refine ret1 (by first | exact .inl rfl | exact .inr rfl) rfl ?_
                            first | exact ⟨rfl, hB⟩ | contradiction | (exfalso; omega) | exact ⟨congrArg Value.bool (decide_eq_true (by omega)), hB⟩
                          ·
                            refine W.skip ?_
                            refine inBlk_normal ?_
                            refine thenP_normal ?_
                            refine W.reg ?_
                            refine LS.vv rfl rfl (by decide) (Val.move rfl) ?_
                            first | refine LS.vv rfl rfl (by decide) (Val.addN (j := 1) rfl rfl (by omega)) ?_ | refine LS.vv rfl rfl (by decide) (Val.add64 rfl rfl (by omega)) ?_
                            refine LS.vv rfl rfl (by decide) (Val.assign rfl) ?_
                            refine LS.nil ?_
                            refine thenP_normal ?_
                            refine ⟨row + 1, ?_, ?_, ⟨by omega, hM, hB⟩, by omega⟩
                            · exact (Sub.cons rfl (Sub.nil _))
                            · repeat (first | exact Sub.nil _ | refine Sub.cons rfl ?_)
                        ·
                          first | (have hg21p := of_decide_eq_false hg21) | skip
                          refine LS.s rfl rfl rfl hg21 (by decide) ?_
                          refine LS.s rfl rfl rfl hg21 (by decide) ?_
                          refine LS.vv rfl rfl (by decide) (Val.pickF rfl hg21 rfl) ?_
                          refine LS.nil ?_
                          refine W.condF rfl ?_
                          refine W.skip ?_
                          refine inBlk_normal ?_
                          refine thenP_normal ?_
                          refine W.reg ?_
                          refine LS.vv rfl rfl (by decide) (Val.move rfl) ?_
                          first | refine LS.vv rfl rfl (by decide) (Val.addN (j := 1) rfl rfl (by omega)) ?_ | refine LS.vv rfl rfl (by decide) (Val.add64 rfl rfl (by omega)) ?_
                          refine LS.vv rfl rfl (by decide) (Val.assign rfl) ?_
                          refine LS.nil ?_
                          refine thenP_normal ?_
                          refine ⟨row + 1, ?_, ?_, ⟨by omega, hM, hB⟩, by omega⟩
                          · exact (Sub.cons rfl (Sub.nil _))
                          · repeat (first | exact Sub.nil _ | refine Sub.cons rfl ?_)
                    ·
                      refine W.exit ?_
                      refine thenP_exit ?_
                      refine thenP_exit ?_
                      refine inBlk_exit ?_
                      refine thenP_normal ?_
                      refine W.seqR ?_
                      refine LS.vv rfl rfl (by decide) (Val.move rfl) ?_
                      refine LS.vv rfl rfl (by decide) (Val.index1 (j := 0) Try.underlying28 elem31 rfl rfl (by omega) (hM.o1.rd) (by first | (rw [mv_len]; omega) | (rw [pc2_len]; omega) | (rw [tv_len]; omega))) ?_
                      refine LS.m rfl (Step.load rfl rfl (by decide) flat31 rfl (hM.o1.rd) (tv_at (by omega)) ?_)
                      refine LS.vv rfl rfl (by decide) (Val.len Try.underlying31 rfl) ?_
                      refine LS.vv rfl rfl (by decide) (Val.gtr rfl rfl) ?_
                      refine LS.vv rfl rfl (by decide) (Val.assign rfl) ?_
                      refine LS.nil ?_
                      refine W.ret ?_
                      refine ret1 (by first | exact .inl rfl | exact .inr rfl) rfl ?_
                      first | exact ⟨rfl, hB⟩ | contradiction | (exfalso; omega) | exact ⟨congrArg Value.bool (decide_eq_true (by omega)), hB⟩

end Go.Proofs.Ytldcpihjoakigaa
