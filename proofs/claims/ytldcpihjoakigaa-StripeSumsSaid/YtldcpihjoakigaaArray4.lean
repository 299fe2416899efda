/-
  The walk of stripe.Play.
-/
import Derived.Test.YtldcpihjoakigaaArray3
import Derived.Test.YtldcpihjoakigaaMovesPlain
namespace Go.Proofs.Ytldcpihjoakigaa
open Go Go.RowKit V
set_option linter.unusedVariables false
set_option linter.unusedSimpArgs false

theorem Play_any (d : Int) (l : List Mv) (p : Option Addr) (c m : Nat) (w0 : World) (hr : Rd w0 p (mv l)) (hm : l.length = m) (hl : m ≤ 9223372036854775807) (hv : ∀ x ∈ l, x.val < 256) :
    CallsV Try.prog 12 #[.int .i64 d, .slice p m c] w0 (fun v w => ∃ (pl : Option Addr) (cl nl : Nat) (po : Option Addr) (co nd e : Nat) (out : List (Nat × Nat)) (T : List Tx), v = .tuple #[.slice pl nl cl, .slice po nd co, .int .i64 (e : Int)] ∧ (e = 0 ↔ 3 ≤ d ∧ d ≤ 6 ∧ m ≤ 100) ∧ Mz w w0.heap.size (⟨35, 2, pl, nl, cl, pc2 out⟩ :: outO po co T :: tz 5 T) ∧ nd = T.length ∧ (e = 0 → nl = m ∧ out = (aplay d.toNat l).out ∧ dT T = (aplay d.toNat l).D ∧ T.length = d.toNat) ∧ (e ≠ 0 → nl = 0) ∧ Below w0.heap.size w0 w) := by
  refine enter3 Try.func12 rfl Try.ntmps12 (by simp) rfl ?_
  have hB := Below.refl w0.heap.size w0
  simp only [argLoc, Nat.zero_add]
  have hM := Mz.nil w0 w0.heap.size
  subst hm
  refine W.seqR ?_
  refine LS.vv rfl rfl (by decide) (Val.assign rfl) ?_
  refine LS.vv rfl rfl (by decide) (Val.assign rfl) ?_
  refine LS.vv rfl rfl (by decide) (Val.cast (v := .int .i64 ((0 : Nat) : Int)) (Val.assign rfl) rfl) ?_
  refine LS.nil ?_
  refine W.seq ?_
  refine W.seqR ?_
  refine LS.vv rfl rfl (by decide) (Val.move rfl) ?_
  refine LS.vv rfl rfl (by decide) (Val.lss rfl rfl) ?_
  refine LS.vv rfl rfl (by decide) (Val.move rfl) ?_
  refine LS.split 2 rfl (fun hg1 => ?_) (fun hg1 => ?_)
  ·
    first | (have hg1p := of_decide_eq_true hg1) | skip
    refine LS.s rfl rfl rfl hg1 (by decide) ?_
    refine LS.s rfl rfl rfl hg1 (by decide) ?_
    refine LS.vv rfl rfl (by decide) (Val.pickT rfl hg1 rfl) ?_
    refine LS.nil ?_
    refine W.condT rfl ?_
    refine W.seqR ?_
    refine LS.vv rfl rfl (by decide) (Val.assign rfl) ?_
    refine LS.vv rfl rfl (by decide) (Val.assign rfl) ?_
    refine LS.vv rfl rfl (by decide) (Val.cast (v := .int .i64 ((4 : Nat) : Int)) (Val.assign rfl) rfl) ?_
    refine LS.nil ?_
    refine W.ret ?_
    refine thenP_ret ?_
    refine ret3 (by first | exact .inl rfl | exact .inr rfl) rfl rfl rfl ?_
    first | (refine ⟨none, 0, 0, none, 0, 0, 4, [], [], rfl, by omega, (((Mz.nil _ _).addNil 31 1).addNil 35 2), rfl, fun h => by exfalso; omega, fun _ => rfl, hB⟩; done) | (refine ⟨none, 0, 0, none, 0, 0, 1, [], [], rfl, by omega, (((Mz.nil _ _).addNil 31 1).addNil 35 2), rfl, fun h => by exfalso; omega, fun _ => rfl, hB⟩; done) | (obtain rfl : k = l.length := (by omega); rw [List.take_length] at hM hdt; exact ⟨pl, cl, _, po, co, _, 0, _, T, rfl, by omega, hM.drop1, rfl, fun _ => ⟨rfl, rfl, hdt, hTl⟩, fun h => absurd rfl h, hB⟩)
  ·
    first | (have hg1p := of_decide_eq_false hg1) | skip
    refine LS.vg rfl rfl rfl hg1 (by decide) (Val.move rfl) ?_
    refine LS.vg rfl rfl rfl hg1 (by decide) (Val.gtr rfl rfl) ?_
    refine LS.vv rfl rfl (by decide) (Val.pickF rfl hg1 rfl) ?_
    refine LS.nil ?_
    first | refine W.condD rfl (fun hc2 => ?_) (fun hc2 => ?_) | refine W.cond rfl (fun hc2 => ?_) (fun hc2 => ?_)
    ·
      refine W.seqR ?_
      refine LS.vv rfl rfl (by decide) (Val.assign rfl) ?_
      refine LS.vv rfl rfl (by decide) (Val.assign rfl) ?_
      refine LS.vv rfl rfl (by decide) (Val.cast (v := .int .i64 ((4 : Nat) : Int)) (Val.assign rfl) rfl) ?_
      refine LS.nil ?_
      refine W.ret ?_
      refine thenP_ret ?_
      refine ret3 (by first | exact .inl rfl | exact .inr rfl) rfl rfl rfl ?_
      first | (refine ⟨none, 0, 0, none, 0, 0, 4, [], [], rfl, by omega, (((Mz.nil _ _).addNil 31 1).addNil 35 2), rfl, fun h => by exfalso; omega, fun _ => rfl, hB⟩; done) | (refine ⟨none, 0, 0, none, 0, 0, 1, [], [], rfl, by omega, (((Mz.nil _ _).addNil 31 1).addNil 35 2), rfl, fun h => by exfalso; omega, fun _ => rfl, hB⟩; done) | (obtain rfl : k = l.length := (by omega); rw [List.take_length] at hM hdt; exact ⟨pl, cl, _, po, co, _, 0, _, T, rfl, by omega, hM.drop1, rfl, fun _ => ⟨rfl, rfl, hdt, hTl⟩, fun h => absurd rfl h, hB⟩)
    ·
      refine W.skip ?_
      refine thenP_normal ?_
      refine W.seq ?_
      refine W.seqR ?_
      refine LS.vv rfl rfl (by decide) (Val.move rfl) ?_
      refine LS.vv rfl rfl (by decide) (Val.len Try.underlying26 rfl) ?_
      refine LS.vv rfl rfl (by decide) (Val.gtr rfl rfl) ?_
      refine LS.nil ?_
      first | refine W.condD rfl (fun hc3 => ?_) (fun hc3 => ?_) | refine W.cond rfl (fun hc3 => ?_) (fun hc3 => ?_)
      ·
        refine W.seqR ?_
        refine LS.vv rfl rfl (by decide) (Val.assign rfl) ?_
        refine LS.vv rfl rfl (by decide) (Val.assign rfl) ?_
        refine LS.vv rfl rfl (by decide) (Val.cast (v := .int .i64 ((1 : Nat) : Int)) (Val.assign rfl) rfl) ?_
        refine LS.nil ?_
        refine W.ret ?_
        refine thenP_ret ?_
        refine ret3 (by first | exact .inl rfl | exact .inr rfl) rfl rfl rfl ?_
        first | (refine ⟨none, 0, 0, none, 0, 0, 4, [], [], rfl, by omega, (((Mz.nil _ _).addNil 31 1).addNil 35 2), rfl, fun h => by exfalso; omega, fun _ => rfl, hB⟩; done) | (refine ⟨none, 0, 0, none, 0, 0, 1, [], [], rfl, by omega, (((Mz.nil _ _).addNil 31 1).addNil 35 2), rfl, fun h => by exfalso; omega, fun _ => rfl, hB⟩; done) | (obtain rfl : k = l.length := (by omega); rw [List.take_length] at hM hdt; exact ⟨pl, cl, _, po, co, _, 0, _, T, rfl, by omega, hM.drop1, rfl, fun _ => ⟨rfl, rfl, hdt, hTl⟩, fun h => absurd rfl h, hB⟩)
      ·
        refine W.skip ?_
        refine thenP_normal ?_
        refine W.seqR ?_
        refine LS.vv rfl rfl (by decide) (Val.move rfl) ?_
        obtain ⟨D0, rfl⟩ := Int.eq_ofNat_of_zero_le (show 0 ≤ d by omega)
        have hd3 : 3 ≤ D0 := by omega
        have hd6 : D0 ≤ 6 := by omega
        refine LS.m rfl (Step.call body20 rfl rfl (by decide) rfl (CallsV.mono (New_any D0 _ hd3 hd6) ?_))
        rintro _ w1 ⟨g, po, co, T0, rfl, hMn, hTl, hdt, hb1⟩
        replace hM := hM.adds hB.size hb1 hMn
        replace hB := hB.trans (hb1.mono hB.size)
        simp only [List.cons_append, List.append_nil] at hM
        refine LS.vv rfl rfl (by decide) (Val.assign rfl) ?_
        refine LS.nil ?_
        refine W.seqR ?_
        refine LS.vv rfl rfl (by decide) (Val.assign rfl) ?_
        refine LS.nil ?_
        refine W.seq ?_
        refine W.seqR ?_
        refine LS.vv rfl rfl (by decide) (Val.move rfl) ?_
        refine LS.vv rfl rfl (by decide) (Val.len Try.underlying26 rfl) ?_
        refine LS.vv rfl rfl (by decide) (Val.cast (v := .int .i64 ((0 : Nat) : Int)) (Val.move rfl) rfl) ?_
        refine LS.nil ?_
        refine W.block ?_
        replace hM := hM.addNil 35 2
        refine W.loop (α := Nat × List Tx × Int × Option Addr × Nat) (fun gg => [(8, .slice gg.2.2.2.1 gg.1 gg.2.2.2.2), (26, .int .i64 (gg.1 : Int))]) [(7, _), (24, _), (25, _)] (fun gg w => (gg.1 ≤ l.length ∧ gg.2.1.length = D0 ∧ dT gg.2.1 = (aplay D0 (l.take gg.1)).D ∧ gg.2.2.1 = (aplay D0 (l.take gg.1)).lost) ∧ Mz w w0.heap.size (⟨35, 2, gg.2.2.2.1, gg.1, gg.2.2.2.2, pc2 (aplay D0 (l.take gg.1)).out⟩ :: arrO g po gg.2.1.length co gg.2.2.1 :: outO po co gg.2.1 :: (tz 5 gg.2.1)) ∧ Below w0.heap.size w0 w) (fun gg => l.length - gg.1) ((0, T0, -1, none, 0)) (Sub.cons rfl (Sub.cons rfl (Sub.nil _))) (Sub.cons rfl (Sub.cons rfl (Sub.cons rfl (Sub.nil _)))) ?_ ?_
        · exact ⟨⟨Nat.zero_le _, hTl, hdt, rfl⟩, hM, hB⟩
        rintro ⟨k, T, lost, pl, cl⟩ w2 ⟨⟨hk, hTl, hdt, hlo⟩, hM, hB⟩
        try simp only at hM
        simp only [List.cons_append, List.nil_append]
        simp only at hk hTl hdt hlo
        obtain ⟨LL, hAI⟩ := (AV.all hd3 hd6 (l.take k) (fun x hx => hv x (List.mem_of_mem_take hx))).ai
        have hsh := hAI.shape
        refine W.seqR ?_
        refine LS.vv rfl rfl (by decide) (Val.lss rfl rfl) ?_
        refine LS.nil ?_
        refine W.seq ?_
        first | refine W.condD rfl (fun hc4 => ?_) (fun hc4 => ?_) | refine W.cond rfl (fun hc4 => ?_) (fun hc4 => ?_)
        ·
          refine W.skip ?_
          refine thenP_normal ?_
          refine W.seq ?_
          refine W.block ?_
          refine W.seqR ?_
          refine LS.vv rfl rfl (by decide) (Val.indexAddr Try.underlying26 elem33 rfl rfl (by omega) ((hr.below hB)) (by rw [mv_len]; omega)) ?_
          refine LS.m rfl (Step.loadAgg (vs := [.int .i64 (gM l k).kind, .int .i64 (gM l k).block, .int .u8 ((gM l k).val : Int)]) rfl rfl (by decide) agg33 rfl ((hr.below hB)) ((mv_at (by omega)).1) rfl (by decide) ?_)
          refine LS.m rfl (Step.allocZ rfl rfl (by decide) elem33 rfl (by decide) ?_)
          rintro w3 hO3 hg3 hbl3 hsz3
          replace hM := hM.add hB.size hbl3 hO3
          try simp only [List.length_cons, List.length_nil, Nat.zero_add, Nat.reduceAdd, Value.cells, List.toList_toArray, List.append_nil, List.set_cons_zero, List.set_cons_succ] at hM
          replace hB := hB.trans (hbl3.mono hB.size)
          generalize w2.heap.size = gg3 at *
          refine LS.m rfl (Step.storeAgg0 (B := w0.heap.size) rfl rfl agg33 rfl rfl rfl (by decide) (by first | exact one_map _ (fun _ => rfl) _ | simp [Value.oneCell']) (hM.o0) rfl hB.size ?_)
          rintro w4 hO4 hg4 hbl4 hsz4
          replace hM := hM.s0 (e := _) hg4 hO4 inl_block
          try simp only [List.set_cons_zero, List.set_cons_succ] at hM
          replace hB := hB.trans hbl4
          refine LS.nil ?_
          refine W.seqR ?_
          refine LS.vv rfl rfl (by decide) (Val.move rfl) ?_
          refine LS.m rfl (Step.loadAgg0 rfl rfl (by decide) agg33 rfl (hM.o0.rd) rfl (by decide) ?_)
          refine LS.m rfl (Step.call body21 rfl rfl (by decide) rfl (CallsV.mono (do_any T lost po g co D0 w0.heap.size [⟨35, 2, pl, k, cl, pc2 (aplay D0 (l.take k)).out⟩] _ (toAM hM) hB.size hTl (by rw [hdt]; exact hsh) hd3 hd6 (gM l k).kind (gM l k).block (gM l k).val (hv _ (gM_mem (by omega)))) ?_))
          rintro _ w5 ⟨T2, l2, vv, e, rfl, hM5, hl2, hado, hb5⟩
          replace hM := fromAM hM5
          replace hB := hB.trans hb5
          refine LS.vv rfl rfl (by decide) (Val.move rfl) ?_
          refine LS.vv rfl rfl (by decide) (Val.extract rfl rfl) ?_
          refine LS.vv rfl rfl (by decide) (Val.extract rfl rfl) ?_
          refine LS.vv rfl rfl (by decide) (Val.assign rfl) ?_
          refine LS.vv rfl rfl (by decide) (Val.assign rfl) ?_
          refine LS.nil ?_
          refine W.reg ?_
          refine LS.vv rfl rfl (by decide) (Val.move rfl) ?_
          refine LS.vv rfl rfl (by decide) (Val.move rfl) ?_
          refine LS.vv rfl rfl (by decide) (Val.move rfl) ?_
          refine LS.vv rfl rfl (by decide) (Val.build str35 elem35 rfl rfl rfl) ?_
          refine LS.m rfl (Step.litZ rfl rfl (by decide) Try.underlying27 elem35 rfl (by decide) rfl rfl (by decide) ?_)
          rintro w6 hO6 hg6 hbl6 hsz6
          replace hM := hM.add hB.size hbl6 hO6
          try simp only [List.length_cons, List.length_nil, Nat.zero_add, Nat.reduceAdd, Value.cells, List.toList_toArray, List.append_nil, List.set_cons_zero, List.set_cons_succ] at hM
          replace hB := hB.trans (hbl6.mono hB.size)
          generalize w5.heap.size = gg6 at *
          refine LS.m rfl (Step.appendZ (B := w0.heap.size) rfl rfl (by decide) Try.underlying27 elem35 rfl (by decide) rfl rfl (hM.o1) (hM.o0.rd) (by first | rfl | (simp; done) | (simp; omega)) (by first | exact one_map _ (fun _ => rfl) _ | simp [Value.oneCell']) (by omega) (by omega) hB.size ?_)
          rintro p7 c7 w7 hO7 hg7 hbl7 hbk7
          replace hM := hM.s1 (e := _) hg7 hO7 hbk7
          replace hM := hM.tail
          replace hB := hB.trans hbl7
          refine LS.vv rfl rfl (by decide) (Val.assign rfl) ?_
          refine LS.nil ?_
          refine inBlk_normal ?_
          refine thenP_normal ?_
          refine W.reg ?_
          first | refine LS.vv rfl rfl (by decide) (Val.addN (j := 1) rfl rfl (by omega)) ?_ | refine LS.vv rfl rfl (by decide) (Val.add64 rfl rfl (by omega)) ?_
          refine LS.vv rfl rfl (by decide) (Val.move rfl) ?_
          refine LS.nil ?_
          refine thenP_normal ?_
          rw [hdt, hlo] at hado
          have hst := aplay_take (d := D0) (l := l) (k := k) (by omega)
          refine ⟨(k + 1, T2, l2, p7, c7), ?_, ?_, ⟨⟨by simp only; omega, hl2, ?_, ?_⟩, ?_, hB⟩, by simp only; omega⟩
          · exact (Sub.cons rfl (Sub.cons rfl (Sub.nil _)))
          · repeat (first | exact Sub.nil _ | refine Sub.cons rfl ?_)
          · simp only; rw [hst]; exact congrArg (fun x => x.1) hado
          · simp only; rw [hst]; exact congrArg (fun x => x.2.1) hado
          · have e1 : vv = (anew D0 (aplay D0 (l.take k)) (gM l k)).2.2.1 := congrArg (fun x => x.2.2.1) hado
            have e2 : e = (anew D0 (aplay D0 (l.take k)) (gM l k)).2.2.2 := congrArg (fun x => x.2.2.2) hado
            have e3 : (aplay D0 (l.take (k + 1))).out = (aplay D0 (l.take k)).out ++ [(e, vv)] := by rw [hst, e1, e2]; rfl
            simp only [e3]
            rw [← pc2_app]
            exact hM
        ·
          refine W.exit ?_
          refine thenP_exit ?_
          refine thenP_exit ?_
          refine inBlk_exit ?_
          refine thenP_normal ?_
          refine W.seqFz 8 [(0, true), (1, true), (2, true), (3, true), (4, true), (5, true), (6, true), (7, true)] mixed (by kernel_rfl) hB hM ?_
          replace hB := hB.drew
          replace hM := hM.drew
          refine DF.vv rfl rfl rfl (by decide) (Val.move rfl) ?_
          refine DF.vv rfl rfl rfl (by decide) (Val.move rfl) ?_
          first | refine DF.vv rfl rfl rfl (by decide) (Val.nilCheck rfl) ?_ | refine DF.vv rfl rfl rfl (by decide) (Val.nilCheckP rfl) ?_
          refine DF.vv rfl rfl rfl (by decide) (Val.fieldAddr0 fld64_0 rfl) ?_
          refine DF.vv rfl rfl rfl (by decide) (Val.load flat28 rfl (fun _ h => h.2.o1.rd) (rfl)) ?_
          refine DF.vv rfl rfl rfl (by decide) (Val.assign rfl) ?_
          refine DF.vv rfl rfl rfl (by decide) (Val.assign rfl) ?_
          refine DF.vv rfl rfl rfl (by decide) (Val.cast (v := .int .i64 ((0 : Nat) : Int)) (Val.assign rfl) rfl) ?_
          refine DF.nil ?_
          refine W.ret ?_
          refine ret3 (by first | exact .inl rfl | exact .inr rfl) rfl rfl rfl ?_
          first | (refine ⟨none, 0, 0, none, 0, 0, 4, [], [], rfl, by omega, (((Mz.nil _ _).addNil 31 1).addNil 35 2), rfl, fun h => by exfalso; omega, fun _ => rfl, hB⟩; done) | (refine ⟨none, 0, 0, none, 0, 0, 1, [], [], rfl, by omega, (((Mz.nil _ _).addNil 31 1).addNil 35 2), rfl, fun h => by exfalso; omega, fun _ => rfl, hB⟩; done) | (obtain rfl : k = l.length := (by omega); rw [List.take_length] at hM hdt; exact ⟨pl, cl, _, po, co, _, 0, _, T, rfl, by omega, hM.drop1, rfl, fun _ => ⟨rfl, rfl, hdt, hTl⟩, fun h => absurd rfl h, hB⟩)

end Go.Proofs.Ytldcpihjoakigaa
