/-
  The walk of phrase.Parse.
-/
import Derived.Test.YtcoplafphgpmpaaPhrasePlain
import Derived.Test.YtcoplafphgpmpaaVfacts3
import Derived.Test.YtcoplafphgpmpaaVfacts2
import Derived.Test.YtcoplafphgpmpaaVmap2
namespace Go.Proofs.Ytcoplafphgpmpaa
open Go Go.RowKit V
set_option linter.unusedVariables false

theorem Parse_any (t : List Nat) (p : Option Addr) (c m : Nat) (w0 : World) (hr : Rd w0 p (yv t)) (hm : t.length = m) (hl : m ≤ 9223372036854775807) :
    CallsV Try.prog 14 #[.slice p m c] w0 (fun v w => ∃ (p2 : Option Addr) (c2 : Nat) (L : List (Nat × Nat)) (e : Nat), v = .tuple #[.slice p2 L.length c2, .int .i64 (e : Int)] ∧ OwnZ w w0.heap.size 28 2 p2 L.length c2 (pc2 L) ∧ (e = 0 ↔ m ≤ 64) ∧ (e = 0 → L = parse t) ∧ (e ≠ 0 → L = []) ∧ Below w0.heap.size w0 w) := by
  refine enter2 Try.func14 rfl Try.ntmps14 (by simp) rfl ?_
  have hB := Below.refl w0.heap.size w0
  simp only [argLoc]
  have hM := Mz.nil w0 w0.heap.size
  subst hm
  refine W.seqR ?_
  refine LS.vv rfl rfl (by decide) (Val.assign rfl) ?_
  refine LS.vv rfl rfl (by decide) (Val.cast (v := .int .i64 ((0 : Nat) : Int)) (Val.assign rfl) rfl) ?_
  refine LS.nil ?_
  refine W.seq ?_
  refine W.seqR ?_
  refine LS.vv rfl rfl (by decide) (Val.move rfl) ?_
  refine LS.vv rfl rfl (by decide) (Val.len Try.underlying22 rfl) ?_
  refine LS.vv rfl rfl (by decide) (Val.gtr rfl rfl) ?_
  refine LS.nil ?_
  first | refine W.condD rfl (fun hc1 => ?_) (fun hc1 => ?_) | refine W.cond rfl (fun hc1 => ?_) (fun hc1 => ?_)
  ·
    refine W.seqR ?_
    refine LS.vv rfl rfl (by decide) (Val.assign rfl) ?_
    refine LS.vv rfl rfl (by decide) (Val.cast (v := .int .i64 ((1 : Nat) : Int)) (Val.assign rfl) rfl) ?_
    refine LS.nil ?_
    refine W.ret ?_
    refine thenP_ret ?_
    refine ret2 (by first | exact .inl rfl | exact .inr rfl) rfl rfl ?_
    first | (refine ⟨none, 0, [], 1, rfl, OwnZ.nil _ _ _ _, ⟨fun h => by omega, fun h => by omega⟩, fun h => by omega, fun _ => rfl, hB⟩; done) | (obtain rfl : k = t.length := (by omega); exact ⟨po, co, _, 0, rfl, hM.o0, ⟨fun _ => by omega, fun _ => rfl⟩, fun _ => rfl, fun h => absurd rfl h, hB⟩)
  ·
    refine W.skip ?_
    refine thenP_normal ?_
    refine W.seqR ?_
    refine LS.m rfl (Step.makeMap (enc := enc2 .i64 .u8) rfl rfl (by decide) ?_)
    rintro w1 hn1 hbl1 hsz1
    first | replace hmp := hmp.below hbl1 | replace hmp := hmp.offZ hM.o0 hg1 | replace hmp := hmp.offZ hM.o1 hg1 | replace hmp := hmp.offZ hM.o2 hg1 | replace hmp := hmp.offZ hM.o3 hg1 | replace hmp := hmp.offZ hM.o4 hg1 | skip
    replace hM := hM.below hbl1
    have hmp := hn1.base hB.size
    replace hB := hB.trans (hbl1.mono hB.size)
    refine LS.vv rfl rfl (by decide) (Val.assign rfl) ?_
    refine LS.nil ?_
    refine W.seqR ?_
    refine LS.vv rfl rfl (by decide) (Val.assign rfl) ?_
    refine LS.nil ?_
    refine W.seqR ?_
    refine LS.vv rfl rfl (by decide) (Val.cast (v := .int .i64 ((0 : Nat) : Int)) (Val.assign rfl) rfl) ?_
    refine LS.nil ?_
    refine W.seq ?_
    refine W.seqR ?_
    refine LS.vv rfl rfl (by decide) (Val.move rfl) ?_
    refine LS.vv rfl rfl (by decide) (Val.len Try.underlying22 rfl) ?_
    refine LS.vv rfl rfl (by decide) (Val.cast (v := .int .i64 ((0 : Nat) : Int)) (Val.move rfl) rfl) ?_
    refine LS.nil ?_
    refine W.block ?_
    replace hM := hM.addNil 28 2
    refine W.loop (α := Nat × Option Addr × Nat) (fun g => [(5, .slice g.2.1 (paTo t.length t g.1).out.length g.2.2), (6, .int .i64 ((paTo t.length t g.1).at_ : Int)), (18, .int .i64 (g.1 : Int))]) [(0, _), (4, _), (16, _), (17, _)] (fun g w => (g.1 ≤ t.length ∧ OwnMap (enc2 .i64 .u8) w w0.heap.size w0.heap.size (knF (paTo t.length t g.1).kn)) ∧ Mz w w0.heap.size [⟨28, 2, g.2.1, (paTo t.length t g.1).out.length, g.2.2, pc2 (paTo t.length t g.1).out⟩] ∧ Below w0.heap.size w0 w) (fun g => t.length - g.1) ((0, none, 0)) (Sub.cons rfl (Sub.cons rfl (Sub.cons rfl (Sub.nil _)))) (Sub.cons rfl (Sub.cons rfl (Sub.cons rfl (Sub.cons rfl (Sub.nil _))))) ?_ ?_
    · exact ⟨⟨Nat.zero_le _, hmp⟩, hM, hB⟩
    rintro ⟨k, po, co⟩ w2 ⟨⟨hk, hmp⟩, hM, hB⟩
    try simp only at hM
    simp only [List.cons_append, List.nil_append]
    simp only at hk hmp
    have hpl := paTo_len t.length t k
    have hps := paTo_succ t.length t k
    refine W.seqR ?_
    refine LS.vv rfl rfl (by decide) (Val.lss rfl rfl) ?_
    refine LS.nil ?_
    refine W.seq ?_
    first | refine W.condD rfl (fun hc2 => ?_) (fun hc2 => ?_) | refine W.cond rfl (fun hc2 => ?_) (fun hc2 => ?_)
    ·
      refine W.skip ?_
      refine thenP_normal ?_
      refine W.seq ?_
      refine W.block ?_
      refine W.seqR ?_
      refine LS.vv rfl rfl (by decide) (Val.move rfl) ?_
      refine LS.vv rfl rfl (by decide) (Val.index1 Try.underlying22 elem5 rfl rfl (by omega) ((hr.below hB)) (yv_lt (by omega))) ?_
      refine LS.m rfl (Step.load rfl rfl (by decide) flat5 rfl ((hr.below hB)) (yv_at (by omega)) ?_)
      refine LS.vv rfl rfl (by decide) (Val.assign rfl) ?_
      refine LS.vv rfl rfl (by decide) (Val.assign rfl) ?_
      refine LS.nil ?_
      refine W.seqR ?_
      refine LS.vv rfl rfl (by decide) (Val.move rfl) ?_
      refine LS.vv rfl rfl (by decide) (Val.move rfl) ?_
      refine LS.vv rfl rfl (by decide) (Val.build str28 elem28 rfl rfl rfl) ?_
      refine LS.m rfl (Step.allocZ rfl rfl (by decide) elem28 rfl (by decide) ?_)
      rintro w3 hO3 hg3 hbl3 hsz3
      first | replace hmp := hmp.below hbl3 | replace hmp := hmp.offZ hM.o0 hg3 | replace hmp := hmp.offZ hM.o1 hg3 | replace hmp := hmp.offZ hM.o2 hg3 | replace hmp := hmp.offZ hM.o3 hg3 | replace hmp := hmp.offZ hM.o4 hg3 | skip
      replace hM := hM.add hB.size hbl3 hO3
      try simp only [List.length_cons, List.length_nil, Nat.zero_add, Nat.reduceAdd, Value.cells, List.toList_toArray, List.append_nil, List.set_cons_zero, List.set_cons_succ] at hM
      replace hB := hB.trans (hbl3.mono hB.size)
      generalize w2.heap.size = gg3 at *
      refine LS.m rfl (Step.storeAgg0 (B := w0.heap.size) rfl rfl agg28 rfl rfl rfl (by decide) (by first | exact one_map _ (fun _ => rfl) _ | simp [Value.oneCell']) (hM.o0) rfl hB.size ?_)
      rintro w4 hO4 hg4 hbl4 hsz4
      first | replace hmp := hmp.below hbl4 | replace hmp := hmp.offZ hM.o0 hg4 | replace hmp := hmp.offZ hM.o1 hg4 | replace hmp := hmp.offZ hM.o2 hg4 | replace hmp := hmp.offZ hM.o3 hg4 | replace hmp := hmp.offZ hM.o4 hg4 | skip
      replace hM := hM.s0 (e := _) hg4 hO4 inl_block
      try simp only [List.set_cons_zero, List.set_cons_succ] at hM
      replace hB := hB.trans hbl4
      refine LS.nil ?_
      refine W.seqR ?_
      refine LS.vv rfl rfl (by decide) (Val.move rfl) ?_
      refine LS.m rfl (Step.loadAgg0 rfl rfl (by decide) agg28 rfl (hM.o0.rd) rfl (by decide) ?_)
      refine LS.m rfl (Step.lookup2 rfl rfl (by decide) (keys_2 int2_28) Try.underlying60 elem3 rfl rfl hmp (knF_getD (paTo t.length t k).kn ((paTo t.length t k).at_, gn t k)) (knF_isSome (paTo t.length t k).kn ((paTo t.length t k).at_, gn t k)) ?_)
      refine LS.vv rfl rfl (by decide) (Val.move rfl) ?_
      refine LS.vv rfl rfl (by decide) (Val.extract rfl rfl) ?_
      refine LS.vv rfl rfl (by decide) (Val.extract rfl rfl) ?_
      refine LS.vv rfl rfl (by decide) (Val.assign rfl) ?_
      refine LS.vv rfl rfl (by decide) (Val.assign rfl) ?_
      refine LS.nil ?_
      refine W.seq ?_
      refine W.seqR ?_
      refine LS.vv rfl rfl (by decide) (Val.move rfl) ?_
      refine LS.vv rfl rfl (by decide) (Val.move rfl) ?_
      refine LS.split 1 rfl (fun hg3 => ?_) (fun hg3 => ?_)
      ·
        first | (have hg3p := of_decide_eq_true hg3) | skip
        refine LS.vg rfl rfl rfl hg3 (by decide) (Val.move rfl) ?_
        first | refine LS.vg rfl rfl rfl hg3 (by decide) (Val.addN (j := 1) rfl rfl (by omega)) ?_ | refine LS.vg rfl rfl rfl hg3 (by decide) (Val.add64 rfl rfl (by omega)) ?_
        refine LS.vg rfl rfl rfl hg3 (by decide) (Val.move rfl) ?_
        refine LS.vg rfl rfl rfl hg3 (by decide) (Val.len Try.underlying22 rfl) ?_
        refine LS.vg rfl rfl rfl hg3 (by decide) (Val.lss rfl rfl) ?_
        refine LS.vv rfl rfl (by decide) (Val.pickT rfl hg3 rfl) ?_
        refine LS.nil ?_
        first | refine W.condD rfl (fun hc4 => ?_) (fun hc4 => ?_) | refine W.cond rfl (fun hc4 => ?_) (fun hc4 => ?_)
        ·
          refine W.seqR ?_
          refine LS.vv rfl rfl (by decide) (Val.move rfl) ?_
          refine LS.vv rfl rfl (by decide) (Val.assign rfl) ?_
          refine LS.nil ?_
          refine W.exit ?_
          refine thenP_exit ?_
          refine inBlk_exit ?_
          refine thenP_normal ?_
          refine W.reg ?_
          first | refine LS.vv rfl rfl (by decide) (Val.addN (j := 1) rfl rfl (by omega)) ?_ | refine LS.vv rfl rfl (by decide) (Val.add64 rfl rfl (by omega)) ?_
          refine LS.vv rfl rfl (by decide) (Val.move rfl) ?_
          refine LS.nil ?_
          refine thenP_normal ?_
          have hst := pstep_go (N := t.length) (i := k) (b := gn t k) (s := paTo t.length t k) (by first | assumption | simp_all) (by omega)
          rw [hst] at hps
          refine ⟨(k + 1, po, co), ?_, ?_, ⟨⟨by simp only; omega, ?_⟩, ?_, hB⟩, by simp only; omega⟩
          · exact Sub.cons' rfl (by simp only [hps]) (Sub.cons' rfl (by simp only [hps]) (Sub.cons rfl (Sub.nil _)))
          · repeat (first | exact Sub.nil _ | refine Sub.cons rfl ?_)
          · simp only [hps]; exact hmp
          · simp only [hps]; exact hM.tail
        ·
          refine W.skip ?_
          refine thenP_normal ?_
          refine W.seqR ?_
          refine LS.vv rfl rfl (by decide) (Val.move rfl) ?_
          refine LS.m rfl (Step.loadAgg0 rfl rfl (by decide) agg28 rfl (hM.o0.rd) rfl (by decide) ?_)
          refine LS.m rfl (Step.litZ rfl rfl (by decide) Try.underlying23 elem28 rfl (by decide) rfl rfl (by decide) ?_)
          rintro w5 hO5 hg5 hbl5 hsz5
          first | replace hmp := hmp.below hbl5 | replace hmp := hmp.offZ hM.o0 hg5 | replace hmp := hmp.offZ hM.o1 hg5 | replace hmp := hmp.offZ hM.o2 hg5 | replace hmp := hmp.offZ hM.o3 hg5 | replace hmp := hmp.offZ hM.o4 hg5 | skip
          replace hM := hM.add hB.size hbl5 hO5
          try simp only [List.length_cons, List.length_nil, Nat.zero_add, Nat.reduceAdd, Value.cells, List.toList_toArray, List.append_nil, List.set_cons_zero, List.set_cons_succ] at hM
          replace hB := hB.trans (hbl5.mono hB.size)
          generalize w4.heap.size = gg5 at *
          refine LS.m rfl (Step.appendZ (B := w0.heap.size) rfl rfl (by decide) Try.underlying23 elem28 rfl (by decide) rfl rfl (hM.o2) (hM.o0.rd) (by first | rfl | (simp; done) | (simp; omega)) (by first | exact one_map _ (fun _ => rfl) _ | simp [Value.oneCell']) (by omega) (by omega) hB.size ?_)
          rintro p6 c6 w6 hO6 hg6 hbl6 hbk6
          first | replace hmp := hmp.below hbl6 | replace hmp := hmp.offZ hM.o0 hg6 | replace hmp := hmp.offZ hM.o1 hg6 | replace hmp := hmp.offZ hM.o2 hg6 | replace hmp := hmp.offZ hM.o3 hg6 | replace hmp := hmp.offZ hM.o4 hg6 | skip
          replace hM := hM.s2 (e := _) hg6 hO6 hbk6
          replace hM := hM.tail
          replace hB := hB.trans hbl6
          refine LS.vv rfl rfl (by decide) (Val.assign rfl) ?_
          refine LS.nil ?_
          refine W.seq ?_
          refine W.seqR ?_
          refine LS.vv rfl rfl (by decide) (Val.move rfl) ?_
          refine LS.vv rfl rfl (by decide) (Val.not rfl) ?_
          refine LS.nil ?_
          first | refine W.condD rfl (fun hc5 => ?_) (fun hc5 => ?_) | refine W.cond rfl (fun hc5 => ?_) (fun hc5 => ?_)
          ·
            refine W.reg ?_
            refine LS.vv rfl rfl (by decide) (Val.move rfl) ?_
            refine LS.m rfl (Step.loadAgg0 rfl rfl (by decide) agg28 rfl (hM.o0.rd) rfl (by decide) ?_)
            refine LS.vv rfl rfl (by decide) (Val.move rfl) ?_
            refine LS.vv rfl rfl (by decide) (Val.len Try.underlying23 rfl) ?_
            refine LS.m rfl (Step.mapPut (k := ((paTo t.length t k).at_, gn t k)) (.inl rfl) rfl (keys_2 int2_28) Try.underlying60 rfl rfl rfl hmp hB.size ?_)
            rintro w7 hn7 hg7 hbl7 hsz7
            replace hM := hM.map hmp hg7
            replace hmp := hn7
            replace hB := hB.trans hbl7
            rw [knF_upd] at hmp
            refine LS.nil ?_
            refine thenP_normal ?_
            refine W.reg ?_
            refine LS.vv rfl rfl (by decide) (Val.cast (v := .int .i64 ((0 : Nat) : Int)) (Val.assign rfl) rfl) ?_
            refine LS.nil ?_
            refine inBlk_normal ?_
            refine thenP_normal ?_
            refine W.reg ?_
            first | refine LS.vv rfl rfl (by decide) (Val.addN (j := 1) rfl rfl (by omega)) ?_ | refine LS.vv rfl rfl (by decide) (Val.add64 rfl rfl (by omega)) ?_
            refine LS.vv rfl rfl (by decide) (Val.move rfl) ?_
            refine LS.nil ?_
            refine thenP_normal ?_
            have hst := pstep_new (N := t.length) (i := k) (b := gn t k) (s := paTo t.length t k) (by first | assumption | simp_all)
            rw [hst] at hps
            refine ⟨(k + 1, p6, c6), ?_, ?_, ⟨⟨by simp only; omega, ?_⟩, ?_, hB⟩, by simp only; omega⟩
            · exact Sub.cons' rfl (by simp only [hps, List.length_append, List.length_cons, List.length_nil]) (Sub.cons' rfl (by simp only [hps]; first | rfl | done) (Sub.cons rfl (Sub.nil _)))
            · repeat (first | exact Sub.nil _ | refine Sub.cons rfl ?_)
            · simp only [hps]; exact hmp
            · have hMt := hM.tail
              simp only [hps, List.length_append, List.length_cons, List.length_nil]
              rw [← pc2_app]; exact hMt
          ·
            refine W.skip ?_
            refine thenP_normal ?_
            refine W.reg ?_
            refine LS.vv rfl rfl (by decide) (Val.cast (v := .int .i64 ((0 : Nat) : Int)) (Val.assign rfl) rfl) ?_
            refine LS.nil ?_
            refine inBlk_normal ?_
            refine thenP_normal ?_
            refine W.reg ?_
            first | refine LS.vv rfl rfl (by decide) (Val.addN (j := 1) rfl rfl (by omega)) ?_ | refine LS.vv rfl rfl (by decide) (Val.add64 rfl rfl (by omega)) ?_
            refine LS.vv rfl rfl (by decide) (Val.move rfl) ?_
            refine LS.nil ?_
            refine thenP_normal ?_
            have hst : pstep t.length k (gn t k) (paTo t.length t k) = ⟨(paTo t.length t k).out ++ [((paTo t.length t k).at_, gn t k)], 0, (paTo t.length t k).kn⟩ := by first | exact pstep_old (by first | assumption | simp_all) (by omega) | (exfalso; simp_all; done)
            rw [hst] at hps
            refine ⟨(k + 1, p6, c6), ?_, ?_, ⟨⟨by simp only; omega, ?_⟩, ?_, hB⟩, by simp only; omega⟩
            · exact Sub.cons' rfl (by simp only [hps, List.length_append, List.length_cons, List.length_nil]) (Sub.cons' rfl (by simp only [hps]; first | rfl | done) (Sub.cons rfl (Sub.nil _)))
            · repeat (first | exact Sub.nil _ | refine Sub.cons rfl ?_)
            · simp only [hps]; exact hmp
            · have hMt := hM.tail
              simp only [hps, List.length_append, List.length_cons, List.length_nil]
              rw [← pc2_app]; exact hMt
      ·
        first | (have hg3p := of_decide_eq_false hg3) | skip
        refine LS.s rfl rfl rfl hg3 (by decide) ?_
        refine LS.s rfl rfl rfl hg3 (by decide) ?_
        refine LS.s rfl rfl rfl hg3 (by decide) ?_
        refine LS.s rfl rfl rfl hg3 (by decide) ?_
        refine LS.s rfl rfl rfl hg3 (by decide) ?_
        refine LS.vv rfl rfl (by decide) (Val.pickF rfl hg3 rfl) ?_
        refine LS.nil ?_
        refine W.condF rfl ?_
        refine W.skip ?_
        refine thenP_normal ?_
        refine W.seqR ?_
        refine LS.vv rfl rfl (by decide) (Val.move rfl) ?_
        refine LS.m rfl (Step.loadAgg0 rfl rfl (by decide) agg28 rfl (hM.o0.rd) rfl (by decide) ?_)
        refine LS.m rfl (Step.litZ rfl rfl (by decide) Try.underlying23 elem28 rfl (by decide) rfl rfl (by decide) ?_)
        rintro w8 hO8 hg8 hbl8 hsz8
        first | replace hmp := hmp.below hbl8 | replace hmp := hmp.offZ hM.o0 hg8 | replace hmp := hmp.offZ hM.o1 hg8 | replace hmp := hmp.offZ hM.o2 hg8 | replace hmp := hmp.offZ hM.o3 hg8 | replace hmp := hmp.offZ hM.o4 hg8 | skip
        replace hM := hM.add hB.size hbl8 hO8
        try simp only [List.length_cons, List.length_nil, Nat.zero_add, Nat.reduceAdd, Value.cells, List.toList_toArray, List.append_nil, List.set_cons_zero, List.set_cons_succ] at hM
        replace hB := hB.trans (hbl8.mono hB.size)
        generalize w4.heap.size = gg8 at *
        refine LS.m rfl (Step.appendZ (B := w0.heap.size) rfl rfl (by decide) Try.underlying23 elem28 rfl (by decide) rfl rfl (hM.o2) (hM.o0.rd) (by first | rfl | (simp; done) | (simp; omega)) (by first | exact one_map _ (fun _ => rfl) _ | simp [Value.oneCell']) (by omega) (by omega) hB.size ?_)
        rintro p9 c9 w9 hO9 hg9 hbl9 hbk9
        first | replace hmp := hmp.below hbl9 | replace hmp := hmp.offZ hM.o0 hg9 | replace hmp := hmp.offZ hM.o1 hg9 | replace hmp := hmp.offZ hM.o2 hg9 | replace hmp := hmp.offZ hM.o3 hg9 | replace hmp := hmp.offZ hM.o4 hg9 | skip
        replace hM := hM.s2 (e := _) hg9 hO9 hbk9
        replace hM := hM.tail
        replace hB := hB.trans hbl9
        refine LS.vv rfl rfl (by decide) (Val.assign rfl) ?_
        refine LS.nil ?_
        refine W.seq ?_
        refine W.seqR ?_
        refine LS.vv rfl rfl (by decide) (Val.move rfl) ?_
        refine LS.vv rfl rfl (by decide) (Val.not rfl) ?_
        refine LS.nil ?_
        first | refine W.condD rfl (fun hc6 => ?_) (fun hc6 => ?_) | refine W.cond rfl (fun hc6 => ?_) (fun hc6 => ?_)
        ·
          refine W.reg ?_
          refine LS.vv rfl rfl (by decide) (Val.move rfl) ?_
          refine LS.m rfl (Step.loadAgg0 rfl rfl (by decide) agg28 rfl (hM.o0.rd) rfl (by decide) ?_)
          refine LS.vv rfl rfl (by decide) (Val.move rfl) ?_
          refine LS.vv rfl rfl (by decide) (Val.len Try.underlying23 rfl) ?_
          refine LS.m rfl (Step.mapPut (k := ((paTo t.length t k).at_, gn t k)) (.inl rfl) rfl (keys_2 int2_28) Try.underlying60 rfl rfl rfl hmp hB.size ?_)
          rintro w10 hn10 hg10 hbl10 hsz10
          replace hM := hM.map hmp hg10
          replace hmp := hn10
          replace hB := hB.trans hbl10
          rw [knF_upd] at hmp
          refine LS.nil ?_
          refine thenP_normal ?_
          refine W.reg ?_
          refine LS.vv rfl rfl (by decide) (Val.cast (v := .int .i64 ((0 : Nat) : Int)) (Val.assign rfl) rfl) ?_
          refine LS.nil ?_
          refine inBlk_normal ?_
          refine thenP_normal ?_
          refine W.reg ?_
          first | refine LS.vv rfl rfl (by decide) (Val.addN (j := 1) rfl rfl (by omega)) ?_ | refine LS.vv rfl rfl (by decide) (Val.add64 rfl rfl (by omega)) ?_
          refine LS.vv rfl rfl (by decide) (Val.move rfl) ?_
          refine LS.nil ?_
          refine thenP_normal ?_
          have hst := pstep_new (N := t.length) (i := k) (b := gn t k) (s := paTo t.length t k) (by first | assumption | simp_all)
          rw [hst] at hps
          refine ⟨(k + 1, p9, c9), ?_, ?_, ⟨⟨by simp only; omega, ?_⟩, ?_, hB⟩, by simp only; omega⟩
          · exact Sub.cons' rfl (by simp only [hps, List.length_append, List.length_cons, List.length_nil]) (Sub.cons' rfl (by simp only [hps]; first | rfl | done) (Sub.cons rfl (Sub.nil _)))
          · repeat (first | exact Sub.nil _ | refine Sub.cons rfl ?_)
          · simp only [hps]; exact hmp
          · have hMt := hM.tail
            simp only [hps, List.length_append, List.length_cons, List.length_nil]
            rw [← pc2_app]; exact hMt
        ·
          refine W.skip ?_
          refine thenP_normal ?_
          refine W.reg ?_
          refine LS.vv rfl rfl (by decide) (Val.cast (v := .int .i64 ((0 : Nat) : Int)) (Val.assign rfl) rfl) ?_
          refine LS.nil ?_
          refine inBlk_normal ?_
          refine thenP_normal ?_
          refine W.reg ?_
          first | refine LS.vv rfl rfl (by decide) (Val.addN (j := 1) rfl rfl (by omega)) ?_ | refine LS.vv rfl rfl (by decide) (Val.add64 rfl rfl (by omega)) ?_
          refine LS.vv rfl rfl (by decide) (Val.move rfl) ?_
          refine LS.nil ?_
          refine thenP_normal ?_
          have hst : pstep t.length k (gn t k) (paTo t.length t k) = ⟨(paTo t.length t k).out ++ [((paTo t.length t k).at_, gn t k)], 0, (paTo t.length t k).kn⟩ := by first | exact pstep_old (by first | assumption | simp_all) (by omega) | (exfalso; simp_all; done)
          rw [hst] at hps
          refine ⟨(k + 1, p9, c9), ?_, ?_, ⟨⟨by simp only; omega, ?_⟩, ?_, hB⟩, by simp only; omega⟩
          · exact Sub.cons' rfl (by simp only [hps, List.length_append, List.length_cons, List.length_nil]) (Sub.cons' rfl (by simp only [hps]; first | rfl | done) (Sub.cons rfl (Sub.nil _)))
          · repeat (first | exact Sub.nil _ | refine Sub.cons rfl ?_)
          · simp only [hps]; exact hmp
          · have hMt := hM.tail
            simp only [hps, List.length_append, List.length_cons, List.length_nil]
            rw [← pc2_app]; exact hMt
    ·
      refine W.exit ?_
      refine thenP_exit ?_
      refine thenP_exit ?_
      refine inBlk_exit ?_
      refine thenP_normal ?_
      refine W.seqR ?_
      refine LS.vv rfl rfl (by decide) (Val.move rfl) ?_
      refine LS.vv rfl rfl (by decide) (Val.assign rfl) ?_
      refine LS.vv rfl rfl (by decide) (Val.cast (v := .int .i64 ((0 : Nat) : Int)) (Val.assign rfl) rfl) ?_
      refine LS.nil ?_
      refine W.ret ?_
      refine ret2 (by first | exact .inl rfl | exact .inr rfl) rfl rfl ?_
      first | (refine ⟨none, 0, [], 1, rfl, OwnZ.nil _ _ _ _, ⟨fun h => by omega, fun h => by omega⟩, fun h => by omega, fun _ => rfl, hB⟩; done) | (obtain rfl : k = t.length := (by omega); exact ⟨po, co, _, 0, rfl, hM.o0, ⟨fun _ => by omega, fun _ => rfl⟩, fun _ => rfl, fun h => absurd rfl h, hB⟩)

end Go.Proofs.Ytcoplafphgpmpaa
