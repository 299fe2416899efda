/-
  The statement PointsWrong.
-/
import Derived.Test.YtnaebllojkodbaaFix
import Derived.Test.YtnaebllojkodbaaFixPlain
import Derived.Test.YtnaebllojkodbaaVheap2
namespace Go.Proofs.Ytnaebllojkodbaa
open Go Go.RowKit V
set_option linter.unusedVariables false
set_option linter.unusedSimpArgs false

theorem small_set {y : List Nat} {j v : Nat} (h : Small y) (hv : v < 16) : Small (y.set j v) := fun c hc => by
  rcases List.mem_or_eq_of_mem_set hc with h1 | h1
  · exact h c h1
  · omega

theorem pointsWrong_any (n : Int) (data : List Int) (pl wr : List Nat) (p p2 p3 : Option Addr) (c c2 c3 m : Nat) (w0 : World) (hr : Rd w0 p (iv data)) (hm : data.length = m) (hl : m * 8 ≤ 140737488351232) (hr2 : Rd w0 p2 (yv pl)) (hr3 : Rd w0 p3 (yv wr)) (hp256 : ∀ x ∈ pl, x < 256) (hw256 : ∀ x ∈ wr, x < 256) (hpl : pl.length ≤ 9223372036854775806) :
    CallsV Try.prog 8 #[.int .i64 n, .slice p m c, .slice p2 pl.length c2, .slice p3 wr.length c3] w0 (fun v w => v = .bool true ∧ Below w0.heap.size w0 w) := by
  refine enter1 Try.func8 rfl Try.ntmps8 (by simp) rfl ?_
  have hB := Below.refl w0.heap.size w0
  simp only [argLoc, Nat.zero_add, Nat.reduceAdd]
  have hM := Mem.nil w0 w0.heap.size
  subst hm
  refine W.seqR ?_
  refine LS.vv rfl rfl (by decide) (Val.assign rfl) ?_
  refine LS.nil ?_
  refine W.seqR ?_
  refine LS.vv rfl rfl (by decide) (Val.move rfl) ?_
  refine LS.vv rfl rfl (by decide) (Val.move rfl) ?_
  refine LS.m rfl (Step.call body18 rfl rfl (by decide) rfl (CallsV.mono (Put_any data _ _ _ _ (hr.below hB) rfl n hl) ?_))
  rintro _ w1 ⟨p1, c1, L1, e1, rfl, he1, hL1, hz1, xs, hxl, hxe, hOx, hb1⟩
  replace hM := hM.add hB.size hb1 hOx
  replace hB := hB.trans (hb1.mono hB.size)
  refine LS.vv rfl rfl (by decide) (Val.move rfl) ?_
  refine LS.vv rfl rfl (by decide) (Val.extract rfl rfl) ?_
  refine LS.vv rfl rfl (by decide) (Val.extract rfl rfl) ?_
  refine LS.vv rfl rfl (by decide) (Val.assign rfl) ?_
  refine LS.vv rfl rfl (by decide) (Val.assign rfl) ?_
  refine LS.nil ?_
  refine W.seq ?_
  refine W.seqR ?_
  refine LS.vv rfl rfl (by decide) (Val.move rfl) ?_
  refine LS.vv rfl rfl (by decide) (Val.neq rfl rfl) ?_
  refine LS.nil ?_
  first | refine W.condD rfl (fun hc1 => ?_) (fun hc1 => ?_) | refine W.cond rfl (fun hc1 => ?_) (fun hc1 => ?_)
  ·
    refine W.seqR ?_
    refine LS.vv rfl rfl (by decide) (Val.move rfl) ?_
    refine LS.vv rfl rfl (by decide) (Val.len Try.underlying27 rfl) ?_
    refine LS.vv rfl rfl (by decide) (Val.eql rfl rfl) ?_
    refine LS.vv rfl rfl (by decide) (Val.assign rfl) ?_
    refine LS.nil ?_
    refine W.ret ?_
    refine thenP_ret ?_
    refine ret1 (by first | exact .inl rfl | exact .inr rfl) rfl ?_
    first
      | exact ⟨rfl, hB⟩
      | (exfalso; first | omega | (have := hz1 (by omega); omega))
      | exact ⟨congrArg Value.bool (decide_eq_true (by first | omega | (have := hz1 (by omega); omega))), hB⟩
  ·
    obtain rfl : e1 = 0 := by omega
    obtain ⟨g1, g2, g3, g4, okd⟩ := he1.1 rfl
    have hxe := hxe rfl
    obtain rfl := hL1 rfl
    subst hxe
    have hsmD := (okF_iff_small okd).1
    have hsmP := putp_small (n := L1) hsmD (by omega)
    refine W.skip ?_
    refine thenP_normal ?_
    refine W.seq ?_
    refine W.seqR ?_
    refine LS.vv rfl rfl (by decide) (Val.move rfl) ?_
    refine LS.vv rfl rfl (by decide) (Val.len Try.underlying27 rfl) ?_
    refine LS.vv rfl rfl (by decide) (Val.move rfl) ?_
    refine LS.vv rfl rfl (by decide) (Val.neq rfl rfl) ?_
    refine LS.nil ?_
    first | refine W.condD rfl (fun hc2 => ?_) (fun hc2 => ?_) | refine W.cond rfl (fun hc2 => ?_) (fun hc2 => ?_)
    ·
      refine W.seqR ?_
      refine LS.vv rfl rfl (by decide) (Val.assign rfl) ?_
      refine LS.nil ?_
      refine W.ret ?_
      refine thenP_ret ?_
      refine ret1 (by first | exact .inl rfl | exact .inr rfl) rfl ?_
      first
        | exact ⟨rfl, hB⟩
        | (exfalso; first | omega | (have := hz1 (by omega); omega))
        | exact ⟨congrArg Value.bool (decide_eq_true (by first | omega | (have := hz1 (by omega); omega))), hB⟩
    ·
      refine W.skip ?_
      refine thenP_normal ?_
      refine W.seqR ?_
      refine LS.m rfl (Step.lit rfl rfl (by decide) Try.underlying27 elem3 rfl rfl (by omega) (by simp [Value.oneCell']) (Nat.le_refl _) ?_)
      rintro w2 hO2 hg2 hbl2 hsz2
      replace hM := hM.add hB.size hbl2 hO2
      try simp only [nv_app1, nv_app, nv_set, nv_rep, nv_one, nv_cons, nv_take, nv_drop, List.nil_append] at hM
      replace hB := hB.trans (hbl2.mono hB.size)
      generalize w1.heap.size = gg2 at *
      refine LS.vv rfl rfl (by decide) (Val.move rfl) ?_
      refine LS.m rfl (Step.append2 (B := w0.heap.size) rfl rfl (by decide) Try.underlying27 elem3 rfl rfl rfl rfl (hM.o0) (hM.o1.rd) (by first | rfl | (simp; done) | (simp; omega)) (by first | exact one_map _ (fun _ => rfl) _ | simp [Value.oneCell']) (by omega) (by omega) hB.size ?_)
      rintro p3 c3 w3 hO3 hg3 hbl3 hbk3
      replace hM := hM.s0 hg3 hO3 hbk3
      try simp only [nv_app1, nv_app, nv_set, nv_rep, nv_one, nv_cons, nv_take, nv_drop, List.nil_append] at hM
      replace hB := hB.trans hbl3
      refine LS.vv rfl rfl (by decide) (Val.assign rfl) ?_
      refine LS.nil ?_
      refine W.seq ?_
      refine W.seqR ?_
      refine LS.vv rfl rfl (by decide) (Val.move rfl) ?_
      refine LS.vv rfl rfl (by decide) (Val.len Try.underlying42 rfl) ?_
      refine LS.vv rfl rfl (by decide) (Val.cast (v := .int .i64 ((0 : Nat) : Int)) (Val.move rfl) rfl) ?_
      refine LS.nil ?_
      refine W.block ?_
      refine W.loop (α := Nat × List Nat) (fun g => [(36, .int .i64 (g.1 : Int))]) [(0, _), (1, _), (3, _), (9, _), (11, _), (34, _), (35, _)] (fun g w => (g.1 ≤ pl.length ∧ g.2.length = L1 ∧ Small g.2) ∧ Mem w w0.heap.size [⟨3, p3, 0 + L1, c3, nv g.2⟩, ⟨3, p1, L1, c1, nv (putp L1 (data.map Int.toNat))⟩] ∧ Below w0.heap.size w0 w) (fun g => pl.length - g.1) ((0, (putp L1 (data.map Int.toNat)))) (Sub.cons rfl (Sub.nil _)) (Sub.cons rfl (Sub.cons rfl (Sub.cons rfl (Sub.cons rfl (Sub.cons rfl (Sub.cons rfl (Sub.cons rfl (Sub.nil _)))))))) ?_ ?_
      · exact ⟨⟨Nat.zero_le _, putp_len _ _, hsmP⟩, hM, hB⟩
      rintro ⟨i, y⟩ w4 ⟨⟨hi, hyl, hy16⟩, hM, hB⟩
      try simp only at hM
      simp only [List.cons_append, List.nil_append]
      simp only at hi hyl hy16
      refine W.seqR ?_
      refine LS.vv rfl rfl (by decide) (Val.lss rfl rfl) ?_
      refine LS.nil ?_
      refine W.seq ?_
      first | refine W.condD rfl (fun hc3 => ?_) (fun hc3 => ?_) | refine W.cond rfl (fun hc3 => ?_) (fun hc3 => ?_)
      ·
        refine W.skip ?_
        refine thenP_normal ?_
        refine W.seq ?_
        refine W.block ?_
        refine W.seqR ?_
        refine LS.vv rfl rfl (by decide) (Val.move rfl) ?_
        refine LS.vv rfl rfl (by decide) (Val.index1 Try.underlying42 elem5 rfl rfl (by omega) ((hr2.below hB)) (yv_lt (by omega))) ?_
        refine LS.m rfl (Step.load rfl rfl (by decide) flat5 rfl ((hr2.below hB)) (yv_at (by omega)) ?_)
        refine LS.vv rfl rfl (by decide) (Val.assign rfl) ?_
        refine LS.vv rfl rfl (by decide) (Val.assign rfl) ?_
        refine LS.nil ?_
        refine W.seqR ?_
        refine LS.vv rfl rfl (by decide) (Val.move rfl) ?_
        refine LS.vv rfl rfl (by decide) (Val.move rfl) ?_
        refine LS.vv rfl rfl (by decide) (Val.len Try.underlying42 rfl) ?_
        refine LS.vv rfl rfl (by decide) (Val.lss rfl rfl) ?_
        refine LS.nil ?_
        first | refine W.condD rfl (fun hc4 => ?_) (fun hc4 => ?_) | refine W.cond rfl (fun hc4 => ?_) (fun hc4 => ?_)
        ·
          refine W.regF 12 [(0, true), (1, true), (2, true), (3, true), (4, true), (5, true), (6, true), (7, true), (8, true), (9, true), (10, true), (11, true), (12, false)] mixed (by kernel_rfl) hB hM ?_
          replace hB := hB.drew
          replace hM := hM.drew
          refine DF.vv rfl rfl rfl (by decide) (Val.move rfl) ?_
          refine DF.vv rfl rfl rfl (by decide) (Val.move rfl) ?_
          have hmod := Nat.mod_lt (gn pl i) (show 0 < L1 by omega)
          have hg1 := hp256 _ (gn_in (l := pl) (k := i) (by omega))
          have hg2 := hw256 _ (gn_in (l := wr) (k := i) (by omega))
          refine DF.vv rfl rfl rfl (by decide) (Val.conv rfl Try.underlying5 Try.underlying3 (IntWalk.i64_in _ (by omega))) ?_
          refine DF.vv rfl rfl rfl (by decide) (Val.move rfl) ?_
          first | refine DF.vv rfl rfl rfl (by decide) (Val.remN rfl rfl (by omega)) ?_ | refine DF.vv rfl rfl rfl (by decide) (Val.rem rfl rfl (by omega) (by omega)) ?_ | refine DF.vv rfl rfl rfl (by decide) (Val.remT rfl rfl (by omega)) ?_
          refine DF.vv rfl rfl rfl (by decide) (Val.move rfl) ?_
          refine DF.vv rfl rfl rfl (by decide) (Val.move rfl) ?_
          refine DF.vv rfl rfl rfl (by decide) (Val.index1 Try.underlying42 elem5 rfl rfl (by omega) ((hr3.below hB)) (yv_lt (by omega))) ?_
          refine DF.vv rfl rfl rfl (by decide) (Val.load flat5 rfl (fun _ h => (hr3.below h.1)) (yv_at (by omega))) ?_
          refine DF.vv rfl rfl rfl (by decide) (Val.conv rfl Try.underlying5 Try.underlying3 (IntWalk.i64_in _ (by omega))) ?_
          first | refine DF.vv rfl rfl rfl (by decide) (Val.remN (j := 16) rfl rfl (by omega)) ?_ | refine DF.vv rfl rfl rfl (by decide) (Val.rem rfl rfl (by omega) (by omega)) ?_ | refine DF.vv rfl rfl rfl (by decide) (Val.remT rfl rfl (by omega)) ?_
          refine DF.vv rfl rfl rfl (by decide) (Val.index1 Try.underlying27 elem3 rfl rfl (by omega) (hM.o0.rd) (nv_lt (by omega))) ?_
          refine DF.m rfl rfl (Step.store (B := w0.heap.size) rfl rfl flat3 elem3 rfl rfl rfl (hM.o0) (by omega) hB.size ?_)
          rintro w5 hO5 hg5 hbl5 hsz5
          replace hM := hM.s0 hg5 hO5 inl_block
          try simp only [nv_app1, nv_app, nv_set, nv_rep, nv_one, nv_cons, nv_take, nv_drop, List.nil_append] at hM
          replace hB := hB.trans hbl5
          refine ⟨fun h => absurd rfl h, ?_⟩
          refine DF.nil ?_
          refine inBlk_normal ?_
          refine thenP_normal ?_
          refine W.reg ?_
          first | refine LS.vv rfl rfl (by decide) (Val.addN (j := 1) rfl rfl (by omega)) ?_ | refine LS.vv rfl rfl (by decide) (Val.add64 rfl rfl (by omega)) ?_
          refine LS.vv rfl rfl (by decide) (Val.move rfl) ?_
          refine LS.nil ?_
          refine thenP_normal ?_
          refine ⟨(i + 1, y.set (gn pl i % L1) (gn wr i % 16)), ?_, ?_, ⟨⟨by simp only; omega, by simp only [List.length_set]; exact hyl, small_set hy16 (by omega)⟩, hM, hB⟩, by simp only; omega⟩
          · exact (Sub.cons rfl (Sub.nil _))
          · repeat (first | exact Sub.nil _ | refine Sub.cons rfl ?_)
        ·
          refine W.skip ?_
          refine inBlk_normal ?_
          refine thenP_normal ?_
          refine W.reg ?_
          first | refine LS.vv rfl rfl (by decide) (Val.addN (j := 1) rfl rfl (by omega)) ?_ | refine LS.vv rfl rfl (by decide) (Val.add64 rfl rfl (by omega)) ?_
          refine LS.vv rfl rfl (by decide) (Val.move rfl) ?_
          refine LS.nil ?_
          refine thenP_normal ?_
          refine ⟨(i + 1, y), ?_, ?_, ⟨⟨by simp only; omega, hyl, hy16⟩, hM, hB⟩, by simp only; omega⟩
          · exact (Sub.cons rfl (Sub.nil _))
          · repeat (first | exact Sub.nil _ | refine Sub.cons rfl ?_)
      ·
        refine W.exit ?_
        refine thenP_exit ?_
        refine thenP_exit ?_
        refine inBlk_exit ?_
        refine thenP_normal ?_
        refine W.seqR ?_
        refine LS.vv rfl rfl (by decide) (Val.move rfl) ?_
        refine LS.vv rfl rfl (by decide) (Val.len Try.underlying27 rfl) ?_
        refine LS.vv rfl rfl (by decide) (Val.move rfl) ?_
        refine LS.m rfl (Step.call body23 rfl rfl (by decide) rfl (CallsV.mono (fix_any y _ _ (0 + L1) data.length _ hM.o0.rd (by omega) (by omega) (by omega) (by omega) hy16) ?_))
        rintro _ w6 ⟨p9, c9, L9, e9, rfl, hcase, hb6⟩
        replace hM := hM.below hb6
        replace hB := hB.trans (hb6.mono hB.size)
        simp only [Nat.zero_add] at hcase
        refine LS.vv rfl rfl (by decide) (Val.move rfl) ?_
        refine LS.vv rfl rfl (by decide) (Val.extract rfl rfl) ?_
        refine LS.vv rfl rfl (by decide) (Val.extract rfl rfl) ?_
        refine LS.vv rfl rfl (by decide) (Val.assign rfl) ?_
        refine LS.vv rfl rfl (by decide) (Val.assign rfl) ?_
        refine LS.nil ?_
        refine W.seq ?_
        refine W.seqR ?_
        refine LS.vv rfl rfl (by decide) (Val.move rfl) ?_
        refine LS.vv rfl rfl (by decide) (Val.move rfl) ?_
        refine LS.m rfl (Step.call body22 rfl rfl (by decide) rfl (CallsV.mono (differ_any (ci (putp L1 (data.map Int.toNat))) (ci y) _ _ _ _ _ _ _ (by rw [← nv_ci]; exact hM.o1.rd) (by rw [← nv_ci]; exact hM.o0.rd) (by rw [ci_len, putp_len]) (by rw [ci_len]; omega) (by omega) (by omega)) ?_))
        rintro _ w7 ⟨rfl, hb7⟩
        replace hM := hM.below hb7
        replace hB := hB.trans (hb7.mono hB.size)
        have hde := dfTo_offT (putp L1 (data.map Int.toNat)) y L1
        have hdl := offT_le (putp L1 (data.map Int.toNat)) y L1
        first | refine LS.vv rfl rfl (by decide) (Val.mulN (i := 2) rfl rfl (by omega)) ?_ | refine LS.vv rfl rfl (by decide) (Val.mul64 rfl rfl (by omega)) ?_
        refine LS.vv rfl rfl (by decide) (Val.move rfl) ?_
        refine LS.vv rfl rfl (by decide) (Val.move rfl) ?_
        refine LS.vv rfl rfl (by decide) (Val.len Try.underlying27 rfl) ?_
        first | refine LS.vv rfl rfl (by decide) (Val.subN rfl rfl (by omega) (by omega)) ?_ | refine LS.vv rfl rfl (by decide) (Val.sub64 rfl rfl (by omega)) ?_
        refine LS.vv rfl rfl (by decide) (Val.leq rfl rfl) ?_
        refine LS.nil ?_
        first | refine W.condD rfl (fun hc5 => ?_) (fun hc5 => ?_) | refine W.cond rfl (fun hc5 => ?_) (fun hc5 => ?_)
        ·
          have hfew : 2 * offT (putp L1 (data.map Int.toNat)) y L1 ≤ L1 - data.length := by omega
          obtain ⟨ps0, hC0, hF0⟩ := few_fit (by omega) (by omega) hsmD (by rw [List.length_map]) hy16 hfew
          obtain ⟨rfl, rfl, ps, hRd, hC, hF⟩ : e9 = 0 ∧ L9 = data.length ∧ _ := hcase.elim id fun h => absurd hF0 (h.2.2 ps0 hC0)
          rw [few_one (by omega) (by omega) hsmD (by rw [List.length_map]) hy16 hfew hC hF] at hRd
          refine W.seqR ?_
          refine LS.vv rfl rfl (by decide) (Val.move rfl) ?_
          refine LS.vv rfl rfl (by decide) (Val.cast (v := .bool true) (Val.eql rfl rfl) (by simp)) ?_
          refine LS.vv rfl rfl (by decide) (Val.move rfl) ?_
          refine LS.vg rfl rfl rfl rfl (by decide) (Val.move rfl) ?_
          refine LS.vg rfl rfl rfl rfl (by decide) (Val.move rfl) ?_
          refine LS.mg rfl rfl rfl (Step.call body21 rfl rfl (by decide) rfl (CallsV.mono (intsEqN data data _ _ _ _ _ _ _ (by have h9 := hRd; rw [nv_ci, (okF_iff_small okd).2.2] at h9; exact h9.below (by assumption)) (hr.below hB) rfl rfl (by omega)) ?_))
          rintro _ w8 ⟨hie, hb8⟩
          replace hM := hM.below hb8
          replace hB := hB.trans (hb8.mono hB.size)
          rw [decide_eq_true rfl] at hie
          subst hie
          refine LS.vv rfl rfl (by decide) (Val.pickT rfl rfl rfl) ?_
          refine LS.vv rfl rfl (by decide) (Val.assign rfl) ?_
          refine LS.nil ?_
          refine W.ret ?_
          refine thenP_ret ?_
          refine ret1 (by first | exact .inl rfl | exact .inr rfl) rfl ?_
          first
            | exact ⟨rfl, hB⟩
            | (exfalso; first | omega | (have := hz1 (by omega); omega))
            | exact ⟨congrArg Value.bool (decide_eq_true (by first | omega | (have := hz1 (by omega); omega))), hB⟩
        ·
          refine W.skip ?_
          refine thenP_normal ?_
          refine W.seqR ?_
          refine LS.vv rfl rfl (by decide) (Val.move rfl) ?_
          refine LS.vv rfl rfl (by decide) (Val.eql rfl rfl) ?_
          refine LS.vv rfl rfl (by decide) (Val.move rfl) ?_
          refine LS.split 2 rfl (fun hg6 => ?_) (fun hg6 => ?_)
          ·
            first | (have hg6p := of_decide_eq_true hg6) | skip
            refine LS.s rfl rfl rfl hg6 (by decide) ?_
            refine LS.s rfl rfl rfl hg6 (by decide) ?_
            refine LS.s rfl rfl rfl hg6 (by decide) ?_
            refine LS.skipU rfl rfl rfl (by decide) ?_
            refine LS.skipU rfl rfl rfl (by decide) ?_
            refine LS.skipU rfl rfl rfl (by decide) ?_
            refine LS.skipU rfl rfl rfl (by decide) ?_
            refine LS.skipU rfl rfl rfl (by decide) ?_
            refine LS.s rfl rfl rfl hg6 (by decide) ?_
            refine LS.s rfl rfl rfl hg6 (by decide) ?_
            refine LS.skipU rfl rfl rfl (by decide) ?_
            refine LS.skipU rfl rfl rfl (by decide) ?_
            refine LS.skipU rfl rfl rfl (by decide) ?_
            refine LS.skipU rfl rfl rfl (by decide) ?_
            refine LS.s rfl rfl rfl hg6 (by decide) ?_
            refine LS.vv rfl rfl (by decide) (Val.pickT rfl hg6 rfl) ?_
            refine LS.vv rfl rfl (by decide) (Val.assign rfl) ?_
            refine LS.nil ?_
            refine W.ret ?_
            refine ret1 (by first | exact .inl rfl | exact .inr rfl) rfl ?_
            first
              | exact ⟨rfl, hB⟩
              | (exfalso; first | omega | (have := hz1 (by omega); omega))
              | exact ⟨congrArg Value.bool (decide_eq_true (by first | omega | (have := hz1 (by omega); omega))), hB⟩
          ·
            first | (have hg6p := of_decide_eq_false hg6) | skip
            refine LS.vg rfl rfl rfl hg6 (by decide) (Val.move rfl) ?_
            obtain ⟨rfl, rfl, ps, hRd, hC, hF⟩ : e9 = 0 ∧ L9 = data.length ∧ _ := hcase.elim id fun h => absurd h.1 (by omega)
            refine LS.vg rfl rfl rfl hg6 (by decide) (Val.cast (v := .bool true) (Val.eql rfl rfl) (by simp)) ?_
            refine LS.vg rfl rfl rfl hg6 (by decide) (Val.move rfl) ?_
            refine LS.vg rfl rfl rfl rfl (by decide) (Val.move rfl) ?_
            refine LS.vg rfl rfl rfl rfl (by decide) (Val.len Try.underlying27 rfl) ?_
            refine LS.vg rfl rfl rfl rfl (by decide) (Val.move rfl) ?_
            refine LS.vg rfl rfl rfl rfl (by decide) (Val.len Try.underlying27 rfl) ?_
            refine LS.vg rfl rfl rfl rfl (by decide) (Val.cast (v := .bool true) (Val.eql rfl rfl) (by simp)) ?_
            refine LS.vg rfl rfl rfl hg6 (by decide) (Val.pickT rfl rfl rfl) ?_
            refine LS.vg rfl rfl rfl hg6 (by decide) (Val.move rfl) ?_
            refine LS.vg rfl rfl rfl rfl (by decide) (Val.move rfl) ?_
            refine LS.vg rfl rfl rfl rfl (by decide) (Val.move rfl) ?_
            refine LS.mg rfl rfl rfl (Step.call body21 rfl rfl (by decide) rfl (CallsV.mono (intsEqN (ci (through y ps)) data _ _ _ _ _ _ _ (by rw [← nv_ci]; exact hRd.below (by assumption)) (hr.below hB) (by rw [ci_len]; exact (ch_small (by omega) hy16 hC).2) rfl (by omega)) ?_))
            rintro _ w9 ⟨hie, hb9⟩
            replace hM := hM.below hb9
            replace hB := hB.trans (hb9.mono hB.size)
            rw [decide_eq_false (fun e9 => many_not (D := (data.map Int.toNat)) (by omega) hF (by rw [← e9, ci_toNat]))] at hie
            subst hie
            refine LS.vg rfl rfl rfl rfl (by decide) (Val.not rfl) ?_
            refine LS.vg rfl rfl rfl hg6 (by decide) (Val.pickT rfl rfl rfl) ?_
            refine LS.vv rfl rfl (by decide) (Val.pickF rfl hg6 rfl) ?_
            refine LS.vv rfl rfl (by decide) (Val.assign rfl) ?_
            refine LS.nil ?_
            refine W.ret ?_
            refine ret1 (by first | exact .inl rfl | exact .inr rfl) rfl ?_
            first
              | exact ⟨rfl, hB⟩
              | (exfalso; first | omega | (have := hz1 (by omega); omega))
              | exact ⟨congrArg Value.bool (decide_eq_true (by first | omega | (have := hz1 (by omega); omega))), hB⟩

end Go.Proofs.Ytnaebllojkodbaa
