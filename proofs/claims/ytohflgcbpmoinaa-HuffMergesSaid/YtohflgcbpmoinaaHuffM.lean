/-
  The statement HuffMerges.
-/
import Derived.Test.YtohflgcbpmoinaaHuffC
import Derived.Test.YtohflgcbpmoinaaVheap2
namespace Go.Proofs.Ytohflgcbpmoinaa
open Go Go.RowKit V
set_option linter.unusedVariables false
set_option linter.unusedSimpArgs false

theorem huffMerges_any (zs : List Int) (p : Option Addr) (c m : Nat) (w0 : World) (hr : Rd w0 p (iv zs)) (hm : zs.length = m) :
    CallsV Try.prog 7 #[.slice p m c] w0 (fun v w => v = .bool true ∧ Below w0.heap.size w0 w) := by
  refine enter1 Try.func7 rfl Try.ntmps7 (by simp) rfl ?_
  have hB := Below.refl w0.heap.size w0
  simp only [argLoc]
  have hM := Mem.nil w0 w0.heap.size
  subst hm
  refine W.seqR ?_
  refine LS.vv rfl rfl (by decide) (Val.assign rfl) ?_
  refine LS.nil ?_
  refine W.seqR ?_
  refine LS.vv rfl rfl (by decide) (Val.move rfl) ?_
  refine LS.m rfl (Step.call body17 rfl rfl (by decide) rfl (CallsV.mono (cost_any zs _ _ _ _ (hr.below hB) rfl) ?_))
  rintro _ w1 ⟨e, x, rfl, he, hop, hb1⟩
  replace hM := hM.below hb1
  replace hB := hB.trans (hb1.mono hB.size)
  refine LS.vv rfl rfl (by decide) (Val.move rfl) ?_
  refine LS.vv rfl rfl (by decide) (Val.extract rfl rfl) ?_
  refine LS.vv rfl rfl (by decide) (Val.extract rfl rfl) ?_
  refine LS.vv rfl rfl (by decide) (Val.assign rfl) ?_
  refine LS.vv rfl rfl (by decide) (Val.assign rfl) ?_
  refine LS.nil ?_
  refine W.seq ?_
  refine W.seqR ?_
  refine LS.vv rfl rfl (by decide) (Val.move rfl) ?_
  refine LS.m rfl (Step.call body11 rfl rfl (by decide) rfl (CallsV.mono (weighed_any zs _ _ _ _ (hr.below hB) rfl) ?_))
  rintro _ w2 ⟨b, rfl, hwd, hb2⟩
  replace hM := hM.below hb2
  replace hB := hB.trans (hb2.mono hB.size)
  refine LS.vv rfl rfl (by decide) (Val.not rfl) ?_
  refine LS.nil ?_
  first | refine W.condD rfl (fun hc1 => ?_) (fun hc1 => ?_) | refine W.cond rfl (fun hc1 => ?_) (fun hc1 => ?_)
  ·
    refine W.seqR ?_
    refine LS.vv rfl rfl (by decide) (Val.move rfl) ?_
    have hen : e ≠ 0 := fun h => by have := hwd.2 (he.1 h); simp_all
    refine LS.vv rfl rfl (by decide) (Val.cast (v := .bool true) (Val.neq rfl rfl) (by refine congrArg Value.bool (decide_eq_true ?_); omega)) ?_
    refine LS.vv rfl rfl (by decide) (Val.assign rfl) ?_
    refine LS.nil ?_
    refine W.ret ?_
    refine thenP_ret ?_
    refine ret1 (by first | exact .inl rfl | exact .inr rfl) rfl ?_
    first | exact ⟨rfl, hB⟩ | (exfalso; omega)
  ·
    refine W.skip ?_
    refine thenP_normal ?_
    refine W.seq ?_
    refine W.seqR ?_
    refine LS.vv rfl rfl (by decide) (Val.move rfl) ?_
    refine LS.vv rfl rfl (by decide) (Val.len Try.underlying22 rfl) ?_
    have hok := hwd.1 (by simp_all)
    have he0 := he.2 hok
    obtain ⟨l, hl, hx⟩ := hop he0
    have hr2 : Rd w0 p (nv (zs.map Int.toNat)) := by rw [← iv_toNat (fun z h => (hok.2 z h).1)]; exact hr
    have hwn := okW_nat hok.2
    have hwl : (zs.map Int.toNat).length = zs.length := by rw [List.length_map]
    have hws8 : (zs.map Int.toNat).length ≤ 8 := by rw [hwl]; exact hok.1
    generalize hws : zs.map Int.toNat = ws at *
    refine LS.vv rfl rfl (by decide) (Val.lss rfl rfl) ?_
    refine LS.nil ?_
    first | refine W.condD rfl (fun hc2 => ?_) (fun hc2 => ?_) | refine W.cond rfl (fun hc2 => ?_) (fun hc2 => ?_)
    ·
      refine W.seqR ?_
      refine LS.vv rfl rfl (by decide) (Val.move rfl) ?_
      refine LS.vv rfl rfl (by decide) (Val.eql rfl rfl) ?_
      refine LS.vv rfl rfl (by decide) (Val.move rfl) ?_
      refine LS.split 2 rfl (fun hg3 => ?_) (fun hg3 => ?_)
      ·
        first | (have hg3p := of_decide_eq_true hg3) | skip
        refine LS.vg rfl rfl rfl hg3 (by decide) (Val.move rfl) ?_
        refine LS.vg rfl rfl rfl hg3 (by decide) (Val.eql rfl rfl) ?_
        have hx0 : x = 0 := by rw [hx]; exact cost_small hl (by omega)
        refine LS.vv rfl rfl (by decide) (Val.cast (v := .bool true) (Val.pickT rfl hg3 rfl) (by first | rfl | (exfalso; omega) | (refine congrArg Value.bool (decide_eq_true ?_); omega))) ?_
        refine LS.vv rfl rfl (by decide) (Val.assign rfl) ?_
        refine LS.nil ?_
        refine W.ret ?_
        refine thenP_ret ?_
        refine ret1 (by first | exact .inl rfl | exact .inr rfl) rfl ?_
        first | exact ⟨rfl, hB⟩ | (exfalso; omega)
      ·
        first | (have hg3p := of_decide_eq_false hg3) | skip
        refine LS.s rfl rfl rfl hg3 (by decide) ?_
        refine LS.s rfl rfl rfl hg3 (by decide) ?_
        have hx0 : x = 0 := by rw [hx]; exact cost_small hl (by omega)
        refine LS.vv rfl rfl (by decide) (Val.cast (v := .bool true) (Val.pickF rfl hg3 rfl) (by first | rfl | (exfalso; omega) | (refine congrArg Value.bool (decide_eq_true ?_); omega))) ?_
        refine LS.vv rfl rfl (by decide) (Val.assign rfl) ?_
        refine LS.nil ?_
        refine W.ret ?_
        refine thenP_ret ?_
        refine ret1 (by first | exact .inl rfl | exact .inr rfl) rfl ?_
        first | exact ⟨rfl, hB⟩ | (exfalso; omega)
    ·
      refine W.skip ?_
      refine thenP_normal ?_
      refine W.seqR ?_
      refine LS.m rfl (Step.lit rfl rfl (by decide) Try.underlying22 elem2 rfl rfl (by omega) (by simp [Value.oneCell']) (Nat.le_refl _) ?_)
      rintro w3 hO3 hg3 hbl3 hsz3
      replace hM := hM.add hB.size hbl3 hO3
      replace hB := hB.trans (hbl3.mono hB.size)
      generalize w2.heap.size = gg3 at *
      refine LS.vv rfl rfl (by decide) (Val.move rfl) ?_
      refine LS.m rfl (Step.append2 (B := w0.heap.size) rfl rfl (by decide) Try.underlying22 elem2 rfl rfl rfl rfl (hM.o0) ((hr2.below hB)) (by simp [nv]; omega) (by first | exact one_map _ (fun _ => rfl) _ | simp [Value.oneCell']) (by omega) (by omega) hB.size ?_)
      rintro p4 c4 w4 hO4 hg4 hbl4 hbk4
      replace hM := hM.s0 hg4 hO4 hbk4
      try simp only [nv_app1, nv_app, nv_set, nv_rep, nv_one, nv_cons, nv_take, nv_drop, List.nil_append] at hM
      replace hB := hB.trans hbl4
      rw [Nat.zero_add, ← hwl] at hM
      refine LS.vv rfl rfl (by decide) (Val.assign rfl) ?_
      refine LS.nil ?_
      refine W.seqR ?_
      refine LS.vv rfl rfl (by decide) (Val.cast (v := .int .i64 ((0 : Nat) : Int)) (Val.assign rfl) rfl) ?_
      refine LS.nil ?_
      refine W.seq ?_
      refine W.seqR ?_
      refine LS.vv rfl rfl (by decide) (Val.cast (v := .int .i64 ((0 : Nat) : Int)) (Val.assign rfl) rfl) ?_
      refine LS.nil ?_
      refine W.block ?_
      refine W.loop (α := Nat × List Nat × List Nat × Option Addr × Nat) (fun g => [(5, .slice g.2.2.2.1 g.2.1.length g.2.2.2.2), (6, .int .i64 (g.2.2.1.sum : Int)), (7, .int .i64 (g.1 : Int))]) [(3, _), (4, _)] (fun g w => (g.1 ≤ 2 ∧ Mg ws g.1 g.2.1 g.2.2.1.sum g.2.2.1) ∧ Mem w w0.heap.size [⟨2, g.2.2.2.1, g.2.1.length, g.2.2.2.2, nv g.2.1⟩] ∧ Below w0.heap.size w0 w) (fun g => 2 - g.1) ((0, ws, [], p4, c4)) (Sub.cons' rfl (by simp only [Nat.zero_add, hwl]) (Sub.cons rfl (Sub.cons rfl (Sub.nil _)))) (Sub.cons rfl (Sub.cons rfl (Sub.nil _))) ?_ ?_
      · exact ⟨⟨Nat.zero_le _, Mg.start ws⟩, hM, hB⟩
      rintro ⟨t, A, M, pl, cl⟩ w5 ⟨⟨ht, hMg⟩, hM, hB⟩
      try simp only at hM
      simp only [List.cons_append, List.nil_append]
      simp only at ht hMg
      have hal := hMg.alen
      have hmem := hMg.mem
      have hMs := hMg.small hwn ht
      have hcapl := hM.o0.le_cap
      refine W.seq ?_
      refine W.seqR ?_
      refine LS.vv rfl rfl (by decide) (Val.move rfl) ?_
      refine LS.vv rfl rfl (by decide) (Val.lss rfl rfl) ?_
      refine LS.nil ?_
      first | refine W.condD rfl (fun hc4 => ?_) (fun hc4 => ?_) | refine W.cond rfl (fun hc4 => ?_) (fun hc4 => ?_)
      ·
        refine W.skip ?_
        refine thenP_normal ?_
        refine W.seq ?_
        refine W.block ?_
        refine W.seqR ?_
        refine LS.vv rfl rfl (by decide) (Val.cast (v := .int .i64 ((0 : Nat) : Int)) (Val.assign rfl) rfl) ?_
        refine LS.nil ?_
        refine W.seq ?_
        refine W.seqR ?_
        refine LS.vv rfl rfl (by decide) (Val.move rfl) ?_
        refine LS.vv rfl rfl (by decide) (Val.len Try.underlying22 rfl) ?_
        refine LS.vv rfl rfl (by decide) (Val.cast (v := .int .i64 ((0 : Nat) : Int)) (Val.move rfl) rfl) ?_
        refine LS.nil ?_
        refine W.block ?_
        refine W.loop (α := Nat × Nat) (fun g => [(8, .int .i64 (g.2 : Int)), (41, .int .i64 (g.1 : Int))]) [(3, _), (4, _), (5, _), (6, _), (7, _), (39, _), (40, _)] (fun g w => (g.1 ≤ A.length ∧ g.2 < A.length ∧ ∀ j, j < g.1 → gn A g.2 ≤ gn A j) ∧ Mem w w0.heap.size [⟨2, pl, A.length, cl, nv A⟩] ∧ Below w0.heap.size w0 w) (fun g => A.length - g.1) ((0, 0)) (Sub.cons rfl (Sub.cons rfl (Sub.nil _))) (Sub.cons rfl (Sub.cons rfl (Sub.cons rfl (Sub.cons rfl (Sub.cons rfl (Sub.cons rfl (Sub.cons rfl (Sub.nil _)))))))) ?_ ?_
        · exact ⟨⟨Nat.zero_le _, by simp only; omega, fun j hj => absurd hj (by simp only; omega)⟩, hM, hB⟩
        rintro ⟨k, at1⟩ w6 ⟨⟨hk, hat, hmin⟩, hM, hB⟩
        try simp only at hM
        simp only [List.cons_append, List.nil_append]
        simp only at hk hat hmin
        refine W.seqR ?_
        refine LS.vv rfl rfl (by decide) (Val.lss rfl rfl) ?_
        refine LS.nil ?_
        refine W.seq ?_
        first | refine W.condD rfl (fun hc5 => ?_) (fun hc5 => ?_) | refine W.cond rfl (fun hc5 => ?_) (fun hc5 => ?_)
        ·
          refine W.skip ?_
          refine thenP_normal ?_
          refine W.seq ?_
          refine W.block ?_
          refine W.seqR ?_
          refine LS.vv rfl rfl (by decide) (Val.move rfl) ?_
          refine LS.vv rfl rfl (by decide) (Val.index1 Try.underlying22 elem2 rfl rfl (by omega) (hM.o0.rd) (nv_lt (by omega))) ?_
          refine LS.m rfl (Step.load rfl rfl (by decide) flat2 rfl (hM.o0.rd) (nv_at (by omega)) ?_)
          refine LS.vv rfl rfl (by decide) (Val.assign rfl) ?_
          refine LS.vv rfl rfl (by decide) (Val.assign rfl) ?_
          refine LS.nil ?_
          refine W.seqR ?_
          refine LS.vv rfl rfl (by decide) (Val.move rfl) ?_
          refine LS.vv rfl rfl (by decide) (Val.move rfl) ?_
          refine LS.vv rfl rfl (by decide) (Val.move rfl) ?_
          refine LS.vv rfl rfl (by decide) (Val.index1 Try.underlying22 elem2 rfl rfl (by omega) (hM.o0.rd) (nv_lt (by omega))) ?_
          refine LS.m rfl (Step.load rfl rfl (by decide) flat2 rfl (hM.o0.rd) (nv_at (by omega)) ?_)
          refine LS.vv rfl rfl (by decide) (Val.lss rfl rfl) ?_
          refine LS.nil ?_
          first | refine W.condD rfl (fun hc6 => ?_) (fun hc6 => ?_) | refine W.cond rfl (fun hc6 => ?_) (fun hc6 => ?_)
          ·
            refine W.reg ?_
            refine LS.vv rfl rfl (by decide) (Val.move rfl) ?_
            refine LS.vv rfl rfl (by decide) (Val.assign rfl) ?_
            refine LS.nil ?_
            refine inBlk_normal ?_
            refine thenP_normal ?_
            refine W.reg ?_
            first | refine LS.vv rfl rfl (by decide) (Val.addN (j := 1) rfl rfl (by omega)) ?_ | refine LS.vv rfl rfl (by decide) (Val.add64 rfl rfl (by omega)) ?_
            refine LS.vv rfl rfl (by decide) (Val.move rfl) ?_
            refine LS.nil ?_
            refine thenP_normal ?_
            first
              | (refine ⟨(k + 1, k), (Sub.cons rfl (Sub.cons rfl (Sub.nil _))), (by repeat (first | exact Sub.nil _ | refine Sub.cons rfl ?_)), ⟨⟨by simp only; omega, by simp only; omega, fun j hj => ?_⟩, hM, hB⟩, by simp only; omega⟩; simp only at hj ⊢; by_cases e1 : j = k; (subst e1; omega); (have := hmin j (by omega); omega))
              | (refine ⟨(k + 1, at1), (Sub.cons rfl (Sub.cons rfl (Sub.nil _))), (by repeat (first | exact Sub.nil _ | refine Sub.cons rfl ?_)), ⟨⟨by simp only; omega, by simp only; omega, fun j hj => ?_⟩, hM, hB⟩, by simp only; omega⟩; simp only at hj ⊢; by_cases e1 : j = k; (subst e1; omega); (have := hmin j (by omega); omega))
          ·
            refine W.skip ?_
            refine inBlk_normal ?_
            refine thenP_normal ?_
            refine W.reg ?_
            first | refine LS.vv rfl rfl (by decide) (Val.addN (j := 1) rfl rfl (by omega)) ?_ | refine LS.vv rfl rfl (by decide) (Val.add64 rfl rfl (by omega)) ?_
            refine LS.vv rfl rfl (by decide) (Val.move rfl) ?_
            refine LS.nil ?_
            refine thenP_normal ?_
            first
              | (refine ⟨(k + 1, k), (Sub.cons rfl (Sub.cons rfl (Sub.nil _))), (by repeat (first | exact Sub.nil _ | refine Sub.cons rfl ?_)), ⟨⟨by simp only; omega, by simp only; omega, fun j hj => ?_⟩, hM, hB⟩, by simp only; omega⟩; simp only at hj ⊢; by_cases e1 : j = k; (subst e1; omega); (have := hmin j (by omega); omega))
              | (refine ⟨(k + 1, at1), (Sub.cons rfl (Sub.cons rfl (Sub.nil _))), (by repeat (first | exact Sub.nil _ | refine Sub.cons rfl ?_)), ⟨⟨by simp only; omega, by simp only; omega, fun j hj => ?_⟩, hM, hB⟩, by simp only; omega⟩; simp only at hj ⊢; by_cases e1 : j = k; (subst e1; omega); (have := hmin j (by omega); omega))
        ·
          refine W.exit ?_
          refine thenP_exit ?_
          refine thenP_exit ?_
          refine inBlk_exit ?_
          refine thenP_normal ?_
          refine W.seqR ?_
          refine LS.vv rfl rfl (by decide) (Val.move rfl) ?_
          refine LS.vv rfl rfl (by decide) (Val.move rfl) ?_
          refine LS.vv rfl rfl (by decide) (Val.move rfl) ?_
          refine LS.vv rfl rfl (by decide) (Val.index1 Try.underlying22 elem2 rfl rfl (by omega) (hM.o0.rd) (nv_lt (by omega))) ?_
          refine LS.m rfl (Step.load rfl rfl (by decide) flat2 rfl (hM.o0.rd) (nv_at (by omega)) ?_)
          have hga : gn A at1 ≤ 1048576 := hwn _ (hmem _ (by rw [gn_lt hat]; exact List.getElem_mem _))
          first | refine LS.vv rfl rfl (by decide) (Val.addN rfl rfl (by omega)) ?_ | refine LS.vv rfl rfl (by decide) (Val.add64 rfl rfl (by omega)) ?_
          refine LS.vv rfl rfl (by decide) (Val.assign rfl) ?_
          refine LS.nil ?_
          refine W.regD (S := fun w => Below w0.heap.size w0 w) [(1, true), (2, true), (3, true), (5, true), (6, true), (7, true), (8, true), (0, false), (4, false), (9, false), (10, true)] mixed (by kernel_rfl) hB.drew ?_
          replace hB := hB.drew
          replace hM := hM.drew
          refine DX.vv rfl rfl rfl (by decide) (Val.move rfl) ?_
          refine DX.vv rfl rfl rfl (by decide) (Val.move rfl) ?_
          refine DX.vv rfl rfl rfl (by decide) (Val.sliceTo Try.underlying22 elem2 rfl rfl (by omega)) ?_
          refine DX.vv rfl rfl rfl (by decide) (Val.move rfl) ?_
          refine DX.vv rfl rfl rfl (by decide) (Val.move rfl) ?_
          first | refine DX.vv rfl rfl rfl (by decide) (Val.addN (j := 1) rfl rfl (by omega)) ?_ | refine DX.vv rfl rfl rfl (by decide) (Val.add64 rfl rfl (by omega)) ?_
          refine DX.vv rfl rfl rfl (by decide) (Val.sliceFrom Try.underlying22 elem2 rfl rfl (by omega) (by omega)) ?_
          refine DX.m rfl rfl (Step.lit rfl rfl (by decide) Try.underlying22 elem2 rfl rfl (by omega) (by simp [Value.oneCell']) (Nat.le_refl _) ?_)
          rintro w7 hO7 hg7 hbl7 hsz7
          replace hM := hM.add hB.size hbl7 hO7
          replace hB := hB.trans (hbl7.mono hB.size)
          generalize w6.drew.heap.size = gg7 at *
          refine ⟨hB, ?_⟩
          refine DX.m rfl rfl (Step.append2 (B := w0.heap.size) rfl rfl (by decide) Try.underlying22 elem2 rfl rfl rfl rfl (hM.o0) ((hM.o1.rd.take at1)) (by simp [nv]; omega) (fun u hu => by obtain ⟨x, _, rfl⟩ := List.mem_map.1 (List.mem_of_mem_take hu); rfl) (by omega) (by omega) hB.size ?_)
          rintro p8 c8 w8 hO8 hg8 hbl8 hbk8
          replace hM := hM.s0 hg8 hO8 hbk8
          try simp only [nv_app1, nv_app, nv_set, nv_rep, nv_one, nv_cons, nv_take, nv_drop, List.nil_append] at hM
          replace hB := hB.trans hbl8
          refine ⟨hB, ?_⟩
          refine DX.m rfl rfl (Step.append2 (B := w0.heap.size) rfl rfl (by decide) Try.underlying22 elem2 rfl rfl rfl rfl (hM.o0) ((hM.o1.rd.cut (by simp [nv]; omega))) (by simp [nv]) (fun u hu => by obtain ⟨x, _, rfl⟩ := List.mem_map.1 (List.mem_of_mem_drop hu); rfl) (by omega) (by omega) hB.size ?_)
          rintro p9 c9 w9 hO9 hg9 hbl9 hbk9
          replace hM := hM.s0 hg9 hO9 hbk9
          try simp only [nv_app1, nv_app, nv_set, nv_rep, nv_one, nv_cons, nv_take, nv_drop, List.nil_append] at hM
          replace hB := hB.trans hbl9
          refine ⟨hB, ?_⟩
          refine DX.vv rfl rfl rfl (by decide) (Val.assign rfl) ?_
          refine DX.nil ?_
          refine inBlk_normal ?_
          refine thenP_normal ?_
          refine W.reg ?_
          refine LS.vv rfl rfl (by decide) (Val.move rfl) ?_
          first | refine LS.vv rfl rfl (by decide) (Val.addN (j := 1) rfl rfl (by omega)) ?_ | refine LS.vv rfl rfl (by decide) (Val.add64 rfl rfl (by omega)) ?_
          refine LS.vv rfl rfl (by decide) (Val.assign rfl) ?_
          refine LS.nil ?_
          refine thenP_normal ?_
          have hst := hMg.step (a := at1) hat (fun j hj => hmin j (by omega))
          have hlen : 0 + at1 + (A.length - (at1 + 1)) = (A.eraseIdx at1).length := by rw [List.length_eraseIdx_of_lt hat]; omega
          rw [hlen, ← List.eraseIdx_eq_take_drop_succ] at hM
          refine ⟨(t + 1, A.eraseIdx at1, M ++ [gn A at1], p9, c9), ?_, ?_, ⟨⟨by simp only; omega, by simp only [List.sum_append]; simpa using hst⟩, hM.er1, hB⟩, by simp only; omega⟩
          · exact Sub.cons' rfl (by simp only [hlen]) (Sub.cons' rfl (by simp) (Sub.cons rfl (Sub.nil _)))
          · repeat (first | exact Sub.nil _ | refine Sub.cons rfl ?_)
      ·
        refine W.exit ?_
        refine thenP_exit ?_
        refine thenP_exit ?_
        refine inBlk_exit ?_
        refine thenP_normal ?_
        refine W.seq ?_
        refine W.seqR ?_
        refine LS.vv rfl rfl (by decide) (Val.move rfl) ?_
        refine LS.vv rfl rfl (by decide) (Val.gtr rfl rfl) ?_
        refine LS.nil ?_
        first | refine W.condD rfl (fun hc7 => ?_) (fun hc7 => ?_) | refine W.cond rfl (fun hc7 => ?_) (fun hc7 => ?_)
        ·
          refine W.seqR ?_
          refine LS.vv rfl rfl (by decide) (Val.move rfl) ?_
          refine LS.vv rfl rfl (by decide) (Val.cast (v := .bool true) (Val.eql rfl rfl) (by first | rfl | (exfalso; omega) | (refine congrArg Value.bool (decide_eq_true ?_); omega))) ?_
          refine LS.vv rfl rfl (by decide) (Val.assign rfl) ?_
          refine LS.nil ?_
          refine W.ret ?_
          refine thenP_ret ?_
          refine ret1 (by first | exact .inl rfl | exact .inr rfl) rfl ?_
          first | exact ⟨rfl, hB⟩ | (exfalso; omega)
        ·
          refine W.skip ?_
          refine thenP_normal ?_
          refine W.seqR ?_
          refine LS.vv rfl rfl (by decide) (Val.move rfl) ?_
          refine LS.vv rfl rfl (by decide) (Val.move rfl) ?_
          refine LS.m rfl (Step.lit rfl rfl (by decide) Try.underlying22 elem2 rfl rfl (by omega) (by simp [Value.oneCell']) (Nat.le_refl _) ?_)
          rintro w10 hO10 hg10 hbl10 hsz10
          replace hM := hM.add hB.size hbl10 hO10
          try simp only [nv_app1, nv_app, nv_set, nv_rep, nv_one, nv_cons, nv_take, nv_drop, List.nil_append] at hM
          replace hB := hB.trans (hbl10.mono hB.size)
          generalize w5.heap.size = gg10 at *
          refine LS.m rfl (Step.append2 (B := w0.heap.size) rfl rfl (by decide) Try.underlying22 elem2 rfl rfl rfl rfl (hM.o1) (hM.o0.rd) (by first | rfl | (simp; done) | (simp; omega)) (by first | exact one_map _ (fun _ => rfl) _ | simp [Value.oneCell']) (by omega) (by omega) hB.size ?_)
          rintro p11 c11 w11 hO11 hg11 hbl11 hbk11
          replace hM := hM.s1 hg11 hO11 hbk11
          try simp only [nv_app1, nv_app, nv_set, nv_rep, nv_one, nv_cons, nv_take, nv_drop, List.nil_append] at hM
          replace hB := hB.trans hbl11
          obtain rfl : t = 2 := by omega
          refine LS.m rfl (Step.call body17 rfl rfl (by decide) rfl (CallsV.mono (cost_any ((A ++ [M.sum]).map fun x : Nat => (x : Int)) _ _ _ _ (by rw [← nv_iv]; exact hM.o1.rd) (by simp)) ?_))
          rintro _ w12 ⟨f, y, rfl, hf, hfo, hb12⟩
          replace hM := hM.below hb12
          replace hB := hB.trans (hb12.mono hB.size)
          have hf0 : f = 0 := hf.2 ⟨by simp; omega, fun z hz => by obtain ⟨y, hy, rfl⟩ := List.mem_map.1 hz; rcases List.mem_append.1 hy with hy | hy; (have := hwn _ (hmem y hy); omega); (rw [List.mem_singleton.1 hy]; omega)⟩
          obtain ⟨l3, hl3, hy3⟩ := hfo hf0
          rw [map_nat_int] at hl3 hy3
          have hmd := hMg.done hl hl3 hws8
          rw [← hx, ← hy3] at hmd
          have hbd := cost_bound ws l hwn (hl.l8 hws8)
          rw [← hx] at hbd
          clear hx hy3
          refine LS.vv rfl rfl (by decide) (Val.move rfl) ?_
          refine LS.vv rfl rfl (by decide) (Val.extract rfl rfl) ?_
          refine LS.vv rfl rfl (by decide) (Val.extract rfl rfl) ?_
          refine LS.vv rfl rfl (by decide) (Val.assign rfl) ?_
          refine LS.vv rfl rfl (by decide) (Val.assign rfl) ?_
          refine LS.nil ?_
          refine W.seqR ?_
          refine LS.vv rfl rfl (by decide) (Val.move rfl) ?_
          refine LS.vv rfl rfl (by decide) (Val.eql rfl rfl) ?_
          refine LS.vv rfl rfl (by decide) (Val.move rfl) ?_
          refine LS.split 2 rfl (fun hg8 => ?_) (fun hg8 => ?_)
          ·
            first | (have hg8p := of_decide_eq_true hg8) | skip
            refine LS.vg rfl rfl rfl hg8 (by decide) (Val.move rfl) ?_
            refine LS.vg rfl rfl rfl hg8 (by decide) (Val.eql rfl rfl) ?_
            refine LS.vv rfl rfl (by decide) (Val.cast (v := .bool true) (Val.pickT rfl hg8 rfl) (by first | rfl | (exfalso; omega) | (refine congrArg Value.bool (decide_eq_true ?_); omega))) ?_
            refine LS.vv rfl rfl (by decide) (Val.move rfl) ?_
            refine LS.vg rfl rfl rfl rfl (by decide) (Val.move rfl) ?_
            refine LS.vg rfl rfl rfl rfl (by decide) (Val.move rfl) ?_
            refine LS.vg rfl rfl rfl rfl (by decide) (Val.move rfl) ?_
            first | refine LS.vg rfl rfl rfl rfl (by decide) (Val.addN rfl rfl (by omega)) ?_ | refine LS.vg rfl rfl rfl rfl (by decide) (Val.add64 rfl rfl (by omega)) ?_
            refine LS.vg rfl rfl rfl rfl (by decide) (Val.eql rfl rfl) ?_
            refine LS.vv rfl rfl (by decide) (Val.cast (v := .bool true) (Val.pickT rfl rfl rfl) (by first | rfl | (exfalso; omega) | (refine congrArg Value.bool (decide_eq_true ?_); omega))) ?_
            refine LS.vv rfl rfl (by decide) (Val.assign rfl) ?_
            refine LS.nil ?_
            refine W.ret ?_
            refine ret1 (by first | exact .inl rfl | exact .inr rfl) rfl ?_
            first | exact ⟨rfl, hB⟩ | (exfalso; omega)
          ·
            first | (have hg8p := of_decide_eq_false hg8) | skip
            refine LS.s rfl rfl rfl hg8 (by decide) ?_
            refine LS.s rfl rfl rfl hg8 (by decide) ?_
            refine LS.vv rfl rfl (by decide) (Val.cast (v := .bool true) (Val.pickF rfl hg8 rfl) (by first | rfl | (exfalso; omega) | (refine congrArg Value.bool (decide_eq_true ?_); omega))) ?_
            refine LS.vv rfl rfl (by decide) (Val.move rfl) ?_
            refine LS.vg rfl rfl rfl rfl (by decide) (Val.move rfl) ?_
            refine LS.vg rfl rfl rfl rfl (by decide) (Val.move rfl) ?_
            refine LS.vg rfl rfl rfl rfl (by decide) (Val.move rfl) ?_
            first | refine LS.vg rfl rfl rfl rfl (by decide) (Val.addN rfl rfl (by omega)) ?_ | refine LS.vg rfl rfl rfl rfl (by decide) (Val.add64 rfl rfl (by omega)) ?_
            refine LS.vg rfl rfl rfl rfl (by decide) (Val.eql rfl rfl) ?_
            refine LS.vv rfl rfl (by decide) (Val.cast (v := .bool true) (Val.pickT rfl rfl rfl) (by first | rfl | (exfalso; omega) | (refine congrArg Value.bool (decide_eq_true ?_); omega))) ?_
            refine LS.vv rfl rfl (by decide) (Val.assign rfl) ?_
            refine LS.nil ?_
            refine W.ret ?_
            refine ret1 (by first | exact .inl rfl | exact .inr rfl) rfl ?_
            first | exact ⟨rfl, hB⟩ | (exfalso; omega)

end Go.Proofs.Ytohflgcbpmoinaa
