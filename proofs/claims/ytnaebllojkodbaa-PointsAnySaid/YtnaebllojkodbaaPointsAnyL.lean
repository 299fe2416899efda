/-
  The statement PointsAny.
-/
import Derived.Test.YtnaebllojkodbaaFill
namespace Go.Proofs.Ytnaebllojkodbaa
open Go Go.RowKit V
set_option linter.unusedVariables false
set_option linter.unusedSimpArgs false

theorem pointsAny_any (n : Int) (data : List Int) (lost : Nat) (p : Option Addr) (c m : Nat) (w0 : World) (hr : Rd w0 p (iv data)) (hm : data.length = m) (hl : m * 8 ≤ 140737488351232) (hlost : lost < 4294967296) :
    CallsV Try.prog 6 #[.int .i64 n, .slice p m c, .int .u32 (lost : Int)] w0 (fun v w => v = .bool true ∧ Below w0.heap.size w0 w) := by
  refine enter1 Try.func6 rfl Try.ntmps6 (by simp) rfl ?_
  have hB := Below.refl w0.heap.size w0
  simp only [argLoc, Nat.zero_add, Nat.reduceAdd]
  have hM := Mem.nil w0 w0.heap.size
  subst hm
  refine W.seqR ?_
  refine LS.vv rfl rfl (by decide) (Val.assign rfl) ?_
  refine LS.nil ?_
  refine W.seqR ?_
  refine LS.vv rfl rfl (by decide) (Val.move rfl) ?_
  refine LS.vv rfl rfl (by decide) (Val.move rfl) ?_
  refine LS.m rfl (Step.call body18 rfl rfl (by decide) rfl (CallsV.mono (Put_any data _ _ _ _ (hr.below hB) rfl n hl) ?_))
  rintro _ w1 ⟨p1, c1, L1, e1, rfl, he1, hL1, hz1, xs, hxl, hxe, hOx, hb1⟩
  replace hM := hM.add hB.size hb1 hOx
  replace hB := hB.trans (hb1.mono hB.size)
  refine LS.vv rfl rfl (by decide) (Val.move rfl) ?_
  refine LS.vv rfl rfl (by decide) (Val.extract rfl rfl) ?_
  refine LS.vv rfl rfl (by decide) (Val.extract rfl rfl) ?_
  refine LS.vv rfl rfl (by decide) (Val.assign rfl) ?_
  refine LS.vv rfl rfl (by decide) (Val.assign rfl) ?_
  refine LS.nil ?_
  refine W.seq ?_
  refine W.seqR ?_
  refine LS.vv rfl rfl (by decide) (Val.move rfl) ?_
  refine LS.vv rfl rfl (by decide) (Val.neq rfl rfl) ?_
  refine LS.nil ?_
  first | refine W.condD rfl (fun hc1 => ?_) (fun hc1 => ?_) | refine W.cond rfl (fun hc1 => ?_) (fun hc1 => ?_)
  ·
    refine W.seqR ?_
    refine LS.vv rfl rfl (by decide) (Val.move rfl) ?_
    refine LS.vv rfl rfl (by decide) (Val.len Try.underlying27 rfl) ?_
    refine LS.vv rfl rfl (by decide) (Val.eql rfl rfl) ?_
    refine LS.vv rfl rfl (by decide) (Val.move rfl) ?_
    refine LS.split 3 rfl (fun hg2 => ?_) (fun hg2 => ?_)
    ·
      first | (have hg2p := of_decide_eq_true hg2) | skip
      refine LS.vg rfl rfl rfl hg2 (by decide) (Val.move rfl) ?_
      refine LS.vg rfl rfl rfl hg2 (by decide) (Val.lss rfl rfl) ?_
      refine LS.vg rfl rfl rfl hg2 (by decide) (Val.move rfl) ?_
      refine LS.split 6 rfl (fun hg3 => ?_) (fun hg3 => ?_)
      ·
        first | (have hg3p := of_decide_eq_true hg3) | skip
        refine LS.s rfl rfl rfl hg3 (by decide) ?_
        refine LS.s rfl rfl rfl hg3 (by decide) ?_
        refine LS.vg rfl rfl rfl hg2 (by decide) (Val.pickT rfl hg3 rfl) ?_
        refine LS.vg rfl rfl rfl hg2 (by decide) (Val.move rfl) ?_
        refine LS.s rfl rfl rfl rfl (by decide) ?_
        refine LS.s rfl rfl rfl rfl (by decide) ?_
        refine LS.s rfl rfl rfl rfl (by decide) ?_
        refine LS.vg rfl rfl rfl hg2 (by decide) (Val.pickT rfl rfl rfl) ?_
        refine LS.vg rfl rfl rfl hg2 (by decide) (Val.move rfl) ?_
        refine LS.s rfl rfl rfl rfl (by decide) ?_
        refine LS.s rfl rfl rfl rfl (by decide) ?_
        refine LS.s rfl rfl rfl rfl (by decide) ?_
        refine LS.s rfl rfl rfl rfl (by decide) ?_
        refine LS.vg rfl rfl rfl hg2 (by decide) (Val.pickT rfl rfl rfl) ?_
        refine LS.vg rfl rfl rfl hg2 (by decide) (Val.move rfl) ?_
        refine LS.s rfl rfl rfl rfl (by decide) ?_
        refine LS.s rfl rfl rfl rfl (by decide) ?_
        refine LS.s rfl rfl rfl rfl (by decide) ?_
        refine LS.vg rfl rfl rfl hg2 (by decide) (Val.pickT rfl rfl rfl) ?_
        refine LS.vv rfl rfl (by decide) (Val.pickT rfl hg2 rfl) ?_
        refine LS.vv rfl rfl (by decide) (Val.assign rfl) ?_
        refine LS.nil ?_
        refine W.ret ?_
        refine thenP_ret ?_
        refine ret1 (by first | exact .inl rfl | exact .inr rfl) rfl ?_
        first
          | exact ⟨rfl, hB⟩
          | contradiction
          | (exfalso; first | omega | (have := hz1 (by omega); omega))
          | exact ⟨congrArg Value.bool (decide_eq_true (by first | omega | (have := hz1 (by omega); omega))), hB⟩
          | (refine ⟨congrArg Value.bool ?_, hB⟩
             have hnb : ¬ b = true := fun h => by have := he1.2 ⟨by omega, by omega, by omega, by omega, hb0.1 h⟩; omega
             simp [hnb])
      ·
        first | (have hg3p := of_decide_eq_false hg3) | skip
        refine LS.vg rfl rfl rfl hg3 (by decide) (Val.move rfl) ?_
        refine LS.vg rfl rfl rfl hg3 (by decide) (Val.gtr rfl rfl) ?_
        refine LS.vg rfl rfl rfl hg2 (by decide) (Val.pickF rfl hg3 rfl) ?_
        refine LS.vg rfl rfl rfl hg2 (by decide) (Val.move rfl) ?_
        refine LS.split 10 rfl (fun hg4 => ?_) (fun hg4 => ?_)
        ·
          first | (have hg4p := of_decide_eq_true hg4) | skip
          refine LS.s rfl rfl rfl hg4 (by decide) ?_
          refine LS.s rfl rfl rfl hg4 (by decide) ?_
          refine LS.s rfl rfl rfl hg4 (by decide) ?_
          refine LS.vg rfl rfl rfl hg2 (by decide) (Val.pickT rfl hg4 rfl) ?_
          refine LS.vg rfl rfl rfl hg2 (by decide) (Val.move rfl) ?_
          refine LS.s rfl rfl rfl rfl (by decide) ?_
          refine LS.s rfl rfl rfl rfl (by decide) ?_
          refine LS.s rfl rfl rfl rfl (by decide) ?_
          refine LS.s rfl rfl rfl rfl (by decide) ?_
          refine LS.vg rfl rfl rfl hg2 (by decide) (Val.pickT rfl rfl rfl) ?_
          refine LS.vg rfl rfl rfl hg2 (by decide) (Val.move rfl) ?_
          refine LS.s rfl rfl rfl rfl (by decide) ?_
          refine LS.s rfl rfl rfl rfl (by decide) ?_
          refine LS.s rfl rfl rfl rfl (by decide) ?_
          refine LS.vg rfl rfl rfl hg2 (by decide) (Val.pickT rfl rfl rfl) ?_
          refine LS.vv rfl rfl (by decide) (Val.pickT rfl hg2 rfl) ?_
          refine LS.vv rfl rfl (by decide) (Val.assign rfl) ?_
          refine LS.nil ?_
          refine W.ret ?_
          refine thenP_ret ?_
          refine ret1 (by first | exact .inl rfl | exact .inr rfl) rfl ?_
          first
            | exact ⟨rfl, hB⟩
            | contradiction
            | (exfalso; first | omega | (have := hz1 (by omega); omega))
            | exact ⟨congrArg Value.bool (decide_eq_true (by first | omega | (have := hz1 (by omega); omega))), hB⟩
            | (refine ⟨congrArg Value.bool ?_, hB⟩
               have hnb : ¬ b = true := fun h => by have := he1.2 ⟨by omega, by omega, by omega, by omega, hb0.1 h⟩; omega
               simp [hnb])
        ·
          first | (have hg4p := of_decide_eq_false hg4) | skip
          refine LS.vg rfl rfl rfl hg4 (by decide) (Val.move rfl) ?_
          refine LS.vg rfl rfl rfl hg4 (by decide) (Val.len Try.underlying27 rfl) ?_
          refine LS.vg rfl rfl rfl hg4 (by decide) (Val.eql rfl rfl) ?_
          refine LS.vg rfl rfl rfl hg2 (by decide) (Val.pickF rfl hg4 rfl) ?_
          refine LS.vg rfl rfl rfl hg2 (by decide) (Val.move rfl) ?_
          refine LS.split 15 rfl (fun hg5 => ?_) (fun hg5 => ?_)
          ·
            first | (have hg5p := of_decide_eq_true hg5) | skip
            refine LS.s rfl rfl rfl hg5 (by decide) ?_
            refine LS.s rfl rfl rfl hg5 (by decide) ?_
            refine LS.s rfl rfl rfl hg5 (by decide) ?_
            refine LS.s rfl rfl rfl hg5 (by decide) ?_
            refine LS.vg rfl rfl rfl hg2 (by decide) (Val.pickT rfl hg5 rfl) ?_
            refine LS.vg rfl rfl rfl hg2 (by decide) (Val.move rfl) ?_
            refine LS.s rfl rfl rfl rfl (by decide) ?_
            refine LS.s rfl rfl rfl rfl (by decide) ?_
            refine LS.s rfl rfl rfl rfl (by decide) ?_
            refine LS.vg rfl rfl rfl hg2 (by decide) (Val.pickT rfl rfl rfl) ?_
            refine LS.vv rfl rfl (by decide) (Val.pickT rfl hg2 rfl) ?_
            refine LS.vv rfl rfl (by decide) (Val.assign rfl) ?_
            refine LS.nil ?_
            refine W.ret ?_
            refine thenP_ret ?_
            refine ret1 (by first | exact .inl rfl | exact .inr rfl) rfl ?_
            first
              | exact ⟨rfl, hB⟩
              | contradiction
              | (exfalso; first | omega | (have := hz1 (by omega); omega))
              | exact ⟨congrArg Value.bool (decide_eq_true (by first | omega | (have := hz1 (by omega); omega))), hB⟩
              | (refine ⟨congrArg Value.bool ?_, hB⟩
                 have hnb : ¬ b = true := fun h => by have := he1.2 ⟨by omega, by omega, by omega, by omega, hb0.1 h⟩; omega
                 simp [hnb])
          ·
            first | (have hg5p := of_decide_eq_false hg5) | skip
            refine LS.vg rfl rfl rfl hg5 (by decide) (Val.move rfl) ?_
            refine LS.vg rfl rfl rfl hg5 (by decide) (Val.len Try.underlying27 rfl) ?_
            refine LS.vg rfl rfl rfl hg5 (by decide) (Val.move rfl) ?_
            refine LS.vg rfl rfl rfl hg5 (by decide) (Val.gtr rfl rfl) ?_
            refine LS.vg rfl rfl rfl hg2 (by decide) (Val.pickF rfl hg5 rfl) ?_
            refine LS.vg rfl rfl rfl hg2 (by decide) (Val.move rfl) ?_
            refine LS.split 21 rfl (fun hg6 => ?_) (fun hg6 => ?_)
            ·
              first | (have hg6p := of_decide_eq_true hg6) | skip
              refine LS.s rfl rfl rfl hg6 (by decide) ?_
              refine LS.s rfl rfl rfl hg6 (by decide) ?_
              refine LS.s rfl rfl rfl hg6 (by decide) ?_
              refine LS.vg rfl rfl rfl hg2 (by decide) (Val.pickT rfl hg6 rfl) ?_
              refine LS.vv rfl rfl (by decide) (Val.pickT rfl hg2 rfl) ?_
              refine LS.vv rfl rfl (by decide) (Val.assign rfl) ?_
              refine LS.nil ?_
              refine W.ret ?_
              refine thenP_ret ?_
              refine ret1 (by first | exact .inl rfl | exact .inr rfl) rfl ?_
              first
                | exact ⟨rfl, hB⟩
                | contradiction
                | (exfalso; first | omega | (have := hz1 (by omega); omega))
                | exact ⟨congrArg Value.bool (decide_eq_true (by first | omega | (have := hz1 (by omega); omega))), hB⟩
                | (refine ⟨congrArg Value.bool ?_, hB⟩
                   have hnb : ¬ b = true := fun h => by have := he1.2 ⟨by omega, by omega, by omega, by omega, hb0.1 h⟩; omega
                   simp [hnb])
            ·
              first | (have hg6p := of_decide_eq_false hg6) | skip
              refine LS.vg rfl rfl rfl hg6 (by decide) (Val.move rfl) ?_
              refine LS.mg rfl rfl hg6 (Step.call body14 rfl rfl (by decide) rfl (CallsV.mono (numbersN data _ _ _ _ (hr.below hB) rfl (by omega)) ?_))
              rintro _ w2 ⟨b, rfl, hb0, hb2⟩
              replace hM := hM.below hb2
              replace hB := hB.trans (hb2.mono hB.size)
              refine LS.vg rfl rfl rfl hg6 (by decide) (Val.not rfl) ?_
              refine LS.vg rfl rfl rfl hg2 (by decide) (Val.pickF rfl hg6 rfl) ?_
              refine LS.vv rfl rfl (by decide) (Val.pickT rfl hg2 rfl) ?_
              refine LS.vv rfl rfl (by decide) (Val.assign rfl) ?_
              refine LS.nil ?_
              refine W.ret ?_
              refine thenP_ret ?_
              refine ret1 (by first | exact .inl rfl | exact .inr rfl) rfl ?_
              first
                | exact ⟨rfl, hB⟩
                | contradiction
                | (exfalso; first | omega | (have := hz1 (by omega); omega))
                | exact ⟨congrArg Value.bool (decide_eq_true (by first | omega | (have := hz1 (by omega); omega))), hB⟩
                | (refine ⟨congrArg Value.bool ?_, hB⟩
                   have hnb : ¬ b = true := fun h => by have := he1.2 ⟨by omega, by omega, by omega, by omega, hb0.1 h⟩; omega
                   simp [hnb])
    ·
      first | (have hg2p := of_decide_eq_false hg2) | skip
      refine LS.s rfl rfl rfl hg2 (by decide) ?_
      refine LS.s rfl rfl rfl hg2 (by decide) ?_
      refine LS.s rfl rfl rfl hg2 (by decide) ?_
      refine LS.skipU rfl rfl rfl (by decide) ?_
      refine LS.skipU rfl rfl rfl (by decide) ?_
      refine LS.s rfl rfl rfl hg2 (by decide) ?_
      refine LS.s rfl rfl rfl hg2 (by decide) ?_
      refine LS.skipU rfl rfl rfl (by decide) ?_
      refine LS.skipU rfl rfl rfl (by decide) ?_
      refine LS.skipU rfl rfl rfl (by decide) ?_
      refine LS.s rfl rfl rfl hg2 (by decide) ?_
      refine LS.s rfl rfl rfl hg2 (by decide) ?_
      refine LS.skipU rfl rfl rfl (by decide) ?_
      refine LS.skipU rfl rfl rfl (by decide) ?_
      refine LS.skipU rfl rfl rfl (by decide) ?_
      refine LS.skipU rfl rfl rfl (by decide) ?_
      refine LS.s rfl rfl rfl hg2 (by decide) ?_
      refine LS.s rfl rfl rfl hg2 (by decide) ?_
      refine LS.skipU rfl rfl rfl (by decide) ?_
      refine LS.skipU rfl rfl rfl (by decide) ?_
      refine LS.skipU rfl rfl rfl (by decide) ?_
      refine LS.s rfl rfl rfl hg2 (by decide) ?_
      refine LS.vv rfl rfl (by decide) (Val.pickF rfl hg2 rfl) ?_
      refine LS.vv rfl rfl (by decide) (Val.assign rfl) ?_
      refine LS.nil ?_
      refine W.ret ?_
      refine thenP_ret ?_
      refine ret1 (by first | exact .inl rfl | exact .inr rfl) rfl ?_
      first
        | exact ⟨rfl, hB⟩
        | contradiction
        | (exfalso; first | omega | (have := hz1 (by omega); omega))
        | exact ⟨congrArg Value.bool (decide_eq_true (by first | omega | (have := hz1 (by omega); omega))), hB⟩
        | (refine ⟨congrArg Value.bool ?_, hB⟩
           have hnb : ¬ b = true := fun h => by have := he1.2 ⟨by omega, by omega, by omega, by omega, hb0.1 h⟩; omega
           simp [hnb])
  ·
    obtain rfl : e1 = 0 := by omega
    obtain ⟨g1, g2, g3, g4, okd⟩ := he1.1 rfl
    have hxe := hxe rfl
    have hL1 := hL1 rfl
    obtain ⟨N, rfl⟩ := Int.eq_ofNat_of_zero_le (show 0 ≤ n by omega)
    have hLN : N = L1 := by omega
    have hN9 : N ≤ 9 := by omega
    have hsmD := (okF_iff_small okd).1
    refine W.skip ?_
    refine thenP_normal ?_
    refine W.seq ?_
    refine W.seqR ?_
    refine LS.vv rfl rfl (by decide) (Val.move rfl) ?_
    refine LS.vv rfl rfl (by decide) (Val.len Try.underlying27 rfl) ?_
    refine LS.vv rfl rfl (by decide) (Val.move rfl) ?_
    refine LS.vv rfl rfl (by decide) (Val.neq rfl rfl) ?_
    refine LS.nil ?_
    first | refine W.condD rfl (fun hc7 => ?_) (fun hc7 => ?_) | refine W.cond rfl (fun hc7 => ?_) (fun hc7 => ?_)
    ·
      refine W.seqR ?_
      refine LS.vv rfl rfl (by decide) (Val.assign rfl) ?_
      refine LS.nil ?_
      refine W.ret ?_
      refine thenP_ret ?_
      refine ret1 (by first | exact .inl rfl | exact .inr rfl) rfl ?_
      first
        | exact ⟨rfl, hB⟩
        | contradiction
        | (exfalso; first | omega | (have := hz1 (by omega); omega))
        | exact ⟨congrArg Value.bool (decide_eq_true (by first | omega | (have := hz1 (by omega); omega))), hB⟩
        | (refine ⟨congrArg Value.bool ?_, hB⟩
           have hnb : ¬ b = true := fun h => by have := he1.2 ⟨by omega, by omega, by omega, by omega, hb0.1 h⟩; omega
           simp [hnb])
    ·
      refine W.skip ?_
      refine thenP_normal ?_
      refine W.seqR ?_
      refine LS.vv rfl rfl (by decide) (Val.move rfl) ?_
      refine LS.m rfl (Step.make rfl rfl (by decide) Try.underlying35 elem4 rfl rfl rfl (by omega) (by omega) (Nat.le_refl _) ?_)
      rintro w3 hO3 hg3 hbl3
      replace hM := hM.add hB.size hbl3 hO3
      try simp only [bv_app1, bv_app, bv_set, bv_rep, bv_one, bv_cons, bv_take, bv_drop, List.nil_append] at hM
      replace hB := hB.trans (hbl3.mono hB.size)
      generalize w1.heap.size = gg3 at *
      refine LS.vv rfl rfl (by decide) (Val.assign rfl) ?_
      refine LS.nil ?_
      refine W.seqR ?_
      refine LS.vv rfl rfl (by decide) (Val.cast (v := .int .i64 ((0 : Nat) : Int)) (Val.assign rfl) rfl) ?_
      refine LS.nil ?_
      refine W.seq ?_
      refine W.seqR ?_
      refine LS.vv rfl rfl (by decide) (Val.cast (v := .int .i64 ((0 : Nat) : Int)) (Val.assign rfl) rfl) ?_
      refine LS.nil ?_
      refine W.block ?_
      subst hLN
      rw [hxe, nv_ci, ← lostK_zero (ci _) lost, ← goneK_zero lost] at hM
      refine W.loop (α := Nat) (fun k => [(10, .int .i64 (manyN lost k : Int)), (11, .int .i64 (k : Int))]) [(0, _), (1, _), (2, _), (7, _), (9, _)] (fun k w => (k ≤ N) ∧ Mem w w0.heap.size [⟨4, some ⟨gg3, 0, none⟩, N, N, bv (goneK lost N k)⟩, ⟨3, p1, N, c1, iv (lostK (ci (putp N (data.map Int.toNat))) lost k)⟩] ∧ Below w0.heap.size w0 w) (fun k => N - k) (0) (Sub.cons rfl (Sub.cons rfl (Sub.nil _))) (Sub.cons rfl (Sub.cons rfl (Sub.cons rfl (Sub.cons rfl (Sub.cons rfl (Sub.nil _)))))) ?_ ?_
      · exact ⟨Nat.zero_le _, hM, hB⟩
      rintro k w4 ⟨hk, hM, hB⟩
      try simp only at hM
      simp only [List.cons_append, List.nil_append]
      have hms := manyN_succ lost k
      have hml := manyN_le lost k
      refine W.seq ?_
      refine W.seqR ?_
      refine LS.vv rfl rfl (by decide) (Val.move rfl) ?_
      refine LS.vv rfl rfl (by decide) (Val.move rfl) ?_
      refine LS.vv rfl rfl (by decide) (Val.lss rfl rfl) ?_
      refine LS.nil ?_
      first | refine W.condD rfl (fun hc8 => ?_) (fun hc8 => ?_) | refine W.cond rfl (fun hc8 => ?_) (fun hc8 => ?_)
      ·
        refine W.skip ?_
        refine thenP_normal ?_
        refine W.seq ?_
        refine W.block ?_
        refine W.seqR ?_
        refine LS.vv rfl rfl (by decide) (Val.move rfl) ?_
        refine LS.vv rfl rfl (by decide) (Val.move rfl) ?_
        refine LS.vv rfl rfl (by decide) (Val.move rfl) ?_
        refine LS.vv rfl rfl (by decide) (Val.move rfl) ?_
        refine LS.m rfl (Step.call body19 rfl rfl (by decide) rfl (CallsV.mono (bit_any lost k _ hlost (by omega)) ?_))
        rintro _ w5 ⟨rfl, hb5⟩
        replace hM := hM.below hb5
        replace hB := hB.trans (hb5.mono hB.size)
        have hgl := goneK_len lost N k
        have hgl2 := goneK_len lost N (k + 1)
        have hll : (lostK (ci (putp N (data.map Int.toNat))) lost k).length = N := by rw [lostK_len, ci_len, putp_len]
        refine LS.vv rfl rfl (by decide) (Val.index1 Try.underlying35 elem4 rfl rfl (by omega) (hM.o0.rd) (bv_lt (by omega))) ?_
        refine LS.m rfl (Step.store (B := w0.heap.size) rfl rfl flat4 elem4 rfl rfl rfl (hM.o0) (by omega) hB.size ?_)
        rintro w6 hO6 hg6 hbl6 hsz6
        replace hM := hM.s0 hg6 hO6 inl_block
        try simp only [bv_app1, bv_app, bv_set, bv_rep, bv_one, bv_cons, bv_take, bv_drop, List.nil_append] at hM
        replace hB := hB.trans hbl6
        rw [show (goneK lost N k).set k (lost.testBit k) = goneK lost N (k + 1) from goneK_step] at hM
        refine LS.nil ?_
        refine W.seqR ?_
        refine LS.vv rfl rfl (by decide) (Val.move rfl) ?_
        refine LS.vv rfl rfl (by decide) (Val.move rfl) ?_
        refine LS.vv rfl rfl (by decide) (Val.index1 Try.underlying35 elem4 rfl rfl (by omega) (hM.o0.rd) (bv_lt (by omega))) ?_
        refine LS.m rfl (Step.load rfl rfl (by decide) flat4 rfl (hM.o0.rd) (bv_at (by omega)) ?_)
        refine LS.nil ?_
        first | refine W.condD rfl (fun hc9 => ?_) (fun hc9 => ?_) | refine W.cond rfl (fun hc9 => ?_) (fun hc9 => ?_)
        ·
          refine W.seqR ?_
          refine LS.vv rfl rfl (by decide) (Val.move rfl) ?_
          refine LS.vv rfl rfl (by decide) (Val.move rfl) ?_
          refine LS.vv rfl rfl (by decide) (Val.index1 Try.underlying27 elem3 rfl rfl (by omega) (hM.o1.rd) (iv_lt (by omega))) ?_
          refine LS.m rfl (Step.store (B := w0.heap.size) rfl rfl flat3 elem3 rfl rfl rfl (hM.o1) (by omega) hB.size ?_)
          rintro w7 hO7 hg7 hbl7 hsz7
          replace hM := hM.s1 hg7 hO7 inl_block
          try simp only [iv_app1, iv_app, iv_set, iv_rep, iv_one, iv_cons, iv_take, iv_drop, List.nil_append] at hM
          replace hB := hB.trans hbl7
          refine LS.nil ?_
          refine W.reg ?_
          refine LS.vv rfl rfl (by decide) (Val.move rfl) ?_
          first | refine LS.vv rfl rfl (by decide) (Val.addN (j := 1) rfl rfl (by omega)) ?_ | refine LS.vv rfl rfl (by decide) (Val.add64 rfl rfl (by omega)) ?_
          refine LS.vv rfl rfl (by decide) (Val.assign rfl) ?_
          refine LS.nil ?_
          refine inBlk_normal ?_
          refine thenP_normal ?_
          refine W.reg ?_
          refine LS.vv rfl rfl (by decide) (Val.move rfl) ?_
          first | refine LS.vv rfl rfl (by decide) (Val.addN (j := 1) rfl rfl (by omega)) ?_ | refine LS.vv rfl rfl (by decide) (Val.add64 rfl rfl (by omega)) ?_
          refine LS.vv rfl rfl (by decide) (Val.assign rfl) ?_
          refine LS.nil ?_
          refine thenP_normal ?_
          have hgb := goneK_gb (w := lost) (n := N) (k := k + 1) (j := k) (by omega)
          rw [decide_eq_true (show k < k + 1 by omega), Bool.true_and] at hgb
          first
            | (have hbt : bt lost k = true := by rw [← hgb]; assumption
               rw [if_pos hbt] at hms
               refine ⟨k + 1, ?_, ?_, ⟨by omega, ?_, hB⟩, by omega⟩
               · exact Sub.cons' rfl (by rw [hms]) (Sub.cons rfl (Sub.nil _))
               · repeat (first | exact Sub.nil _ | refine Sub.cons rfl ?_)
               · rw [lostK_yes hbt] at hM; exact hM)
            | (have hbt : bt lost k = false := by rw [← hgb]; first | assumption | simp_all
               rw [if_neg (by rw [hbt]; decide)] at hms
               refine ⟨k + 1, ?_, ?_, ⟨by omega, ?_, hB⟩, by omega⟩
               · exact Sub.cons' rfl (by rw [hms]) (Sub.cons rfl (Sub.nil _))
               · repeat (first | exact Sub.nil _ | refine Sub.cons rfl ?_)
               · rw [lostK_no hbt]; exact hM)
        ·
          refine W.skip ?_
          refine inBlk_normal ?_
          refine thenP_normal ?_
          refine W.reg ?_
          refine LS.vv rfl rfl (by decide) (Val.move rfl) ?_
          first | refine LS.vv rfl rfl (by decide) (Val.addN (j := 1) rfl rfl (by omega)) ?_ | refine LS.vv rfl rfl (by decide) (Val.add64 rfl rfl (by omega)) ?_
          refine LS.vv rfl rfl (by decide) (Val.assign rfl) ?_
          refine LS.nil ?_
          refine thenP_normal ?_
          have hgb := goneK_gb (w := lost) (n := N) (k := k + 1) (j := k) (by omega)
          rw [decide_eq_true (show k < k + 1 by omega), Bool.true_and] at hgb
          first
            | (have hbt : bt lost k = true := by rw [← hgb]; assumption
               rw [if_pos hbt] at hms
               refine ⟨k + 1, ?_, ?_, ⟨by omega, ?_, hB⟩, by omega⟩
               · exact Sub.cons' rfl (by rw [hms]) (Sub.cons rfl (Sub.nil _))
               · repeat (first | exact Sub.nil _ | refine Sub.cons rfl ?_)
               · rw [lostK_yes hbt] at hM; exact hM)
            | (have hbt : bt lost k = false := by rw [← hgb]; first | assumption | simp_all
               rw [if_neg (by rw [hbt]; decide)] at hms
               refine ⟨k + 1, ?_, ?_, ⟨by omega, ?_, hB⟩, by omega⟩
               · exact Sub.cons' rfl (by rw [hms]) (Sub.cons rfl (Sub.nil _))
               · repeat (first | exact Sub.nil _ | refine Sub.cons rfl ?_)
               · rw [lostK_no hbt]; exact hM)
      ·
        refine W.exit ?_
        refine thenP_exit ?_
        refine thenP_exit ?_
        refine inBlk_exit ?_
        refine thenP_normal ?_
        refine W.seqR ?_
        refine LS.vv rfl rfl (by decide) (Val.move rfl) ?_
        refine LS.vv rfl rfl (by decide) (Val.len Try.underlying27 rfl) ?_
        refine LS.vv rfl rfl (by decide) (Val.move rfl) ?_
        refine LS.vv rfl rfl (by decide) (Val.move rfl) ?_
        have hkN : N = k := by omega
        subst hkN
        refine LS.m rfl (Step.call body20 rfl rfl (by decide) rfl (CallsV.mono (fill_any (data.map Int.toNat) (lostK (ci (putp N (data.map Int.toNat))) lost N) (goneK lost N N) _ _ _ _ _ _ _ _ hM.o1.rd hM.o0.rd (by rw [lostK_len, ci_len, putp_len]) (goneK_len _ _ _) rfl (by rw [List.length_map]) hN9 hsmD (by omega) (by omega) (fun j hj hg => lost_good hj hg) (lost_small hsmD hN9)) ?_))
        rintro _ w8 ⟨p2, c2, L2, e2, rfl, hlow, hhi, hb8⟩
        replace hM := hM.below hb8
        replace hB := hB.trans (hb8.mono hB.size)
        have hmt := many_there lost N N (Nat.le_refl _)
        refine LS.vv rfl rfl (by decide) (Val.move rfl) ?_
        refine LS.vv rfl rfl (by decide) (Val.extract rfl rfl) ?_
        refine LS.vv rfl rfl (by decide) (Val.extract rfl rfl) ?_
        refine LS.vv rfl rfl (by decide) (Val.assign rfl) ?_
        refine LS.vv rfl rfl (by decide) (Val.assign rfl) ?_
        refine LS.nil ?_
        refine W.seq ?_
        refine W.seqR ?_
        refine LS.vv rfl rfl (by decide) (Val.move rfl) ?_
        refine LS.vv rfl rfl (by decide) (Val.move rfl) ?_
        first | refine LS.vv rfl rfl (by decide) (Val.subN rfl rfl (by omega) (by omega)) ?_ | refine LS.vv rfl rfl (by decide) (Val.sub64 rfl rfl (by omega)) ?_
        refine LS.vv rfl rfl (by decide) (Val.move rfl) ?_
        refine LS.vv rfl rfl (by decide) (Val.len Try.underlying27 rfl) ?_
        refine LS.vv rfl rfl (by decide) (Val.lss rfl rfl) ?_
        refine LS.nil ?_
        first | refine W.condD rfl (fun hc10 => ?_) (fun hc10 => ?_) | refine W.cond rfl (fun hc10 => ?_) (fun hc10 => ?_)
        ·
          obtain ⟨rfl, rfl⟩ := hlow (by omega)
          refine W.seqR ?_
          refine LS.vv rfl rfl (by decide) (Val.move rfl) ?_
          refine LS.vv rfl rfl (by decide) (Val.eql rfl rfl) ?_
          refine LS.vv rfl rfl (by decide) (Val.move rfl) ?_
          refine LS.split 2 rfl (fun hg11 => ?_) (fun hg11 => ?_)
          ·
            first | (have hg11p := of_decide_eq_true hg11) | skip
            refine LS.vg rfl rfl rfl hg11 (by decide) (Val.move rfl) ?_
            refine LS.vg rfl rfl rfl hg11 (by decide) (Val.len Try.underlying27 rfl) ?_
            refine LS.vg rfl rfl rfl hg11 (by decide) (Val.eql rfl rfl) ?_
            refine LS.vv rfl rfl (by decide) (Val.pickT rfl hg11 rfl) ?_
            refine LS.vv rfl rfl (by decide) (Val.assign rfl) ?_
            refine LS.nil ?_
            refine W.ret ?_
            refine thenP_ret ?_
            refine ret1 (by first | exact .inl rfl | exact .inr rfl) rfl ?_
            first
              | exact ⟨rfl, hB⟩
              | contradiction
              | (exfalso; first | omega | (have := hz1 (by omega); omega))
              | exact ⟨congrArg Value.bool (decide_eq_true (by first | omega | (have := hz1 (by omega); omega))), hB⟩
              | (refine ⟨congrArg Value.bool ?_, hB⟩
                 have hnb : ¬ b = true := fun h => by have := he1.2 ⟨by omega, by omega, by omega, by omega, hb0.1 h⟩; omega
                 simp [hnb])
          ·
            first | (have hg11p := of_decide_eq_false hg11) | skip
            refine LS.s rfl rfl rfl hg11 (by decide) ?_
            refine LS.s rfl rfl rfl hg11 (by decide) ?_
            refine LS.s rfl rfl rfl hg11 (by decide) ?_
            refine LS.vv rfl rfl (by decide) (Val.pickF rfl hg11 rfl) ?_
            refine LS.vv rfl rfl (by decide) (Val.assign rfl) ?_
            refine LS.nil ?_
            refine W.ret ?_
            refine thenP_ret ?_
            refine ret1 (by first | exact .inl rfl | exact .inr rfl) rfl ?_
            first
              | exact ⟨rfl, hB⟩
              | contradiction
              | (exfalso; first | omega | (have := hz1 (by omega); omega))
              | exact ⟨congrArg Value.bool (decide_eq_true (by first | omega | (have := hz1 (by omega); omega))), hB⟩
              | (refine ⟨congrArg Value.bool ?_, hB⟩
                 have hnb : ¬ b = true := fun h => by have := he1.2 ⟨by omega, by omega, by omega, by omega, hb0.1 h⟩; omega
                 simp [hnb])
        ·
          obtain ⟨rfl, rfl, hRd⟩ := hhi (by omega)
          refine W.skip ?_
          refine thenP_normal ?_
          refine W.seqR ?_
          refine LS.vv rfl rfl (by decide) (Val.move rfl) ?_
          refine LS.vv rfl rfl (by decide) (Val.eql rfl rfl) ?_
          refine LS.vv rfl rfl (by decide) (Val.move rfl) ?_
          refine LS.split 2 rfl (fun hg12 => ?_) (fun hg12 => ?_)
          ·
            first | (have hg12p := of_decide_eq_true hg12) | skip
            refine LS.vg rfl rfl rfl hg12 (by decide) (Val.move rfl) ?_
            refine LS.vg rfl rfl rfl hg12 (by decide) (Val.move rfl) ?_
            refine LS.mg rfl rfl hg12 (Step.call body21 rfl rfl (by decide) rfl (CallsV.mono (intsEqN data data _ _ _ _ _ _ _ (by have h9 := hRd; rw [nv_ci, (okF_iff_small okd).2.2] at h9; exact h9) (hr.below hB) rfl rfl (by omega)) ?_))
            rintro _ w9 ⟨hie, hb9⟩
            replace hM := hM.below hb9
            replace hB := hB.trans (hb9.mono hB.size)
            rw [decide_eq_true rfl] at hie
            subst hie
            refine LS.vv rfl rfl (by decide) (Val.pickT rfl hg12 rfl) ?_
            refine LS.vv rfl rfl (by decide) (Val.assign rfl) ?_
            refine LS.nil ?_
            refine W.ret ?_
            refine ret1 (by first | exact .inl rfl | exact .inr rfl) rfl ?_
            first
              | exact ⟨rfl, hB⟩
              | contradiction
              | (exfalso; first | omega | (have := hz1 (by omega); omega))
              | exact ⟨congrArg Value.bool (decide_eq_true (by first | omega | (have := hz1 (by omega); omega))), hB⟩
              | (refine ⟨congrArg Value.bool ?_, hB⟩
                 have hnb : ¬ b = true := fun h => by have := he1.2 ⟨by omega, by omega, by omega, by omega, hb0.1 h⟩; omega
                 simp [hnb])
          ·
            first | (have hg12p := of_decide_eq_false hg12) | skip
            refine LS.s rfl rfl rfl hg12 (by decide) ?_
            refine LS.s rfl rfl rfl hg12 (by decide) ?_
            refine LS.s rfl rfl rfl hg12 (by decide) ?_
            refine LS.vv rfl rfl (by decide) (Val.pickF rfl hg12 rfl) ?_
            refine LS.vv rfl rfl (by decide) (Val.assign rfl) ?_
            refine LS.nil ?_
            refine W.ret ?_
            refine ret1 (by first | exact .inl rfl | exact .inr rfl) rfl ?_
            first
              | exact ⟨rfl, hB⟩
              | contradiction
              | (exfalso; first | omega | (have := hz1 (by omega); omega))
              | exact ⟨congrArg Value.bool (decide_eq_true (by first | omega | (have := hz1 (by omega); omega))), hB⟩
              | (refine ⟨congrArg Value.bool ?_, hB⟩
                 have hnb : ¬ b = true := fun h => by have := he1.2 ⟨by omega, by omega, by omega, by omega, hb0.1 h⟩; omega
                 simp [hnb])

end Go.Proofs.Ytnaebllojkodbaa
