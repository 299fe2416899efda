/-
  The statement EvenHalf.
-/
import Derived.Test.YtpogedmkmplckaaEvenP
namespace Go.Proofs.Ytpogedmkmplckaa
open Go Go.RowKit V
set_option linter.unusedVariables false

theorem ones_any (d : List Bool) (p : Option Addr) (c : Nat) (n : Nat) (w0 : World) (hr : Rd w0 p (bv d)) (hn : d.length = n) (hl : n ≤ 1000) :
    CallsV Try.prog 30 #[.slice p n c] w0 (fun v w => v = .int .i64 (onesE d n : Int) ∧ Below w0.heap.size w0 w) := by
  refine enter1 Try.func30 rfl Try.ntmps30 (by simp) rfl ?_
  have hB := Below.refl w0.heap.size w0
  simp only [argLoc]
  refine W.seqR ?_
  refine LS.vv rfl rfl (by decide) (Val.cast (v := .int .i64 ((0 : Nat) : Int)) (Val.assign rfl) rfl) ?_
  refine LS.nil ?_
  refine W.seqR ?_
  refine LS.vv rfl rfl (by decide) (Val.cast (v := .int .i64 ((0 : Nat) : Int)) (Val.assign rfl) rfl) ?_
  refine LS.nil ?_
  refine W.seq ?_
  refine W.seqR ?_
  refine LS.vv rfl rfl (by decide) (Val.move rfl) ?_
  refine LS.vv rfl rfl (by decide) (Val.len Try.underlying22 rfl) ?_
  refine LS.vv rfl rfl (by decide) (Val.cast (v := .int .i64 ((0 : Nat) : Int)) (Val.move rfl) rfl) ?_
  refine LS.nil ?_
  refine W.block ?_
  refine W.loop (α := Nat) (fun k => [(3, .int .i64 (onesE d k : Int)), (8, .int .i64 (k : Int))]) [(6, _), (7, _)] (fun k w => k ≤ n ∧ Below w0.heap.size w0 w) (fun k => n - k) (0) (Sub.cons rfl (Sub.cons rfl (Sub.nil _))) (Sub.cons rfl (Sub.cons rfl (Sub.nil _))) ?_ ?_
  · exact ⟨Nat.zero_le _, hB⟩
  rintro k w1 ⟨hk, hB⟩
  simp only [List.cons_append, List.nil_append]
  have hle := onesE_le d k
  refine W.seqR ?_
  refine LS.vv rfl rfl (by decide) (Val.lss rfl rfl) ?_
  refine LS.nil ?_
  refine W.seq ?_
  first | refine W.condD rfl (fun hc1 => ?_) (fun hc1 => ?_) | refine W.cond rfl (fun hc1 => ?_) (fun hc1 => ?_)
  ·
    refine W.skip ?_
    refine thenP_normal ?_
    refine W.seq ?_
    refine W.block ?_
    refine W.seqR ?_
    refine LS.vv rfl rfl (by decide) (Val.index1 Try.underlying22 elem4 rfl rfl (by omega) hr (bv_lt (by omega))) ?_
    refine LS.m rfl (Step.load rfl rfl (by decide) flat4 rfl (hr.below hB) (bv_at (by omega)) ?_)
    refine LS.vv rfl rfl (by decide) (Val.assign rfl) ?_
    refine LS.nil ?_
    refine W.seqR ?_
    refine LS.vv rfl rfl (by decide) (Val.move rfl) ?_
    refine LS.nil ?_
    first | refine W.condD rfl (fun hc2 => ?_) (fun hc2 => ?_) | refine W.cond rfl (fun hc2 => ?_) (fun hc2 => ?_)
    ·
      refine W.reg ?_
      refine LS.vv rfl rfl (by decide) (Val.move rfl) ?_
      first | refine LS.vv rfl rfl (by decide) (Val.addN (j := 1) rfl rfl (by omega)) ?_ | refine LS.vv rfl rfl (by decide) (Val.add64 rfl rfl (by omega)) ?_
      refine LS.vv rfl rfl (by decide) (Val.assign rfl) ?_
      refine LS.nil ?_
      refine inBlk_normal ?_
      refine thenP_normal ?_
      refine W.reg ?_
      first | refine LS.vv rfl rfl (by decide) (Val.addN (j := 1) rfl rfl (by omega)) ?_ | refine LS.vv rfl rfl (by decide) (Val.add64 rfl rfl (by omega)) ?_
      refine LS.vv rfl rfl (by decide) (Val.move rfl) ?_
      refine LS.nil ?_
      refine thenP_normal ?_
      refine ⟨k + 1, ?_, ?_, ⟨by omega, hB⟩, by omega⟩
      · exact Sub.cons' rfl (by rw [onesE_succ, ‹gb d k = _›]; rfl) (Sub.cons rfl (Sub.nil _))
      · repeat (first | exact Sub.nil _ | refine Sub.cons rfl ?_)
    ·
      refine W.skip ?_
      refine inBlk_normal ?_
      refine thenP_normal ?_
      refine W.reg ?_
      first | refine LS.vv rfl rfl (by decide) (Val.addN (j := 1) rfl rfl (by omega)) ?_ | refine LS.vv rfl rfl (by decide) (Val.add64 rfl rfl (by omega)) ?_
      refine LS.vv rfl rfl (by decide) (Val.move rfl) ?_
      refine LS.nil ?_
      refine thenP_normal ?_
      refine ⟨k + 1, ?_, ?_, ⟨by omega, hB⟩, by omega⟩
      · exact Sub.cons' rfl (by rw [onesE_succ, ‹gb d k = _›]; rfl) (Sub.cons rfl (Sub.nil _))
      · repeat (first | exact Sub.nil _ | refine Sub.cons rfl ?_)
  ·
    refine W.exit ?_
    refine thenP_exit ?_
    refine thenP_exit ?_
    refine inBlk_exit ?_
    refine thenP_normal ?_
    refine W.seqR ?_
    refine LS.vv rfl rfl (by decide) (Val.move rfl) ?_
    refine LS.vv rfl rfl (by decide) (Val.assign rfl) ?_
    refine LS.nil ?_
    refine W.ret ?_
    refine ret1 (by first | exact .inl rfl | exact .inr rfl) rfl ?_
    exact ⟨by rw [show k = n by omega], hB⟩

theorem evenHalf_any (d : List Bool) (p : Option Addr) (c : Nat) (kk : Nat) (w0 : World) (hr : Rd w0 p (bv d)) (hk8 : kk < 256) :
    CallsV Try.prog 10 #[.slice p d.length c, .int .u8 (kk : Int)] w0 (fun v w => v = .bool true ∧ Below w0.heap.size w0 w) := by
  refine enter1 Try.func10 rfl Try.ntmps10 (by simp) rfl ?_
  have hB := Below.refl w0.heap.size w0
  simp only [argLoc, Nat.zero_add]
  refine W.seqR ?_
  refine LS.vv rfl rfl (by decide) (Val.assign rfl) ?_
  refine LS.nil ?_
  refine W.seqR ?_
  refine LS.vv rfl rfl (by decide) (Val.move rfl) ?_
  refine LS.m rfl (Step.call body28 rfl rfl (by decide) rfl (CallsV.mono (Turn_any d _ _ _ _ (hr.below hB) rfl) ?_))
  rintro _ w1 ⟨p1, c1, m, n, e, rfl, hOm, he, hm, hm0, hb1⟩
  replace hB := hB.trans (hb1.mono hB.size)
  refine LS.vv rfl rfl (by decide) (Val.move rfl) ?_
  refine LS.vv rfl rfl (by decide) (Val.extract rfl rfl) ?_
  refine LS.vv rfl rfl (by decide) (Val.extract rfl rfl) ?_
  refine LS.vv rfl rfl (by decide) (Val.extract rfl rfl) ?_
  refine LS.vv rfl rfl (by decide) (Val.assign rfl) ?_
  refine LS.vv rfl rfl (by decide) (Val.assign rfl) ?_
  refine LS.vv rfl rfl (by decide) (Val.assign rfl) ?_
  refine LS.nil ?_
  refine W.seqR ?_
  refine LS.vv rfl rfl (by decide) (Val.move rfl) ?_
  refine LS.m rfl (Step.call body29 rfl rfl (by decide) rfl (CallsV.mono (Put_any d _ _ _ _ (hr.below hB) rfl) ?_))
  rintro _ w2 ⟨p2, c2, q, n2, f, rfl, hOp, hf, hp, hp0, hb2⟩
  replace hB := hB.trans (hb2.mono hB.size)
  replace hOm := hOm.below hb2
  refine LS.vv rfl rfl (by decide) (Val.move rfl) ?_
  refine LS.vv rfl rfl (by decide) (Val.extract rfl rfl) ?_
  refine LS.vv rfl rfl (by decide) (Val.extract rfl rfl) ?_
  refine LS.vv rfl rfl (by decide) (Val.assign rfl) ?_
  refine LS.vv rfl rfl (by decide) (Val.assign rfl) ?_
  refine LS.nil ?_
  refine W.seq ?_
  refine W.seqR ?_
  refine LS.vv rfl rfl (by decide) (Val.move rfl) ?_
  refine LS.vv rfl rfl (by decide) (Val.len Try.underlying22 rfl) ?_
  refine LS.vv rfl rfl (by decide) (Val.gtr rfl rfl) ?_
  refine LS.vv rfl rfl (by decide) (Val.move rfl) ?_
  refine LS.split 3 rfl (fun hg1 => ?_) (fun hg1 => ?_)
  ·
    first | (have hg1p := of_decide_eq_true hg1) | skip
    refine LS.s rfl rfl rfl hg1 (by decide) ?_
    refine LS.s rfl rfl rfl hg1 (by decide) ?_
    refine LS.s rfl rfl rfl hg1 (by decide) ?_
    refine LS.s rfl rfl rfl hg1 (by decide) ?_
    refine LS.vv rfl rfl (by decide) (Val.pickT rfl hg1 rfl) ?_
    refine LS.nil ?_
    refine W.condT rfl ?_
    refine W.seqR ?_
    refine LS.vv rfl rfl (by decide) (Val.move rfl) ?_
    refine LS.vv rfl rfl (by decide) (Val.cast (v := .bool true) (Val.neq rfl rfl) (by refine congrArg Value.bool (decide_eq_true ?_); intro h0; have h1 := he.1 (by omega); omega)) ?_
    refine LS.vv rfl rfl (by decide) (Val.move rfl) ?_
    refine LS.vg rfl rfl rfl rfl (by decide) (Val.move rfl) ?_
    refine LS.vg rfl rfl rfl rfl (by decide) (Val.cast (v := .bool true) (Val.neq rfl rfl) (by refine congrArg Value.bool (decide_eq_true ?_); intro h0; have h1 := hf.1 (by omega); omega)) ?_
    refine LS.vv rfl rfl (by decide) (Val.pickT rfl rfl rfl) ?_
    refine LS.vv rfl rfl (by decide) (Val.assign rfl) ?_
    refine LS.nil ?_
    refine W.ret ?_
    refine thenP_ret ?_
    refine ret1 (by first | exact .inl rfl | exact .inr rfl) rfl ?_
    first | exact ⟨rfl, hB⟩ | (exfalso; omega) | exact ⟨congrArg Value.bool (decide_eq_true (by omega)), hB⟩
  ·
    first | (have hg1p := of_decide_eq_false hg1) | skip
    refine LS.vg rfl rfl rfl hg1 (by decide) (Val.move rfl) ?_
    refine LS.vg rfl rfl rfl hg1 (by decide) (Val.len Try.underlying22 rfl) ?_
    first | refine LS.vg rfl rfl rfl hg1 (by decide) (Val.remN (j := 2) rfl rfl (by omega)) ?_ | refine LS.vg rfl rfl rfl hg1 (by decide) (Val.rem rfl rfl (by omega) (by omega)) ?_ | refine LS.vg rfl rfl rfl hg1 (by decide) (Val.remT rfl rfl (by omega)) ?_
    refine LS.vg rfl rfl rfl hg1 (by decide) (Val.eql rfl rfl) ?_
    refine LS.vv rfl rfl (by decide) (Val.pickF rfl hg1 rfl) ?_
    refine LS.nil ?_
    first | refine W.condD rfl (fun hc2 => ?_) (fun hc2 => ?_) | refine W.cond rfl (fun hc2 => ?_) (fun hc2 => ?_)
    ·
      refine W.seqR ?_
      refine LS.vv rfl rfl (by decide) (Val.move rfl) ?_
      refine LS.vv rfl rfl (by decide) (Val.cast (v := .bool true) (Val.neq rfl rfl) (by refine congrArg Value.bool (decide_eq_true ?_); intro h0; have h1 := he.1 (by omega); omega)) ?_
      refine LS.vv rfl rfl (by decide) (Val.move rfl) ?_
      refine LS.vg rfl rfl rfl rfl (by decide) (Val.move rfl) ?_
      refine LS.vg rfl rfl rfl rfl (by decide) (Val.cast (v := .bool true) (Val.neq rfl rfl) (by refine congrArg Value.bool (decide_eq_true ?_); intro h0; have h1 := hf.1 (by omega); omega)) ?_
      refine LS.vv rfl rfl (by decide) (Val.pickT rfl rfl rfl) ?_
      refine LS.vv rfl rfl (by decide) (Val.assign rfl) ?_
      refine LS.nil ?_
      refine W.ret ?_
      refine thenP_ret ?_
      refine ret1 (by first | exact .inl rfl | exact .inr rfl) rfl ?_
      first | exact ⟨rfl, hB⟩ | (exfalso; omega) | exact ⟨congrArg Value.bool (decide_eq_true (by omega)), hB⟩
    ·
      refine W.skip ?_
      refine thenP_normal ?_
      refine W.seq ?_
      refine W.seqR ?_
      refine LS.vv rfl rfl (by decide) (Val.move rfl) ?_
      have hE : e = 0 := he.2 (by omega)
      have hF : f = 0 := hf.2 (by omega)
      obtain ⟨rfl, hnl, hn0, hnm⟩ := hm hE
      obtain ⟨rfl, hnl2, hn02, hnm2⟩ := hp hF
      have htl := turnB_len d n
      have hpl := putE_len d n2
      have ho1 := onesE_more (turnB d n) d.length
      have hq1 : moreTo (turnB d n) d.length = 0 := (by (have hx := hn0; unfold moreOf at hx; rw [htl] at hx; exact hx))
      have ho2 := onesE_more (putE d n2) (d.length + 8)
      have hq2 : moreTo (putE d n2) (d.length + 8) = 0 := (by (have hx : moreOf (putE d n2) = 0 := (by (unfold putE; rw [pairOn_more]; exact hn02)); unfold moreOf at hx; rw [hpl] at hx; exact hx))
      rw [htl] at hOm
      rw [hpl] at hOp
      rw [htl, hpl]
      refine LS.vv rfl rfl (by decide) (Val.cast (v := .bool false) (Val.neq rfl rfl) (by simp; omega)) ?_
      refine LS.vv rfl rfl (by decide) (Val.move rfl) ?_
      refine LS.vg rfl rfl rfl rfl (by decide) (Val.move rfl) ?_
      refine LS.vg rfl rfl rfl rfl (by decide) (Val.cast (v := .bool false) (Val.neq rfl rfl) (by first | (simp; done) | (simp; omega))) ?_
      refine LS.vv rfl rfl (by decide) (Val.pickF rfl rfl rfl) ?_
      refine LS.vv rfl rfl (by decide) (Val.move rfl) ?_
      refine LS.vg rfl rfl rfl rfl (by decide) (Val.move rfl) ?_
      refine LS.vg rfl rfl rfl rfl (by decide) (Val.len Try.underlying22 rfl) ?_
      refine LS.vg rfl rfl rfl rfl (by decide) (Val.move rfl) ?_
      refine LS.vg rfl rfl rfl rfl (by decide) (Val.len Try.underlying22 rfl) ?_
      refine LS.vg rfl rfl rfl rfl (by decide) (Val.cast (v := .bool false) (Val.neq rfl rfl) (by first | (simp; done) | (simp; omega))) ?_
      refine LS.vv rfl rfl (by decide) (Val.pickF rfl rfl rfl) ?_
      refine LS.vv rfl rfl (by decide) (Val.move rfl) ?_
      refine LS.vg rfl rfl rfl rfl (by decide) (Val.move rfl) ?_
      refine LS.vg rfl rfl rfl rfl (by decide) (Val.len Try.underlying22 rfl) ?_
      refine LS.vg rfl rfl rfl rfl (by decide) (Val.move rfl) ?_
      refine LS.vg rfl rfl rfl rfl (by decide) (Val.len Try.underlying22 rfl) ?_
      first | refine LS.vg rfl rfl rfl rfl (by decide) (Val.addN (j := 8) rfl rfl (by omega)) ?_ | refine LS.vg rfl rfl rfl rfl (by decide) (Val.add64 rfl rfl (by omega)) ?_
      refine LS.vg rfl rfl rfl rfl (by decide) (Val.cast (v := .bool false) (Val.neq rfl rfl) (by first | (simp; done) | (simp; omega))) ?_
      refine LS.vv rfl rfl (by decide) (Val.pickF rfl rfl rfl) ?_
      refine LS.vv rfl rfl (by decide) (Val.move rfl) ?_
      refine LS.vg rfl rfl rfl rfl (by decide) (Val.move rfl) ?_
      refine LS.mg rfl rfl rfl (Step.call body30 rfl rfl (by decide) rfl (CallsV.mono (ones_any (turnB d n) _ _ d.length _ hOm.rd htl (by omega)) ?_))
      rintro _ w3 ⟨rfl, hb3⟩
      replace hB := hB.trans (hb3.mono hB.size)
      replace hOp := hOp.below hb3
      have hol := onesE_le (turnB d n) d.length
      first | refine LS.vg rfl rfl rfl rfl (by decide) (Val.mulN (i := 2) rfl rfl (by omega)) ?_ | refine LS.vg rfl rfl rfl rfl (by decide) (Val.mul64 rfl rfl (by omega)) ?_
      refine LS.vg rfl rfl rfl rfl (by decide) (Val.move rfl) ?_
      refine LS.vg rfl rfl rfl rfl (by decide) (Val.len Try.underlying22 rfl) ?_
      refine LS.vg rfl rfl rfl rfl (by decide) (Val.cast (v := .bool false) (Val.neq rfl rfl) (by simp; omega)) ?_
      refine LS.vv rfl rfl (by decide) (Val.pickF rfl rfl rfl) ?_
      refine LS.vv rfl rfl (by decide) (Val.move rfl) ?_
      refine LS.vg rfl rfl rfl rfl (by decide) (Val.move rfl) ?_
      refine LS.mg rfl rfl rfl (Step.call body30 rfl rfl (by decide) rfl (CallsV.mono (ones_any (putE d n2) _ _ (d.length + 8) _ hOp.rd hpl (by omega)) ?_))
      rintro _ w4 ⟨rfl, hb4⟩
      replace hB := hB.trans (hb4.mono hB.size)
      have hol2 := onesE_le (putE d n2) (d.length + 8)
      first | refine LS.vg rfl rfl rfl rfl (by decide) (Val.mulN (i := 2) rfl rfl (by omega)) ?_ | refine LS.vg rfl rfl rfl rfl (by decide) (Val.mul64 rfl rfl (by omega)) ?_
      refine LS.vg rfl rfl rfl rfl (by decide) (Val.move rfl) ?_
      refine LS.vg rfl rfl rfl rfl (by decide) (Val.len Try.underlying22 rfl) ?_
      refine LS.vg rfl rfl rfl rfl (by decide) (Val.cast (v := .bool false) (Val.neq rfl rfl) (by simp; omega)) ?_
      refine LS.vv rfl rfl (by decide) (Val.pickF rfl rfl rfl) ?_
      refine LS.vv rfl rfl (by decide) (Val.move rfl) ?_
      refine LS.vg rfl rfl rfl rfl (by decide) (Val.move rfl) ?_
      refine LS.vg rfl rfl rfl rfl (by decide) (Val.cast (v := .bool false) (Val.lss rfl rfl) (by first | (simp; done) | (simp; omega))) ?_
      refine LS.vv rfl rfl (by decide) (Val.pickF rfl rfl rfl) ?_
      refine LS.vv rfl rfl (by decide) (Val.move rfl) ?_
      refine LS.vg rfl rfl rfl rfl (by decide) (Val.move rfl) ?_
      refine LS.vg rfl rfl rfl rfl (by decide) (Val.move rfl) ?_
      refine LS.vg rfl rfl rfl rfl (by decide) (Val.len Try.underlying22 rfl) ?_
      refine LS.vg rfl rfl rfl rfl (by decide) (Val.cast (v := .bool false) (Val.gtr rfl rfl) (by first | (simp; done) | (simp; omega))) ?_
      refine LS.vv rfl rfl (by decide) (Val.pickF rfl rfl rfl) ?_
      refine LS.nil ?_
      refine W.condF rfl ?_
      refine W.skip ?_
      refine thenP_normal ?_
      refine W.seq ?_
      refine W.seqR ?_
      refine LS.vv rfl rfl (by decide) (Val.move rfl) ?_
      refine LS.vv rfl rfl (by decide) (Val.eql rfl rfl) ?_
      refine LS.nil ?_
      first | refine W.condD rfl (fun hc3 => ?_) (fun hc3 => ?_) | refine W.cond rfl (fun hc3 => ?_) (fun hc3 => ?_)
      ·
        refine W.seqR ?_
        refine LS.vv rfl rfl (by decide) (Val.assign rfl) ?_
        refine LS.nil ?_
        refine W.ret ?_
        refine thenP_ret ?_
        refine ret1 (by first | exact .inl rfl | exact .inr rfl) rfl ?_
        first | exact ⟨rfl, hB⟩ | (exfalso; omega) | exact ⟨congrArg Value.bool (decide_eq_true (by omega)), hB⟩
      ·
        refine W.skip ?_
        refine thenP_normal ?_
        refine W.seqR ?_
        refine LS.m rfl (Step.lit (B := w0.heap.size) rfl rfl (by decide) Try.underlying22 elem4 rfl rfl (by omega) (by simp [Value.oneCell']) hB.size ?_)
        rintro w5 hO5 hg5 hbl5 hsz5
        replace hB := hB.trans (hbl5.mono hB.size)
        refine LS.vv rfl rfl (by decide) (Val.move rfl) ?_
        refine LS.m rfl (Step.append (B := w0.heap.size) rfl rfl (by decide) Try.underlying22 elem4 rfl rfl rfl rfl (hO5) (hr.below hB) (by simp) (one_map _ (fun _ => rfl) _) (by omega) (by omega) hB.size ?_)
        rintro p6 c6 w6 hO6 hg6 hbl6
        replace hB := hB.trans hbl6
        have hO := hO6
        have hzz : (0 : Nat) + d.length = d.length := Nat.zero_add _
        rw [hzz] at hO ⊢
        simp only [List.nil_append] at hO
        generalize p6 = px at *
        generalize c6 = cx at *
        have hmd := Nat.mod_lt kk (show 0 < n by omega)
        refine LS.vv rfl rfl (by decide) (Val.assign rfl) ?_
        refine LS.nil ?_
        refine W.seq ?_
        refine W.seqR ?_
        refine LS.vv rfl rfl (by decide) (Val.cast (v := .int .i64 ((0 : Nat) : Int)) (Val.assign rfl) rfl) ?_
        refine LS.nil ?_
        refine W.block ?_
        refine W.loop (α := Nat) (fun k => [(11, .int .i64 (k : Int))]) [(1, _), (6, _), (10, _)] (fun k w => (k ≤ kk % n ∧ Own w w0.heap.size 4 px d.length cx (bv (turnB d k))) ∧ Below w0.heap.size w0 w) (fun k => kk % n - k) (0) (Sub.cons rfl (Sub.nil _)) (Sub.cons rfl (Sub.cons rfl (Sub.cons rfl (Sub.nil _)))) ?_ ?_
        · exact ⟨⟨Nat.zero_le _, hO⟩, hB⟩
        rintro k w7 ⟨⟨hk, hO⟩, hB⟩
        simp only [List.cons_append, List.nil_append]
        refine W.seq ?_
        refine W.seqR ?_
        refine LS.vv rfl rfl (by decide) (Val.move rfl) ?_
        refine LS.vv rfl rfl (by decide) (Val.move rfl) ?_
        refine LS.vv rfl rfl (by decide) (Val.conv rfl Try.underlying5 Try.underlying3 (IntWalk.i64_in _ (by omega))) ?_
        refine LS.vv rfl rfl (by decide) (Val.move rfl) ?_
        refine LS.vv rfl rfl (by decide) (Val.remN rfl rfl (by omega)) ?_
        refine LS.vv rfl rfl (by decide) (Val.lss rfl rfl) ?_
        refine LS.nil ?_
        first | refine W.condD rfl (fun hc4 => ?_) (fun hc4 => ?_) | refine W.cond rfl (fun hc4 => ?_) (fun hc4 => ?_)
        ·
          refine W.skip ?_
          refine thenP_normal ?_
          refine W.seq ?_
          refine W.block ?_
          refine W.reg ?_
          refine LS.vv rfl rfl (by decide) (Val.move rfl) ?_
          refine LS.vv rfl rfl (by decide) (Val.move rfl) ?_
          refine LS.vv rfl rfl (by decide) (Val.move rfl) ?_
          refine LS.vv rfl rfl (by decide) (Val.move rfl) ?_
          have htl2 := turnB_len d k
          refine LS.vv rfl rfl (by decide) (Val.index1 Try.underlying22 elem4 rfl rfl (by omega) hO.rd (bv_lt (by omega))) ?_
          refine LS.m rfl (Step.load rfl rfl (by decide) flat4 rfl hO.rd (bv_at (by omega)) ?_)
          refine LS.vv rfl rfl (by decide) (Val.not rfl) ?_
          refine LS.vv rfl rfl (by decide) (Val.index1 Try.underlying22 elem4 rfl rfl (by omega) hO.rd (bv_lt (by omega))) ?_
          refine LS.m rfl (Step.store (B := w0.heap.size) rfl rfl flat4 elem4 rfl rfl rfl (hO) (by omega) hB.size ?_)
          rintro w8 hO8 hg8 hbl8 hsz8
          have hO2 := hO8
          replace hB := hB.trans hbl8
          refine LS.nil ?_
          refine inBlk_normal ?_
          refine thenP_normal ?_
          refine W.reg ?_
          refine LS.vv rfl rfl (by decide) (Val.move rfl) ?_
          first | refine LS.vv rfl rfl (by decide) (Val.addN (j := 1) rfl rfl (by omega)) ?_ | refine LS.vv rfl rfl (by decide) (Val.add64 rfl rfl (by omega)) ?_
          refine LS.vv rfl rfl (by decide) (Val.assign rfl) ?_
          refine LS.nil ?_
          refine thenP_normal ?_
          refine ⟨k + 1, ?_, ?_, ⟨⟨by omega, ?_⟩, hB⟩, by omega⟩
          · exact Sub.cons rfl (Sub.nil _)
          · repeat (first | exact Sub.nil _ | refine Sub.cons rfl ?_)
          · rw [turnB_succ, bv, List.map_set]; exact hO2
        ·
          refine W.exit ?_
          refine thenP_exit ?_
          refine thenP_exit ?_
          refine inBlk_exit ?_
          refine thenP_normal ?_
          refine W.seqR ?_
          refine LS.vv rfl rfl (by decide) (Val.move rfl) ?_
          refine LS.m rfl (Step.call body30 rfl rfl (by decide) rfl (CallsV.mono (ones_any (turnB d k) _ _ d.length _ hO.rd (turnB_len d k) (by omega)) ?_))
          rintro _ w9 ⟨rfl, hb9⟩
          replace hB := hB.trans (hb9.mono hB.size)
          have hol3 := onesE_le (turnB d k) d.length
          have ho3 := onesE_more (turnB d k) d.length
          have hne := hnm k (by omega)
          unfold moreOf at hne
          rw [turnB_len] at hne
          first | refine LS.vv rfl rfl (by decide) (Val.mulN (i := 2) rfl rfl (by omega)) ?_ | refine LS.vv rfl rfl (by decide) (Val.mul64 rfl rfl (by omega)) ?_
          refine LS.vv rfl rfl (by decide) (Val.move rfl) ?_
          refine LS.vv rfl rfl (by decide) (Val.len Try.underlying22 rfl) ?_
          refine LS.vv rfl rfl (by decide) (Val.neq rfl rfl) ?_
          refine LS.vv rfl rfl (by decide) (Val.assign rfl) ?_
          refine LS.nil ?_
          refine W.ret ?_
          refine ret1 (by first | exact .inl rfl | exact .inr rfl) rfl ?_
          first | exact ⟨rfl, hB⟩ | (exfalso; omega) | exact ⟨congrArg Value.bool (decide_eq_true (by omega)), hB⟩

end Go.Proofs.Ytpogedmkmplckaa
