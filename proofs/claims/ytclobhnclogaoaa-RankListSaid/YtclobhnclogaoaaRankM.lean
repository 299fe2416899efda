/-
  The statement RankList.
-/
import Derived.Test.YtclobhnclogaoaaRankL
import Derived.Test.YtclobhnclogaoaaRefs
namespace Go.Proofs.Ytclobhnclogaoaa
open Go Go.RowKit V
set_option linter.unusedVariables false

theorem nv_iv (l : List Nat) : nv l = iv (l.map fun x : Nat => (x : Int)) := by simp [nv, iv]
theorem intsEq_len (xs ys : List Int) (p q : Option Addr) (c d m n : Nat) (w0 : World) (hr1 : Rd w0 p (iv xs)) (hr2 : Rd w0 q (iv ys)) (hm : xs.length = m) (hn : ys.length = n) (hl1 : m ≤ 9223372036854775807) :
    CallsV Try.prog 23 #[.slice p m c, .slice q n d] w0 (fun v w => v = .bool (decide (xs = ys)) ∧ Below w0.heap.size w0 w) := by
  subst hm; subst hn; exact intsEq_any xs ys p q c d w0 hr1 hr2 hl1

theorem rankList_any (zs : List Int) (p : Option Addr) (c : Nat) (i : Int) (w0 : World) (hr : Rd w0 p (iv zs)) (hc : zs.length ≤ c) (hl : zs.length ≤ 9223372036854775807) (hi : -9223372036854775808 ≤ i ∧ i ≤ 9223372036854775807) :
    CallsV Try.prog 5 #[.slice p zs.length c, .int .i64 i] w0 (fun v w => v = .bool true ∧ Below w0.heap.size w0 w) := by
  refine enter1 Try.func5 rfl Try.ntmps5 (by simp) rfl ?_
  have hB := Below.refl w0.heap.size w0
  simp only [argLoc, Nat.zero_add]
  have hM := Mem.nil w0 w0.heap.size
  have hnn : ((zs.length : Nat) : Int).toNat = zs.length := Int.toNat_natCast _
  have hfp := fct_pos zs.length
  refine W.seqR ?_
  refine LS.vv rfl rfl (by decide) (Val.assign rfl) ?_
  refine LS.nil ?_
  refine W.seqR ?_
  refine LS.vv rfl rfl (by decide) (Val.move rfl) ?_
  refine LS.m rfl (Step.call body20 rfl rfl (by decide) rfl (CallsV.mono (order_any zs _ _ _ _ (hr.below hB) rfl hl) ?_))
  rintro _ w1 ⟨r1, e, rfl, he, hr1, hb1⟩
  replace hM := hM.below hb1
  replace hB := hB.trans (hb1.mono hB.size)
  refine LS.vv rfl rfl (by decide) (Val.move rfl) ?_
  refine LS.vv rfl rfl (by decide) (Val.extract rfl rfl) ?_
  refine LS.vv rfl rfl (by decide) (Val.extract rfl rfl) ?_
  refine LS.vv rfl rfl (by decide) (Val.assign rfl) ?_
  refine LS.vv rfl rfl (by decide) (Val.assign rfl) ?_
  refine LS.nil ?_
  refine W.seqR ?_
  refine LS.vv rfl rfl (by decide) (Val.move rfl) ?_
  refine LS.vv rfl rfl (by decide) (Val.len Try.underlying34 rfl) ?_
  refine LS.vv rfl rfl (by decide) (Val.move rfl) ?_
  refine LS.m rfl (Step.call body21 rfl rfl (by decide) rfl (CallsV.mono (list_any (zs.length : Int) i _ (by omega)) ?_))
  rintro _ w2 ⟨p1, c1, L1, f, rfl, hO1, hf, hL1, hL10, hb2⟩
  replace hM := hM.add hB.size hb2 hO1
  replace hB := hB.trans (hb2.mono hB.size)
  rw [hnn] at hf hL1
  refine LS.vv rfl rfl (by decide) (Val.move rfl) ?_
  refine LS.vv rfl rfl (by decide) (Val.extract rfl rfl) ?_
  refine LS.vv rfl rfl (by decide) (Val.extract rfl rfl) ?_
  refine LS.vv rfl rfl (by decide) (Val.assign rfl) ?_
  refine LS.vv rfl rfl (by decide) (Val.assign rfl) ?_
  refine LS.nil ?_
  refine W.seq ?_
  refine W.seqR ?_
  refine LS.vv rfl rfl (by decide) (Val.move rfl) ?_
  refine LS.vv rfl rfl (by decide) (Val.len Try.underlying34 rfl) ?_
  refine LS.vv rfl rfl (by decide) (Val.gtr rfl rfl) ?_
  refine LS.nil ?_
  first | refine W.condD rfl (fun hc1 => ?_) (fun hc1 => ?_) | refine W.cond rfl (fun hc1 => ?_) (fun hc1 => ?_)
  ·
    refine W.seqR ?_
    refine LS.vv rfl rfl (by decide) (Val.move rfl) ?_
    refine LS.vv rfl rfl (by decide) (Val.neq rfl rfl) ?_
    refine LS.vv rfl rfl (by decide) (Val.move rfl) ?_
    refine LS.split 2 rfl (fun hg2 => ?_) (fun hg2 => ?_)
    ·
      first | (have hg2p := of_decide_eq_true hg2) | skip
      refine LS.vg rfl rfl rfl hg2 (by decide) (Val.move rfl) ?_
      refine LS.vg rfl rfl rfl hg2 (by decide) (Val.neq rfl rfl) ?_
      refine LS.vv rfl rfl (by decide) (Val.pickT rfl hg2 rfl) ?_
      refine LS.vv rfl rfl (by decide) (Val.assign rfl) ?_
      refine LS.nil ?_
      refine W.ret ?_
      refine thenP_ret ?_
      refine ret1 (by first | exact .inl rfl | exact .inr rfl) rfl ?_
      first | exact ⟨rfl, hB⟩ | (exfalso; omega) | exact ⟨congrArg Value.bool (decide_eq_true (by omega)), hB⟩
    ·
      first | (have hg2p := of_decide_eq_false hg2) | skip
      refine LS.s rfl rfl rfl hg2 (by decide) ?_
      refine LS.s rfl rfl rfl hg2 (by decide) ?_
      refine LS.vv rfl rfl (by decide) (Val.pickF rfl hg2 rfl) ?_
      refine LS.vv rfl rfl (by decide) (Val.assign rfl) ?_
      refine LS.nil ?_
      refine W.ret ?_
      refine thenP_ret ?_
      refine ret1 (by first | exact .inl rfl | exact .inr rfl) rfl ?_
      first | exact ⟨rfl, hB⟩ | (exfalso; omega) | exact ⟨congrArg Value.bool (decide_eq_true (by omega)), hB⟩
  ·
    refine W.skip ?_
    refine thenP_normal ?_
    refine W.seq ?_
    refine W.seqR ?_
    refine LS.vv rfl rfl (by decide) (Val.move rfl) ?_
    refine LS.m rfl (Step.call body22 rfl rfl (by decide) rfl (CallsV.mono (once_any zs _ _ _ (hr.below hB) (by omega) hc) ?_))
    rintro _ w3 ⟨b, rfl, hb1, hb3⟩
    replace hM := hM.below hb3
    replace hB := hB.trans (hb3.mono hB.size)
    refine LS.nil ?_
    first | refine W.condD rfl (fun hc3 => ?_) (fun hc3 => ?_) | refine W.cond rfl (fun hc3 => ?_) (fun hc3 => ?_)
    ·
      refine W.seqR ?_
      refine LS.vv rfl rfl (by decide) (Val.move rfl) ?_
      refine LS.vv rfl rfl (by decide) (Val.len Try.underlying34 rfl) ?_
      refine LS.vv rfl rfl (by decide) (Val.move rfl) ?_
      have hO := hb1.1 ‹b = true›
      have hE : e = 0 := he.2 ⟨by omega, hO⟩
      obtain rfl := hr1 hE
      have hON := once_nats hO
      have hln : (nats zs).length = zs.length := by simp [nats]
      have h8 : zs.length ≤ 8 := by omega
      have hol := ord_lt (by rw [hln]; exact h8) hON
      rw [hln] at hol
      have hfl := fct_le h8
      have huo := unr_ord (by rw [hln]; exact h8) hON
      rw [hln] at huo
      refine LS.m rfl (Step.call body21 rfl rfl (by decide) rfl (CallsV.mono (list_any (zs.length : Int) (ordTo (nats zs) zs.length zs.length : Int) _ (by omega)) ?_))
      rintro _ w4 ⟨p2, c2, L2, g, rfl, hO2, hg, hL2, hL20, hb4⟩
      replace hM := hM.add hB.size hb4 hO2
      replace hB := hB.trans (hb4.mono hB.size)
      rw [hnn] at hg hL2
      have hG : g = 0 := hg.2 (by omega)
      have hL2b := hL2 hG
      rw [Int.toNat_natCast, huo] at hL2b
      have hback := nats_back hO
      rw [← hL2b] at hback
      refine LS.vv rfl rfl (by decide) (Val.move rfl) ?_
      refine LS.vv rfl rfl (by decide) (Val.extract rfl rfl) ?_
      refine LS.vv rfl rfl (by decide) (Val.extract rfl rfl) ?_
      refine LS.vv rfl rfl (by decide) (Val.assign rfl) ?_
      refine LS.vv rfl rfl (by decide) (Val.assign rfl) ?_
      refine LS.nil ?_
      refine W.seqR ?_
      refine LS.vv rfl rfl (by decide) (Val.move rfl) ?_
      refine LS.vv rfl rfl (by decide) (Val.cast (v := .bool false) (Val.neq rfl rfl) (by first | (simp; done) | (simp; omega))) ?_
      refine LS.vv rfl rfl (by decide) (Val.move rfl) ?_
      refine LS.vg rfl rfl rfl rfl (by decide) (Val.move rfl) ?_
      refine LS.vg rfl rfl rfl rfl (by decide) (Val.cast (v := .bool false) (Val.neq rfl rfl) (by first | (simp; done) | (simp; omega))) ?_
      refine LS.vv rfl rfl (by decide) (Val.pickF rfl rfl rfl) ?_
      refine LS.vv rfl rfl (by decide) (Val.move rfl) ?_
      refine LS.vg rfl rfl rfl rfl (by decide) (Val.move rfl) ?_
      refine LS.vg rfl rfl rfl rfl (by decide) (Val.move rfl) ?_
      refine LS.mg rfl rfl rfl (Step.call body23 rfl rfl (by decide) rfl (CallsV.mono (intsEq_len (L2.map fun x : Nat => (x : Int)) zs _ _ _ _ _ _ _ (by rw [← nv_iv]; exact hM.o0.rd) (hr.below hB) (by simp) rfl (by rw [hL2b, hln]; omega)) ?_))
      rintro _ w5 ⟨rfl, hb5⟩
      replace hM := hM.below hb5
      replace hB := hB.trans (hb5.mono hB.size)
      rw [show decide ((L2.map fun x : Nat => (x : Int)) = zs) = true from decide_eq_true hback]
      refine LS.vg rfl rfl rfl rfl (by decide) (Val.cast (v := .bool false) (Val.not rfl) (by rfl)) ?_
      refine LS.vv rfl rfl (by decide) (Val.pickF rfl rfl rfl) ?_
      refine LS.nil ?_
      refine W.condF rfl ?_
      refine W.skip ?_
      refine thenP_normal ?_
      refine W.seq ?_
      refine W.seqR ?_
      refine LS.vv rfl rfl (by decide) (Val.move rfl) ?_
      refine LS.vv rfl rfl (by decide) (Val.neq rfl rfl) ?_
      refine LS.nil ?_
      first | refine W.condD rfl (fun hc4 => ?_) (fun hc4 => ?_) | refine W.cond rfl (fun hc4 => ?_) (fun hc4 => ?_)
      ·
        refine W.seqR ?_
        refine LS.vv rfl rfl (by decide) (Val.move rfl) ?_
        refine LS.vv rfl rfl (by decide) (Val.len Try.underlying34 rfl) ?_
        refine LS.vv rfl rfl (by decide) (Val.cast (v := .bool true) (Val.eql rfl rfl) (by simp [hL10 (by omega)])) ?_
        refine LS.vv rfl rfl (by decide) (Val.move rfl) ?_
        refine LS.vg rfl rfl rfl rfl (by decide) (Val.move rfl) ?_
        refine LS.vg rfl rfl rfl rfl (by decide) (Val.lss rfl rfl) ?_
        refine LS.vg rfl rfl rfl rfl (by decide) (Val.move rfl) ?_
        refine LS.split 6 rfl (fun hg5 => ?_) (fun hg5 => ?_)
        ·
          first | (have hg5p := of_decide_eq_true hg5) | skip
          refine LS.s rfl rfl rfl hg5 (by decide) ?_
          refine LS.s rfl rfl rfl hg5 (by decide) ?_
          refine LS.vg rfl rfl rfl rfl (by decide) (Val.pickT rfl hg5 rfl) ?_
          refine LS.vv rfl rfl (by decide) (Val.pickT rfl rfl rfl) ?_
          refine LS.vv rfl rfl (by decide) (Val.assign rfl) ?_
          refine LS.nil ?_
          refine W.ret ?_
          refine thenP_ret ?_
          refine ret1 (by first | exact .inl rfl | exact .inr rfl) rfl ?_
          first | exact ⟨rfl, hB⟩ | (exfalso; omega) | exact ⟨congrArg Value.bool (decide_eq_true (by omega)), hB⟩
        ·
          first | (have hg5p := of_decide_eq_false hg5) | skip
          refine LS.vg rfl rfl rfl hg5 (by decide) (Val.move rfl) ?_
          refine LS.vg rfl rfl rfl hg5 (by decide) (Val.gtr rfl rfl) ?_
          refine LS.vg rfl rfl rfl rfl (by decide) (Val.pickF rfl hg5 rfl) ?_
          refine LS.vv rfl rfl (by decide) (Val.pickT rfl rfl rfl) ?_
          refine LS.vv rfl rfl (by decide) (Val.assign rfl) ?_
          refine LS.nil ?_
          refine W.ret ?_
          refine thenP_ret ?_
          refine ret1 (by first | exact .inl rfl | exact .inr rfl) rfl ?_
          first | exact ⟨rfl, hB⟩ | (exfalso; omega) | exact ⟨congrArg Value.bool (decide_eq_true (by omega)), hB⟩
      ·
        refine W.skip ?_
        refine thenP_normal ?_
        refine W.seqR ?_
        refine LS.vv rfl rfl (by decide) (Val.move rfl) ?_
        have hF : f = 0 := by omega
        obtain ⟨⟨_, h8b⟩, hi0, hif⟩ := hf.1 hF
        obtain ⟨I, rfl⟩ := Int.eq_ofNat_of_zero_le hi0
        have hI : I < fct zs.length := by omega
        have hL1b := hL1 hF
        rw [Int.toNat_natCast] at hL1b
        have hul := unr_len zs.length (List.range zs.length) I
        rw [← hL1b] at hul
        have hou := ord_unr (by omega) hI
        have hco := once_cast (unr_once hI)
        rw [← hL1b] at hou hco
        have hnc := nats_cast L1
        refine LS.m rfl (Step.call body20 rfl rfl (by decide) rfl (CallsV.mono (order_any (L1.map fun x : Nat => (x : Int)) _ _ _ _ (by rw [← nv_iv]; exact hM.o1.rd) (by simp) (by rw [hul]; omega)) ?_))
        rintro _ w6 ⟨r3, e3, rfl, he3, hr3, hb6⟩
        replace hM := hM.below hb6
        replace hB := hB.trans (hb6.mono hB.size)
        have hE3 : e3 = 0 := he3.2 ⟨by omega, hco⟩
        have hr3b := hr3 hE3
        rw [hnc, hul, hou] at hr3b
        refine LS.vv rfl rfl (by decide) (Val.move rfl) ?_
        refine LS.vv rfl rfl (by decide) (Val.extract rfl rfl) ?_
        refine LS.vv rfl rfl (by decide) (Val.extract rfl rfl) ?_
        refine LS.vv rfl rfl (by decide) (Val.assign rfl) ?_
        refine LS.vv rfl rfl (by decide) (Val.assign rfl) ?_
        refine LS.nil ?_
        refine W.seqR ?_
        refine LS.vv rfl rfl (by decide) (Val.move rfl) ?_
        refine LS.vv rfl rfl (by decide) (Val.cast (v := .bool true) (Val.eql rfl rfl) (by first | (simp; done) | (simp; omega))) ?_
        refine LS.vv rfl rfl (by decide) (Val.move rfl) ?_
        refine LS.vg rfl rfl rfl rfl (by decide) (Val.move rfl) ?_
        refine LS.vg rfl rfl rfl rfl (by decide) (Val.move rfl) ?_
        refine LS.vg rfl rfl rfl rfl (by decide) (Val.cast (v := .bool true) (Val.eql rfl rfl) (by rw [hr3b]; simp)) ?_
        refine LS.vv rfl rfl (by decide) (Val.pickT rfl rfl rfl) ?_
        refine LS.vv rfl rfl (by decide) (Val.move rfl) ?_
        refine LS.vg rfl rfl rfl rfl (by decide) (Val.move rfl) ?_
        refine LS.vg rfl rfl rfl rfl (by decide) (Val.len Try.underlying34 rfl) ?_
        refine LS.vg rfl rfl rfl rfl (by decide) (Val.move rfl) ?_
        refine LS.vg rfl rfl rfl rfl (by decide) (Val.len Try.underlying34 rfl) ?_
        refine LS.vg rfl rfl rfl rfl (by decide) (Val.cast (v := .bool true) (Val.eql rfl rfl) (by rw [hul]; simp)) ?_
        refine LS.vv rfl rfl (by decide) (Val.pickT rfl rfl rfl) ?_
        refine LS.vv rfl rfl (by decide) (Val.assign rfl) ?_
        refine LS.nil ?_
        refine W.ret ?_
        refine ret1 (by first | exact .inl rfl | exact .inr rfl) rfl ?_
        first | exact ⟨rfl, hB⟩ | (exfalso; omega) | exact ⟨congrArg Value.bool (decide_eq_true (by omega)), hB⟩
    ·
      refine W.seqR ?_
      refine LS.vv rfl rfl (by decide) (Val.move rfl) ?_
      refine LS.vv rfl rfl (by decide) (Val.cast (v := .bool false) (Val.eql rfl rfl) (by refine congrArg Value.bool (decide_eq_false fun h0 => ?_); have h1 := hb1.2 (he.1 (by omega)).2; simp_all)) ?_
      refine LS.nil ?_
      refine W.condF rfl ?_
      refine W.skip ?_
      refine thenP_normal ?_
      refine W.seq ?_
      refine W.seqR ?_
      refine LS.vv rfl rfl (by decide) (Val.move rfl) ?_
      refine LS.vv rfl rfl (by decide) (Val.neq rfl rfl) ?_
      refine LS.nil ?_
      first | refine W.condD rfl (fun hc6 => ?_) (fun hc6 => ?_) | refine W.cond rfl (fun hc6 => ?_) (fun hc6 => ?_)
      ·
        refine W.seqR ?_
        refine LS.vv rfl rfl (by decide) (Val.move rfl) ?_
        refine LS.vv rfl rfl (by decide) (Val.len Try.underlying34 rfl) ?_
        refine LS.vv rfl rfl (by decide) (Val.cast (v := .bool true) (Val.eql rfl rfl) (by simp [hL10 (by omega)])) ?_
        refine LS.vv rfl rfl (by decide) (Val.move rfl) ?_
        refine LS.vg rfl rfl rfl rfl (by decide) (Val.move rfl) ?_
        refine LS.vg rfl rfl rfl rfl (by decide) (Val.lss rfl rfl) ?_
        refine LS.vg rfl rfl rfl rfl (by decide) (Val.move rfl) ?_
        refine LS.split 6 rfl (fun hg7 => ?_) (fun hg7 => ?_)
        ·
          first | (have hg7p := of_decide_eq_true hg7) | skip
          refine LS.s rfl rfl rfl hg7 (by decide) ?_
          refine LS.s rfl rfl rfl hg7 (by decide) ?_
          refine LS.vg rfl rfl rfl rfl (by decide) (Val.pickT rfl hg7 rfl) ?_
          refine LS.vv rfl rfl (by decide) (Val.pickT rfl rfl rfl) ?_
          refine LS.vv rfl rfl (by decide) (Val.assign rfl) ?_
          refine LS.nil ?_
          refine W.ret ?_
          refine thenP_ret ?_
          refine ret1 (by first | exact .inl rfl | exact .inr rfl) rfl ?_
          first | exact ⟨rfl, hB⟩ | (exfalso; omega) | exact ⟨congrArg Value.bool (decide_eq_true (by omega)), hB⟩
        ·
          first | (have hg7p := of_decide_eq_false hg7) | skip
          refine LS.vg rfl rfl rfl hg7 (by decide) (Val.move rfl) ?_
          refine LS.vg rfl rfl rfl hg7 (by decide) (Val.gtr rfl rfl) ?_
          refine LS.vg rfl rfl rfl rfl (by decide) (Val.pickF rfl hg7 rfl) ?_
          refine LS.vv rfl rfl (by decide) (Val.pickT rfl rfl rfl) ?_
          refine LS.vv rfl rfl (by decide) (Val.assign rfl) ?_
          refine LS.nil ?_
          refine W.ret ?_
          refine thenP_ret ?_
          refine ret1 (by first | exact .inl rfl | exact .inr rfl) rfl ?_
          first | exact ⟨rfl, hB⟩ | (exfalso; omega) | exact ⟨congrArg Value.bool (decide_eq_true (by omega)), hB⟩
      ·
        refine W.skip ?_
        refine thenP_normal ?_
        refine W.seqR ?_
        refine LS.vv rfl rfl (by decide) (Val.move rfl) ?_
        have hF : f = 0 := by omega
        obtain ⟨⟨_, h8b⟩, hi0, hif⟩ := hf.1 hF
        obtain ⟨I, rfl⟩ := Int.eq_ofNat_of_zero_le hi0
        have hI : I < fct zs.length := by omega
        have hL1b := hL1 hF
        rw [Int.toNat_natCast] at hL1b
        have hul := unr_len zs.length (List.range zs.length) I
        rw [← hL1b] at hul
        have hou := ord_unr (by omega) hI
        have hco := once_cast (unr_once hI)
        rw [← hL1b] at hou hco
        have hnc := nats_cast L1
        refine LS.m rfl (Step.call body20 rfl rfl (by decide) rfl (CallsV.mono (order_any (L1.map fun x : Nat => (x : Int)) _ _ _ _ (by rw [← nv_iv]; exact hM.o0.rd) (by simp) (by rw [hul]; omega)) ?_))
        rintro _ w7 ⟨r3, e3, rfl, he3, hr3, hb7⟩
        replace hM := hM.below hb7
        replace hB := hB.trans (hb7.mono hB.size)
        have hE3 : e3 = 0 := he3.2 ⟨by omega, hco⟩
        have hr3b := hr3 hE3
        rw [hnc, hul, hou] at hr3b
        refine LS.vv rfl rfl (by decide) (Val.move rfl) ?_
        refine LS.vv rfl rfl (by decide) (Val.extract rfl rfl) ?_
        refine LS.vv rfl rfl (by decide) (Val.extract rfl rfl) ?_
        refine LS.vv rfl rfl (by decide) (Val.assign rfl) ?_
        refine LS.vv rfl rfl (by decide) (Val.assign rfl) ?_
        refine LS.nil ?_
        refine W.seqR ?_
        refine LS.vv rfl rfl (by decide) (Val.move rfl) ?_
        refine LS.vv rfl rfl (by decide) (Val.cast (v := .bool true) (Val.eql rfl rfl) (by first | (simp; done) | (simp; omega))) ?_
        refine LS.vv rfl rfl (by decide) (Val.move rfl) ?_
        refine LS.vg rfl rfl rfl rfl (by decide) (Val.move rfl) ?_
        refine LS.vg rfl rfl rfl rfl (by decide) (Val.move rfl) ?_
        refine LS.vg rfl rfl rfl rfl (by decide) (Val.cast (v := .bool true) (Val.eql rfl rfl) (by rw [hr3b]; simp)) ?_
        refine LS.vv rfl rfl (by decide) (Val.pickT rfl rfl rfl) ?_
        refine LS.vv rfl rfl (by decide) (Val.move rfl) ?_
        refine LS.vg rfl rfl rfl rfl (by decide) (Val.move rfl) ?_
        refine LS.vg rfl rfl rfl rfl (by decide) (Val.len Try.underlying34 rfl) ?_
        refine LS.vg rfl rfl rfl rfl (by decide) (Val.move rfl) ?_
        refine LS.vg rfl rfl rfl rfl (by decide) (Val.len Try.underlying34 rfl) ?_
        refine LS.vg rfl rfl rfl rfl (by decide) (Val.cast (v := .bool true) (Val.eql rfl rfl) (by rw [hul]; simp)) ?_
        refine LS.vv rfl rfl (by decide) (Val.pickT rfl rfl rfl) ?_
        refine LS.vv rfl rfl (by decide) (Val.assign rfl) ?_
        refine LS.nil ?_
        refine W.ret ?_
        refine ret1 (by first | exact .inl rfl | exact .inr rfl) rfl ?_
        first | exact ⟨rfl, hB⟩ | (exfalso; omega) | exact ⟨congrArg Value.bool (decide_eq_true (by omega)), hB⟩

end Go.Proofs.Ytclobhnclogaoaa
