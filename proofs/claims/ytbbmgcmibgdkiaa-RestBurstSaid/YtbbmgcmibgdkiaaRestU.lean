/-
  The statement RestBurst.
-/
import Derived.Test.YtbbmgcmibgdkiaaRestP
import Derived.Test.YtbbmgcmibgdkiaaBurstPlain
import Derived.Test.YtbbmgcmibgdkiaaVtree
namespace Go.Proofs.Ytbbmgcmibgdkiaa
open Go Go.RowKit V
set_option linter.unusedVariables false

theorem Get_len (g : Nat) (bs : List Bool) (p : Option Addr) (c : Nat) (n : Nat) (w0 : World) (hr : Rd w0 p (bv bs)) (hg : g < 4294967296) (hc : n ≤ c) (hn : bs.length = n) :
    CallsV Try.prog 20 #[.int .u32 (g : Int), .slice p n c] w0 (fun v w => ∃ (p2 : Option Addr) (c2 : Nat) (L : List Bool) (e : Nat), v = .tuple #[.slice p2 L.length c2, .int .i64 (e : Int)] ∧ Own w w0.heap.size 4 p2 L.length c2 (bv L) ∧ (e = 0 ↔ OkG g ∧ bs.length ≤ 64 ∧ bitLen g - 1 ≤ bs.length ∧ restOf g (bitLen g - 1) bs = 0) ∧ (e = 0 → L = bs.take (bs.length - (bitLen g - 1))) ∧ (e ≠ 0 → L = []) ∧ (OkG g → bs.length ≤ 64 → bitLen g - 1 ≤ bs.length → e = 0 ∨ e = 8) ∧ Below w0.heap.size w0 w) := by
  subst hn; exact Get_any g bs p c w0 hr hg hc
theorem boolsEq_len (xs ys : List Bool) (p q : Option Addr) (c d m n : Nat) (w0 : World) (hr1 : Rd w0 p (bv xs)) (hr2 : Rd w0 q (bv ys)) (hl1 : xs.length ≤ 9223372036854775807) (hm : xs.length = m) (hn : ys.length = n) :
    CallsV Try.prog 21 #[.slice p m c, .slice q n d] w0 (fun v w => v = .bool (decide (xs = ys)) ∧ Below w0.heap.size w0 w) := by
  subst hm; subst hn; exact boolsEq_any xs ys p q c d w0 hr1 hr2 hl1

theorem restBurst_any (g : Nat) (bs : List Bool) (p : Option Addr) (c : Nat) (kk bu : Nat) (w0 : World) (hr : Rd w0 p (bv bs)) (hg : g < 4294967296) (hk8 : kk < 256) (hbu : bu < 4294967296) :
    CallsV Try.prog 5 #[.int .u32 (g : Int), .slice p bs.length c, .int .u8 (kk : Int), .int .u32 (bu : Int)] w0 (fun v w => v = .bool true ∧ Below w0.heap.size w0 w) := by
  refine enter1 Try.func5 rfl Try.ntmps5 (by simp) rfl ?_
  have hB := Below.refl w0.heap.size w0
  simp only [argLoc, Nat.zero_add, Nat.reduceAdd]
  refine W.seqR ?_
  refine LS.vv rfl rfl (by decide) (Val.assign rfl) ?_
  refine LS.nil ?_
  refine W.seqR ?_
  refine LS.vv rfl rfl (by decide) (Val.move rfl) ?_
  refine LS.vv rfl rfl (by decide) (Val.move rfl) ?_
  refine LS.m rfl (Step.call body19 rfl rfl (by decide) rfl (CallsV.mono (Put_any g bs _ _ _ (hr.below hB) hg) ?_))
  rintro _ w1 ⟨pm, cm, m, e, rfl, hOm, he, hm, hm0, hb1⟩
  replace hB := hB.trans (hb1.mono hB.size)
  refine LS.vv rfl rfl (by decide) (Val.move rfl) ?_
  refine LS.vv rfl rfl (by decide) (Val.extract rfl rfl) ?_
  refine LS.vv rfl rfl (by decide) (Val.extract rfl rfl) ?_
  refine LS.vv rfl rfl (by decide) (Val.assign rfl) ?_
  refine LS.vv rfl rfl (by decide) (Val.assign rfl) ?_
  refine LS.nil ?_
  refine W.seq ?_
  refine W.seqR ?_
  refine LS.vv rfl rfl (by decide) (Val.move rfl) ?_
  refine LS.vv rfl rfl (by decide) (Val.move rfl) ?_
  refine LS.m rfl (Step.call body16 rfl rfl (by decide) rfl (CallsV.mono (restCheck_any g bs _ _ _ hg) ?_))
  rintro _ w2 ⟨e1, rfl, he1, hb2⟩
  replace hB := hB.trans (hb2.mono hB.size)
  replace hOm := hOm.below hb2
  have ne1 : e = 0 → e1 = 0 := fun h => he1.2 ⟨(he.1 h).1, (he.1 h).2.1⟩
  refine LS.vv rfl rfl (by decide) (Val.neq rfl rfl) ?_
  refine LS.vv rfl rfl (by decide) (Val.move rfl) ?_
  refine LS.split 4 rfl (fun hg1 => ?_) (fun hg1 => ?_)
  ·
    first | (have hg1p := of_decide_eq_true hg1) | skip
    refine LS.s rfl rfl rfl hg1 (by decide) ?_
    refine LS.s rfl rfl rfl hg1 (by decide) ?_
    refine LS.vv rfl rfl (by decide) (Val.pickT rfl hg1 rfl) ?_
    refine LS.nil ?_
    refine W.condT rfl ?_
    refine W.seqR ?_
    refine LS.vv rfl rfl (by decide) (Val.move rfl) ?_
    refine LS.vv rfl rfl (by decide) (Val.cast (v := .bool true) (Val.neq rfl rfl) (by refine congrArg Value.bool (decide_eq_true ?_); omega)) ?_
    refine LS.vv rfl rfl (by decide) (Val.assign rfl) ?_
    refine LS.nil ?_
    refine W.ret ?_
    refine thenP_ret ?_
    refine ret1 (by first | exact .inl rfl | exact .inr rfl) rfl ?_
    first | exact ⟨rfl, hB⟩ | (exfalso; omega)
  ·
    first | (have hg1p := of_decide_eq_false hg1) | skip
    refine LS.vg rfl rfl rfl hg1 (by decide) (Val.move rfl) ?_
    refine LS.vg rfl rfl rfl hg1 (by decide) (Val.neq rfl rfl) ?_
    refine LS.vv rfl rfl (by decide) (Val.pickF rfl hg1 rfl) ?_
    refine LS.nil ?_
    first | refine W.condD rfl (fun hc2 => ?_) (fun hc2 => ?_) | refine W.cond rfl (fun hc2 => ?_) (fun hc2 => ?_)
    ·
      refine W.seqR ?_
      refine LS.vv rfl rfl (by decide) (Val.move rfl) ?_
      refine LS.vv rfl rfl (by decide) (Val.cast (v := .bool true) (Val.neq rfl rfl) (by refine congrArg Value.bool (decide_eq_true ?_); omega)) ?_
      refine LS.vv rfl rfl (by decide) (Val.assign rfl) ?_
      refine LS.nil ?_
      refine W.ret ?_
      refine thenP_ret ?_
      refine ret1 (by first | exact .inl rfl | exact .inr rfl) rfl ?_
      first | exact ⟨rfl, hB⟩ | (exfalso; omega)
    ·
      refine W.skip ?_
      refine thenP_normal ?_
      refine W.seq ?_
      refine W.seqR ?_
      refine LS.vv rfl rfl (by decide) (Val.move rfl) ?_
      refine LS.vv rfl rfl (by decide) (Val.len Try.underlying23 rfl) ?_
      refine LS.vv rfl rfl (by decide) (Val.move rfl) ?_
      refine LS.vv rfl rfl (by decide) (Val.len Try.underlying23 rfl) ?_
      refine LS.vv rfl rfl (by decide) (Val.move rfl) ?_
      have hE : e = 0 := by omega
      obtain ⟨hG, h64, hsum⟩ := he.1 hE
      obtain rfl := hm hE
      have hdg := hG.deg
      have hd1 := hdg.pos
      have hd2 := hdg.le
      have hpl := putOf_len g (bitLen g - 1) bs
      rw [hpl]
      rw [hpl] at hOm
      refine LS.m rfl (Step.call body22 rfl rfl (by decide) rfl (CallsV.mono (degreeQ_any g _ hG) ?_))
      rintro _ w3 ⟨rfl, hb3⟩
      replace hB := hB.trans (hb3.mono hB.size)
      replace hOm := hOm.below hb3
      first | refine LS.vv rfl rfl (by decide) (Val.addN rfl rfl (by omega)) ?_ | refine LS.vv rfl rfl (by decide) (Val.add64 rfl rfl (by omega)) ?_
      refine LS.vv rfl rfl (by decide) (Val.cast (v := .bool false) (Val.neq rfl rfl) (by first | (simp; done) | (simp; omega))) ?_
      refine LS.nil ?_
      refine W.condF rfl ?_
      refine W.skip ?_
      refine thenP_normal ?_
      refine W.seqR ?_
      refine LS.vv rfl rfl (by decide) (Val.move rfl) ?_
      refine LS.vv rfl rfl (by decide) (Val.conv rfl Try.underlying5 Try.underlying3 (IntWalk.i64_in _ (by omega))) ?_
      refine LS.vv rfl rfl (by decide) (Val.move rfl) ?_
      refine LS.vv rfl rfl (by decide) (Val.len Try.underlying23 rfl) ?_
      refine LS.vv rfl rfl (by decide) (Val.remN rfl rfl (by omega)) ?_
      have hmd := Nat.mod_lt kk (show 0 < bs.length + (bitLen g - 1) by omega)
      generalize hiq : kk % (bs.length + (bitLen g - 1)) = iq
      rw [hiq] at hmd
      refine LS.vv rfl rfl (by decide) (Val.assign rfl) ?_
      refine LS.nil ?_
      refine W.seqR ?_
      have hsz0 := hB.size
      have hmb : ∀ b, pm = some ⟨b, 0, none⟩ → b < _ := fun b h => (hOm.block h).2
      refine LS.m rfl (Step.lit (B := w3.heap.size) rfl rfl (by decide) Try.underlying23 elem4 rfl rfl (by omega) (by simp [Value.oneCell']) (Nat.le_refl _) ?_)
      rintro w4 hO4 hg4 hbl4 hsz4
      replace hB := hB.trans (hbl4.mono hB.size)
      have hOl := hO4
      have hbl0 := hbl4
      replace hOm := hOm.below hbl4
      refine LS.vv rfl rfl (by decide) (Val.move rfl) ?_
      refine LS.m rfl (Step.append (B := w3.heap.size) rfl rfl (by decide) Try.underlying23 elem4 rfl rfl rfl rfl (hOl) (hOm.rd) (by simp [hpl]) (one_map _ (fun _ => rfl) _) (by omega) (by omega) (hbl0.size) ?_)
      rintro p5 c5 w5 hO5 hg5 hbl5
      replace hB := hB.trans (hbl5.mono (hsz0))
      replace hOm := hOm.belowB hbl5 hmb
      have hzz : (0 : Nat) + (bs.length + (bitLen g - 1)) = bs.length + (bitLen g - 1) := Nat.zero_add _
      rw [hzz] at hO5 ⊢
      have hne : ∀ b b2, p5 = some ⟨b, 0, none⟩ → pm = some ⟨b2, 0, none⟩ → b ≠ b2 := fun b b2 h1 h2 => by (have h3 := (hO5.block h1).1; have h4 := hmb b2 h2; omega)
      have hO := hO5.base hsz0
      simp only [List.nil_append] at hO
      generalize p5 = px at *
      generalize c5 = cx at *
      refine LS.vv rfl rfl (by decide) (Val.assign rfl) ?_
      refine LS.nil ?_
      refine W.seq ?_
      refine W.seqR ?_
      refine LS.vv rfl rfl (by decide) (Val.cast (v := .int .i64 ((0 : Nat) : Int)) (Val.assign rfl) rfl) ?_
      refine LS.nil ?_
      refine W.block ?_
      refine W.loop (α := Nat) (fun k => [(13, .int .i64 (k : Int))]) [(0, _), (3, _), (9, _), (11, _), (12, _)] (fun k w => (k ≤ bitLen g - 1 ∧ iq + k ≤ bs.length + (bitLen g - 1) ∧ Own w w0.heap.size 4 pm (bs.length + (bitLen g - 1)) cm (bv (putOf g (bitLen g - 1) bs)) ∧ Own w w0.heap.size 4 px (bs.length + (bitLen g - 1)) cx (bv (burstTo (putOf g (bitLen g - 1) bs) bu iq k))) ∧ Below w0.heap.size w0 w) (fun k => bitLen g - 1 - k) (0) (Sub.cons rfl (Sub.nil _)) (Sub.cons rfl (Sub.cons rfl (Sub.cons rfl (Sub.cons rfl (Sub.cons rfl (Sub.nil _)))))) ?_ ?_
      · exact ⟨⟨Nat.zero_le _, by omega, hOm, hO⟩, hB⟩
      rintro k w6 ⟨⟨hk, hik, hOm, hO⟩, hB⟩
      simp only [List.cons_append, List.nil_append]
      have hbl9 := burstTo_len (putOf g (bitLen g - 1) bs) bu iq k
      rw [hpl] at hbl9
      refine W.seq ?_
      refine W.seqR ?_
      refine LS.vv rfl rfl (by decide) (Val.move rfl) ?_
      refine LS.vv rfl rfl (by decide) (Val.move rfl) ?_
      refine LS.m rfl (Step.call body22 rfl rfl (by decide) rfl (CallsV.mono (degreeQ_any g _ hG) ?_))
      rintro _ w7 ⟨rfl, hb7⟩
      replace hB := hB.trans (hb7.mono hB.size)
      replace hOm := hOm.below hb7
      replace hO := hO.below hb7
      refine LS.vv rfl rfl (by decide) (Val.lss rfl rfl) ?_
      refine LS.vv rfl rfl (by decide) (Val.move rfl) ?_
      refine LS.split 4 rfl (fun hg3 => ?_) (fun hg3 => ?_)
      ·
        first | (have hg3p := of_decide_eq_true hg3) | skip
        refine LS.vg rfl rfl rfl hg3 (by decide) (Val.move rfl) ?_
        refine LS.vg rfl rfl rfl hg3 (by decide) (Val.move rfl) ?_
        first | refine LS.vg rfl rfl rfl hg3 (by decide) (Val.addN rfl rfl (by omega)) ?_ | refine LS.vg rfl rfl rfl hg3 (by decide) (Val.add64 rfl rfl (by omega)) ?_
        refine LS.vg rfl rfl rfl hg3 (by decide) (Val.move rfl) ?_
        refine LS.vg rfl rfl rfl hg3 (by decide) (Val.len Try.underlying23 rfl) ?_
        refine LS.vg rfl rfl rfl hg3 (by decide) (Val.lss rfl rfl) ?_
        refine LS.vv rfl rfl (by decide) (Val.pickT rfl hg3 rfl) ?_
        refine LS.nil ?_
        first | refine W.condD rfl (fun hc4 => ?_) (fun hc4 => ?_) | refine W.cond rfl (fun hc4 => ?_) (fun hc4 => ?_)
        ·
          refine W.skip ?_
          refine thenP_normal ?_
          refine W.seq ?_
          refine W.block ?_
          refine W.regT (S := fun w => Below w0.heap.size w0 w) (.val 0 (.val 1 (.val 2 (.val 3 (.val 4 (.val 5 (.val 6 (.val 7 (.val 8 (.val 10 (.val 11 (.two (.mem 9 (.mem 12 (.val 13 (.val 14 (.mem 15 (.done)))))) (.mem 12 (.mem 9 (.val 13 (.val 14 (.mem 15 (.done)))))))))))))))))) mixed (by kernel_rfl) hB.drew ?_
          replace hB := hB.drew
          replace hOm := hOm.drew
          replace hO := hO.drew
          refine DT.vv rfl rfl rfl (by decide) (Val.move rfl) ?_
          refine DT.vv rfl rfl rfl (by decide) (Val.move rfl) ?_
          refine DT.vv rfl rfl rfl (by decide) (Val.move rfl) ?_
          first | refine DT.vv rfl rfl rfl (by decide) (Val.addN rfl rfl (by omega)) ?_ | refine DT.vv rfl rfl rfl (by decide) (Val.add64 rfl rfl (by omega)) ?_
          refine DT.vv rfl rfl rfl (by decide) (Val.move rfl) ?_
          refine DT.vv rfl rfl rfl (by decide) (Val.move rfl) ?_
          refine DT.vv rfl rfl rfl (by decide) (Val.move rfl) ?_
          first | refine DT.vv rfl rfl rfl (by decide) (Val.addN rfl rfl (by omega)) ?_ | refine DT.vv rfl rfl rfl (by decide) (Val.add64 rfl rfl (by omega)) ?_
          refine DT.vv rfl rfl rfl (by decide) (Val.index1 Try.underlying23 elem4 rfl rfl (by omega) hO.rd (bv_lt (by omega))) ?_
          refine DT.vv rfl rfl rfl (by decide) (Val.move rfl) ?_
          refine DT.vv rfl rfl rfl (by decide) (Val.move rfl) ?_
          refine DT.two ?_ ?_
          ·
            refine DT.m rfl rfl (Step.load rfl rfl (by decide) flat4 rfl hO.rd (bv_at (by omega)) ?_)
            refine ⟨hB, ?_⟩
            refine DT.m rfl rfl (Step.call body23 rfl rfl (by decide) rfl (CallsV.mono (bit_any bu k _ hbu (by omega)) ?_))
            rintro _ w8 ⟨rfl, hb8⟩
            replace hB := hB.trans (hb8.mono hB.size)
            replace hOm := hOm.below hb8
            replace hO := hO.below hb8
            refine ⟨hB, ?_⟩
            refine DT.vv rfl rfl rfl (by decide) (Val.neqB Try.underlying4 rfl rfl) ?_
            refine DT.vv rfl rfl rfl (by decide) (Val.index1 Try.underlying23 elem4 rfl rfl (by omega) hO.rd (bv_lt (by omega))) ?_
            refine DT.m rfl rfl (Step.store (B := w0.heap.size) rfl rfl flat4 elem4 rfl rfl rfl (hO) (by omega) hB.size ?_)
            rintro w9 hO9 hg9 hbl9 hsz9
            replace hOm := hOm.apart hg9 (fun b b2 h1 h2 => (hne b2 b h2 h1).symm) hO
            have hO2 := hO9
            replace hB := hB.trans hbl9
            refine ⟨hB, ?_⟩
            refine DT.nil ?_
            refine inBlk_normal ?_
            refine thenP_normal ?_
            refine W.reg ?_
            refine LS.vv rfl rfl (by decide) (Val.move rfl) ?_
            first | refine LS.vv rfl rfl (by decide) (Val.addN (j := 1) rfl rfl (by omega)) ?_ | refine LS.vv rfl rfl (by decide) (Val.add64 rfl rfl (by omega)) ?_
            refine LS.vv rfl rfl (by decide) (Val.assign rfl) ?_
            refine LS.nil ?_
            refine thenP_normal ?_
            refine ⟨k + 1, ?_, ?_, ⟨⟨by omega, by omega, hOm, ?_⟩, hB⟩, by omega⟩
            · exact Sub.cons rfl (Sub.nil _)
            · repeat (first | exact Sub.nil _ | refine Sub.cons rfl ?_)
            · rw [burstTo_succ, bv, List.map_set]; exact hO2
          ·
            refine DT.m rfl rfl (Step.call body23 rfl rfl (by decide) rfl (CallsV.mono (bit_any bu k _ hbu (by omega)) ?_))
            rintro _ w10 ⟨rfl, hb10⟩
            replace hB := hB.trans (hb10.mono hB.size)
            replace hOm := hOm.below hb10
            replace hO := hO.below hb10
            refine ⟨hB, ?_⟩
            refine DT.m rfl rfl (Step.load rfl rfl (by decide) flat4 rfl hO.rd (bv_at (by omega)) ?_)
            refine ⟨hB, ?_⟩
            refine DT.vv rfl rfl rfl (by decide) (Val.neqB Try.underlying4 rfl rfl) ?_
            refine DT.vv rfl rfl rfl (by decide) (Val.index1 Try.underlying23 elem4 rfl rfl (by omega) hO.rd (bv_lt (by omega))) ?_
            refine DT.m rfl rfl (Step.store (B := w0.heap.size) rfl rfl flat4 elem4 rfl rfl rfl (hO) (by omega) hB.size ?_)
            rintro w11 hO11 hg11 hbl11 hsz11
            replace hOm := hOm.apart hg11 (fun b b2 h1 h2 => (hne b2 b h2 h1).symm) hO
            have hO2 := hO11
            replace hB := hB.trans hbl11
            refine ⟨hB, ?_⟩
            refine DT.nil ?_
            refine inBlk_normal ?_
            refine thenP_normal ?_
            refine W.reg ?_
            refine LS.vv rfl rfl (by decide) (Val.move rfl) ?_
            first | refine LS.vv rfl rfl (by decide) (Val.addN (j := 1) rfl rfl (by omega)) ?_ | refine LS.vv rfl rfl (by decide) (Val.add64 rfl rfl (by omega)) ?_
            refine LS.vv rfl rfl (by decide) (Val.assign rfl) ?_
            refine LS.nil ?_
            refine thenP_normal ?_
            refine ⟨k + 1, ?_, ?_, ⟨⟨by omega, by omega, hOm, ?_⟩, hB⟩, by omega⟩
            · exact Sub.cons rfl (Sub.nil _)
            · repeat (first | exact Sub.nil _ | refine Sub.cons rfl ?_)
            · rw [burstTo_succ, bv, List.map_set]; exact hO2
        ·
          refine W.exit ?_
          refine thenP_exit ?_
          refine thenP_exit ?_
          refine inBlk_exit ?_
          refine thenP_normal ?_
          refine W.seqR ?_
          refine LS.vv rfl rfl (by decide) (Val.move rfl) ?_
          refine LS.vv rfl rfl (by decide) (Val.move rfl) ?_
          have hbe : ∀ q, (burstTo (putOf g (bitLen g - 1) bs) bu iq q).length = bs.length + (bitLen g - 1) := fun q => by rw [burstTo_len, hpl]
          refine LS.m rfl (Step.call body20 rfl rfl (by decide) rfl (CallsV.mono (Get_len g (burstTo (putOf g (bitLen g - 1) bs) bu iq k) _ _ _ _ hO.rd hg hO.le_cap (hbe k)) ?_))
          rintro _ w12 ⟨p3, c3, dd, f, rfl, _, hf, _, _, hf8, hb12⟩
          replace hB := hB.trans (hb12.mono hB.size)
          replace hOm := hOm.below hb12
          replace hO := hO.below hb12
          have hf8b := hf8 hG (by rw [hbe]; omega) (by rw [hbe]; omega)
          refine LS.vv rfl rfl (by decide) (Val.move rfl) ?_
          refine LS.vv rfl rfl (by decide) (Val.extract rfl rfl) ?_
          refine LS.vv rfl rfl (by decide) (Val.extract rfl rfl) ?_
          refine LS.vv rfl rfl (by decide) (Val.assign rfl) ?_
          refine LS.vv rfl rfl (by decide) (Val.assign rfl) ?_
          refine LS.nil ?_
          refine W.seqR ?_
          refine LS.vv rfl rfl (by decide) (Val.move rfl) ?_
          refine LS.vv rfl rfl (by decide) (Val.move rfl) ?_
          refine LS.m rfl (Step.call body21 rfl rfl (by decide) rfl (CallsV.mono (boolsEq_len _ (putOf g (bitLen g - 1) bs) _ _ _ _ _ _ _ hO.rd hOm.rd (by rw [hbe]; omega) (hbe k) hpl) ?_))
          rintro _ w13 ⟨rfl, hb13⟩
          replace hB := hB.trans (hb13.mono hB.size)
          replace hOm := hOm.below hb13
          replace hO := hO.below hb13
          refine LS.vv rfl rfl (by decide) (Val.move rfl) ?_
          refine LS.split 3 rfl (fun hg5 => ?_) (fun hg5 => ?_)
          ·
            first | (have hg5p := of_decide_eq_true hg5) | skip
            refine LS.vg rfl rfl rfl hg5 (by decide) (Val.move rfl) ?_
            have hxm : burstTo (putOf g (bitLen g - 1) bs) bu iq k = putOf g (bitLen g - 1) bs := of_decide_eq_true ‹_›
            have hf0 : f = 0 := hf.2 ⟨hG, by rw [hbe]; omega, by rw [hbe]; omega, by rw [hxm]; exact rest_put hdg bs⟩
            refine LS.vg rfl rfl rfl hg5 (by decide) (Val.cast (v := .bool true) (Val.eql rfl rfl) (by simp; omega)) ?_
            refine LS.vv rfl rfl (by decide) (Val.pickT rfl hg5 rfl) ?_
            refine LS.vv rfl rfl (by decide) (Val.move rfl) ?_
            refine LS.s rfl rfl rfl rfl (by decide) ?_
            refine LS.s rfl rfl rfl rfl (by decide) ?_
            refine LS.s rfl rfl rfl rfl (by decide) ?_
            refine LS.s rfl rfl rfl rfl (by decide) ?_
            refine LS.s rfl rfl rfl rfl (by decide) ?_
            refine LS.skipU rfl rfl rfl (by decide) ?_
            refine LS.skipU rfl rfl rfl (by decide) ?_
            refine LS.s rfl rfl rfl rfl (by decide) ?_
            refine LS.vv rfl rfl (by decide) (Val.pickT rfl rfl rfl) ?_
            refine LS.vv rfl rfl (by decide) (Val.assign rfl) ?_
            refine LS.nil ?_
            refine W.ret ?_
            refine ret1 (by first | exact .inl rfl | exact .inr rfl) rfl ?_
            first | exact ⟨rfl, hB⟩ | (exfalso; omega)
          ·
            first | (have hg5p := of_decide_eq_false hg5) | skip
            refine LS.s rfl rfl rfl hg5 (by decide) ?_
            refine LS.s rfl rfl rfl hg5 (by decide) ?_
            refine LS.vv rfl rfl (by decide) (Val.pickF rfl hg5 rfl) ?_
            refine LS.vv rfl rfl (by decide) (Val.move rfl) ?_
            refine LS.vg rfl rfl rfl rfl (by decide) (Val.move rfl) ?_
            refine LS.vg rfl rfl rfl rfl (by decide) (Val.move rfl) ?_
            have hxm : burstTo (putOf g (bitLen g - 1) bs) bu iq k ≠ putOf g (bitLen g - 1) bs := of_decide_eq_false ‹_›
            have hseen := burst_seen hdg hG.1 (by omega) (by omega) (rest_put hdg bs) hxm
            have hf0 : f ≠ 0 := fun h => hseen (hf.1 h).2.2.2
            refine LS.mg rfl rfl rfl (Step.call body21 rfl rfl (by decide) rfl (CallsV.mono (boolsEq_len _ (putOf g (bitLen g - 1) bs) _ _ _ _ _ _ _ hO.rd hOm.rd (by rw [hbe]; omega) (hbe k) hpl) ?_))
            rintro _ w14 ⟨rfl, hb14⟩
            replace hB := hB.trans (hb14.mono hB.size)
            rw [show decide (burstTo (putOf g (bitLen g - 1) bs) bu iq k = putOf g (bitLen g - 1) bs) = false from decide_eq_false hxm]
            refine LS.vg rfl rfl rfl rfl (by decide) (Val.cast (v := .bool true) (Val.not rfl) (by rfl)) ?_
            refine LS.vg rfl rfl rfl rfl (by decide) (Val.move rfl) ?_
            refine LS.vg rfl rfl rfl rfl (by decide) (Val.move rfl) ?_
            refine LS.vg rfl rfl rfl rfl (by decide) (Val.cast (v := .bool true) (Val.eql rfl rfl) (by simp; omega)) ?_
            refine LS.vg rfl rfl rfl rfl (by decide) (Val.pickT rfl rfl rfl) ?_
            refine LS.vv rfl rfl (by decide) (Val.pickF rfl rfl rfl) ?_
            refine LS.vv rfl rfl (by decide) (Val.assign rfl) ?_
            refine LS.nil ?_
            refine W.ret ?_
            refine ret1 (by first | exact .inl rfl | exact .inr rfl) rfl ?_
            first | exact ⟨rfl, hB⟩ | (exfalso; omega)
      ·
        first | (have hg3p := of_decide_eq_false hg3) | skip
        refine LS.s rfl rfl rfl hg3 (by decide) ?_
        refine LS.s rfl rfl rfl hg3 (by decide) ?_
        refine LS.s rfl rfl rfl hg3 (by decide) ?_
        refine LS.s rfl rfl rfl hg3 (by decide) ?_
        refine LS.s rfl rfl rfl hg3 (by decide) ?_
        refine LS.s rfl rfl rfl hg3 (by decide) ?_
        refine LS.vv rfl rfl (by decide) (Val.pickF rfl hg3 rfl) ?_
        refine LS.nil ?_
        refine W.condF rfl ?_
        refine W.exit ?_
        refine thenP_exit ?_
        refine thenP_exit ?_
        refine inBlk_exit ?_
        refine thenP_normal ?_
        refine W.seqR ?_
        refine LS.vv rfl rfl (by decide) (Val.move rfl) ?_
        refine LS.vv rfl rfl (by decide) (Val.move rfl) ?_
        have hbe : ∀ q, (burstTo (putOf g (bitLen g - 1) bs) bu iq q).length = bs.length + (bitLen g - 1) := fun q => by rw [burstTo_len, hpl]
        refine LS.m rfl (Step.call body20 rfl rfl (by decide) rfl (CallsV.mono (Get_len g (burstTo (putOf g (bitLen g - 1) bs) bu iq k) _ _ _ _ hO.rd hg hO.le_cap (hbe k)) ?_))
        rintro _ w15 ⟨p3, c3, dd, f, rfl, _, hf, _, _, hf8, hb15⟩
        replace hB := hB.trans (hb15.mono hB.size)
        replace hOm := hOm.below hb15
        replace hO := hO.below hb15
        have hf8b := hf8 hG (by rw [hbe]; omega) (by rw [hbe]; omega)
        refine LS.vv rfl rfl (by decide) (Val.move rfl) ?_
        refine LS.vv rfl rfl (by decide) (Val.extract rfl rfl) ?_
        refine LS.vv rfl rfl (by decide) (Val.extract rfl rfl) ?_
        refine LS.vv rfl rfl (by decide) (Val.assign rfl) ?_
        refine LS.vv rfl rfl (by decide) (Val.assign rfl) ?_
        refine LS.nil ?_
        refine W.seqR ?_
        refine LS.vv rfl rfl (by decide) (Val.move rfl) ?_
        refine LS.vv rfl rfl (by decide) (Val.move rfl) ?_
        refine LS.m rfl (Step.call body21 rfl rfl (by decide) rfl (CallsV.mono (boolsEq_len _ (putOf g (bitLen g - 1) bs) _ _ _ _ _ _ _ hO.rd hOm.rd (by rw [hbe]; omega) (hbe k) hpl) ?_))
        rintro _ w16 ⟨rfl, hb16⟩
        replace hB := hB.trans (hb16.mono hB.size)
        replace hOm := hOm.below hb16
        replace hO := hO.below hb16
        refine LS.vv rfl rfl (by decide) (Val.move rfl) ?_
        refine LS.split 3 rfl (fun hg6 => ?_) (fun hg6 => ?_)
        ·
          first | (have hg6p := of_decide_eq_true hg6) | skip
          refine LS.vg rfl rfl rfl hg6 (by decide) (Val.move rfl) ?_
          have hxm : burstTo (putOf g (bitLen g - 1) bs) bu iq k = putOf g (bitLen g - 1) bs := of_decide_eq_true ‹_›
          have hf0 : f = 0 := hf.2 ⟨hG, by rw [hbe]; omega, by rw [hbe]; omega, by rw [hxm]; exact rest_put hdg bs⟩
          refine LS.vg rfl rfl rfl hg6 (by decide) (Val.cast (v := .bool true) (Val.eql rfl rfl) (by simp; omega)) ?_
          refine LS.vv rfl rfl (by decide) (Val.pickT rfl hg6 rfl) ?_
          refine LS.vv rfl rfl (by decide) (Val.move rfl) ?_
          refine LS.s rfl rfl rfl rfl (by decide) ?_
          refine LS.s rfl rfl rfl rfl (by decide) ?_
          refine LS.s rfl rfl rfl rfl (by decide) ?_
          refine LS.s rfl rfl rfl rfl (by decide) ?_
          refine LS.s rfl rfl rfl rfl (by decide) ?_
          refine LS.skipU rfl rfl rfl (by decide) ?_
          refine LS.skipU rfl rfl rfl (by decide) ?_
          refine LS.s rfl rfl rfl rfl (by decide) ?_
          refine LS.vv rfl rfl (by decide) (Val.pickT rfl rfl rfl) ?_
          refine LS.vv rfl rfl (by decide) (Val.assign rfl) ?_
          refine LS.nil ?_
          refine W.ret ?_
          refine ret1 (by first | exact .inl rfl | exact .inr rfl) rfl ?_
          first | exact ⟨rfl, hB⟩ | (exfalso; omega)
        ·
          first | (have hg6p := of_decide_eq_false hg6) | skip
          refine LS.s rfl rfl rfl hg6 (by decide) ?_
          refine LS.s rfl rfl rfl hg6 (by decide) ?_
          refine LS.vv rfl rfl (by decide) (Val.pickF rfl hg6 rfl) ?_
          refine LS.vv rfl rfl (by decide) (Val.move rfl) ?_
          refine LS.vg rfl rfl rfl rfl (by decide) (Val.move rfl) ?_
          refine LS.vg rfl rfl rfl rfl (by decide) (Val.move rfl) ?_
          have hxm : burstTo (putOf g (bitLen g - 1) bs) bu iq k ≠ putOf g (bitLen g - 1) bs := of_decide_eq_false ‹_›
          have hseen := burst_seen hdg hG.1 (by omega) (by omega) (rest_put hdg bs) hxm
          have hf0 : f ≠ 0 := fun h => hseen (hf.1 h).2.2.2
          refine LS.mg rfl rfl rfl (Step.call body21 rfl rfl (by decide) rfl (CallsV.mono (boolsEq_len _ (putOf g (bitLen g - 1) bs) _ _ _ _ _ _ _ hO.rd hOm.rd (by rw [hbe]; omega) (hbe k) hpl) ?_))
          rintro _ w17 ⟨rfl, hb17⟩
          replace hB := hB.trans (hb17.mono hB.size)
          rw [show decide (burstTo (putOf g (bitLen g - 1) bs) bu iq k = putOf g (bitLen g - 1) bs) = false from decide_eq_false hxm]
          refine LS.vg rfl rfl rfl rfl (by decide) (Val.cast (v := .bool true) (Val.not rfl) (by rfl)) ?_
          refine LS.vg rfl rfl rfl rfl (by decide) (Val.move rfl) ?_
          refine LS.vg rfl rfl rfl rfl (by decide) (Val.move rfl) ?_
          refine LS.vg rfl rfl rfl rfl (by decide) (Val.cast (v := .bool true) (Val.eql rfl rfl) (by simp; omega)) ?_
          refine LS.vg rfl rfl rfl rfl (by decide) (Val.pickT rfl rfl rfl) ?_
          refine LS.vv rfl rfl (by decide) (Val.pickF rfl rfl rfl) ?_
          refine LS.vv rfl rfl (by decide) (Val.assign rfl) ?_
          refine LS.nil ?_
          refine W.ret ?_
          refine ret1 (by first | exact .inl rfl | exact .inr rfl) rfl ?_
          first | exact ⟨rfl, hB⟩ | (exfalso; omega)

end Go.Proofs.Ytbbmgcmibgdkiaa
