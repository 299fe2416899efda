/-
  The statement UniquePrefix.
-/
import Derived.Test.YtbfcmfjdjldepaaUnique3
import Derived.Test.YtbfcmfjdjldepaaPrefix3
import Derived.Test.YtbfcmfjdjldepaaVtb
namespace Go.Proofs.Ytbfcmfjdjldepaa
open Go Go.RowKit V
set_option linter.unusedVariables false
set_option linter.unusedSimpArgs false

theorem take_gw {C : Code} {k : Nat} (h : k < C.length) : C.take (k + 1) = C.take k ++ [gw C k] := by rw [List.take_succ_eq_append_getElem h, gw_lt h]
theorem drop_rev {l : List Bool} {i : Nat} (h0 : 0 < i) (h : i ≤ l.length) : (l.drop i).reverse ++ [gb l (i - 1)] = (l.drop (i - 1)).reverse := by
  obtain ⟨j, rfl⟩ : ∃ j, i = j + 1 := ⟨i - 1, by omega⟩
  rw [Nat.add_sub_cancel, List.drop_eq_getElem_cons (show j < l.length by omega), List.reverse_cons, gb_lt (by omega)]
theorem codeOf_app (D : List Wd) (x : Wd) : codeOf (D ++ [x]) = codeOf D ++ [x.l] := by simp [codeOf]
theorem bare_some {C : Code} (h : ¬ NoBare C) : ¬ UD C := by
  unfold NoBare at h
  rcases Classical.not_forall.1 h with ⟨i, h1⟩
  rcases Classical.not_forall.1 h1 with ⟨hi, h2⟩
  exact bare_not hi (Classical.not_not.1 h2)

theorem uniquePrefix_any (C : List Wd) (p : Option Addr) (c m : Nat) (w0 : World) (hr : RdW w0 p C) (hm : C.length = m) :
    CallsV Try.prog 7 #[.slice p m c] w0 (fun v w => v = .bool true ∧ Below w0.heap.size w0 w) := by
  refine enter1 Try.func7 rfl Try.ntmps7 (by simp) rfl ?_
  have hB := Below.refl w0.heap.size w0
  simp only [argLoc]
  have hM := Mem.nil w0 w0.heap.size
  subst hm
  have hh := hr.head
  refine W.seqR ?_
  refine LS.vv rfl rfl (by decide) (Val.assign rfl) ?_
  refine LS.nil ?_
  refine W.seqR ?_
  refine LS.vv rfl rfl (by decide) (Val.move rfl) ?_
  refine LS.m rfl (Step.call body22 rfl rfl (by decide) rfl (CallsV.mono (uniq_any C _ _ _ _ (hr.below hB) rfl) ?_))
  rintro _ w1 ⟨is, e, rfl, he, hif, hb1⟩
  replace hM := hM.below hb1
  replace hB := hB.trans (hb1.mono hB.size)
  refine LS.vv rfl rfl (by decide) (Val.move rfl) ?_
  refine LS.vv rfl rfl (by decide) (Val.extract rfl rfl) ?_
  refine LS.vv rfl rfl (by decide) (Val.extract rfl rfl) ?_
  refine LS.vv rfl rfl (by decide) (Val.assign rfl) ?_
  refine LS.vv rfl rfl (by decide) (Val.assign rfl) ?_
  refine LS.nil ?_
  refine W.seq ?_
  refine W.seqR ?_
  refine LS.vv rfl rfl (by decide) (Val.move rfl) ?_
  refine LS.m rfl (Step.call body13 rfl rfl (by decide) rfl (CallsV.mono (codedB_any C _ _ _ _ (hr.below hB) rfl) ?_))
  rintro _ w2 ⟨cb, rfl, hcb, hb2⟩
  replace hM := hM.below hb2
  replace hB := hB.trans (hb2.mono hB.size)
  refine LS.vv rfl rfl (by decide) (Val.not rfl) ?_
  refine LS.nil ?_
  first | refine W.condD rfl (fun hc1 => ?_) (fun hc1 => ?_) | refine W.cond rfl (fun hc1 => ?_) (fun hc1 => ?_)
  ·
    refine W.seqR ?_
    refine LS.vv rfl rfl (by decide) (Val.move rfl) ?_
    have hnc : ¬ Coded (codeOf C) := fun h => by have := hcb.2 h; simp_all
    have he9 : e ≠ 0 := fun h => hnc (he.1 h)
    refine LS.vv rfl rfl (by decide) (Val.cast (v := .bool true) (Val.neq rfl rfl) (by refine congrArg Value.bool (decide_eq_true ?_); first | omega | (simp; omega))) ?_
    refine LS.vv rfl rfl (by decide) (Val.assign rfl) ?_
    refine LS.nil ?_
    refine W.ret ?_
    refine thenP_ret ?_
    refine ret1 (by first | exact .inl rfl | exact .inr rfl) rfl ?_
    first | exact ⟨rfl, hB⟩ | contradiction | (exfalso; omega) | (exfalso; simp_all; done)
  ·
    refine W.skip ?_
    refine thenP_normal ?_
    refine W.seq ?_
    refine W.seqR ?_
    refine LS.vv rfl rfl (by decide) (Val.move rfl) ?_
    have hcd : Coded (codeOf C) := hcb.1 (by simp_all)
    have hc8 := ((coded_iff C).1 hcd).1
    have he0 := he.2 hcd
    have hiu := hif he0
    have hc9 := ((coded_iff C).1 hcd).2
    refine LS.vv rfl rfl (by decide) (Val.cast (v := .bool false) (Val.neq rfl rfl) (by first | (simp; done) | (simp; omega) | (refine congrArg Value.bool (decide_eq_false ?_); omega))) ?_
    refine LS.nil ?_
    refine W.condF rfl ?_
    refine W.skip ?_
    refine thenP_normal ?_
    refine W.seqR ?_
    refine LS.vv rfl rfl (by decide) (Val.assign rfl) ?_
    refine LS.nil ?_
    refine W.seq ?_
    refine W.seqR ?_
    refine LS.vv rfl rfl (by decide) (Val.move rfl) ?_
    refine LS.vv rfl rfl (by decide) (Val.len Try.underlying22 rfl) ?_
    refine LS.vv rfl rfl (by decide) (Val.cast (v := .int .i64 ((0 : Nat) : Int)) (Val.move rfl) rfl) ?_
    refine LS.nil ?_
    refine W.block ?_
    replace hM := hM.addNil 36
    refine W.loop (α := Nat × Option Addr × Nat × List Wd) (fun g => [(5, .slice g.2.1 g.2.2.2.length g.2.2.1), (26, .int .i64 (g.1 : Int))]) [(0, _), (3, _), (24, _), (25, _)] (fun g w => (g.1 ≤ C.length ∧ codeOf g.2.2.2 = (backC (codeOf C)).take g.1) ∧ Mem w w0.heap.size (⟨36, g.2.1, g.2.2.2.length, g.2.2.1, wv g.2.2.2⟩ :: (tb 4 g.2.2.2)) ∧ Below w0.heap.size w0 w) (fun g => C.length - g.1) ((0, none, 0, [])) (Sub.cons rfl (Sub.cons rfl (Sub.nil _))) (Sub.cons rfl (Sub.cons rfl (Sub.cons rfl (Sub.cons rfl (Sub.nil _))))) ?_ ?_
    · exact ⟨⟨Nat.zero_le _, rfl⟩, hM, hB⟩
    rintro ⟨k, pc, cc, D⟩ w3 ⟨⟨hk, hD⟩, hM, hB⟩
    try simp only at hM
    simp only [List.cons_append, List.nil_append]
    simp only at hk hD
    have hDl := congrArg List.length hD
    rw [codeOf_len, List.length_take, backC_len, codeOf_len] at hDl
    refine W.seqR ?_
    refine LS.vv rfl rfl (by decide) (Val.lss rfl rfl) ?_
    refine LS.nil ?_
    refine W.seq ?_
    first | refine W.condD rfl (fun hc2 => ?_) (fun hc2 => ?_) | refine W.cond rfl (fun hc2 => ?_) (fun hc2 => ?_)
    ·
      refine W.skip ?_
      refine thenP_normal ?_
      refine W.seq ?_
      refine W.block ?_
      refine W.seqR ?_
      refine LS.vv rfl rfl (by decide) (Val.index1 Try.underlying22 elem36 rfl rfl (by omega) ((hh.below hB)) (wv_lt (by omega))) ?_
      refine LS.m rfl (Step.load rfl rfl (by decide) flat36 rfl ((hh.below hB)) (wv_at (by omega)) ?_)
      refine LS.vv rfl rfl (by decide) (Val.assign rfl) ?_
      refine LS.nil ?_
      refine W.seqR ?_
      refine LS.vv rfl rfl (by decide) (Val.assign rfl) ?_
      refine LS.nil ?_
      refine W.seq ?_
      refine W.seqR ?_
      refine LS.vv rfl rfl (by decide) (Val.move rfl) ?_
      refine LS.vv rfl rfl (by decide) (Val.len Try.underlying36 rfl) ?_
      have hw8 := hc9 k (by omega)
      refine LS.vv rfl rfl (by decide) (Val.sub64 rfl rfl (by omega)) ?_
      refine LS.vv rfl rfl (by decide) (Val.assign rfl) ?_
      refine LS.nil ?_
      refine W.block ?_
      replace hM := hM.addNil 4
      refine W.loop (α := Nat × Option Addr × Nat) (fun g => [(8, .slice g.2.1 ((gW C k).l.length - g.1) g.2.2), (9, .int .i64 ((g.1 : Int) - 1))]) [(0, _), (3, _), (5, _), (7, _), (24, _), (25, _), (26, _)] (fun g w => (g.1 ≤ (gW C k).l.length) ∧ Mem w w0.heap.size (⟨4, g.2.1, (gW C k).l.length - g.1, g.2.2, bv ((gW C k).l.drop g.1).reverse⟩ :: ⟨36, pc, D.length, cc, wv D⟩ :: (tb 4 D)) ∧ Below w0.heap.size w0 w) (fun g => g.1) (((gW C k).l.length, none, 0)) (Sub.cons' rfl (by simp only [Nat.sub_self]) (Sub.cons rfl (Sub.nil _))) (Sub.cons rfl (Sub.cons rfl (Sub.cons rfl (Sub.cons rfl (Sub.cons rfl (Sub.cons rfl (Sub.cons rfl (Sub.nil _)))))))) ?_ ?_
      · exact ⟨Nat.le_refl _, (by simp only [Nat.sub_self, List.drop_length, List.reverse_nil]; exact hM), hB⟩
      rintro ⟨i, pb, cb⟩ w4 ⟨hi, hM, hB⟩
      try simp only at hM
      simp only [List.cons_append, List.nil_append]
      simp only at hi
      refine W.seq ?_
      refine W.seqR ?_
      refine LS.vv rfl rfl (by decide) (Val.move rfl) ?_
      refine LS.vv rfl rfl (by decide) (Val.geq rfl rfl) ?_
      refine LS.nil ?_
      first | refine W.condD rfl (fun hc3 => ?_) (fun hc3 => ?_) | refine W.cond rfl (fun hc3 => ?_) (fun hc3 => ?_)
      ·
        refine W.skip ?_
        refine thenP_normal ?_
        refine W.seq ?_
        refine W.block ?_
        refine W.reg ?_
        refine LS.vv rfl rfl (by decide) (Val.move rfl) ?_
        refine LS.vv rfl rfl (by decide) (Val.move rfl) ?_
        refine LS.vv rfl rfl (by decide) (Val.cast (v := .int .i64 ((i - 1 : Nat) : Int)) (Val.move rfl) (by congr 1; omega)) ?_
        refine LS.vv rfl rfl (by decide) (Val.index1 Try.underlying36 elem4 rfl rfl (by omega) (((hr.at (k := k) (by omega)).below hB)) (bv_lt (by omega))) ?_
        refine LS.m rfl (Step.load rfl rfl (by decide) flat4 rfl (((hr.at (k := k) (by omega)).below hB)) (bv_at (by omega)) ?_)
        refine LS.m rfl (Step.lit rfl rfl (by decide) Try.underlying36 elem4 rfl rfl (by omega) (by simp [Value.oneCell']) (Nat.le_refl _) ?_)
        rintro w5 hO5 hg5 hbl5 hsz5
        replace hM := hM.add hB.size hbl5 hO5
        replace hB := hB.trans (hbl5.mono hB.size)
        generalize w4.heap.size = gg5 at *
        refine LS.m rfl (Step.append2 (B := w0.heap.size) rfl rfl (by decide) Try.underlying36 elem4 rfl rfl rfl rfl (hM.o1) (hM.o0.rd) (by first | rfl | (simp; done) | (simp; omega)) (by first | exact one_map _ (fun _ => rfl) _ | simp [Value.oneCell']) (by omega) (by omega) hB.size ?_)
        rintro p6 c6 w6 hO6 hg6 hbl6 hbk6
        replace hM := hM.s1 hg6 hO6 hbk6
        replace hM := hM.tail
        try simp only [bv_app1, bv_app, bv_set, bv_rep, bv_one, bv_cons, bv_take, bv_drop, List.nil_append] at hM
        replace hB := hB.trans hbl6
        refine LS.vv rfl rfl (by decide) (Val.assign rfl) ?_
        refine LS.nil ?_
        refine inBlk_normal ?_
        refine thenP_normal ?_
        refine W.reg ?_
        refine LS.vv rfl rfl (by decide) (Val.move rfl) ?_
        refine LS.vv rfl rfl (by decide) (Val.sub64 rfl rfl (by omega)) ?_
        refine LS.vv rfl rfl (by decide) (Val.assign rfl) ?_
        refine LS.nil ?_
        refine thenP_normal ?_
        have hdr := drop_rev (l := (gW C k).l) (i := i) (by omega) hi
        rw [hdr] at hM
        refine ⟨(i - 1, p6, c6), (Sub.cons' rfl (by simp only; congr 1; omega) (Sub.cons' rfl (by simp only; congr 1; omega) (Sub.nil _))), (by repeat (first | exact Sub.nil _ | refine Sub.cons rfl ?_)), ⟨by simp only; omega, ?_, hB⟩, by simp only; omega⟩
        simp only; rw [show (gW C k).l.length - (i - 1) = (gW C k).l.length - i + 1 by omega]; exact hM
      ·
        refine W.exit ?_
        refine thenP_exit ?_
        refine thenP_exit ?_
        refine inBlk_exit ?_
        refine thenP_normal ?_
        refine W.reg ?_
        refine LS.vv rfl rfl (by decide) (Val.move rfl) ?_
        refine LS.vv rfl rfl (by decide) (Val.move rfl) ?_
        refine LS.m rfl (Step.lit rfl rfl (by decide) Try.underlying22 elem36 rfl rfl (by omega) (by simp [Value.oneCell']) (Nat.le_refl _) ?_)
        rintro w7 hO7 hg7 hbl7 hsz7
        replace hM := hM.add hB.size hbl7 hO7
        replace hB := hB.trans (hbl7.mono hB.size)
        generalize w4.heap.size = gg7 at *
        refine LS.m rfl (Step.append2 (B := w0.heap.size) rfl rfl (by decide) Try.underlying22 elem36 rfl rfl rfl rfl (hM.o2) (hM.o0.rd) (by first | rfl | (simp; done) | (simp; omega)) (by first | exact one_map _ (fun _ => rfl) _ | simp [Value.oneCell']) (by omega) (by omega) hB.size ?_)
        rintro p8 c8 w8 hO8 hg8 hbl8 hbk8
        replace hM := hM.s2 hg8 hO8 hbk8
        replace hM := hM.tail
        try simp only [wv_app1, wv_app, wv_set, wv_rep, wv_one, wv_cons, wv_take, wv_drop, List.nil_append] at hM
        replace hB := hB.trans hbl8
        refine LS.vv rfl rfl (by decide) (Val.assign rfl) ?_
        refine LS.nil ?_
        refine inBlk_normal ?_
        refine thenP_normal ?_
        refine W.reg ?_
        first | refine LS.vv rfl rfl (by decide) (Val.addN (j := 1) rfl rfl (by omega)) ?_ | refine LS.vv rfl rfl (by decide) (Val.add64 rfl rfl (by omega)) ?_
        refine LS.vv rfl rfl (by decide) (Val.move rfl) ?_
        refine LS.nil ?_
        refine thenP_normal ?_
        obtain rfl : i = 0 := by omega
        rw [List.drop_zero, Nat.sub_zero] at hM
        have hrl : (gW C k).l.reverse.length = (gW C k).l.length := List.length_reverse
        refine ⟨(k + 1, p8, c8, D ++ [⟨pb, cb, (gW C k).l.reverse⟩]), (Sub.cons' rfl (by simp only [List.length_append, List.length_cons, List.length_nil]) (Sub.cons rfl (Sub.nil _))), (by repeat (first | exact Sub.nil _ | refine Sub.cons rfl ?_)), ⟨⟨by simp only; omega, ?_⟩, ?_, hB⟩, by simp only; omega⟩
        · simp only [codeOf_app]; rw [hD, take_gw (by rw [backC_len, codeOf_len]; omega), gw_back, codeOf_gw]
        · simp only [List.length_append, List.length_cons, List.length_nil]
          rw [← wv_app1, tb_app1]
          rw [← hrl] at hM
          exact hM.last1
    ·
      refine W.exit ?_
      refine thenP_exit ?_
      refine thenP_exit ?_
      refine inBlk_exit ?_
      refine thenP_normal ?_
      refine W.seqR ?_
      refine LS.vv rfl rfl (by decide) (Val.move rfl) ?_
      obtain rfl : k = C.length := by omega
      have hDD : codeOf D = backC (codeOf C) := by rw [hD, List.take_of_length_le (by rw [backC_len, codeOf_len]; exact Nat.le_refl _)]
      refine LS.m rfl (Step.call body22 rfl rfl (by decide) rfl (CallsV.mono (uniq_any D _ _ _ _ (Mem.rdW (e := 4) hM (fun o h => h)) rfl) ?_))
      rintro _ w9 ⟨is2, f, rfl, hf, hif2, hb9⟩
      replace hM := hM.below hb9
      replace hB := hB.trans (hb9.mono hB.size)
      rw [hDD] at hf hif2
      have hf0 : f = 0 := hf.2 (coded_back.2 hcd)
      have hiu2 := (hif2 hf0).trans ud_back
      have hii : is2 = is := Bool.eq_iff_iff.2 (hiu2.trans hiu.symm)
      refine LS.vv rfl rfl (by decide) (Val.move rfl) ?_
      refine LS.vv rfl rfl (by decide) (Val.extract rfl rfl) ?_
      refine LS.vv rfl rfl (by decide) (Val.extract rfl rfl) ?_
      refine LS.vv rfl rfl (by decide) (Val.assign rfl) ?_
      refine LS.vv rfl rfl (by decide) (Val.assign rfl) ?_
      refine LS.nil ?_
      refine W.seq ?_
      refine W.seqR ?_
      refine LS.vv rfl rfl (by decide) (Val.move rfl) ?_
      refine LS.vv rfl rfl (by decide) (Val.cast (v := .bool false) (Val.neq rfl rfl) (by first | (simp; done) | (simp; omega) | (refine congrArg Value.bool (decide_eq_false ?_); omega))) ?_
      refine LS.vv rfl rfl (by decide) (Val.move rfl) ?_
      refine LS.vg rfl rfl rfl rfl (by decide) (Val.move rfl) ?_
      refine LS.vg rfl rfl rfl rfl (by decide) (Val.move rfl) ?_
      refine LS.vg rfl rfl rfl rfl (by decide) (Val.cast (v := .bool false) (Val.neqB Try.underlying4 rfl rfl) (by exact congrArg Value.bool (decide_eq_false fun h => h hii))) ?_
      refine LS.vv rfl rfl (by decide) (Val.pickF rfl rfl rfl) ?_
      refine LS.nil ?_
      refine W.condF rfl ?_
      refine W.skip ?_
      refine thenP_normal ?_
      refine W.seqR ?_
      refine LS.vv rfl rfl (by decide) (Val.move rfl) ?_
      refine LS.m rfl (Step.call body19 rfl rfl (by decide) rfl (CallsV.mono (bare_any C _ _ _ _ (hr.below hB) rfl (by omega)) ?_))
      rintro _ w10 ⟨ba, rfl, hba, hb10⟩
      replace hM := hM.below hb10
      replace hB := hB.trans (hb10.mono hB.size)
      refine LS.vv rfl rfl (by decide) (Val.move rfl) ?_
      refine LS.split 2 rfl (fun hg4 => ?_) (fun hg4 => ?_)
      ·
        first | (have hg4p := of_decide_eq_true hg4) | skip
        refine LS.vg rfl rfl rfl hg4 (by decide) (Val.move rfl) ?_
        refine LS.vg rfl rfl rfl hg4 (by decide) (Val.cast (v := .bool true) (Val.not rfl) (by have h8 := bare_some (hba.1 (by assumption)); cases is; rfl; exact absurd (hiu.1 rfl) h8)) ?_
        refine LS.vv rfl rfl (by decide) (Val.pickT rfl hg4 rfl) ?_
        refine LS.vv rfl rfl (by decide) (Val.move rfl) ?_
        refine LS.s rfl rfl rfl rfl (by decide) ?_
        refine LS.s rfl rfl rfl rfl (by decide) ?_
        refine LS.s rfl rfl rfl rfl (by decide) ?_
        refine LS.s rfl rfl rfl rfl (by decide) ?_
        refine LS.skipU rfl rfl rfl (by decide) ?_
        refine LS.skipU rfl rfl rfl (by decide) ?_
        refine LS.skipU rfl rfl rfl (by decide) ?_
        refine LS.skipU rfl rfl rfl (by decide) ?_
        refine LS.skipU rfl rfl rfl (by decide) ?_
        refine LS.skipU rfl rfl rfl (by decide) ?_
        refine LS.skipU rfl rfl rfl (by decide) ?_
        refine LS.skipU rfl rfl rfl (by decide) ?_
        refine LS.skipU rfl rfl rfl (by decide) ?_
        refine LS.skipU rfl rfl rfl (by decide) ?_
        refine LS.skipU rfl rfl rfl (by decide) ?_
        refine LS.s rfl rfl rfl rfl (by decide) ?_
        refine LS.vv rfl rfl (by decide) (Val.pickT rfl rfl rfl) ?_
        refine LS.vv rfl rfl (by decide) (Val.assign rfl) ?_
        refine LS.nil ?_
        refine W.ret ?_
        refine ret1 (by first | exact .inl rfl | exact .inr rfl) rfl ?_
        first | exact ⟨rfl, hB⟩ | contradiction | (exfalso; omega) | (exfalso; simp_all; done)
      ·
        first | (have hg4p := of_decide_eq_false hg4) | skip
        refine LS.s rfl rfl rfl hg4 (by decide) ?_
        refine LS.s rfl rfl rfl hg4 (by decide) ?_
        refine LS.vv rfl rfl (by decide) (Val.pickF rfl hg4 rfl) ?_
        refine LS.vv rfl rfl (by decide) (Val.move rfl) ?_
        refine LS.vg rfl rfl rfl rfl (by decide) (Val.move rfl) ?_
        refine LS.mg rfl rfl rfl (Step.call body19 rfl rfl (by decide) rfl (CallsV.mono (bare_any C _ _ _ _ (hr.below hB) rfl (by omega)) ?_))
        rintro _ w11 ⟨ba2, rfl, hba2, hb11⟩
        replace hM := hM.below hb11
        replace hB := hB.trans (hb11.mono hB.size)
        have hnb : NoBare (codeOf C) := Classical.not_not.1 fun h9 => by have h8 := hba.2 h9; have hb0 : ba = false := (by assumption); rw [h8] at hb0; cases hb0
        obtain rfl : ba2 = false := by { cases ba2; rfl; exact absurd hnb (hba2.1 rfl) }
        refine LS.vg rfl rfl rfl rfl (by decide) (Val.cast (v := .bool true) (Val.not rfl) (by rfl)) ?_
        refine LS.vg rfl rfl rfl rfl (by decide) (Val.move rfl) ?_
        refine LS.vg rfl rfl rfl rfl (by decide) (Val.move rfl) ?_
        refine LS.vg rfl rfl rfl rfl (by decide) (Val.move rfl) ?_
        refine LS.split 12 rfl (fun hg5 => ?_) (fun hg5 => ?_)
        ·
          first | (have hg5p := of_decide_eq_true hg5) | skip
          refine LS.s rfl rfl rfl hg5 (by decide) ?_
          refine LS.s rfl rfl rfl hg5 (by decide) ?_
          refine LS.s rfl rfl rfl hg5 (by decide) ?_
          refine LS.s rfl rfl rfl hg5 (by decide) ?_
          refine LS.skipU rfl rfl rfl (by decide) ?_
          refine LS.skipU rfl rfl rfl (by decide) ?_
          refine LS.skipU rfl rfl rfl (by decide) ?_
          refine LS.s rfl rfl rfl hg5 (by decide) ?_
          refine LS.vg rfl rfl rfl rfl (by decide) (Val.pickT rfl hg5 rfl) ?_
          refine LS.vg rfl rfl rfl rfl (by decide) (Val.pickT rfl rfl rfl) ?_
          refine LS.vv rfl rfl (by decide) (Val.pickF rfl rfl rfl) ?_
          refine LS.vv rfl rfl (by decide) (Val.assign rfl) ?_
          refine LS.nil ?_
          refine W.ret ?_
          refine ret1 (by first | exact .inl rfl | exact .inr rfl) rfl ?_
          first | exact ⟨rfl, hB⟩ | contradiction | (exfalso; omega) | (exfalso; simp_all; done)
        ·
          first | (have hg5p := of_decide_eq_false hg5) | skip
          refine LS.vg rfl rfl rfl hg5 (by decide) (Val.move rfl) ?_
          refine LS.mg rfl rfl hg5 (Step.call body14 rfl rfl (by decide) rfl (CallsV.mono (rprefix_any C _ _ _ _ (hr.below hB) rfl (by omega)) ?_))
          rintro _ w12 ⟨rp, rfl, hrp, hb12⟩
          replace hM := hM.below hb12
          replace hB := hB.trans (hb12.mono hB.size)
          refine LS.vg rfl rfl rfl hg5 (by decide) (Val.cast (v := .bool true) (Val.not rfl) (by cases rp; rfl; have h8 := hiu.2 (free_ud (hrp.1 rfl) hnb); have hi0 : is = false := (by assumption); rw [h8] at hi0; cases hi0)) ?_
          refine LS.vg rfl rfl rfl hg5 (by decide) (Val.move rfl) ?_
          refine LS.vg rfl rfl rfl rfl (by decide) (Val.move rfl) ?_
          refine LS.mg rfl rfl rfl (Step.call body14 rfl rfl (by decide) rfl (CallsV.mono (rprefix_any D _ _ _ _ (Mem.rdW (e := 4) hM (fun o h => h)) rfl (by omega)) ?_))
          rintro _ w13 ⟨rp2, rfl, hrp2, hb13⟩
          replace hM := hM.below hb13
          replace hB := hB.trans (hb13.mono hB.size)
          rw [hDD] at hrp2
          refine LS.vg rfl rfl rfl rfl (by decide) (Val.cast (v := .bool true) (Val.not rfl) (by cases rp2; rfl; have h8 := hiu.2 (ud_back.1 (free_ud (hrp2.1 rfl) (nobare_back.2 hnb))); have hi0 : is = false := (by assumption); rw [h8] at hi0; cases hi0)) ?_
          refine LS.vg rfl rfl rfl hg5 (by decide) (Val.pickT rfl rfl rfl) ?_
          refine LS.vg rfl rfl rfl rfl (by decide) (Val.pickF rfl hg5 rfl) ?_
          refine LS.vg rfl rfl rfl rfl (by decide) (Val.pickT rfl rfl rfl) ?_
          refine LS.vv rfl rfl (by decide) (Val.pickF rfl rfl rfl) ?_
          refine LS.vv rfl rfl (by decide) (Val.assign rfl) ?_
          refine LS.nil ?_
          refine W.ret ?_
          refine ret1 (by first | exact .inl rfl | exact .inr rfl) rfl ?_
          first | exact ⟨rfl, hB⟩ | contradiction | (exfalso; omega) | (exfalso; simp_all; done)

end Go.Proofs.Ytbfcmfjdjldepaa
