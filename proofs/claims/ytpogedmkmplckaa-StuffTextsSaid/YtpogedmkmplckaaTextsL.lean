/-
  The statement StuffTexts.
-/
import Derived.Test.YtpogedmkmplckaaFrames
import Derived.Test.YtpogedmkmplckaaRefs
namespace Go.Proofs.Ytpogedmkmplckaa
open Go Go.RowKit V
set_option linter.unusedVariables false
set_option linter.unusedSimpArgs false

theorem boolsEqN (xs ys : List Bool) (p q : Option Addr) (c d m n : Nat) (w0 : World) (hr1 : Rd w0 p (bv xs)) (hr2 : Rd w0 q (bv ys)) (hm : xs.length = m) (hn : ys.length = n) (hl1 : m ≤ 9223372036854775807) :
    CallsV Try.prog 13 #[.slice p m c, .slice q n d] w0 (fun v w => v = .bool (decide (xs = ys)) ∧ Below w0.heap.size w0 w) := by
  subst hm; subst hn
  exact boolsEq_any xs ys p q c d w0 hr1 hr2 hl1
theorem codesW_eq {C D : List Wd} (h : C.length = D.length) (ha : ∀ i, i < C.length → (gW C i).l = (gW D i).l) : codesW C = codesW D := by
  refine List.ext_getElem (by simp [codesW, h]) fun i h1 h2 => ?_
  have hi : i < C.length := by simpa [codesW] using h1
  have := ha i hi
  rw [gW_lt hi, gW_lt (show i < D.length by omega)] at this
  simpa [codesW] using this

theorem lists_any (C D : List Wd) (p q : Option Addr) (c d m n : Nat) (w0 : World) (hr : RdW w0 p C) (hr2 : RdW w0 q D) (hm : C.length = m) (hn : D.length = n) (hl : m ≤ 1000) :
    CallsV Try.prog 27 #[.slice p m c, .slice q n d] w0 (fun v w => v = .bool (decide (codesW C = codesW D)) ∧ Below w0.heap.size w0 w) := by
  refine enter1 Try.func27 rfl Try.ntmps27 (by simp) rfl ?_
  have hB := Below.refl w0.heap.size w0
  simp only [argLoc, Nat.zero_add]
  have hM := Mem.nil w0 w0.heap.size
  subst hm
  subst hn
  have hh := hr.head
  have hh2 := hr2.head
  refine W.seqR ?_
  refine LS.vv rfl rfl (by decide) (Val.assign rfl) ?_
  refine LS.nil ?_
  refine W.seq ?_
  refine W.seqR ?_
  refine LS.vv rfl rfl (by decide) (Val.move rfl) ?_
  refine LS.vv rfl rfl (by decide) (Val.len Try.underlying46 rfl) ?_
  refine LS.vv rfl rfl (by decide) (Val.move rfl) ?_
  refine LS.vv rfl rfl (by decide) (Val.len Try.underlying46 rfl) ?_
  refine LS.vv rfl rfl (by decide) (Val.neq rfl rfl) ?_
  refine LS.nil ?_
  first | refine W.condD rfl (fun hc1 => ?_) (fun hc1 => ?_) | refine W.cond rfl (fun hc1 => ?_) (fun hc1 => ?_)
  ·
    refine W.seqR ?_
    refine LS.vv rfl rfl (by decide) (Val.assign rfl) ?_
    refine LS.nil ?_
    refine W.ret ?_
    refine thenP_ret ?_
    refine ret1 (by first | exact .inl rfl | exact .inr rfl) rfl ?_
    first
      | (refine ⟨congrArg Value.bool (decide_eq_false fun h => ?_).symm, hB⟩
         have := congrArg List.length h
         rw [codesW_len, codesW_len] at this
         exfalso; omega)
      | (refine ⟨congrArg Value.bool (decide_eq_false fun h => ?_).symm, hB⟩
         have hx := (by assumption : (!decide ((gW C i).l = (gW D i).l)) = true)
         have e : (gW C i).l = (gW D i).l := by { have := congrArg (fun l => l.getD i []) h; simp only [codesW, List.getD_eq_getElem?_getD, List.getElem?_map, List.getElem?_eq_getElem (show i < C.length by omega), List.getElem?_eq_getElem (show i < D.length by omega)] at this; rw [gW_lt (by omega), gW_lt (by omega)]; exact this }
         simp [e] at hx)
      | exact ⟨congrArg Value.bool (decide_eq_true (codesW_eq hlen fun a ha => hall a (by omega))).symm, hB⟩
  ·
    refine W.skip ?_
    refine thenP_normal ?_
    refine W.seq ?_
    refine W.seqR ?_
    refine LS.vv rfl rfl (by decide) (Val.cast (v := .int .i64 ((0 : Nat) : Int)) (Val.assign rfl) rfl) ?_
    refine LS.nil ?_
    refine W.block ?_
    refine W.loop (α := Nat) (fun i => [(5, .int .i64 (i : Int))]) [(0, _), (1, _)] (fun i w => (i ≤ C.length ∧ ∀ a, a < i → (gW C a).l = (gW D a).l) ∧ Mem w w0.heap.size [] ∧ Below w0.heap.size w0 w) (fun i => C.length - i) (0) (Sub.cons rfl (Sub.nil _)) (Sub.cons rfl (Sub.cons rfl (Sub.nil _))) ?_ ?_
    · exact ⟨⟨Nat.zero_le _, fun a h => absurd h (by omega)⟩, hM, hB⟩
    rintro i w1 ⟨⟨hi, hall⟩, hM, hB⟩
    try simp only at hM
    simp only [List.cons_append, List.nil_append]
    have hlen : C.length = D.length := by omega
    refine W.seq ?_
    refine W.seqR ?_
    refine LS.vv rfl rfl (by decide) (Val.move rfl) ?_
    refine LS.vv rfl rfl (by decide) (Val.move rfl) ?_
    refine LS.vv rfl rfl (by decide) (Val.len Try.underlying46 rfl) ?_
    refine LS.vv rfl rfl (by decide) (Val.lss rfl rfl) ?_
    refine LS.nil ?_
    first | refine W.condD rfl (fun hc2 => ?_) (fun hc2 => ?_) | refine W.cond rfl (fun hc2 => ?_) (fun hc2 => ?_)
    ·
      refine W.skip ?_
      refine thenP_normal ?_
      refine W.seq ?_
      refine W.block ?_
      refine W.seqF 10 [(0, true), (1, true), (2, true), (3, true), (4, true), (5, true), (6, true), (7, true), (8, false), (9, true)] mixed (by kernel_rfl) hB hM ?_
      replace hB := hB.drew
      replace hM := hM.drew
      refine DF.vv rfl rfl rfl (by decide) (Val.move rfl) ?_
      refine DF.vv rfl rfl rfl (by decide) (Val.move rfl) ?_
      refine DF.vv rfl rfl rfl (by decide) (Val.index1 Try.underlying46 elem22 rfl rfl (by omega) ((hh.below hB)) (wv_lt (by omega))) ?_
      refine DF.vv rfl rfl rfl (by decide) (Val.load flat22 rfl (fun _ h => (hh.below h.1)) (wv_at (by omega))) ?_
      refine DF.vv rfl rfl rfl (by decide) (Val.move rfl) ?_
      refine DF.vv rfl rfl rfl (by decide) (Val.move rfl) ?_
      refine DF.vv rfl rfl rfl (by decide) (Val.index1 Try.underlying46 elem22 rfl rfl (by omega) ((hh2.below hB)) (wv_lt (by omega))) ?_
      refine DF.vv rfl rfl rfl (by decide) (Val.load flat22 rfl (fun _ h => (hh2.below h.1)) (wv_at (by omega))) ?_
      refine DF.m rfl rfl (Step.call body13 rfl rfl (by decide) rfl (CallsV.mono (boolsEqN (gW C i).l (gW D i).l _ _ _ _ _ _ _ ((hr.at (k := i) (by omega)).below hB) ((hr2.at (k := i) (by omega)).below hB) rfl rfl (hr.max (k := i) (by omega))) ?_))
      rintro _ w2 ⟨rfl, hb2⟩
      replace hM := hM.below hb2
      replace hB := hB.trans (hb2.mono hB.size)
      refine ⟨fun _ => ⟨hB, hM⟩, ?_⟩
      refine DF.vv rfl rfl rfl (by decide) (Val.not rfl) ?_
      refine DF.nil ?_
      first | refine W.condD rfl (fun hc3 => ?_) (fun hc3 => ?_) | refine W.cond rfl (fun hc3 => ?_) (fun hc3 => ?_)
      ·
        refine W.seqR ?_
        refine LS.vv rfl rfl (by decide) (Val.assign rfl) ?_
        refine LS.nil ?_
        refine W.ret ?_
        refine inBlk_ret ?_
        refine thenP_ret ?_
        refine thenP_ret ?_
        refine inBlk_ret ?_
        refine thenP_ret ?_
        refine ret1 (by first | exact .inl rfl | exact .inr rfl) rfl ?_
        first
          | (refine ⟨congrArg Value.bool (decide_eq_false fun h => ?_).symm, hB⟩
             have := congrArg List.length h
             rw [codesW_len, codesW_len] at this
             exfalso; omega)
          | (refine ⟨congrArg Value.bool (decide_eq_false fun h => ?_).symm, hB⟩
             have hx := (by assumption : (!decide ((gW C i).l = (gW D i).l)) = true)
             have e : (gW C i).l = (gW D i).l := by { have := congrArg (fun l => l.getD i []) h; simp only [codesW, List.getD_eq_getElem?_getD, List.getElem?_map, List.getElem?_eq_getElem (show i < C.length by omega), List.getElem?_eq_getElem (show i < D.length by omega)] at this; rw [gW_lt (by omega), gW_lt (by omega)]; exact this }
             simp [e] at hx)
          | exact ⟨congrArg Value.bool (decide_eq_true (codesW_eq hlen fun a ha => hall a (by omega))).symm, hB⟩
      ·
        refine W.skip ?_
        refine inBlk_normal ?_
        refine thenP_normal ?_
        refine W.reg ?_
        refine LS.vv rfl rfl (by decide) (Val.move rfl) ?_
        first | refine LS.vv rfl rfl (by decide) (Val.addN (j := 1) rfl rfl (by omega)) ?_ | refine LS.vv rfl rfl (by decide) (Val.add64 rfl rfl (by omega)) ?_
        refine LS.vv rfl rfl (by decide) (Val.assign rfl) ?_
        refine LS.nil ?_
        refine thenP_normal ?_
        have hii : (gW C i).l = (gW D i).l := by simpa using (by assumption : (!decide ((gW C i).l = (gW D i).l)) = false)
        refine ⟨i + 1, ?_, ?_, ⟨⟨by omega, fun a ha => ?_⟩, hM, hB⟩, by omega⟩
        · exact (Sub.cons rfl (Sub.nil _))
        · repeat (first | exact Sub.nil _ | refine Sub.cons rfl ?_)
        · by_cases e : a = i
          · subst e; exact hii
          · exact hall a (by omega)
    ·
      refine W.exit ?_
      refine thenP_exit ?_
      refine thenP_exit ?_
      refine inBlk_exit ?_
      refine thenP_normal ?_
      refine W.seqR ?_
      refine LS.vv rfl rfl (by decide) (Val.assign rfl) ?_
      refine LS.nil ?_
      refine W.ret ?_
      refine ret1 (by first | exact .inl rfl | exact .inr rfl) rfl ?_
      first
        | (refine ⟨congrArg Value.bool (decide_eq_false fun h => ?_).symm, hB⟩
           have := congrArg List.length h
           rw [codesW_len, codesW_len] at this
           exfalso; omega)
        | (refine ⟨congrArg Value.bool (decide_eq_false fun h => ?_).symm, hB⟩
           have hx := (by assumption : (!decide ((gW C i).l = (gW D i).l)) = true)
           have e : (gW C i).l = (gW D i).l := by { have := congrArg (fun l => l.getD i []) h; simp only [codesW, List.getD_eq_getElem?_getD, List.getElem?_map, List.getElem?_eq_getElem (show i < C.length by omega), List.getElem?_eq_getElem (show i < D.length by omega)] at this; rw [gW_lt (by omega), gW_lt (by omega)]; exact this }
           simp [e] at hx)
        | exact ⟨congrArg Value.bool (decide_eq_true (codesW_eq hlen fun a ha => hall a (by omega))).symm, hB⟩

theorem stuffTexts_any (C : List Wd) (l : List Bool) (p q : Option Addr) (c d m n : Nat) (w0 : World) (hr : RdW w0 p C) (hr2 : Rd w0 q (bv l)) (hm : C.length = m) (hn : l.length = n) (hc : n ≤ d) :
    CallsV Try.prog 9 #[.slice p m c, .slice q n d] w0 (fun v w => v = .bool true ∧ Below w0.heap.size w0 w) := by
  refine enter1 Try.func9 rfl Try.ntmps9 (by simp) rfl ?_
  have hB := Below.refl w0.heap.size w0
  simp only [argLoc, Nat.zero_add]
  have hM := Mem.nil w0 w0.heap.size
  refine W.seqR ?_
  refine LS.vv rfl rfl (by decide) (Val.assign rfl) ?_
  refine LS.nil ?_
  refine W.seqR ?_
  refine LS.vv rfl rfl (by decide) (Val.move rfl) ?_
  refine LS.m rfl (Step.call body25 rfl rfl (by decide) rfl (CallsV.mono (frames_any C _ _ _ _ (hr.below hB) hm) ?_))
  rintro _ w1 ⟨pm, cm, F, e, rfl, hOF, heF, hF1, hF2, hFl, hb1⟩
  replace hM := hM.below hb1
  replace hB := hB.trans (hb1.mono hB.size)
  have hcF := hOF.le_cap
  have hRF := hOF.rd
  refine LS.vv rfl rfl (by decide) (Val.move rfl) ?_
  refine LS.vv rfl rfl (by decide) (Val.extract rfl rfl) ?_
  refine LS.vv rfl rfl (by decide) (Val.extract rfl rfl) ?_
  refine LS.vv rfl rfl (by decide) (Val.assign rfl) ?_
  refine LS.vv rfl rfl (by decide) (Val.assign rfl) ?_
  refine LS.nil ?_
  refine W.seqR ?_
  refine LS.vv rfl rfl (by decide) (Val.move rfl) ?_
  refine LS.m rfl (Step.call body26 rfl rfl (by decide) rfl (CallsV.mono (split_any l _ _ _ _ (hr2.below hB) hn hc) ?_))
  rintro _ w2 ⟨pt1, ct1, C1, f1, rfl, hMt1, ht1, hz1, hu1, hb2⟩
  replace hM := hM.below hb2
  replace hB := hB.trans (hb2.mono hB.size)
  have hRt1 : RdW _ pt1 C1 := Mem.rdW (e := 4) hMt1 (fun o h => h)
  replace hRF := hRF.below hb2
  refine LS.vv rfl rfl (by decide) (Val.move rfl) ?_
  refine LS.vv rfl rfl (by decide) (Val.extract rfl rfl) ?_
  refine LS.vv rfl rfl (by decide) (Val.extract rfl rfl) ?_
  refine LS.vv rfl rfl (by decide) (Val.assign rfl) ?_
  refine LS.vv rfl rfl (by decide) (Val.assign rfl) ?_
  refine LS.nil ?_
  refine W.seq ?_
  refine W.seqR ?_
  refine LS.vv rfl rfl (by decide) (Val.move rfl) ?_
  refine LS.vv rfl rfl (by decide) (Val.eql rfl rfl) ?_
  refine LS.nil ?_
  first | refine W.condD rfl (fun hc1 => ?_) (fun hc1 => ?_) | refine W.cond rfl (fun hc1 => ?_) (fun hc1 => ?_)
  ·
    refine W.seqR ?_
    refine LS.vv rfl rfl (by decide) (Val.move rfl) ?_
    have he : e = 0 := by omega
    obtain ⟨hm8, h64⟩ := heF.1 he
    have hFe := hF1 he
    refine LS.m rfl (Step.call body26 rfl rfl (by decide) rfl (CallsV.mono (split_any F _ _ _ _ hRF rfl hcF) ?_))
    rintro _ w3 ⟨pt2, ct2, C2, f2, rfl, hMt2, ht2, hz2, hu2, hb3⟩
    replace hM := hM.below hb3
    replace hB := hB.trans (hb3.mono hB.size)
    have hRt2 : RdW _ pt2 C2 := Mem.rdW (e := 4) hMt2 (fun o h => h)
    replace hRF := hRF.below hb3
    replace hRt1 := hRt1.below hb3
    have hg := fun h : F.length ≤ 1000 => hu2 h (codesW C) (by rw [codesW_len]; omega) h64 hFe.symm
    refine LS.vv rfl rfl (by decide) (Val.move rfl) ?_
    refine LS.vv rfl rfl (by decide) (Val.extract rfl rfl) ?_
    refine LS.vv rfl rfl (by decide) (Val.extract rfl rfl) ?_
    refine LS.vv rfl rfl (by decide) (Val.assign rfl) ?_
    refine LS.vv rfl rfl (by decide) (Val.assign rfl) ?_
    refine LS.nil ?_
    refine W.seqR ?_
    refine LS.vv rfl rfl (by decide) (Val.move rfl) ?_
    refine LS.vv rfl rfl (by decide) (Val.len Try.underlying22 rfl) ?_
    refine LS.vv rfl rfl (by decide) (Val.leq rfl rfl) ?_
    refine LS.vv rfl rfl (by decide) (Val.move rfl) ?_
    refine LS.split 3 rfl (fun hg2 => ?_) (fun hg2 => ?_)
    ·
      first | (have hg2p := of_decide_eq_true hg2) | skip
      refine LS.vg rfl rfl rfl hg2 (by decide) (Val.move rfl) ?_
      have hF1000 : F.length ≤ 1000 := by omega
      obtain ⟨hq1, hq2⟩ := hg hF1000
      refine LS.vg rfl rfl rfl hg2 (by decide) (Val.cast (v := .bool false) (Val.neq rfl rfl) (by refine congrArg Value.bool (decide_eq_false ?_); omega)) ?_
      refine LS.vg rfl rfl rfl hg2 (by decide) (Val.move rfl) ?_
      refine LS.vg rfl rfl rfl rfl (by decide) (Val.move rfl) ?_
      refine LS.vg rfl rfl rfl rfl (by decide) (Val.move rfl) ?_
      refine LS.mg rfl rfl rfl (Step.call body27 rfl rfl (by decide) rfl (CallsV.mono (lists_any C2 C _ _ _ _ _ _ _ hRt2 (hr.below hB) rfl hm (by have h9 := congrArg List.length hq2; rw [codesW_len, codesW_len] at h9; omega)) ?_))
      rintro _ w4 ⟨rfl, hb4⟩
      replace hM := hM.below hb4
      replace hB := hB.trans (hb4.mono hB.size)
      rw [decide_eq_true hq2]
      replace hRF := hRF.below hb4
      replace hRt1 := hRt1.below hb4
      refine LS.vg rfl rfl rfl rfl (by decide) (Val.not rfl) ?_
      refine LS.vg rfl rfl rfl hg2 (by decide) (Val.pickF rfl rfl rfl) ?_
      refine LS.vv rfl rfl (by decide) (Val.pickT rfl hg2 rfl) ?_
      refine LS.nil ?_
      first | refine W.condD rfl (fun hc3 => ?_) (fun hc3 => ?_) | refine W.cond rfl (fun hc3 => ?_) (fun hc3 => ?_)
      ·
        refine W.seqR ?_
        refine LS.vv rfl rfl (by decide) (Val.assign rfl) ?_
        refine LS.nil ?_
        refine W.ret ?_
        refine thenP_ret ?_
        refine ret1 (by first | exact .inl rfl | exact .inr rfl) rfl ?_
        first | exact ⟨rfl, hB⟩ | contradiction | (exfalso; omega)
      ·
        refine W.skip ?_
        refine thenP_normal ?_
        refine W.seq ?_
        refine W.seqR ?_
        refine LS.vv rfl rfl (by decide) (Val.move rfl) ?_
        refine LS.vv rfl rfl (by decide) (Val.neq rfl rfl) ?_
        refine LS.nil ?_
        first | refine W.condD rfl (fun hc4 => ?_) (fun hc4 => ?_) | refine W.cond rfl (fun hc4 => ?_) (fun hc4 => ?_)
        ·
          refine W.seqR ?_
          refine LS.vv rfl rfl (by decide) (Val.move rfl) ?_
          refine LS.vv rfl rfl (by decide) (Val.len Try.underlying46 rfl) ?_
          obtain rfl := hz1 (by omega)
          refine LS.vv rfl rfl (by decide) (Val.cast (v := .bool true) (Val.eql rfl rfl) (by rfl)) ?_
          refine LS.vv rfl rfl (by decide) (Val.assign rfl) ?_
          refine LS.nil ?_
          refine W.ret ?_
          refine thenP_ret ?_
          refine ret1 (by first | exact .inl rfl | exact .inr rfl) rfl ?_
          first | exact ⟨rfl, hB⟩ | contradiction | (exfalso; omega)
        ·
          refine W.skip ?_
          refine thenP_normal ?_
          refine W.seqR ?_
          refine LS.vv rfl rfl (by decide) (Val.move rfl) ?_
          obtain ⟨hs1, hs2, hs3, hs4⟩ := ht1 (by omega)
          refine LS.m rfl (Step.call body25 rfl rfl (by decide) rfl (CallsV.mono (frames_any C1 _ _ _ _ hRt1 rfl) ?_))
          rintro _ w5 ⟨pa, ca, G, h, rfl, hOG, heG, hG1, hG2, hGl, hb5⟩
          replace hM := hM.below hb5
          replace hB := hB.trans (hb5.mono hB.size)
          have hh : h = 0 := heG.2 ⟨hs2, hs3⟩
          have hGe := hG1 hh
          rw [hs1] at hGe
          refine LS.vv rfl rfl (by decide) (Val.move rfl) ?_
          refine LS.vv rfl rfl (by decide) (Val.extract rfl rfl) ?_
          refine LS.vv rfl rfl (by decide) (Val.extract rfl rfl) ?_
          refine LS.vv rfl rfl (by decide) (Val.assign rfl) ?_
          refine LS.vv rfl rfl (by decide) (Val.assign rfl) ?_
          refine LS.nil ?_
          refine W.seqR ?_
          refine LS.vv rfl rfl (by decide) (Val.move rfl) ?_
          refine LS.vv rfl rfl (by decide) (Val.cast (v := .bool true) (Val.eql rfl rfl) (by refine congrArg Value.bool (decide_eq_true ?_); omega)) ?_
          refine LS.vv rfl rfl (by decide) (Val.move rfl) ?_
          refine LS.vg rfl rfl rfl rfl (by decide) (Val.move rfl) ?_
          refine LS.vg rfl rfl rfl rfl (by decide) (Val.move rfl) ?_
          refine LS.mg rfl rfl rfl (Step.call body13 rfl rfl (by decide) rfl (CallsV.mono (boolsEqN G l _ _ _ _ _ _ _ hOG.rd (hr2.below hB) rfl hn (by omega)) ?_))
          rintro _ w6 ⟨rfl, hb6⟩
          replace hM := hM.below hb6
          replace hB := hB.trans (hb6.mono hB.size)
          rw [decide_eq_true hGe]
          refine LS.vv rfl rfl (by decide) (Val.pickT rfl rfl rfl) ?_
          refine LS.vv rfl rfl (by decide) (Val.assign rfl) ?_
          refine LS.nil ?_
          refine W.ret ?_
          refine ret1 (by first | exact .inl rfl | exact .inr rfl) rfl ?_
          first | exact ⟨rfl, hB⟩ | contradiction | (exfalso; omega)
    ·
      first | (have hg2p := of_decide_eq_false hg2) | skip
      refine LS.s rfl rfl rfl hg2 (by decide) ?_
      refine LS.s rfl rfl rfl hg2 (by decide) ?_
      refine LS.s rfl rfl rfl hg2 (by decide) ?_
      refine LS.skipU rfl rfl rfl (by decide) ?_
      refine LS.skipU rfl rfl rfl (by decide) ?_
      refine LS.skipU rfl rfl rfl (by decide) ?_
      refine LS.skipU rfl rfl rfl (by decide) ?_
      refine LS.s rfl rfl rfl hg2 (by decide) ?_
      refine LS.vv rfl rfl (by decide) (Val.pickF rfl hg2 rfl) ?_
      refine LS.nil ?_
      refine W.condF rfl ?_
      refine W.skip ?_
      refine thenP_normal ?_
      refine W.seq ?_
      refine W.seqR ?_
      refine LS.vv rfl rfl (by decide) (Val.move rfl) ?_
      refine LS.vv rfl rfl (by decide) (Val.neq rfl rfl) ?_
      refine LS.nil ?_
      first | refine W.condD rfl (fun hc5 => ?_) (fun hc5 => ?_) | refine W.cond rfl (fun hc5 => ?_) (fun hc5 => ?_)
      ·
        refine W.seqR ?_
        refine LS.vv rfl rfl (by decide) (Val.move rfl) ?_
        refine LS.vv rfl rfl (by decide) (Val.len Try.underlying46 rfl) ?_
        obtain rfl := hz1 (by omega)
        refine LS.vv rfl rfl (by decide) (Val.cast (v := .bool true) (Val.eql rfl rfl) (by rfl)) ?_
        refine LS.vv rfl rfl (by decide) (Val.assign rfl) ?_
        refine LS.nil ?_
        refine W.ret ?_
        refine thenP_ret ?_
        refine ret1 (by first | exact .inl rfl | exact .inr rfl) rfl ?_
        first | exact ⟨rfl, hB⟩ | contradiction | (exfalso; omega)
      ·
        refine W.skip ?_
        refine thenP_normal ?_
        refine W.seqR ?_
        refine LS.vv rfl rfl (by decide) (Val.move rfl) ?_
        obtain ⟨hs1, hs2, hs3, hs4⟩ := ht1 (by omega)
        refine LS.m rfl (Step.call body25 rfl rfl (by decide) rfl (CallsV.mono (frames_any C1 _ _ _ _ hRt1 rfl) ?_))
        rintro _ w7 ⟨pa, ca, G, h, rfl, hOG, heG, hG1, hG2, hGl, hb7⟩
        replace hM := hM.below hb7
        replace hB := hB.trans (hb7.mono hB.size)
        have hh : h = 0 := heG.2 ⟨hs2, hs3⟩
        have hGe := hG1 hh
        rw [hs1] at hGe
        refine LS.vv rfl rfl (by decide) (Val.move rfl) ?_
        refine LS.vv rfl rfl (by decide) (Val.extract rfl rfl) ?_
        refine LS.vv rfl rfl (by decide) (Val.extract rfl rfl) ?_
        refine LS.vv rfl rfl (by decide) (Val.assign rfl) ?_
        refine LS.vv rfl rfl (by decide) (Val.assign rfl) ?_
        refine LS.nil ?_
        refine W.seqR ?_
        refine LS.vv rfl rfl (by decide) (Val.move rfl) ?_
        refine LS.vv rfl rfl (by decide) (Val.cast (v := .bool true) (Val.eql rfl rfl) (by refine congrArg Value.bool (decide_eq_true ?_); omega)) ?_
        refine LS.vv rfl rfl (by decide) (Val.move rfl) ?_
        refine LS.vg rfl rfl rfl rfl (by decide) (Val.move rfl) ?_
        refine LS.vg rfl rfl rfl rfl (by decide) (Val.move rfl) ?_
        refine LS.mg rfl rfl rfl (Step.call body13 rfl rfl (by decide) rfl (CallsV.mono (boolsEqN G l _ _ _ _ _ _ _ hOG.rd (hr2.below hB) rfl hn (by omega)) ?_))
        rintro _ w8 ⟨rfl, hb8⟩
        replace hM := hM.below hb8
        replace hB := hB.trans (hb8.mono hB.size)
        rw [decide_eq_true hGe]
        refine LS.vv rfl rfl (by decide) (Val.pickT rfl rfl rfl) ?_
        refine LS.vv rfl rfl (by decide) (Val.assign rfl) ?_
        refine LS.nil ?_
        refine W.ret ?_
        refine ret1 (by first | exact .inl rfl | exact .inr rfl) rfl ?_
        first | exact ⟨rfl, hB⟩ | contradiction | (exfalso; omega)
  ·
    refine W.seqR ?_
    refine LS.vv rfl rfl (by decide) (Val.move rfl) ?_
    refine LS.vv rfl rfl (by decide) (Val.len Try.underlying22 rfl) ?_
    obtain rfl := hF2 (by omega)
    refine LS.vv rfl rfl (by decide) (Val.cast (v := .bool false) (Val.neq rfl rfl) (by rfl)) ?_
    refine LS.nil ?_
    refine W.condF rfl ?_
    refine W.skip ?_
    refine thenP_normal ?_
    refine W.seq ?_
    refine W.seqR ?_
    refine LS.vv rfl rfl (by decide) (Val.move rfl) ?_
    refine LS.vv rfl rfl (by decide) (Val.neq rfl rfl) ?_
    refine LS.nil ?_
    first | refine W.condD rfl (fun hc6 => ?_) (fun hc6 => ?_) | refine W.cond rfl (fun hc6 => ?_) (fun hc6 => ?_)
    ·
      refine W.seqR ?_
      refine LS.vv rfl rfl (by decide) (Val.move rfl) ?_
      refine LS.vv rfl rfl (by decide) (Val.len Try.underlying46 rfl) ?_
      obtain rfl := hz1 (by omega)
      refine LS.vv rfl rfl (by decide) (Val.cast (v := .bool true) (Val.eql rfl rfl) (by rfl)) ?_
      refine LS.vv rfl rfl (by decide) (Val.assign rfl) ?_
      refine LS.nil ?_
      refine W.ret ?_
      refine thenP_ret ?_
      refine ret1 (by first | exact .inl rfl | exact .inr rfl) rfl ?_
      first | exact ⟨rfl, hB⟩ | contradiction | (exfalso; omega)
    ·
      refine W.skip ?_
      refine thenP_normal ?_
      refine W.seqR ?_
      refine LS.vv rfl rfl (by decide) (Val.move rfl) ?_
      obtain ⟨hs1, hs2, hs3, hs4⟩ := ht1 (by omega)
      refine LS.m rfl (Step.call body25 rfl rfl (by decide) rfl (CallsV.mono (frames_any C1 _ _ _ _ hRt1 rfl) ?_))
      rintro _ w9 ⟨pa, ca, G, h, rfl, hOG, heG, hG1, hG2, hGl, hb9⟩
      replace hM := hM.below hb9
      replace hB := hB.trans (hb9.mono hB.size)
      have hh : h = 0 := heG.2 ⟨hs2, hs3⟩
      have hGe := hG1 hh
      rw [hs1] at hGe
      refine LS.vv rfl rfl (by decide) (Val.move rfl) ?_
      refine LS.vv rfl rfl (by decide) (Val.extract rfl rfl) ?_
      refine LS.vv rfl rfl (by decide) (Val.extract rfl rfl) ?_
      refine LS.vv rfl rfl (by decide) (Val.assign rfl) ?_
      refine LS.vv rfl rfl (by decide) (Val.assign rfl) ?_
      refine LS.nil ?_
      refine W.seqR ?_
      refine LS.vv rfl rfl (by decide) (Val.move rfl) ?_
      refine LS.vv rfl rfl (by decide) (Val.cast (v := .bool true) (Val.eql rfl rfl) (by refine congrArg Value.bool (decide_eq_true ?_); omega)) ?_
      refine LS.vv rfl rfl (by decide) (Val.move rfl) ?_
      refine LS.vg rfl rfl rfl rfl (by decide) (Val.move rfl) ?_
      refine LS.vg rfl rfl rfl rfl (by decide) (Val.move rfl) ?_
      refine LS.mg rfl rfl rfl (Step.call body13 rfl rfl (by decide) rfl (CallsV.mono (boolsEqN G l _ _ _ _ _ _ _ hOG.rd (hr2.below hB) rfl hn (by omega)) ?_))
      rintro _ w10 ⟨rfl, hb10⟩
      replace hM := hM.below hb10
      replace hB := hB.trans (hb10.mono hB.size)
      rw [decide_eq_true hGe]
      refine LS.vv rfl rfl (by decide) (Val.pickT rfl rfl rfl) ?_
      refine LS.vv rfl rfl (by decide) (Val.assign rfl) ?_
      refine LS.nil ?_
      refine W.ret ?_
      refine ret1 (by first | exact .inl rfl | exact .inr rfl) rfl ?_
      first | exact ⟨rfl, hB⟩ | contradiction | (exfalso; omega)

end Go.Proofs.Ytpogedmkmplckaa
