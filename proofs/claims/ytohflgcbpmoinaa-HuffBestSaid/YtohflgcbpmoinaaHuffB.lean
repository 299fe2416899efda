/-
  The statement HuffBest.
-/
import Derived.Test.YtohflgcbpmoinaaHuffC
import Derived.Test.YtohflgcbpmoinaaCode
namespace Go.Proofs.Ytohflgcbpmoinaa
open Go Go.RowKit V
set_option linter.unusedVariables false
set_option linter.unusedSimpArgs false

theorem sum_kr (l : List Nat) : sumTo l l.length = kr l := by rw [sumTo_sum]; rfl
theorem lensTo_le {C : Code} (h : ∀ w ∈ C, w.length ≤ 8) : ∀ x ∈ lensTo C C.length, x ≤ 8 := by
  intro x hx
  obtain ⟨i, hi, rfl⟩ := List.getElem_of_mem hx
  rw [lensTo_len] at hi
  rw [← gn_lt, lensTo_gn C hi, gw_lt hi]
  exact h _ (List.getElem_mem hi)

theorem huffBest_any (zs : List Int) (C : List Wd) (p q : Option Addr) (c m d n : Nat) (w0 : World) (hr : Rd w0 p (iv zs)) (hm : zs.length = m) (hc : RdW w0 q C) (hn : C.length = n) (hmx : n ≤ 9223372036854775807) :
    CallsV Try.prog 8 #[.slice p m c, .slice q n d] w0 (fun v w => v = .bool true ∧ Below w0.heap.size w0 w) := by
  refine enter1 Try.func8 rfl Try.ntmps8 (by simp) rfl ?_
  have hB := Below.refl w0.heap.size w0
  simp only [argLoc, Nat.zero_add]
  have hM := Mem.nil w0 w0.heap.size
  subst hm
  subst hn
  refine W.seqR ?_
  refine LS.vv rfl rfl (by decide) (Val.assign rfl) ?_
  refine LS.nil ?_
  refine W.seqR ?_
  refine LS.vv rfl rfl (by decide) (Val.move rfl) ?_
  refine LS.m rfl (Step.call body17 rfl rfl (by decide) rfl (CallsV.mono (cost_any zs _ _ _ _ (hr.below hB) rfl) ?_))
  rintro _ w1 ⟨e, x, rfl, he, hop, hb1⟩
  replace hM := hM.below hb1
  replace hB := hB.trans (hb1.mono hB.size)
  refine LS.vv rfl rfl (by decide) (Val.move rfl) ?_
  refine LS.vv rfl rfl (by decide) (Val.extract rfl rfl) ?_
  refine LS.vv rfl rfl (by decide) (Val.extract rfl rfl) ?_
  refine LS.vv rfl rfl (by decide) (Val.assign rfl) ?_
  refine LS.vv rfl rfl (by decide) (Val.assign rfl) ?_
  refine LS.nil ?_
  refine W.seqR ?_
  refine LS.vv rfl rfl (by decide) (Val.move rfl) ?_
  refine LS.m rfl (Step.call body18 rfl rfl (by decide) rfl (CallsV.mono (lensW_any zs _ _ _ _ (hr.below hB) rfl) ?_))
  rintro _ w2 ⟨f, p2, c2, l, rfl, hf, hof, hl, hb2⟩
  replace hM := hM.add hB.size hb2 hl
  replace hB := hB.trans (hb2.mono hB.size)
  refine LS.vv rfl rfl (by decide) (Val.move rfl) ?_
  refine LS.vv rfl rfl (by decide) (Val.extract rfl rfl) ?_
  refine LS.vv rfl rfl (by decide) (Val.extract rfl rfl) ?_
  refine LS.vv rfl rfl (by decide) (Val.assign rfl) ?_
  refine LS.vv rfl rfl (by decide) (Val.assign rfl) ?_
  refine LS.nil ?_
  refine W.seq ?_
  refine W.seqR ?_
  refine LS.vv rfl rfl (by decide) (Val.move rfl) ?_
  refine LS.m rfl (Step.call body11 rfl rfl (by decide) rfl (CallsV.mono (weighed_any zs _ _ _ _ (hr.below hB) rfl) ?_))
  rintro _ w3 ⟨b, rfl, hwd, hb3⟩
  replace hM := hM.below hb3
  replace hB := hB.trans (hb3.mono hB.size)
  refine LS.vv rfl rfl (by decide) (Val.not rfl) ?_
  refine LS.nil ?_
  first | refine W.condD rfl (fun hc1 => ?_) (fun hc1 => ?_) | refine W.cond rfl (fun hc1 => ?_) (fun hc1 => ?_)
  ·
    refine W.seqR ?_
    refine LS.vv rfl rfl (by decide) (Val.move rfl) ?_
    refine LS.vv rfl rfl (by decide) (Val.neq rfl rfl) ?_
    refine LS.vv rfl rfl (by decide) (Val.move rfl) ?_
    refine LS.split 2 rfl (fun hg2 => ?_) (fun hg2 => ?_)
    ·
      first | (have hg2p := of_decide_eq_true hg2) | skip
      refine LS.vg rfl rfl rfl hg2 (by decide) (Val.move rfl) ?_
      refine LS.vg rfl rfl rfl hg2 (by decide) (Val.neq rfl rfl) ?_
      have hen : e ≠ 0 := fun h => by have := hwd.2 (he.1 h); simp_all
      have hfn : f ≠ 0 := fun h => by have := hwd.2 (hf.1 h); simp_all
      refine LS.vv rfl rfl (by decide) (Val.cast (v := .bool true) (Val.pickT rfl hg2 rfl) (by first | rfl | (exfalso; omega) | (refine congrArg Value.bool (decide_eq_true ?_); omega))) ?_
      refine LS.vv rfl rfl (by decide) (Val.assign rfl) ?_
      refine LS.nil ?_
      refine W.ret ?_
      refine thenP_ret ?_
      refine ret1 (by first | exact .inl rfl | exact .inr rfl) rfl ?_
      first | exact ⟨rfl, hB⟩ | (exfalso; omega)
    ·
      first | (have hg2p := of_decide_eq_false hg2) | skip
      refine LS.s rfl rfl rfl hg2 (by decide) ?_
      refine LS.s rfl rfl rfl hg2 (by decide) ?_
      have hen : e ≠ 0 := fun h => by have := hwd.2 (he.1 h); simp_all
      have hfn : f ≠ 0 := fun h => by have := hwd.2 (hf.1 h); simp_all
      refine LS.vv rfl rfl (by decide) (Val.cast (v := .bool true) (Val.pickF rfl hg2 rfl) (by first | rfl | (exfalso; omega) | (refine congrArg Value.bool (decide_eq_true ?_); omega))) ?_
      refine LS.vv rfl rfl (by decide) (Val.assign rfl) ?_
      refine LS.nil ?_
      refine W.ret ?_
      refine thenP_ret ?_
      refine ret1 (by first | exact .inl rfl | exact .inr rfl) rfl ?_
      first | exact ⟨rfl, hB⟩ | (exfalso; omega)
  ·
    refine W.skip ?_
    refine thenP_normal ?_
    refine W.seq ?_
    refine W.seqR ?_
    refine LS.vv rfl rfl (by decide) (Val.move rfl) ?_
    refine LS.vv rfl rfl (by decide) (Val.neq rfl rfl) ?_
    refine LS.vv rfl rfl (by decide) (Val.move rfl) ?_
    refine LS.split 2 rfl (fun hg3 => ?_) (fun hg3 => ?_)
    ·
      first | (have hg3p := of_decide_eq_true hg3) | skip
      refine LS.s rfl rfl rfl hg3 (by decide) ?_
      refine LS.s rfl rfl rfl hg3 (by decide) ?_
      have hok := hwd.1 (by simp_all)
      have he0 := he.2 hok
      have hf0 := hf.2 hok
      have hlO := hof hf0
      obtain ⟨l2, hl2, hx⟩ := hop he0
      have hr2 : Rd w0 p (nv (zs.map Int.toNat)) := by rw [← iv_toNat (fun z h => (hok.2 z h).1)]; exact hr
      have hwn := okW_nat hok.2
      have hwl : (zs.map Int.toNat).length = zs.length := by rw [List.length_map]
      have hws8 : (zs.map Int.toNat).length ≤ 8 := by rw [hwl]; exact hok.1
      generalize hws : zs.map Int.toNat = ws at *
      have hll := hlO.len
      have hl8 := hlO.l8 hws8
      have huq := hl2.uniq hlO hws8
      refine LS.vv rfl rfl (by decide) (Val.cast (v := .bool false) (Val.pickT rfl hg3 rfl) (by first | rfl | (exfalso; omega) | (refine congrArg Value.bool (decide_eq_false ?_); omega))) ?_
      refine LS.vv rfl rfl (by decide) (Val.move rfl) ?_
      refine LS.vg rfl rfl rfl rfl (by decide) (Val.move rfl) ?_
      refine LS.vg rfl rfl rfl rfl (by decide) (Val.len Try.underlying23 rfl) ?_
      refine LS.vg rfl rfl rfl rfl (by decide) (Val.move rfl) ?_
      refine LS.vg rfl rfl rfl rfl (by decide) (Val.len Try.underlying22 rfl) ?_
      refine LS.vg rfl rfl rfl rfl (by decide) (Val.neq rfl rfl) ?_
      refine LS.vv rfl rfl (by decide) (Val.cast (v := .bool false) (Val.pickF rfl rfl rfl) (by first | rfl | (exfalso; omega) | (refine congrArg Value.bool (decide_eq_false ?_); omega))) ?_
      refine LS.vv rfl rfl (by decide) (Val.move rfl) ?_
      refine LS.vg rfl rfl rfl rfl (by decide) (Val.move rfl) ?_
      refine LS.vg rfl rfl rfl rfl (by decide) (Val.move rfl) ?_
      refine LS.mg rfl rfl rfl (Step.call body13 rfl rfl (by decide) rfl (CallsV.mono (refCosts_any ws l _ _ _ _ _ _ _ (hr2.below hB) (hM.o0.rd) (by omega) rfl (by omega) hwn hl8 hws8) ?_))
      rintro _ w4 ⟨rfl, hb4⟩
      replace hM := hM.below hb4
      replace hB := hB.trans (hb4.mono hB.size)
      refine LS.vg rfl rfl rfl rfl (by decide) (Val.move rfl) ?_
      refine LS.vg rfl rfl rfl rfl (by decide) (Val.neq rfl rfl) ?_
      refine LS.vv rfl rfl (by decide) (Val.cast (v := .bool false) (Val.pickF rfl rfl rfl) (by first | rfl | (exfalso; omega) | (refine congrArg Value.bool (decide_eq_false ?_); omega))) ?_
      refine LS.nil ?_
      refine W.condF rfl ?_
      refine W.skip ?_
      refine thenP_normal ?_
      refine W.seqR ?_
      refine LS.vv rfl rfl (by decide) (Val.move rfl) ?_
      refine LS.m rfl (Step.call body19 rfl rfl (by decide) rfl (CallsV.mono (sum_any (l.map fun x : Nat => (x : Int)) _ _ _ _ (by rw [← nv_iv]; exact hM.o0.rd) (by simp) (by omega)) ?_))
      rintro _ w5 ⟨sn, g, rfl, hg, hsn, hsn0, hb5⟩
      replace hM := hM.below hb5
      replace hB := hB.trans (hb5.mono hB.size)
      have hg0 : g = 0 := hg.2 ⟨by omega, fun z hz => by obtain ⟨y, hy, rfl⟩ := List.mem_map.1 hz; have := hl8 y hy; omega⟩
      have hsk := hsn hg0
      rw [map_nat_int, sum_kr] at hsk
      have hfit := hlO.fits
      refine LS.vv rfl rfl (by decide) (Val.move rfl) ?_
      refine LS.vv rfl rfl (by decide) (Val.extract rfl rfl) ?_
      refine LS.vv rfl rfl (by decide) (Val.extract rfl rfl) ?_
      refine LS.vv rfl rfl (by decide) (Val.assign rfl) ?_
      refine LS.vv rfl rfl (by decide) (Val.assign rfl) ?_
      refine LS.nil ?_
      refine W.seq ?_
      refine W.seqR ?_
      refine LS.vv rfl rfl (by decide) (Val.move rfl) ?_
      refine LS.vv rfl rfl (by decide) (Val.neq rfl rfl) ?_
      refine LS.vv rfl rfl (by decide) (Val.move rfl) ?_
      refine LS.split 2 rfl (fun hg4 => ?_) (fun hg4 => ?_)
      ·
        first | (have hg4p := of_decide_eq_true hg4) | skip
        refine LS.s rfl rfl rfl hg4 (by decide) ?_
        refine LS.s rfl rfl rfl hg4 (by decide) ?_
        refine LS.vv rfl rfl (by decide) (Val.cast (v := .bool false) (Val.pickT rfl hg4 rfl) (by first | rfl | (exfalso; omega) | (refine congrArg Value.bool (decide_eq_false ?_); omega))) ?_
        refine LS.nil ?_
        refine W.condF rfl ?_
        refine W.skip ?_
        refine thenP_normal ?_
        refine W.seqR ?_
        refine LS.vv rfl rfl (by decide) (Val.move rfl) ?_
        refine LS.m rfl (Step.call body20 rfl rfl (by decide) rfl (CallsV.mono (codedB_any C _ _ _ _ (hc.below hB) rfl) ?_))
        rintro _ w6 ⟨cb, rfl, hcb, hb6⟩
        replace hM := hM.below hb6
        replace hB := hB.trans (hb6.mono hB.size)
        refine LS.vv rfl rfl (by decide) (Val.not rfl) ?_
        refine LS.vv rfl rfl (by decide) (Val.move rfl) ?_
        refine LS.split 3 rfl (fun hg5 => ?_) (fun hg5 => ?_)
        ·
          first | (have hg5p := of_decide_eq_true hg5) | skip
          refine LS.s rfl rfl rfl hg5 (by decide) ?_
          refine LS.s rfl rfl rfl hg5 (by decide) ?_
          refine LS.s rfl rfl rfl hg5 (by decide) ?_
          refine LS.s rfl rfl rfl hg5 (by decide) ?_
          refine LS.s rfl rfl rfl hg5 (by decide) ?_
          refine LS.vv rfl rfl (by decide) (Val.pickT rfl hg5 rfl) ?_
          refine LS.vv rfl rfl (by decide) (Val.move rfl) ?_
          refine LS.s rfl rfl rfl rfl (by decide) ?_
          refine LS.s rfl rfl rfl rfl (by decide) ?_
          refine LS.s rfl rfl rfl rfl (by decide) ?_
          refine LS.vv rfl rfl (by decide) (Val.pickT rfl rfl rfl) ?_
          refine LS.vv rfl rfl (by decide) (Val.move rfl) ?_
          refine LS.s rfl rfl rfl rfl (by decide) ?_
          refine LS.s rfl rfl rfl rfl (by decide) ?_
          refine LS.s rfl rfl rfl rfl (by decide) ?_
          refine LS.s rfl rfl rfl rfl (by decide) ?_
          refine LS.s rfl rfl rfl rfl (by decide) ?_
          refine LS.s rfl rfl rfl rfl (by decide) ?_
          refine LS.vv rfl rfl (by decide) (Val.cast (v := .bool true) (Val.pickT rfl rfl rfl) (by first | rfl | (exfalso; omega) | (refine congrArg Value.bool (decide_eq_true ?_); omega))) ?_
          refine LS.vv rfl rfl (by decide) (Val.assign rfl) ?_
          refine LS.nil ?_
          refine W.ret ?_
          refine ret1 (by first | exact .inl rfl | exact .inr rfl) rfl ?_
          first | exact ⟨rfl, hB⟩ | (exfalso; omega)
        ·
          first | (have hg5p := of_decide_eq_false hg5) | skip
          refine LS.vg rfl rfl rfl hg5 (by decide) (Val.move rfl) ?_
          refine LS.vg rfl rfl rfl hg5 (by decide) (Val.len Try.underlying30 rfl) ?_
          refine LS.vg rfl rfl rfl hg5 (by decide) (Val.move rfl) ?_
          refine LS.vg rfl rfl rfl hg5 (by decide) (Val.len Try.underlying22 rfl) ?_
          refine LS.vg rfl rfl rfl hg5 (by decide) (Val.neq rfl rfl) ?_
          refine LS.vv rfl rfl (by decide) (Val.pickF rfl hg5 rfl) ?_
          refine LS.vv rfl rfl (by decide) (Val.move rfl) ?_
          refine LS.split 10 rfl (fun hg6 => ?_) (fun hg6 => ?_)
          ·
            first | (have hg6p := of_decide_eq_true hg6) | skip
            refine LS.s rfl rfl rfl hg6 (by decide) ?_
            refine LS.s rfl rfl rfl hg6 (by decide) ?_
            refine LS.s rfl rfl rfl hg6 (by decide) ?_
            refine LS.vv rfl rfl (by decide) (Val.pickT rfl hg6 rfl) ?_
            refine LS.vv rfl rfl (by decide) (Val.move rfl) ?_
            refine LS.s rfl rfl rfl rfl (by decide) ?_
            refine LS.s rfl rfl rfl rfl (by decide) ?_
            refine LS.s rfl rfl rfl rfl (by decide) ?_
            refine LS.s rfl rfl rfl rfl (by decide) ?_
            refine LS.s rfl rfl rfl rfl (by decide) ?_
            refine LS.s rfl rfl rfl rfl (by decide) ?_
            refine LS.vv rfl rfl (by decide) (Val.cast (v := .bool true) (Val.pickT rfl rfl rfl) (by first | rfl | (exfalso; omega) | (refine congrArg Value.bool (decide_eq_true ?_); omega))) ?_
            refine LS.vv rfl rfl (by decide) (Val.assign rfl) ?_
            refine LS.nil ?_
            refine W.ret ?_
            refine ret1 (by first | exact .inl rfl | exact .inr rfl) rfl ?_
            first | exact ⟨rfl, hB⟩ | (exfalso; omega)
          ·
            first | (have hg6p := of_decide_eq_false hg6) | skip
            refine LS.vg rfl rfl rfl hg6 (by decide) (Val.move rfl) ?_
            have hcod := hcb.1 (by simp_all)
            have hcd := (coded_iff C).1 hcod
            refine LS.mg rfl rfl hg6 (Step.call body21 rfl rfl (by decide) rfl (CallsV.mono (rprefix_any C _ _ _ _ (hc.below hB) rfl (by omega)) ?_))
            rintro _ w7 ⟨pb, rfl, hpb, hb7⟩
            replace hM := hM.below hb7
            replace hB := hB.trans (hb7.mono hB.size)
            refine LS.vg rfl rfl rfl hg6 (by decide) (Val.not rfl) ?_
            refine LS.vv rfl rfl (by decide) (Val.pickF rfl hg6 rfl) ?_
            refine LS.vv rfl rfl (by decide) (Val.move rfl) ?_
            refine LS.split 15 rfl (fun hg7 => ?_) (fun hg7 => ?_)
            ·
              first | (have hg7p := of_decide_eq_true hg7) | skip
              refine LS.s rfl rfl rfl hg7 (by decide) ?_
              refine LS.s rfl rfl rfl hg7 (by decide) ?_
              refine LS.s rfl rfl rfl hg7 (by decide) ?_
              refine LS.s rfl rfl rfl hg7 (by decide) ?_
              refine LS.s rfl rfl rfl hg7 (by decide) ?_
              refine LS.s rfl rfl rfl hg7 (by decide) ?_
              refine LS.vv rfl rfl (by decide) (Val.cast (v := .bool true) (Val.pickT rfl hg7 rfl) (by first | rfl | (exfalso; omega) | (refine congrArg Value.bool (decide_eq_true ?_); omega))) ?_
              refine LS.vv rfl rfl (by decide) (Val.assign rfl) ?_
              refine LS.nil ?_
              refine W.ret ?_
              refine ret1 (by first | exact .inl rfl | exact .inr rfl) rfl ?_
              first | exact ⟨rfl, hB⟩ | (exfalso; omega)
            ·
              first | (have hg7p := of_decide_eq_false hg7) | skip
              refine LS.vg rfl rfl rfl hg7 (by decide) (Val.move rfl) ?_
              refine LS.vg rfl rfl rfl hg7 (by decide) (Val.move rfl) ?_
              have hfree := hpb.1 (by simp_all)
              refine LS.mg rfl rfl hg7 (Step.call body16 rfl rfl (by decide) rfl (CallsV.mono (lensC_any C _ _ _ _ (hc.below hB) rfl (by omega)) ?_))
              rintro _ w8 ⟨p9, c9, rfl, hO9, hb8⟩
              replace hM := hM.add hB.size hb8 hO9
              replace hB := hB.trans (hb8.mono hB.size)
              have hcl := codeOf_len C
              have hlc8 : ∀ x ∈ lensTo (codeOf C) C.length, x ≤ 8 := by rw [← hcl]; exact lensTo_le hcod.2
              have hlcl : (lensTo (codeOf C) C.length).length = C.length := lensTo_len _ _
              refine LS.mg rfl rfl hg7 (Step.call body13 rfl rfl (by decide) rfl (CallsV.mono (refCosts_any ws (lensTo (codeOf C) C.length) _ _ _ _ _ _ _ (hr2.below hB) (hM.o0.rd) (by omega) hlcl (by omega) hwn hlc8 hws8) ?_))
              rintro _ w9 ⟨rfl, hb9⟩
              replace hM := hM.below hb9
              replace hB := hB.trans (hb9.mono hB.size)
              refine LS.vg rfl rfl rfl hg7 (by decide) (Val.move rfl) ?_
              have hrm : kr (lensTo (codeOf C) C.length) ≤ 256 := by { have h1 := sumTo_room (codeOf C); rw [hcl] at h1; rw [← sum_kr, hlcl, h1]; exact kraft hfree hcod.2 }
              have hlow := hl2.low _ (by omega) hlc8 hrm
              refine LS.vg rfl rfl rfl hg7 (by decide) (Val.geq rfl rfl) ?_
              refine LS.vv rfl rfl (by decide) (Val.cast (v := .bool true) (Val.pickF rfl hg7 rfl) (by first | rfl | (exfalso; omega) | (refine congrArg Value.bool (decide_eq_true ?_); omega))) ?_
              refine LS.vv rfl rfl (by decide) (Val.assign rfl) ?_
              refine LS.nil ?_
              refine W.ret ?_
              refine ret1 (by first | exact .inl rfl | exact .inr rfl) rfl ?_
              first | exact ⟨rfl, hB⟩ | (exfalso; omega)
      ·
        first | (have hg4p := of_decide_eq_false hg4) | skip
        refine LS.vg rfl rfl rfl hg4 (by decide) (Val.move rfl) ?_
        refine LS.vg rfl rfl rfl hg4 (by decide) (Val.gtr rfl rfl) ?_
        refine LS.vv rfl rfl (by decide) (Val.cast (v := .bool false) (Val.pickF rfl hg4 rfl) (by first | rfl | (exfalso; omega) | (refine congrArg Value.bool (decide_eq_false ?_); omega))) ?_
        refine LS.nil ?_
        refine W.condF rfl ?_
        refine W.skip ?_
        refine thenP_normal ?_
        refine W.seqR ?_
        refine LS.vv rfl rfl (by decide) (Val.move rfl) ?_
        refine LS.m rfl (Step.call body20 rfl rfl (by decide) rfl (CallsV.mono (codedB_any C _ _ _ _ (hc.below hB) rfl) ?_))
        rintro _ w10 ⟨cb, rfl, hcb, hb10⟩
        replace hM := hM.below hb10
        replace hB := hB.trans (hb10.mono hB.size)
        refine LS.vv rfl rfl (by decide) (Val.not rfl) ?_
        refine LS.vv rfl rfl (by decide) (Val.move rfl) ?_
        refine LS.split 3 rfl (fun hg8 => ?_) (fun hg8 => ?_)
        ·
          first | (have hg8p := of_decide_eq_true hg8) | skip
          refine LS.s rfl rfl rfl hg8 (by decide) ?_
          refine LS.s rfl rfl rfl hg8 (by decide) ?_
          refine LS.s rfl rfl rfl hg8 (by decide) ?_
          refine LS.s rfl rfl rfl hg8 (by decide) ?_
          refine LS.s rfl rfl rfl hg8 (by decide) ?_
          refine LS.vv rfl rfl (by decide) (Val.pickT rfl hg8 rfl) ?_
          refine LS.vv rfl rfl (by decide) (Val.move rfl) ?_
          refine LS.s rfl rfl rfl rfl (by decide) ?_
          refine LS.s rfl rfl rfl rfl (by decide) ?_
          refine LS.s rfl rfl rfl rfl (by decide) ?_
          refine LS.vv rfl rfl (by decide) (Val.pickT rfl rfl rfl) ?_
          refine LS.vv rfl rfl (by decide) (Val.move rfl) ?_
          refine LS.s rfl rfl rfl rfl (by decide) ?_
          refine LS.s rfl rfl rfl rfl (by decide) ?_
          refine LS.s rfl rfl rfl rfl (by decide) ?_
          refine LS.s rfl rfl rfl rfl (by decide) ?_
          refine LS.s rfl rfl rfl rfl (by decide) ?_
          refine LS.s rfl rfl rfl rfl (by decide) ?_
          refine LS.vv rfl rfl (by decide) (Val.cast (v := .bool true) (Val.pickT rfl rfl rfl) (by first | rfl | (exfalso; omega) | (refine congrArg Value.bool (decide_eq_true ?_); omega))) ?_
          refine LS.vv rfl rfl (by decide) (Val.assign rfl) ?_
          refine LS.nil ?_
          refine W.ret ?_
          refine ret1 (by first | exact .inl rfl | exact .inr rfl) rfl ?_
          first | exact ⟨rfl, hB⟩ | (exfalso; omega)
        ·
          first | (have hg8p := of_decide_eq_false hg8) | skip
          refine LS.vg rfl rfl rfl hg8 (by decide) (Val.move rfl) ?_
          refine LS.vg rfl rfl rfl hg8 (by decide) (Val.len Try.underlying30 rfl) ?_
          refine LS.vg rfl rfl rfl hg8 (by decide) (Val.move rfl) ?_
          refine LS.vg rfl rfl rfl hg8 (by decide) (Val.len Try.underlying22 rfl) ?_
          refine LS.vg rfl rfl rfl hg8 (by decide) (Val.neq rfl rfl) ?_
          refine LS.vv rfl rfl (by decide) (Val.pickF rfl hg8 rfl) ?_
          refine LS.vv rfl rfl (by decide) (Val.move rfl) ?_
          refine LS.split 10 rfl (fun hg9 => ?_) (fun hg9 => ?_)
          ·
            first | (have hg9p := of_decide_eq_true hg9) | skip
            refine LS.s rfl rfl rfl hg9 (by decide) ?_
            refine LS.s rfl rfl rfl hg9 (by decide) ?_
            refine LS.s rfl rfl rfl hg9 (by decide) ?_
            refine LS.vv rfl rfl (by decide) (Val.pickT rfl hg9 rfl) ?_
            refine LS.vv rfl rfl (by decide) (Val.move rfl) ?_
            refine LS.s rfl rfl rfl rfl (by decide) ?_
            refine LS.s rfl rfl rfl rfl (by decide) ?_
            refine LS.s rfl rfl rfl rfl (by decide) ?_
            refine LS.s rfl rfl rfl rfl (by decide) ?_
            refine LS.s rfl rfl rfl rfl (by decide) ?_
            refine LS.s rfl rfl rfl rfl (by decide) ?_
            refine LS.vv rfl rfl (by decide) (Val.cast (v := .bool true) (Val.pickT rfl rfl rfl) (by first | rfl | (exfalso; omega) | (refine congrArg Value.bool (decide_eq_true ?_); omega))) ?_
            refine LS.vv rfl rfl (by decide) (Val.assign rfl) ?_
            refine LS.nil ?_
            refine W.ret ?_
            refine ret1 (by first | exact .inl rfl | exact .inr rfl) rfl ?_
            first | exact ⟨rfl, hB⟩ | (exfalso; omega)
          ·
            first | (have hg9p := of_decide_eq_false hg9) | skip
            refine LS.vg rfl rfl rfl hg9 (by decide) (Val.move rfl) ?_
            have hcod := hcb.1 (by simp_all)
            have hcd := (coded_iff C).1 hcod
            refine LS.mg rfl rfl hg9 (Step.call body21 rfl rfl (by decide) rfl (CallsV.mono (rprefix_any C _ _ _ _ (hc.below hB) rfl (by omega)) ?_))
            rintro _ w11 ⟨pb, rfl, hpb, hb11⟩
            replace hM := hM.below hb11
            replace hB := hB.trans (hb11.mono hB.size)
            refine LS.vg rfl rfl rfl hg9 (by decide) (Val.not rfl) ?_
            refine LS.vv rfl rfl (by decide) (Val.pickF rfl hg9 rfl) ?_
            refine LS.vv rfl rfl (by decide) (Val.move rfl) ?_
            refine LS.split 15 rfl (fun hg10 => ?_) (fun hg10 => ?_)
            ·
              first | (have hg10p := of_decide_eq_true hg10) | skip
              refine LS.s rfl rfl rfl hg10 (by decide) ?_
              refine LS.s rfl rfl rfl hg10 (by decide) ?_
              refine LS.s rfl rfl rfl hg10 (by decide) ?_
              refine LS.s rfl rfl rfl hg10 (by decide) ?_
              refine LS.s rfl rfl rfl hg10 (by decide) ?_
              refine LS.s rfl rfl rfl hg10 (by decide) ?_
              refine LS.vv rfl rfl (by decide) (Val.cast (v := .bool true) (Val.pickT rfl hg10 rfl) (by first | rfl | (exfalso; omega) | (refine congrArg Value.bool (decide_eq_true ?_); omega))) ?_
              refine LS.vv rfl rfl (by decide) (Val.assign rfl) ?_
              refine LS.nil ?_
              refine W.ret ?_
              refine ret1 (by first | exact .inl rfl | exact .inr rfl) rfl ?_
              first | exact ⟨rfl, hB⟩ | (exfalso; omega)
            ·
              first | (have hg10p := of_decide_eq_false hg10) | skip
              refine LS.vg rfl rfl rfl hg10 (by decide) (Val.move rfl) ?_
              refine LS.vg rfl rfl rfl hg10 (by decide) (Val.move rfl) ?_
              have hfree := hpb.1 (by simp_all)
              refine LS.mg rfl rfl hg10 (Step.call body16 rfl rfl (by decide) rfl (CallsV.mono (lensC_any C _ _ _ _ (hc.below hB) rfl (by omega)) ?_))
              rintro _ w12 ⟨p9, c9, rfl, hO9, hb12⟩
              replace hM := hM.add hB.size hb12 hO9
              replace hB := hB.trans (hb12.mono hB.size)
              have hcl := codeOf_len C
              have hlc8 : ∀ x ∈ lensTo (codeOf C) C.length, x ≤ 8 := by rw [← hcl]; exact lensTo_le hcod.2
              have hlcl : (lensTo (codeOf C) C.length).length = C.length := lensTo_len _ _
              refine LS.mg rfl rfl hg10 (Step.call body13 rfl rfl (by decide) rfl (CallsV.mono (refCosts_any ws (lensTo (codeOf C) C.length) _ _ _ _ _ _ _ (hr2.below hB) (hM.o0.rd) (by omega) hlcl (by omega) hwn hlc8 hws8) ?_))
              rintro _ w13 ⟨rfl, hb13⟩
              replace hM := hM.below hb13
              replace hB := hB.trans (hb13.mono hB.size)
              refine LS.vg rfl rfl rfl hg10 (by decide) (Val.move rfl) ?_
              have hrm : kr (lensTo (codeOf C) C.length) ≤ 256 := by { have h1 := sumTo_room (codeOf C); rw [hcl] at h1; rw [← sum_kr, hlcl, h1]; exact kraft hfree hcod.2 }
              have hlow := hl2.low _ (by omega) hlc8 hrm
              refine LS.vg rfl rfl rfl hg10 (by decide) (Val.geq rfl rfl) ?_
              refine LS.vv rfl rfl (by decide) (Val.cast (v := .bool true) (Val.pickF rfl hg10 rfl) (by first | rfl | (exfalso; omega) | (refine congrArg Value.bool (decide_eq_true ?_); omega))) ?_
              refine LS.vv rfl rfl (by decide) (Val.assign rfl) ?_
              refine LS.nil ?_
              refine W.ret ?_
              refine ret1 (by first | exact .inl rfl | exact .inr rfl) rfl ?_
              first | exact ⟨rfl, hB⟩ | (exfalso; omega)
    ·
      first | (have hg3p := of_decide_eq_false hg3) | skip
      refine LS.vg rfl rfl rfl hg3 (by decide) (Val.move rfl) ?_
      refine LS.vg rfl rfl rfl hg3 (by decide) (Val.neq rfl rfl) ?_
      have hok := hwd.1 (by simp_all)
      have he0 := he.2 hok
      have hf0 := hf.2 hok
      have hlO := hof hf0
      obtain ⟨l2, hl2, hx⟩ := hop he0
      have hr2 : Rd w0 p (nv (zs.map Int.toNat)) := by rw [← iv_toNat (fun z h => (hok.2 z h).1)]; exact hr
      have hwn := okW_nat hok.2
      have hwl : (zs.map Int.toNat).length = zs.length := by rw [List.length_map]
      have hws8 : (zs.map Int.toNat).length ≤ 8 := by rw [hwl]; exact hok.1
      generalize hws : zs.map Int.toNat = ws at *
      have hll := hlO.len
      have hl8 := hlO.l8 hws8
      have huq := hl2.uniq hlO hws8
      refine LS.vv rfl rfl (by decide) (Val.cast (v := .bool false) (Val.pickF rfl hg3 rfl) (by first | rfl | (exfalso; omega) | (refine congrArg Value.bool (decide_eq_false ?_); omega))) ?_
      refine LS.vv rfl rfl (by decide) (Val.move rfl) ?_
      refine LS.vg rfl rfl rfl rfl (by decide) (Val.move rfl) ?_
      refine LS.vg rfl rfl rfl rfl (by decide) (Val.len Try.underlying23 rfl) ?_
      refine LS.vg rfl rfl rfl rfl (by decide) (Val.move rfl) ?_
      refine LS.vg rfl rfl rfl rfl (by decide) (Val.len Try.underlying22 rfl) ?_
      refine LS.vg rfl rfl rfl rfl (by decide) (Val.neq rfl rfl) ?_
      refine LS.vv rfl rfl (by decide) (Val.cast (v := .bool false) (Val.pickF rfl rfl rfl) (by first | rfl | (exfalso; omega) | (refine congrArg Value.bool (decide_eq_false ?_); omega))) ?_
      refine LS.vv rfl rfl (by decide) (Val.move rfl) ?_
      refine LS.vg rfl rfl rfl rfl (by decide) (Val.move rfl) ?_
      refine LS.vg rfl rfl rfl rfl (by decide) (Val.move rfl) ?_
      refine LS.mg rfl rfl rfl (Step.call body13 rfl rfl (by decide) rfl (CallsV.mono (refCosts_any ws l _ _ _ _ _ _ _ (hr2.below hB) (hM.o0.rd) (by omega) rfl (by omega) hwn hl8 hws8) ?_))
      rintro _ w14 ⟨rfl, hb14⟩
      replace hM := hM.below hb14
      replace hB := hB.trans (hb14.mono hB.size)
      refine LS.vg rfl rfl rfl rfl (by decide) (Val.move rfl) ?_
      refine LS.vg rfl rfl rfl rfl (by decide) (Val.neq rfl rfl) ?_
      refine LS.vv rfl rfl (by decide) (Val.cast (v := .bool false) (Val.pickF rfl rfl rfl) (by first | rfl | (exfalso; omega) | (refine congrArg Value.bool (decide_eq_false ?_); omega))) ?_
      refine LS.nil ?_
      refine W.condF rfl ?_
      refine W.skip ?_
      refine thenP_normal ?_
      refine W.seqR ?_
      refine LS.vv rfl rfl (by decide) (Val.move rfl) ?_
      refine LS.m rfl (Step.call body19 rfl rfl (by decide) rfl (CallsV.mono (sum_any (l.map fun x : Nat => (x : Int)) _ _ _ _ (by rw [← nv_iv]; exact hM.o0.rd) (by simp) (by omega)) ?_))
      rintro _ w15 ⟨sn, g, rfl, hg, hsn, hsn0, hb15⟩
      replace hM := hM.below hb15
      replace hB := hB.trans (hb15.mono hB.size)
      have hg0 : g = 0 := hg.2 ⟨by omega, fun z hz => by obtain ⟨y, hy, rfl⟩ := List.mem_map.1 hz; have := hl8 y hy; omega⟩
      have hsk := hsn hg0
      rw [map_nat_int, sum_kr] at hsk
      have hfit := hlO.fits
      refine LS.vv rfl rfl (by decide) (Val.move rfl) ?_
      refine LS.vv rfl rfl (by decide) (Val.extract rfl rfl) ?_
      refine LS.vv rfl rfl (by decide) (Val.extract rfl rfl) ?_
      refine LS.vv rfl rfl (by decide) (Val.assign rfl) ?_
      refine LS.vv rfl rfl (by decide) (Val.assign rfl) ?_
      refine LS.nil ?_
      refine W.seq ?_
      refine W.seqR ?_
      refine LS.vv rfl rfl (by decide) (Val.move rfl) ?_
      refine LS.vv rfl rfl (by decide) (Val.neq rfl rfl) ?_
      refine LS.vv rfl rfl (by decide) (Val.move rfl) ?_
      refine LS.split 2 rfl (fun hg11 => ?_) (fun hg11 => ?_)
      ·
        first | (have hg11p := of_decide_eq_true hg11) | skip
        refine LS.s rfl rfl rfl hg11 (by decide) ?_
        refine LS.s rfl rfl rfl hg11 (by decide) ?_
        refine LS.vv rfl rfl (by decide) (Val.cast (v := .bool false) (Val.pickT rfl hg11 rfl) (by first | rfl | (exfalso; omega) | (refine congrArg Value.bool (decide_eq_false ?_); omega))) ?_
        refine LS.nil ?_
        refine W.condF rfl ?_
        refine W.skip ?_
        refine thenP_normal ?_
        refine W.seqR ?_
        refine LS.vv rfl rfl (by decide) (Val.move rfl) ?_
        refine LS.m rfl (Step.call body20 rfl rfl (by decide) rfl (CallsV.mono (codedB_any C _ _ _ _ (hc.below hB) rfl) ?_))
        rintro _ w16 ⟨cb, rfl, hcb, hb16⟩
        replace hM := hM.below hb16
        replace hB := hB.trans (hb16.mono hB.size)
        refine LS.vv rfl rfl (by decide) (Val.not rfl) ?_
        refine LS.vv rfl rfl (by decide) (Val.move rfl) ?_
        refine LS.split 3 rfl (fun hg12 => ?_) (fun hg12 => ?_)
        ·
          first | (have hg12p := of_decide_eq_true hg12) | skip
          refine LS.s rfl rfl rfl hg12 (by decide) ?_
          refine LS.s rfl rfl rfl hg12 (by decide) ?_
          refine LS.s rfl rfl rfl hg12 (by decide) ?_
          refine LS.s rfl rfl rfl hg12 (by decide) ?_
          refine LS.s rfl rfl rfl hg12 (by decide) ?_
          refine LS.vv rfl rfl (by decide) (Val.pickT rfl hg12 rfl) ?_
          refine LS.vv rfl rfl (by decide) (Val.move rfl) ?_
          refine LS.s rfl rfl rfl rfl (by decide) ?_
          refine LS.s rfl rfl rfl rfl (by decide) ?_
          refine LS.s rfl rfl rfl rfl (by decide) ?_
          refine LS.vv rfl rfl (by decide) (Val.pickT rfl rfl rfl) ?_
          refine LS.vv rfl rfl (by decide) (Val.move rfl) ?_
          refine LS.s rfl rfl rfl rfl (by decide) ?_
          refine LS.s rfl rfl rfl rfl (by decide) ?_
          refine LS.s rfl rfl rfl rfl (by decide) ?_
          refine LS.s rfl rfl rfl rfl (by decide) ?_
          refine LS.s rfl rfl rfl rfl (by decide) ?_
          refine LS.s rfl rfl rfl rfl (by decide) ?_
          refine LS.vv rfl rfl (by decide) (Val.cast (v := .bool true) (Val.pickT rfl rfl rfl) (by first | rfl | (exfalso; omega) | (refine congrArg Value.bool (decide_eq_true ?_); omega))) ?_
          refine LS.vv rfl rfl (by decide) (Val.assign rfl) ?_
          refine LS.nil ?_
          refine W.ret ?_
          refine ret1 (by first | exact .inl rfl | exact .inr rfl) rfl ?_
          first | exact ⟨rfl, hB⟩ | (exfalso; omega)
        ·
          first | (have hg12p := of_decide_eq_false hg12) | skip
          refine LS.vg rfl rfl rfl hg12 (by decide) (Val.move rfl) ?_
          refine LS.vg rfl rfl rfl hg12 (by decide) (Val.len Try.underlying30 rfl) ?_
          refine LS.vg rfl rfl rfl hg12 (by decide) (Val.move rfl) ?_
          refine LS.vg rfl rfl rfl hg12 (by decide) (Val.len Try.underlying22 rfl) ?_
          refine LS.vg rfl rfl rfl hg12 (by decide) (Val.neq rfl rfl) ?_
          refine LS.vv rfl rfl (by decide) (Val.pickF rfl hg12 rfl) ?_
          refine LS.vv rfl rfl (by decide) (Val.move rfl) ?_
          refine LS.split 10 rfl (fun hg13 => ?_) (fun hg13 => ?_)
          ·
            first | (have hg13p := of_decide_eq_true hg13) | skip
            refine LS.s rfl rfl rfl hg13 (by decide) ?_
            refine LS.s rfl rfl rfl hg13 (by decide) ?_
            refine LS.s rfl rfl rfl hg13 (by decide) ?_
            refine LS.vv rfl rfl (by decide) (Val.pickT rfl hg13 rfl) ?_
            refine LS.vv rfl rfl (by decide) (Val.move rfl) ?_
            refine LS.s rfl rfl rfl rfl (by decide) ?_
            refine LS.s rfl rfl rfl rfl (by decide) ?_
            refine LS.s rfl rfl rfl rfl (by decide) ?_
            refine LS.s rfl rfl rfl rfl (by decide) ?_
            refine LS.s rfl rfl rfl rfl (by decide) ?_
            refine LS.s rfl rfl rfl rfl (by decide) ?_
            refine LS.vv rfl rfl (by decide) (Val.cast (v := .bool true) (Val.pickT rfl rfl rfl) (by first | rfl | (exfalso; omega) | (refine congrArg Value.bool (decide_eq_true ?_); omega))) ?_
            refine LS.vv rfl rfl (by decide) (Val.assign rfl) ?_
            refine LS.nil ?_
            refine W.ret ?_
            refine ret1 (by first | exact .inl rfl | exact .inr rfl) rfl ?_
            first | exact ⟨rfl, hB⟩ | (exfalso; omega)
          ·
            first | (have hg13p := of_decide_eq_false hg13) | skip
            refine LS.vg rfl rfl rfl hg13 (by decide) (Val.move rfl) ?_
            have hcod := hcb.1 (by simp_all)
            have hcd := (coded_iff C).1 hcod
            refine LS.mg rfl rfl hg13 (Step.call body21 rfl rfl (by decide) rfl (CallsV.mono (rprefix_any C _ _ _ _ (hc.below hB) rfl (by omega)) ?_))
            rintro _ w17 ⟨pb, rfl, hpb, hb17⟩
            replace hM := hM.below hb17
            replace hB := hB.trans (hb17.mono hB.size)
            refine LS.vg rfl rfl rfl hg13 (by decide) (Val.not rfl) ?_
            refine LS.vv rfl rfl (by decide) (Val.pickF rfl hg13 rfl) ?_
            refine LS.vv rfl rfl (by decide) (Val.move rfl) ?_
            refine LS.split 15 rfl (fun hg14 => ?_) (fun hg14 => ?_)
            ·
              first | (have hg14p := of_decide_eq_true hg14) | skip
              refine LS.s rfl rfl rfl hg14 (by decide) ?_
              refine LS.s rfl rfl rfl hg14 (by decide) ?_
              refine LS.s rfl rfl rfl hg14 (by decide) ?_
              refine LS.s rfl rfl rfl hg14 (by decide) ?_
              refine LS.s rfl rfl rfl hg14 (by decide) ?_
              refine LS.s rfl rfl rfl hg14 (by decide) ?_
              refine LS.vv rfl rfl (by decide) (Val.cast (v := .bool true) (Val.pickT rfl hg14 rfl) (by first | rfl | (exfalso; omega) | (refine congrArg Value.bool (decide_eq_true ?_); omega))) ?_
              refine LS.vv rfl rfl (by decide) (Val.assign rfl) ?_
              refine LS.nil ?_
              refine W.ret ?_
              refine ret1 (by first | exact .inl rfl | exact .inr rfl) rfl ?_
              first | exact ⟨rfl, hB⟩ | (exfalso; omega)
            ·
              first | (have hg14p := of_decide_eq_false hg14) | skip
              refine LS.vg rfl rfl rfl hg14 (by decide) (Val.move rfl) ?_
              refine LS.vg rfl rfl rfl hg14 (by decide) (Val.move rfl) ?_
              have hfree := hpb.1 (by simp_all)
              refine LS.mg rfl rfl hg14 (Step.call body16 rfl rfl (by decide) rfl (CallsV.mono (lensC_any C _ _ _ _ (hc.below hB) rfl (by omega)) ?_))
              rintro _ w18 ⟨p9, c9, rfl, hO9, hb18⟩
              replace hM := hM.add hB.size hb18 hO9
              replace hB := hB.trans (hb18.mono hB.size)
              have hcl := codeOf_len C
              have hlc8 : ∀ x ∈ lensTo (codeOf C) C.length, x ≤ 8 := by rw [← hcl]; exact lensTo_le hcod.2
              have hlcl : (lensTo (codeOf C) C.length).length = C.length := lensTo_len _ _
              refine LS.mg rfl rfl hg14 (Step.call body13 rfl rfl (by decide) rfl (CallsV.mono (refCosts_any ws (lensTo (codeOf C) C.length) _ _ _ _ _ _ _ (hr2.below hB) (hM.o0.rd) (by omega) hlcl (by omega) hwn hlc8 hws8) ?_))
              rintro _ w19 ⟨rfl, hb19⟩
              replace hM := hM.below hb19
              replace hB := hB.trans (hb19.mono hB.size)
              refine LS.vg rfl rfl rfl hg14 (by decide) (Val.move rfl) ?_
              have hrm : kr (lensTo (codeOf C) C.length) ≤ 256 := by { have h1 := sumTo_room (codeOf C); rw [hcl] at h1; rw [← sum_kr, hlcl, h1]; exact kraft hfree hcod.2 }
              have hlow := hl2.low _ (by omega) hlc8 hrm
              refine LS.vg rfl rfl rfl hg14 (by decide) (Val.geq rfl rfl) ?_
              refine LS.vv rfl rfl (by decide) (Val.cast (v := .bool true) (Val.pickF rfl hg14 rfl) (by first | rfl | (exfalso; omega) | (refine congrArg Value.bool (decide_eq_true ?_); omega))) ?_
              refine LS.vv rfl rfl (by decide) (Val.assign rfl) ?_
              refine LS.nil ?_
              refine W.ret ?_
              refine ret1 (by first | exact .inl rfl | exact .inr rfl) rfl ?_
              first | exact ⟨rfl, hB⟩ | (exfalso; omega)
      ·
        first | (have hg11p := of_decide_eq_false hg11) | skip
        refine LS.vg rfl rfl rfl hg11 (by decide) (Val.move rfl) ?_
        refine LS.vg rfl rfl rfl hg11 (by decide) (Val.gtr rfl rfl) ?_
        refine LS.vv rfl rfl (by decide) (Val.cast (v := .bool false) (Val.pickF rfl hg11 rfl) (by first | rfl | (exfalso; omega) | (refine congrArg Value.bool (decide_eq_false ?_); omega))) ?_
        refine LS.nil ?_
        refine W.condF rfl ?_
        refine W.skip ?_
        refine thenP_normal ?_
        refine W.seqR ?_
        refine LS.vv rfl rfl (by decide) (Val.move rfl) ?_
        refine LS.m rfl (Step.call body20 rfl rfl (by decide) rfl (CallsV.mono (codedB_any C _ _ _ _ (hc.below hB) rfl) ?_))
        rintro _ w20 ⟨cb, rfl, hcb, hb20⟩
        replace hM := hM.below hb20
        replace hB := hB.trans (hb20.mono hB.size)
        refine LS.vv rfl rfl (by decide) (Val.not rfl) ?_
        refine LS.vv rfl rfl (by decide) (Val.move rfl) ?_
        refine LS.split 3 rfl (fun hg15 => ?_) (fun hg15 => ?_)
        ·
          first | (have hg15p := of_decide_eq_true hg15) | skip
          refine LS.s rfl rfl rfl hg15 (by decide) ?_
          refine LS.s rfl rfl rfl hg15 (by decide) ?_
          refine LS.s rfl rfl rfl hg15 (by decide) ?_
          refine LS.s rfl rfl rfl hg15 (by decide) ?_
          refine LS.s rfl rfl rfl hg15 (by decide) ?_
          refine LS.vv rfl rfl (by decide) (Val.pickT rfl hg15 rfl) ?_
          refine LS.vv rfl rfl (by decide) (Val.move rfl) ?_
          refine LS.s rfl rfl rfl rfl (by decide) ?_
          refine LS.s rfl rfl rfl rfl (by decide) ?_
          refine LS.s rfl rfl rfl rfl (by decide) ?_
          refine LS.vv rfl rfl (by decide) (Val.pickT rfl rfl rfl) ?_
          refine LS.vv rfl rfl (by decide) (Val.move rfl) ?_
          refine LS.s rfl rfl rfl rfl (by decide) ?_
          refine LS.s rfl rfl rfl rfl (by decide) ?_
          refine LS.s rfl rfl rfl rfl (by decide) ?_
          refine LS.s rfl rfl rfl rfl (by decide) ?_
          refine LS.s rfl rfl rfl rfl (by decide) ?_
          refine LS.s rfl rfl rfl rfl (by decide) ?_
          refine LS.vv rfl rfl (by decide) (Val.cast (v := .bool true) (Val.pickT rfl rfl rfl) (by first | rfl | (exfalso; omega) | (refine congrArg Value.bool (decide_eq_true ?_); omega))) ?_
          refine LS.vv rfl rfl (by decide) (Val.assign rfl) ?_
          refine LS.nil ?_
          refine W.ret ?_
          refine ret1 (by first | exact .inl rfl | exact .inr rfl) rfl ?_
          first | exact ⟨rfl, hB⟩ | (exfalso; omega)
        ·
          first | (have hg15p := of_decide_eq_false hg15) | skip
          refine LS.vg rfl rfl rfl hg15 (by decide) (Val.move rfl) ?_
          refine LS.vg rfl rfl rfl hg15 (by decide) (Val.len Try.underlying30 rfl) ?_
          refine LS.vg rfl rfl rfl hg15 (by decide) (Val.move rfl) ?_
          refine LS.vg rfl rfl rfl hg15 (by decide) (Val.len Try.underlying22 rfl) ?_
          refine LS.vg rfl rfl rfl hg15 (by decide) (Val.neq rfl rfl) ?_
          refine LS.vv rfl rfl (by decide) (Val.pickF rfl hg15 rfl) ?_
          refine LS.vv rfl rfl (by decide) (Val.move rfl) ?_
          refine LS.split 10 rfl (fun hg16 => ?_) (fun hg16 => ?_)
          ·
            first | (have hg16p := of_decide_eq_true hg16) | skip
            refine LS.s rfl rfl rfl hg16 (by decide) ?_
            refine LS.s rfl rfl rfl hg16 (by decide) ?_
            refine LS.s rfl rfl rfl hg16 (by decide) ?_
            refine LS.vv rfl rfl (by decide) (Val.pickT rfl hg16 rfl) ?_
            refine LS.vv rfl rfl (by decide) (Val.move rfl) ?_
            refine LS.s rfl rfl rfl rfl (by decide) ?_
            refine LS.s rfl rfl rfl rfl (by decide) ?_
            refine LS.s rfl rfl rfl rfl (by decide) ?_
            refine LS.s rfl rfl rfl rfl (by decide) ?_
            refine LS.s rfl rfl rfl rfl (by decide) ?_
            refine LS.s rfl rfl rfl rfl (by decide) ?_
            refine LS.vv rfl rfl (by decide) (Val.cast (v := .bool true) (Val.pickT rfl rfl rfl) (by first | rfl | (exfalso; omega) | (refine congrArg Value.bool (decide_eq_true ?_); omega))) ?_
            refine LS.vv rfl rfl (by decide) (Val.assign rfl) ?_
            refine LS.nil ?_
            refine W.ret ?_
            refine ret1 (by first | exact .inl rfl | exact .inr rfl) rfl ?_
            first | exact ⟨rfl, hB⟩ | (exfalso; omega)
          ·
            first | (have hg16p := of_decide_eq_false hg16) | skip
            refine LS.vg rfl rfl rfl hg16 (by decide) (Val.move rfl) ?_
            have hcod := hcb.1 (by simp_all)
            have hcd := (coded_iff C).1 hcod
            refine LS.mg rfl rfl hg16 (Step.call body21 rfl rfl (by decide) rfl (CallsV.mono (rprefix_any C _ _ _ _ (hc.below hB) rfl (by omega)) ?_))
            rintro _ w21 ⟨pb, rfl, hpb, hb21⟩
            replace hM := hM.below hb21
            replace hB := hB.trans (hb21.mono hB.size)
            refine LS.vg rfl rfl rfl hg16 (by decide) (Val.not rfl) ?_
            refine LS.vv rfl rfl (by decide) (Val.pickF rfl hg16 rfl) ?_
            refine LS.vv rfl rfl (by decide) (Val.move rfl) ?_
            refine LS.split 15 rfl (fun hg17 => ?_) (fun hg17 => ?_)
            ·
              first | (have hg17p := of_decide_eq_true hg17) | skip
              refine LS.s rfl rfl rfl hg17 (by decide) ?_
              refine LS.s rfl rfl rfl hg17 (by decide) ?_
              refine LS.s rfl rfl rfl hg17 (by decide) ?_
              refine LS.s rfl rfl rfl hg17 (by decide) ?_
              refine LS.s rfl rfl rfl hg17 (by decide) ?_
              refine LS.s rfl rfl rfl hg17 (by decide) ?_
              refine LS.vv rfl rfl (by decide) (Val.cast (v := .bool true) (Val.pickT rfl hg17 rfl) (by first | rfl | (exfalso; omega) | (refine congrArg Value.bool (decide_eq_true ?_); omega))) ?_
              refine LS.vv rfl rfl (by decide) (Val.assign rfl) ?_
              refine LS.nil ?_
              refine W.ret ?_
              refine ret1 (by first | exact .inl rfl | exact .inr rfl) rfl ?_
              first | exact ⟨rfl, hB⟩ | (exfalso; omega)
            ·
              first | (have hg17p := of_decide_eq_false hg17) | skip
              refine LS.vg rfl rfl rfl hg17 (by decide) (Val.move rfl) ?_
              refine LS.vg rfl rfl rfl hg17 (by decide) (Val.move rfl) ?_
              have hfree := hpb.1 (by simp_all)
              refine LS.mg rfl rfl hg17 (Step.call body16 rfl rfl (by decide) rfl (CallsV.mono (lensC_any C _ _ _ _ (hc.below hB) rfl (by omega)) ?_))
              rintro _ w22 ⟨p9, c9, rfl, hO9, hb22⟩
              replace hM := hM.add hB.size hb22 hO9
              replace hB := hB.trans (hb22.mono hB.size)
              have hcl := codeOf_len C
              have hlc8 : ∀ x ∈ lensTo (codeOf C) C.length, x ≤ 8 := by rw [← hcl]; exact lensTo_le hcod.2
              have hlcl : (lensTo (codeOf C) C.length).length = C.length := lensTo_len _ _
              refine LS.mg rfl rfl hg17 (Step.call body13 rfl rfl (by decide) rfl (CallsV.mono (refCosts_any ws (lensTo (codeOf C) C.length) _ _ _ _ _ _ _ (hr2.below hB) (hM.o0.rd) (by omega) hlcl (by omega) hwn hlc8 hws8) ?_))
              rintro _ w23 ⟨rfl, hb23⟩
              replace hM := hM.below hb23
              replace hB := hB.trans (hb23.mono hB.size)
              refine LS.vg rfl rfl rfl hg17 (by decide) (Val.move rfl) ?_
              have hrm : kr (lensTo (codeOf C) C.length) ≤ 256 := by { have h1 := sumTo_room (codeOf C); rw [hcl] at h1; rw [← sum_kr, hlcl, h1]; exact kraft hfree hcod.2 }
              have hlow := hl2.low _ (by omega) hlc8 hrm
              refine LS.vg rfl rfl rfl hg17 (by decide) (Val.geq rfl rfl) ?_
              refine LS.vv rfl rfl (by decide) (Val.cast (v := .bool true) (Val.pickF rfl hg17 rfl) (by first | rfl | (exfalso; omega) | (refine congrArg Value.bool (decide_eq_true ?_); omega))) ?_
              refine LS.vv rfl rfl (by decide) (Val.assign rfl) ?_
              refine LS.nil ?_
              refine W.ret ?_
              refine ret1 (by first | exact .inl rfl | exact .inr rfl) rfl ?_
              first | exact ⟨rfl, hB⟩ | (exfalso; omega)

end Go.Proofs.Ytohflgcbpmoinaa
