/-
  The statement UniqueKraft.
-/
import Derived.Test.YtbfcmfjdjldepaaUnique3
import Derived.Test.YtbfcmfjdjldepaaPrefix3
namespace Go.Proofs.Ytbfcmfjdjldepaa
open Go Go.RowKit V
set_option linter.unusedVariables false
set_option linter.unusedSimpArgs false

theorem uniqueKraft_any (C : List Wd) (p : Option Addr) (c m : Nat) (w0 : World) (hr : RdW w0 p C) (hm : C.length = m) (hmx : m * 8 ≤ 140737488355328) :
    CallsV Try.prog 8 #[.slice p m c] w0 (fun v w => v = .bool true ∧ Below w0.heap.size w0 w) := by
  refine enter1 Try.func8 rfl Try.ntmps8 (by simp) rfl ?_
  have hB := Below.refl w0.heap.size w0
  simp only [argLoc]
  have hM := Mem.nil w0 w0.heap.size
  subst hm
  have hh := hr.head
  refine W.seqR ?_
  refine LS.vv rfl rfl (by decide) (Val.assign rfl) ?_
  refine LS.nil ?_
  refine W.seqR ?_
  refine LS.vv rfl rfl (by decide) (Val.move rfl) ?_
  refine LS.m rfl (Step.call body22 rfl rfl (by decide) rfl (CallsV.mono (uniq_any C _ _ _ _ (hr.below hB) rfl) ?_))
  rintro _ w1 ⟨is, e, rfl, he, hif, hb1⟩
  replace hM := hM.below hb1
  replace hB := hB.trans (hb1.mono hB.size)
  refine LS.vv rfl rfl (by decide) (Val.move rfl) ?_
  refine LS.vv rfl rfl (by decide) (Val.extract rfl rfl) ?_
  refine LS.vv rfl rfl (by decide) (Val.extract rfl rfl) ?_
  refine LS.vv rfl rfl (by decide) (Val.assign rfl) ?_
  refine LS.vv rfl rfl (by decide) (Val.assign rfl) ?_
  refine LS.nil ?_
  refine W.seqR ?_
  refine LS.vv rfl rfl (by decide) (Val.move rfl) ?_
  refine LS.m rfl (Step.call body12 rfl rfl (by decide) rfl (CallsV.mono (lens_any C _ _ _ _ (hr.below hB) rfl hmx) ?_))
  rintro _ w2 ⟨pl, cl, rfl, hO, hb2⟩
  replace hM := hM.add hB.size hb2 hO
  replace hB := hB.trans (hb2.mono hB.size)
  refine LS.m rfl (Step.call body11 rfl rfl (by decide) rfl (CallsV.mono (sum_any ((lensTo (codeOf C) C.length).map fun x : Nat => (x : Int)) _ _ _ _ (by rw [← nv_iv]; exact hM.o0.rd) (by rw [List.length_map, lensTo_len]) (by omega)) ?_))
  rintro _ w3 ⟨sn, f, rfl, hf, hsn, hsn0, hb3⟩
  replace hM := hM.below hb3
  replace hB := hB.trans (hb3.mono hB.size)
  rw [toNat_back] at hsn
  refine LS.vv rfl rfl (by decide) (Val.move rfl) ?_
  refine LS.vv rfl rfl (by decide) (Val.extract rfl rfl) ?_
  refine LS.vv rfl rfl (by decide) (Val.extract rfl rfl) ?_
  refine LS.vv rfl rfl (by decide) (Val.assign rfl) ?_
  refine LS.vv rfl rfl (by decide) (Val.assign rfl) ?_
  refine LS.nil ?_
  refine W.seq ?_
  refine W.seqR ?_
  refine LS.vv rfl rfl (by decide) (Val.move rfl) ?_
  refine LS.m rfl (Step.call body13 rfl rfl (by decide) rfl (CallsV.mono (codedB_any C _ _ _ _ (hr.below hB) rfl) ?_))
  rintro _ w4 ⟨cb, rfl, hcb, hb4⟩
  replace hM := hM.below hb4
  replace hB := hB.trans (hb4.mono hB.size)
  refine LS.vv rfl rfl (by decide) (Val.not rfl) ?_
  refine LS.nil ?_
  first | refine W.condD rfl (fun hc1 => ?_) (fun hc1 => ?_) | refine W.cond rfl (fun hc1 => ?_) (fun hc1 => ?_)
  ·
    refine W.seqR ?_
    refine LS.vv rfl rfl (by decide) (Val.move rfl) ?_
    have hnc : ¬ Coded (codeOf C) := fun h => by have := hcb.2 h; simp_all
    have he9 : e ≠ 0 := fun h => hnc (he.1 h)
    have hf9 : f ≠ 0 := fun h => hnc ((coded_iff C).2 ⟨(hf.1 h).1, fun i hi => by have := (hf.1 h).2 ((gW C i).l.length : Int) (List.mem_map.2 ⟨(gW C i).l.length, List.mem_map.2 ⟨i, List.mem_range.2 hi, by rw [codeOf_gw]⟩, rfl⟩); omega⟩)
    refine LS.vv rfl rfl (by decide) (Val.cast (v := .bool true) (Val.neq rfl rfl) (by refine congrArg Value.bool (decide_eq_true ?_); first | omega | (simp; omega))) ?_
    refine LS.vv rfl rfl (by decide) (Val.move rfl) ?_
    refine LS.vg rfl rfl rfl rfl (by decide) (Val.move rfl) ?_
    refine LS.vg rfl rfl rfl rfl (by decide) (Val.cast (v := .bool true) (Val.neq rfl rfl) (by refine congrArg Value.bool (decide_eq_true ?_); first | omega | (simp; omega))) ?_
    refine LS.vv rfl rfl (by decide) (Val.pickT rfl rfl rfl) ?_
    refine LS.vv rfl rfl (by decide) (Val.assign rfl) ?_
    refine LS.nil ?_
    refine W.ret ?_
    refine thenP_ret ?_
    refine ret1 (by first | exact .inl rfl | exact .inr rfl) rfl ?_
    first | exact ⟨rfl, hB⟩ | contradiction | (exfalso; omega) | (exfalso; simp_all; done)
  ·
    refine W.skip ?_
    refine thenP_normal ?_
    refine W.seqR ?_
    refine LS.vv rfl rfl (by decide) (Val.move rfl) ?_
    have hcd : Coded (codeOf C) := hcb.1 (by simp_all)
    have hc8 := ((coded_iff C).1 hcd).1
    have hcc := (coded_iff C).1 hcd
    have he0 := he.2 hcd
    have hf0 : f = 0 := hf.2 ⟨hc8, fun z hz => by obtain ⟨x, hx, rfl⟩ := List.mem_map.1 hz; obtain ⟨i, hi, rfl⟩ := List.mem_map.1 hx; rw [List.mem_range] at hi; have := hcc.2 i hi; rw [codeOf_gw]; omega⟩
    have hroom := sumTo_room (codeOf C)
    rw [codeOf_len] at hroom
    have hsn1 := hsn hf0
    rw [hroom] at hsn1
    have hkr : is = true → room 8 (codeOf C) ≤ 256 := fun h => mcmillan ((hif he0).1 h) hcd.2
    have hud0 : C.length = 0 → is = true := fun h => (hif he0).2 (ud_nil (by rw [codeOf_len]; exact h))
    refine LS.vv rfl rfl (by decide) (Val.cast (v := .bool true) (Val.eql rfl rfl) (by refine congrArg Value.bool (decide_eq_true ?_); first | omega | (simp; omega))) ?_
    refine LS.vv rfl rfl (by decide) (Val.move rfl) ?_
    refine LS.vg rfl rfl rfl rfl (by decide) (Val.move rfl) ?_
    refine LS.vg rfl rfl rfl rfl (by decide) (Val.cast (v := .bool true) (Val.eql rfl rfl) (by refine congrArg Value.bool (decide_eq_true ?_); first | omega | (simp; omega))) ?_
    refine LS.vv rfl rfl (by decide) (Val.pickT rfl rfl rfl) ?_
    refine LS.vv rfl rfl (by decide) (Val.move rfl) ?_
    refine LS.vg rfl rfl rfl rfl (by decide) (Val.move rfl) ?_
    refine LS.vg rfl rfl rfl rfl (by decide) (Val.not rfl) ?_
    refine LS.vg rfl rfl rfl rfl (by decide) (Val.move rfl) ?_
    refine LS.split 9 rfl (fun hg2 => ?_) (fun hg2 => ?_)
    ·
      first | (have hg2p := of_decide_eq_true hg2) | skip
      refine LS.s rfl rfl rfl hg2 (by decide) ?_
      refine LS.s rfl rfl rfl hg2 (by decide) ?_
      refine LS.vg rfl rfl rfl rfl (by decide) (Val.pickT rfl hg2 rfl) ?_
      refine LS.vv rfl rfl (by decide) (Val.pickT rfl rfl rfl) ?_
      refine LS.vv rfl rfl (by decide) (Val.move rfl) ?_
      refine LS.vg rfl rfl rfl rfl (by decide) (Val.move rfl) ?_
      refine LS.vg rfl rfl rfl rfl (by decide) (Val.len Try.underlying22 rfl) ?_
      refine LS.vg rfl rfl rfl rfl (by decide) (Val.gtr rfl rfl) ?_
      refine LS.vg rfl rfl rfl rfl (by decide) (Val.move rfl) ?_
      refine LS.split 18 rfl (fun hg3 => ?_) (fun hg3 => ?_)
      ·
        first | (have hg3p := of_decide_eq_true hg3) | skip
        refine LS.s rfl rfl rfl hg3 (by decide) ?_
        refine LS.vg rfl rfl rfl rfl (by decide) (Val.pickT rfl hg3 rfl) ?_
        refine LS.vv rfl rfl (by decide) (Val.pickT rfl rfl rfl) ?_
        refine LS.vv rfl rfl (by decide) (Val.assign rfl) ?_
        refine LS.nil ?_
        refine W.ret ?_
        refine ret1 (by first | exact .inl rfl | exact .inr rfl) rfl ?_
        first | exact ⟨rfl, hB⟩ | contradiction | (exfalso; omega) | (exfalso; simp_all; done)
      ·
        first | (have hg3p := of_decide_eq_false hg3) | skip
        refine LS.vg rfl rfl rfl hg3 (by decide) (Val.cast (v := .bool true) (Val.move rfl) (by exact congrArg Value.bool (hud0 (by omega)))) ?_
        refine LS.vg rfl rfl rfl rfl (by decide) (Val.pickF rfl hg3 rfl) ?_
        refine LS.vv rfl rfl (by decide) (Val.pickT rfl rfl rfl) ?_
        refine LS.vv rfl rfl (by decide) (Val.assign rfl) ?_
        refine LS.nil ?_
        refine W.ret ?_
        refine ret1 (by first | exact .inl rfl | exact .inr rfl) rfl ?_
        first | exact ⟨rfl, hB⟩ | contradiction | (exfalso; omega) | (exfalso; simp_all; done)
    ·
      first | (have hg2p := of_decide_eq_false hg2) | skip
      refine LS.vg rfl rfl rfl hg2 (by decide) (Val.move rfl) ?_
      refine LS.vg rfl rfl rfl hg2 (by decide) (Val.cast (v := .bool true) (Val.leq rfl rfl) (by refine congrArg Value.bool (decide_eq_true ?_); have := hkr (by simp_all); omega)) ?_
      refine LS.vg rfl rfl rfl rfl (by decide) (Val.pickF rfl hg2 rfl) ?_
      refine LS.vv rfl rfl (by decide) (Val.pickT rfl rfl rfl) ?_
      refine LS.vv rfl rfl (by decide) (Val.move rfl) ?_
      refine LS.vg rfl rfl rfl rfl (by decide) (Val.move rfl) ?_
      refine LS.vg rfl rfl rfl rfl (by decide) (Val.len Try.underlying22 rfl) ?_
      refine LS.vg rfl rfl rfl rfl (by decide) (Val.gtr rfl rfl) ?_
      refine LS.vg rfl rfl rfl rfl (by decide) (Val.move rfl) ?_
      refine LS.split 18 rfl (fun hg4 => ?_) (fun hg4 => ?_)
      ·
        first | (have hg4p := of_decide_eq_true hg4) | skip
        refine LS.s rfl rfl rfl hg4 (by decide) ?_
        refine LS.vg rfl rfl rfl rfl (by decide) (Val.pickT rfl hg4 rfl) ?_
        refine LS.vv rfl rfl (by decide) (Val.pickT rfl rfl rfl) ?_
        refine LS.vv rfl rfl (by decide) (Val.assign rfl) ?_
        refine LS.nil ?_
        refine W.ret ?_
        refine ret1 (by first | exact .inl rfl | exact .inr rfl) rfl ?_
        first | exact ⟨rfl, hB⟩ | contradiction | (exfalso; omega) | (exfalso; simp_all; done)
      ·
        first | (have hg4p := of_decide_eq_false hg4) | skip
        refine LS.vg rfl rfl rfl hg4 (by decide) (Val.cast (v := .bool true) (Val.move rfl) (by exact congrArg Value.bool (hud0 (by omega)))) ?_
        refine LS.vg rfl rfl rfl rfl (by decide) (Val.pickF rfl hg4 rfl) ?_
        refine LS.vv rfl rfl (by decide) (Val.pickT rfl rfl rfl) ?_
        refine LS.vv rfl rfl (by decide) (Val.assign rfl) ?_
        refine LS.nil ?_
        refine W.ret ?_
        refine ret1 (by first | exact .inl rfl | exact .inr rfl) rfl ?_
        first | exact ⟨rfl, hB⟩ | contradiction | (exfalso; omega) | (exfalso; simp_all; done)

end Go.Proofs.Ytbfcmfjdjldepaa
