/-
  The statement HammPerfect.
-/
import Derived.Test.YtbbmgcmibgdkiaaHammF
import Derived.Test.YtbbmgcmibgdkiaaRefs
namespace Go.Proofs.Ytbbmgcmibgdkiaa
open Go Go.RowKit V
set_option linter.unusedVariables false

theorem boolsEq_len (xs ys : List Bool) (p q : Option Addr) (c d m n : Nat) (w0 : World) (hr1 : Rd w0 p (bv xs)) (hr2 : Rd w0 q (bv ys)) (hl1 : xs.length ≤ 9223372036854775807) (hm : xs.length = m) (hn : ys.length = n) :
    CallsV Try.prog 21 #[.slice p m c, .slice q n d] w0 (fun v w => v = .bool (decide (xs = ys)) ∧ Below w0.heap.size w0 w) := by
  subst hm; subst hn; exact boolsEq_any xs ys p q c d w0 hr1 hr2 hl1

theorem hammPerfect_any (r : Int) (d : List Bool) (p : Option Addr) (c : Nat) (w0 : World) (hr : Rd w0 p (bv d)) (hl9 : d.length ≤ 9223372036854775807) :
    CallsV Try.prog 7 #[.int .i64 r, .slice p d.length c] w0 (fun v w => v = .bool true ∧ Below w0.heap.size w0 w) := by
  refine enter1 Try.func7 rfl Try.ntmps7 (by simp) rfl ?_
  have hB := Below.refl w0.heap.size w0
  simp only [argLoc, Nat.zero_add]
  refine W.seqR ?_
  refine LS.vv rfl rfl (by decide) (Val.assign rfl) ?_
  refine LS.nil ?_
  refine W.seqR ?_
  refine LS.vv rfl rfl (by decide) (Val.move rfl) ?_
  refine LS.vv rfl rfl (by decide) (Val.move rfl) ?_
  refine LS.m rfl (Step.call body25 rfl rfl (by decide) rfl (CallsV.mono (Fix_any r d _ _ _ (hr.below hB)) ?_))
  rintro _ w1 ⟨p1, c1, D, P, e, rfl, hO, he, hD, hD0, hb1⟩
  replace hB := hB.trans (hb1.mono hB.size)
  refine LS.vv rfl rfl (by decide) (Val.move rfl) ?_
  refine LS.vv rfl rfl (by decide) (Val.extract rfl rfl) ?_
  refine LS.vv rfl rfl (by decide) (Val.extract rfl rfl) ?_
  refine LS.vv rfl rfl (by decide) (Val.extract rfl rfl) ?_
  refine LS.vv rfl rfl (by decide) (Val.assign rfl) ?_
  refine LS.vv rfl rfl (by decide) (Val.assign rfl) ?_
  refine LS.vv rfl rfl (by decide) (Val.assign rfl) ?_
  refine LS.nil ?_
  refine W.seq ?_
  refine W.seqR ?_
  refine LS.vv rfl rfl (by decide) (Val.move rfl) ?_
  refine LS.vv rfl rfl (by decide) (Val.lss rfl rfl) ?_
  refine LS.vv rfl rfl (by decide) (Val.move rfl) ?_
  refine LS.split 2 rfl (fun hg1 => ?_) (fun hg1 => ?_)
  ·
    first | (have hg1p := of_decide_eq_true hg1) | skip
    refine LS.s rfl rfl rfl hg1 (by decide) ?_
    refine LS.s rfl rfl rfl hg1 (by decide) ?_
    refine LS.vv rfl rfl (by decide) (Val.pickT rfl hg1 rfl) ?_
    refine LS.vv rfl rfl (by decide) (Val.move rfl) ?_
    refine LS.s rfl rfl rfl rfl (by decide) ?_
    refine LS.s rfl rfl rfl rfl (by decide) ?_
    refine LS.s rfl rfl rfl rfl (by decide) ?_
    refine LS.s rfl rfl rfl rfl (by decide) ?_
    refine LS.s rfl rfl rfl rfl (by decide) ?_
    refine LS.s rfl rfl rfl rfl (by decide) ?_
    refine LS.s rfl rfl rfl rfl (by decide) ?_
    refine LS.vv rfl rfl (by decide) (Val.pickT rfl rfl rfl) ?_
    refine LS.nil ?_
    refine W.condT rfl ?_
    refine W.seqR ?_
    refine LS.vv rfl rfl (by decide) (Val.move rfl) ?_
    refine LS.vv rfl rfl (by decide) (Val.cast (v := .bool true) (Val.neq rfl rfl) (by refine congrArg Value.bool (decide_eq_true ?_); intro h0; have hq := he.1 (by omega); omega)) ?_
    refine LS.vv rfl rfl (by decide) (Val.assign rfl) ?_
    refine LS.nil ?_
    refine W.ret ?_
    refine thenP_ret ?_
    refine ret1 (by first | exact .inl rfl | exact .inr rfl) rfl ?_
    first | exact ⟨rfl, hB⟩ | contradiction | (exfalso; omega)
  ·
    first | (have hg1p := of_decide_eq_false hg1) | skip
    refine LS.vg rfl rfl rfl hg1 (by decide) (Val.move rfl) ?_
    refine LS.vg rfl rfl rfl hg1 (by decide) (Val.gtr rfl rfl) ?_
    refine LS.vv rfl rfl (by decide) (Val.pickF rfl hg1 rfl) ?_
    refine LS.vv rfl rfl (by decide) (Val.move rfl) ?_
    refine LS.split 6 rfl (fun hg2 => ?_) (fun hg2 => ?_)
    ·
      first | (have hg2p := of_decide_eq_true hg2) | skip
      refine LS.s rfl rfl rfl hg2 (by decide) ?_
      refine LS.s rfl rfl rfl hg2 (by decide) ?_
      refine LS.s rfl rfl rfl hg2 (by decide) ?_
      refine LS.s rfl rfl rfl hg2 (by decide) ?_
      refine LS.s rfl rfl rfl hg2 (by decide) ?_
      refine LS.s rfl rfl rfl hg2 (by decide) ?_
      refine LS.s rfl rfl rfl hg2 (by decide) ?_
      refine LS.vv rfl rfl (by decide) (Val.pickT rfl hg2 rfl) ?_
      refine LS.nil ?_
      refine W.condT rfl ?_
      refine W.seqR ?_
      refine LS.vv rfl rfl (by decide) (Val.move rfl) ?_
      refine LS.vv rfl rfl (by decide) (Val.cast (v := .bool true) (Val.neq rfl rfl) (by refine congrArg Value.bool (decide_eq_true ?_); intro h0; have hq := he.1 (by omega); omega)) ?_
      refine LS.vv rfl rfl (by decide) (Val.assign rfl) ?_
      refine LS.nil ?_
      refine W.ret ?_
      refine thenP_ret ?_
      refine ret1 (by first | exact .inl rfl | exact .inr rfl) rfl ?_
      first | exact ⟨rfl, hB⟩ | contradiction | (exfalso; omega)
    ·
      first | (have hg2p := of_decide_eq_false hg2) | skip
      refine LS.vg rfl rfl rfl hg2 (by decide) (Val.move rfl) ?_
      refine LS.vg rfl rfl rfl hg2 (by decide) (Val.len Try.underlying23 rfl) ?_
      refine LS.vg rfl rfl rfl hg2 (by decide) (Val.move rfl) ?_
      refine LS.vg rfl rfl rfl hg2 (by decide) (Val.conv rfl Try.underlying3 Try.underlying38 (IntWalk.u64_in _ (by omega))) ?_
      obtain ⟨m, hm⟩ := Int.eq_ofNat_of_zero_le (show 0 ≤ r by omega)
      subst hm
      simp only [Int.toNat_natCast] at *
      have hp2 : 2 ^ 2 ≤ 2 ^ m := Nat.pow_le_pow_right (by omega) (by omega)
      have hp4 : 2 ^ m ≤ 2 ^ 4 := Nat.pow_le_pow_right (by omega) (by omega)
      have hsh : (1 : Nat) <<< m = 2 ^ m := by rw [Nat.shiftLeft_eq, Nat.one_mul]
      have hmn : m + 1 ≤ 2 ^ m := Nat.lt_two_pow_self
      refine LS.vg rfl rfl rfl hg2 (by decide) (Val.cast (v := .int .i64 ((2 ^ m : Nat) : Int)) (Val.shl64 (i := 1) rfl rfl (by omega) (by omega)) (by exact pow_cast m)) ?_
      refine LS.vg rfl rfl rfl hg2 (by decide) (Val.subN (j := 1) rfl rfl (by omega) (by omega)) ?_
      refine LS.vg rfl rfl rfl hg2 (by decide) (Val.neq rfl rfl) ?_
      refine LS.vv rfl rfl (by decide) (Val.pickF rfl hg2 rfl) ?_
      refine LS.nil ?_
      first | refine W.condD rfl (fun hc3 => ?_) (fun hc3 => ?_) | refine W.cond rfl (fun hc3 => ?_) (fun hc3 => ?_)
      ·
        refine W.seqR ?_
        refine LS.vv rfl rfl (by decide) (Val.move rfl) ?_
        refine LS.vv rfl rfl (by decide) (Val.cast (v := .bool true) (Val.neq rfl rfl) (by refine congrArg Value.bool (decide_eq_true ?_); intro h0; have hq := he.1 (by omega); omega)) ?_
        refine LS.vv rfl rfl (by decide) (Val.assign rfl) ?_
        refine LS.nil ?_
        refine W.ret ?_
        refine thenP_ret ?_
        refine ret1 (by first | exact .inl rfl | exact .inr rfl) rfl ?_
        first | exact ⟨rfl, hB⟩ | contradiction | (exfalso; omega)
      ·
        refine W.skip ?_
        refine thenP_normal ?_
        refine W.seqR ?_
        refine LS.vv rfl rfl (by decide) (Val.move rfl) ?_
        refine LS.vv rfl rfl (by decide) (Val.move rfl) ?_
        have hE : e = 0 := he.2 ⟨by omega, by omega, by omega⟩
        obtain ⟨rfl, rfl⟩ := hD hE
        have hdl : d.length = 2 ^ m - 1 := by omega
        have hml := mended_len d
        have hpm := pt_mended hdl
        have hwd := word_dat (show 2 ≤ m by omega) (show m ≤ 4 by omega) (hml.trans hdl) hpm
        have hcn := (pw_iff (show 2 ≤ m by omega) (show m ≤ 4 by omega) (show 0 < 2 ^ m - 1 by omega)).2
        have hDl := datTo_len (mended d) (2 ^ m - 1)
        rw [hcn] at hDl
        have hplt : pt d < 2 ^ m := ptTo_lt (by omega)
        refine LS.m rfl (Step.call body24 rfl rfl (by decide) rfl (CallsV.mono (Put_any _ (datTo (mended d) (2 ^ m - 1)) _ _ _ hO.rd) ?_))
        rintro _ w2 ⟨p2, c2, M, f, rfl, hOm, hf, hM, _, hb2⟩
        replace hB := hB.trans (hb2.mono hB.size)
        have hF : f = 0 := hf.2 ⟨by omega, by omega, by rw [Int.toNat_natCast]; exact hDl⟩
        have hM2 := hM hF
        rw [Int.toNat_natCast, hwd] at hM2
        subst hM2
        refine LS.vv rfl rfl (by decide) (Val.move rfl) ?_
        refine LS.vv rfl rfl (by decide) (Val.extract rfl rfl) ?_
        refine LS.vv rfl rfl (by decide) (Val.extract rfl rfl) ?_
        refine LS.vv rfl rfl (by decide) (Val.assign rfl) ?_
        refine LS.vv rfl rfl (by decide) (Val.assign rfl) ?_
        refine LS.nil ?_
        refine W.seqR ?_
        refine LS.vv rfl rfl (by decide) (Val.move rfl) ?_
        refine LS.vv rfl rfl (by decide) (Val.cast (v := .bool true) (Val.eql rfl rfl) (by first | (simp; done) | (simp; omega))) ?_
        refine LS.vv rfl rfl (by decide) (Val.move rfl) ?_
        refine LS.vg rfl rfl rfl rfl (by decide) (Val.move rfl) ?_
        refine LS.vg rfl rfl rfl rfl (by decide) (Val.cast (v := .bool true) (Val.eql rfl rfl) (by first | (simp; done) | (simp; omega))) ?_
        refine LS.vv rfl rfl (by decide) (Val.pickT rfl rfl rfl) ?_
        refine LS.vv rfl rfl (by decide) (Val.move rfl) ?_
        refine LS.vg rfl rfl rfl rfl (by decide) (Val.move rfl) ?_
        refine LS.vg rfl rfl rfl rfl (by decide) (Val.len Try.underlying23 rfl) ?_
        refine LS.vg rfl rfl rfl rfl (by decide) (Val.move rfl) ?_
        refine LS.vg rfl rfl rfl rfl (by decide) (Val.len Try.underlying23 rfl) ?_
        refine LS.vg rfl rfl rfl rfl (by decide) (Val.cast (v := .bool true) (Val.eql rfl rfl) (by refine congrArg Value.bool (decide_eq_true ?_); omega)) ?_
        refine LS.vv rfl rfl (by decide) (Val.pickT rfl rfl rfl) ?_
        refine LS.vv rfl rfl (by decide) (Val.move rfl) ?_
        refine LS.vg rfl rfl rfl rfl (by decide) (Val.move rfl) ?_
        refine LS.vg rfl rfl rfl rfl (by decide) (Val.eql rfl rfl) ?_
        refine LS.vg rfl rfl rfl rfl (by decide) (Val.move rfl) ?_
        refine LS.split 16 rfl (fun hg4 => ?_) (fun hg4 => ?_)
        ·
          first | (have hg4p := of_decide_eq_true hg4) | skip
          refine LS.vg rfl rfl rfl hg4 (by decide) (Val.move rfl) ?_
          refine LS.vg rfl rfl rfl hg4 (by decide) (Val.move rfl) ?_
          have hp0 : pt d = 0 := by (have hx := of_decide_eq_true ‹decide ((pt d : Int) = _) = true›; omega)
          refine LS.mg rfl rfl hg4 (Step.call body21 rfl rfl (by decide) rfl (CallsV.mono (boolsEq_any (mended d) d _ _ _ _ _ hOm.rd (hr.below hB) (by omega)) ?_))
          rintro _ w3 ⟨rfl, hb3⟩
          replace hB := hB.trans (hb3.mono hB.size)
          rw [show decide (mended d = d) = true from decide_eq_true (mended_zero hp0)]
          refine LS.vg rfl rfl rfl rfl (by decide) (Val.pickT rfl hg4 rfl) ?_
          refine LS.vg rfl rfl rfl rfl (by decide) (Val.move rfl) ?_
          refine LS.s rfl rfl rfl rfl (by decide) ?_
          refine LS.s rfl rfl rfl rfl (by decide) ?_
          refine LS.s rfl rfl rfl rfl (by decide) ?_
          refine LS.skipU rfl rfl rfl (by decide) ?_
          refine LS.skipU rfl rfl rfl (by decide) ?_
          refine LS.skipU rfl rfl rfl (by decide) ?_
          refine LS.skipU rfl rfl rfl (by decide) ?_
          refine LS.s rfl rfl rfl rfl (by decide) ?_
          refine LS.s rfl rfl rfl rfl (by decide) ?_
          refine LS.skipU rfl rfl rfl (by decide) ?_
          refine LS.skipU rfl rfl rfl (by decide) ?_
          refine LS.skipU rfl rfl rfl (by decide) ?_
          refine LS.skipU rfl rfl rfl (by decide) ?_
          refine LS.skipU rfl rfl rfl (by decide) ?_
          refine LS.skipU rfl rfl rfl (by decide) ?_
          refine LS.skipU rfl rfl rfl (by decide) ?_
          refine LS.s rfl rfl rfl rfl (by decide) ?_
          refine LS.vg rfl rfl rfl rfl (by decide) (Val.pickT rfl rfl rfl) ?_
          refine LS.vv rfl rfl (by decide) (Val.pickT rfl rfl rfl) ?_
          refine LS.vv rfl rfl (by decide) (Val.assign rfl) ?_
          refine LS.nil ?_
          refine W.ret ?_
          refine ret1 (by first | exact .inl rfl | exact .inr rfl) rfl ?_
          first | exact ⟨rfl, hB⟩ | contradiction | (exfalso; omega)
        ·
          first | (have hg4p := of_decide_eq_false hg4) | skip
          refine LS.s rfl rfl rfl hg4 (by decide) ?_
          refine LS.s rfl rfl rfl hg4 (by decide) ?_
          refine LS.s rfl rfl rfl hg4 (by decide) ?_
          refine LS.vg rfl rfl rfl rfl (by decide) (Val.pickF rfl hg4 rfl) ?_
          refine LS.vg rfl rfl rfl rfl (by decide) (Val.move rfl) ?_
          refine LS.vg rfl rfl rfl rfl (by decide) (Val.move rfl) ?_
          have hp0 : pt d ≠ 0 := by (have hx := of_decide_eq_false ‹decide ((pt d : Int) = _) = false›; omega)
          refine LS.vg rfl rfl rfl rfl (by decide) (Val.cast (v := .bool true) (Val.gtr rfl rfl) (by simp; omega)) ?_
          refine LS.vg rfl rfl rfl rfl (by decide) (Val.move rfl) ?_
          refine LS.vg rfl rfl rfl rfl (by decide) (Val.move rfl) ?_
          refine LS.vg rfl rfl rfl rfl (by decide) (Val.move rfl) ?_
          refine LS.vg rfl rfl rfl rfl (by decide) (Val.len Try.underlying23 rfl) ?_
          refine LS.vg rfl rfl rfl rfl (by decide) (Val.cast (v := .bool true) (Val.leq rfl rfl) (by simp; omega)) ?_
          refine LS.vg rfl rfl rfl rfl (by decide) (Val.pickT rfl rfl rfl) ?_
          refine LS.vg rfl rfl rfl rfl (by decide) (Val.move rfl) ?_
          refine LS.vg rfl rfl rfl rfl (by decide) (Val.move rfl) ?_
          refine LS.vg rfl rfl rfl rfl (by decide) (Val.move rfl) ?_
          refine LS.vg rfl rfl rfl rfl (by decide) (Val.move rfl) ?_
          first | refine LS.vg rfl rfl rfl rfl (by decide) (Val.subN (j := 1) rfl rfl (by omega) (by omega)) ?_ | refine LS.vg rfl rfl rfl rfl (by decide) (Val.sub64 rfl rfl (by omega)) ?_
          refine LS.mg rfl rfl rfl (Step.lit (B := w0.heap.size) rfl rfl (by decide) Try.underlying69 elem3 rfl rfl (by omega) (by simp [Value.oneCell']) hB.size ?_)
          rintro w4 hO4 hg4 hbl4 hsz4
          replace hB := hB.trans (hbl4.mono hB.size)
          have hOp := hO4
          replace hOm := hOm.below hbl4
          refine LS.mg rfl rfl rfl (Step.call body26 rfl rfl (by decide) rfl (CallsV.mono (turned_any d _ _ d.length [pt d - 1] _ _ _ (hr.below hB) rfl (by omega) (by simpa [nv] using hOp.rd) (by simp) (by intro j hj; match j, hj with | 0, _ => exact (show pt d - 1 < d.length by omega))) ?_))
          rintro _ w5 ⟨p5, c5, rfl, hOt, hb5⟩
          replace hB := hB.trans (hb5.mono hB.size)
          replace hOm := hOm.below hb5
          have hft : flips d [pt d - 1] 1 = mended d := (mended_flip hp0).symm
          refine LS.mg rfl rfl rfl (Step.call body21 rfl rfl (by decide) rfl (CallsV.mono (boolsEq_len (mended d) (flips d [pt d - 1] 1) _ _ _ _ _ _ _ hOm.rd hOt.rd (by omega) rfl (by rw [hft]; exact hml)) ?_))
          rintro _ w6 ⟨rfl, hb6⟩
          replace hB := hB.trans (hb6.mono hB.size)
          rw [show decide (mended d = flips d [pt d - 1] 1) = true from decide_eq_true hft.symm]
          refine LS.vg rfl rfl rfl rfl (by decide) (Val.pickT rfl rfl rfl) ?_
          refine LS.vg rfl rfl rfl rfl (by decide) (Val.pickF rfl rfl rfl) ?_
          refine LS.vv rfl rfl (by decide) (Val.pickT rfl rfl rfl) ?_
          refine LS.vv rfl rfl (by decide) (Val.assign rfl) ?_
          refine LS.nil ?_
          refine W.ret ?_
          refine ret1 (by first | exact .inl rfl | exact .inr rfl) rfl ?_
          first | exact ⟨rfl, hB⟩ | contradiction | (exfalso; omega)

end Go.Proofs.Ytbbmgcmibgdkiaa
