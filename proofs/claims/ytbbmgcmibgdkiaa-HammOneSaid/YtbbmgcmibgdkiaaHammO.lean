/-
  The statement HammOne.
-/
import Derived.Test.YtbbmgcmibgdkiaaHammF
import Derived.Test.YtbbmgcmibgdkiaaRefs
namespace Go.Proofs.Ytbbmgcmibgdkiaa
open Go Go.RowKit V
set_option linter.unusedVariables false

theorem Fix_len (r : Int) (d : List Bool) (p : Option Addr) (c : Nat) (n : Nat) (w0 : World) (hr : Rd w0 p (bv d)) (hn : d.length = n) :
    CallsV Try.prog 25 #[.int .i64 r, .slice p n c] w0 (fun v w => ∃ (p2 : Option Addr) (c2 : Nat) (L : List Bool) (P e : Nat), v = .tuple #[.slice p2 L.length c2, .int .i64 (P : Int), .int .i64 (e : Int)] ∧ Own w w0.heap.size 4 p2 L.length c2 (bv L) ∧ (e = 0 ↔ 2 ≤ r ∧ r ≤ 4 ∧ d.length = 2 ^ r.toNat - 1) ∧ (e = 0 → L = datTo (mended d) (2 ^ r.toNat - 1) ∧ P = pt d) ∧ (e ≠ 0 → L = []) ∧ Below w0.heap.size w0 w) := by
  subst hn; exact Fix_any r d p c w0 hr

theorem hammOne_any (r : Int) (d : List Bool) (p : Option Addr) (c : Nat) (kk : Nat) (w0 : World) (hr : Rd w0 p (bv d)) (hl9 : d.length ≤ 9223372036854775807) (hk8 : kk < 256) :
    CallsV Try.prog 6 #[.int .i64 r, .slice p d.length c, .int .u8 (kk : Int)] w0 (fun v w => v = .bool true ∧ Below w0.heap.size w0 w) := by
  refine enter1 Try.func6 rfl Try.ntmps6 (by simp) rfl ?_
  have hB := Below.refl w0.heap.size w0
  simp only [argLoc, Nat.zero_add, Nat.reduceAdd]
  refine W.seqR ?_
  refine LS.vv rfl rfl (by decide) (Val.assign rfl) ?_
  refine LS.nil ?_
  refine W.seqR ?_
  refine LS.vv rfl rfl (by decide) (Val.move rfl) ?_
  refine LS.vv rfl rfl (by decide) (Val.move rfl) ?_
  refine LS.m rfl (Step.call body24 rfl rfl (by decide) rfl (CallsV.mono (Put_any r d _ _ _ (hr.below hB)) ?_))
  rintro _ w1 ⟨p1, c1, L, e, rfl, hO, he, hL, hL0, hb1⟩
  replace hB := hB.trans (hb1.mono hB.size)
  refine LS.vv rfl rfl (by decide) (Val.move rfl) ?_
  refine LS.vv rfl rfl (by decide) (Val.extract rfl rfl) ?_
  refine LS.vv rfl rfl (by decide) (Val.extract rfl rfl) ?_
  refine LS.vv rfl rfl (by decide) (Val.assign rfl) ?_
  refine LS.vv rfl rfl (by decide) (Val.assign rfl) ?_
  refine LS.nil ?_
  refine W.seq ?_
  refine W.seqR ?_
  refine LS.vv rfl rfl (by decide) (Val.move rfl) ?_
  refine LS.vv rfl rfl (by decide) (Val.lss rfl rfl) ?_
  refine LS.vv rfl rfl (by decide) (Val.move rfl) ?_
  refine LS.split 2 rfl (fun hg1 => ?_) (fun hg1 => ?_)
  ·
    first | (have hg1p := of_decide_eq_true hg1) | skip
    refine LS.s rfl rfl rfl hg1 (by decide) ?_
    refine LS.s rfl rfl rfl hg1 (by decide) ?_
    refine LS.vv rfl rfl (by decide) (Val.pickT rfl hg1 rfl) ?_
    refine LS.vv rfl rfl (by decide) (Val.move rfl) ?_
    refine LS.s rfl rfl rfl rfl (by decide) ?_
    refine LS.s rfl rfl rfl rfl (by decide) ?_
    refine LS.s rfl rfl rfl rfl (by decide) ?_
    refine LS.s rfl rfl rfl rfl (by decide) ?_
    refine LS.s rfl rfl rfl rfl (by decide) ?_
    refine LS.s rfl rfl rfl rfl (by decide) ?_
    refine LS.s rfl rfl rfl rfl (by decide) ?_
    refine LS.s rfl rfl rfl rfl (by decide) ?_
    refine LS.s rfl rfl rfl rfl (by decide) ?_
    refine LS.vv rfl rfl (by decide) (Val.pickT rfl rfl rfl) ?_
    refine LS.nil ?_
    refine W.condT rfl ?_
    refine W.seqR ?_
    refine LS.vv rfl rfl (by decide) (Val.move rfl) ?_
    refine LS.vv rfl rfl (by decide) (Val.cast (v := .bool true) (Val.neq rfl rfl) (by refine congrArg Value.bool (decide_eq_true ?_); intro h0; have hq := he.1 (by omega); omega)) ?_
    refine LS.vv rfl rfl (by decide) (Val.assign rfl) ?_
    refine LS.nil ?_
    refine W.ret ?_
    refine thenP_ret ?_
    refine ret1 (by first | exact .inl rfl | exact .inr rfl) rfl ?_
    first | exact ⟨rfl, hB⟩ | contradiction | (exfalso; omega)
  ·
    first | (have hg1p := of_decide_eq_false hg1) | skip
    refine LS.vg rfl rfl rfl hg1 (by decide) (Val.move rfl) ?_
    refine LS.vg rfl rfl rfl hg1 (by decide) (Val.gtr rfl rfl) ?_
    refine LS.vv rfl rfl (by decide) (Val.pickF rfl hg1 rfl) ?_
    refine LS.vv rfl rfl (by decide) (Val.move rfl) ?_
    refine LS.split 6 rfl (fun hg2 => ?_) (fun hg2 => ?_)
    ·
      first | (have hg2p := of_decide_eq_true hg2) | skip
      refine LS.s rfl rfl rfl hg2 (by decide) ?_
      refine LS.s rfl rfl rfl hg2 (by decide) ?_
      refine LS.s rfl rfl rfl hg2 (by decide) ?_
      refine LS.s rfl rfl rfl hg2 (by decide) ?_
      refine LS.s rfl rfl rfl hg2 (by decide) ?_
      refine LS.s rfl rfl rfl hg2 (by decide) ?_
      refine LS.s rfl rfl rfl hg2 (by decide) ?_
      refine LS.s rfl rfl rfl hg2 (by decide) ?_
      refine LS.s rfl rfl rfl hg2 (by decide) ?_
      refine LS.vv rfl rfl (by decide) (Val.pickT rfl hg2 rfl) ?_
      refine LS.nil ?_
      refine W.condT rfl ?_
      refine W.seqR ?_
      refine LS.vv rfl rfl (by decide) (Val.move rfl) ?_
      refine LS.vv rfl rfl (by decide) (Val.cast (v := .bool true) (Val.neq rfl rfl) (by refine congrArg Value.bool (decide_eq_true ?_); intro h0; have hq := he.1 (by omega); omega)) ?_
      refine LS.vv rfl rfl (by decide) (Val.assign rfl) ?_
      refine LS.nil ?_
      refine W.ret ?_
      refine thenP_ret ?_
      refine ret1 (by first | exact .inl rfl | exact .inr rfl) rfl ?_
      first | exact ⟨rfl, hB⟩ | contradiction | (exfalso; omega)
    ·
      first | (have hg2p := of_decide_eq_false hg2) | skip
      refine LS.vg rfl rfl rfl hg2 (by decide) (Val.move rfl) ?_
      refine LS.vg rfl rfl rfl hg2 (by decide) (Val.len Try.underlying23 rfl) ?_
      refine LS.vg rfl rfl rfl hg2 (by decide) (Val.move rfl) ?_
      refine LS.vg rfl rfl rfl hg2 (by decide) (Val.conv rfl Try.underlying3 Try.underlying38 (IntWalk.u64_in _ (by omega))) ?_
      obtain ⟨m, hm⟩ := Int.eq_ofNat_of_zero_le (show 0 ≤ r by omega)
      subst hm
      simp only [Int.toNat_natCast] at *
      have hp2 : 2 ^ 2 ≤ 2 ^ m := Nat.pow_le_pow_right (by omega) (by omega)
      have hp4 : 2 ^ m ≤ 2 ^ 4 := Nat.pow_le_pow_right (by omega) (by omega)
      have hsh : (1 : Nat) <<< m = 2 ^ m := by rw [Nat.shiftLeft_eq, Nat.one_mul]
      have hmn : m + 1 ≤ 2 ^ m := Nat.lt_two_pow_self
      refine LS.vg rfl rfl rfl hg2 (by decide) (Val.cast (v := .int .i64 ((2 ^ m : Nat) : Int)) (Val.shl64 (i := 1) rfl rfl (by omega) (by omega)) (by exact pow_cast m)) ?_
      refine LS.vg rfl rfl rfl hg2 (by decide) (Val.subN (j := 1) rfl rfl (by omega) (by omega)) ?_
      refine LS.vg rfl rfl rfl hg2 (by decide) (Val.move rfl) ?_
      refine LS.vg rfl rfl rfl hg2 (by decide) (Val.subN rfl rfl (by omega) (by omega)) ?_
      refine LS.vg rfl rfl rfl hg2 (by decide) (Val.neq rfl rfl) ?_
      refine LS.vv rfl rfl (by decide) (Val.pickF rfl hg2 rfl) ?_
      refine LS.nil ?_
      first | refine W.condD rfl (fun hc3 => ?_) (fun hc3 => ?_) | refine W.cond rfl (fun hc3 => ?_) (fun hc3 => ?_)
      ·
        refine W.seqR ?_
        refine LS.vv rfl rfl (by decide) (Val.move rfl) ?_
        refine LS.vv rfl rfl (by decide) (Val.cast (v := .bool true) (Val.neq rfl rfl) (by refine congrArg Value.bool (decide_eq_true ?_); intro h0; have hq := he.1 (by omega); omega)) ?_
        refine LS.vv rfl rfl (by decide) (Val.assign rfl) ?_
        refine LS.nil ?_
        refine W.ret ?_
        refine thenP_ret ?_
        refine ret1 (by first | exact .inl rfl | exact .inr rfl) rfl ?_
        first | exact ⟨rfl, hB⟩ | contradiction | (exfalso; omega)
      ·
        refine W.skip ?_
        refine thenP_normal ?_
        refine W.seq ?_
        refine W.seqR ?_
        refine LS.vv rfl rfl (by decide) (Val.move rfl) ?_
        have hE : e = 0 := he.2 ⟨by omega, by omega, by omega⟩
        obtain rfl := hL hE
        have hwl := wordOf_len m d
        have hptw := pt_word (show 2 ≤ m by omega) (show m ≤ 4 by omega) d
        have hdw := dat_word (show 2 ≤ m by omega) (show m ≤ 4 by omega) (show d.length = 2 ^ m - 1 - m by omega)
        rw [hwl]
        rw [hwl] at hO
        refine LS.vv rfl rfl (by decide) (Val.cast (v := .bool false) (Val.neq rfl rfl) (by simp; omega)) ?_
        refine LS.vv rfl rfl (by decide) (Val.move rfl) ?_
        refine LS.vg rfl rfl rfl rfl (by decide) (Val.move rfl) ?_
        refine LS.vg rfl rfl rfl rfl (by decide) (Val.len Try.underlying23 rfl) ?_
        refine LS.vg rfl rfl rfl rfl (by decide) (Val.move rfl) ?_
        refine LS.vg rfl rfl rfl rfl (by decide) (Val.conv rfl Try.underlying3 Try.underlying38 (IntWalk.u64_in _ (by omega))) ?_
        refine LS.vg rfl rfl rfl rfl (by decide) (Val.cast (v := .int .i64 ((2 ^ m : Nat) : Int)) (Val.shl64 (i := 1) rfl rfl (by omega) (by omega)) (by exact pow_cast m)) ?_
        refine LS.vg rfl rfl rfl rfl (by decide) (Val.subN (j := 1) rfl rfl (by omega) (by omega)) ?_
        refine LS.vg rfl rfl rfl rfl (by decide) (Val.cast (v := .bool false) (Val.neq rfl rfl) (by simp)) ?_
        refine LS.vv rfl rfl (by decide) (Val.pickF rfl rfl rfl) ?_
        refine LS.nil ?_
        refine W.condF rfl ?_
        refine W.skip ?_
        refine thenP_normal ?_
        refine W.seqR ?_
        refine LS.vv rfl rfl (by decide) (Val.move rfl) ?_
        refine LS.vv rfl rfl (by decide) (Val.conv rfl Try.underlying5 Try.underlying3 (IntWalk.i64_in _ (by omega))) ?_
        refine LS.vv rfl rfl (by decide) (Val.move rfl) ?_
        refine LS.vv rfl rfl (by decide) (Val.len Try.underlying23 rfl) ?_
        refine LS.vv rfl rfl (by decide) (Val.remN rfl rfl (by omega)) ?_
        have hmd := Nat.mod_lt kk (show 0 < 2 ^ m - 1 by omega)
        generalize hiq : kk % (2 ^ m - 1) = iq
        rw [hiq] at hmd
        refine LS.vv rfl rfl (by decide) (Val.assign rfl) ?_
        refine LS.nil ?_
        refine W.seqR ?_
        refine LS.vv rfl rfl (by decide) (Val.move rfl) ?_
        refine LS.vv rfl rfl (by decide) (Val.move rfl) ?_
        refine LS.vv rfl rfl (by decide) (Val.move rfl) ?_
        refine LS.m rfl (Step.lit (B := w0.heap.size) rfl rfl (by decide) Try.underlying69 elem3 rfl rfl (by omega) (by simp [Value.oneCell']) hB.size ?_)
        rintro w2 hO2 hg2 hbl2 hsz2
        replace hB := hB.trans (hbl2.mono hB.size)
        have hOp := hO2
        replace hO := hO.below hbl2
        refine LS.m rfl (Step.call body26 rfl rfl (by decide) rfl (CallsV.mono (turned_any (wordOf m d) _ _ (2 ^ m - 1) [iq] _ _ _ hO.rd hwl (by omega) (by simpa [nv] using hOp.rd) (by simp) (by intro j hj; match j, hj with | 0, _ => exact hmd)) ?_))
        rintro _ w3 ⟨p2, c2, rfl, hOt, hb3⟩
        replace hB := hB.trans (hb3.mono hB.size)
        replace hO := hO.below hb3
        have hft : flips (wordOf m d) [iq] 1 = flipAt (wordOf m d) iq := rfl
        have hfl : (flipAt (wordOf m d) iq).length = 2 ^ m - 1 := by rw [flipAt_len, hwl]
        have hpf := pt_flip (l := wordOf m d) (a := iq) (by omega)
        rw [hptw, Nat.zero_xor] at hpf
        have hmf : mended (flipAt (wordOf m d) iq) = wordOf m d := by rw [mended_flip (by omega), hpf, Nat.add_sub_cancel]; exact flip_flip (by omega)
        refine LS.m rfl (Step.call body25 rfl rfl (by decide) rfl (CallsV.mono (Fix_len _ (flipAt (wordOf m d) iq) _ _ _ _ hOt.rd hfl) ?_))
        rintro _ w4 ⟨p3, c3, D, P, f, rfl, hOd, hf, hD, _, hb4⟩
        replace hB := hB.trans (hb4.mono hB.size)
        have hF : f = 0 := hf.2 ⟨by omega, by omega, by rw [Int.toNat_natCast]; exact hfl⟩
        obtain ⟨rfl, rfl⟩ := hD hF
        simp only [Int.toNat_natCast, hmf, hdw] at hOd ⊢
        replace hO := hO.below hb4
        refine LS.vv rfl rfl (by decide) (Val.move rfl) ?_
        refine LS.vv rfl rfl (by decide) (Val.extract rfl rfl) ?_
        refine LS.vv rfl rfl (by decide) (Val.extract rfl rfl) ?_
        refine LS.vv rfl rfl (by decide) (Val.extract rfl rfl) ?_
        refine LS.vv rfl rfl (by decide) (Val.assign rfl) ?_
        refine LS.vv rfl rfl (by decide) (Val.assign rfl) ?_
        refine LS.vv rfl rfl (by decide) (Val.assign rfl) ?_
        refine LS.nil ?_
        refine W.seqR ?_
        refine LS.vv rfl rfl (by decide) (Val.move rfl) ?_
        refine LS.vv rfl rfl (by decide) (Val.move rfl) ?_
        refine LS.m rfl (Step.call body25 rfl rfl (by decide) rfl (CallsV.mono (Fix_len _ (wordOf m d) _ _ _ _ hO.rd hwl) ?_))
        rintro _ w5 ⟨p4, c4, C, Q, g, rfl, hOc, hg, hC, _, hb5⟩
        replace hB := hB.trans (hb5.mono hB.size)
        have hG : g = 0 := hg.2 ⟨by omega, by omega, by rw [Int.toNat_natCast]; exact hwl⟩
        obtain ⟨rfl, rfl⟩ := hC hG
        simp only [Int.toNat_natCast, mended_zero hptw, hdw] at hOc ⊢
        replace hOd := hOd.below hb5
        refine LS.vv rfl rfl (by decide) (Val.move rfl) ?_
        refine LS.vv rfl rfl (by decide) (Val.extract rfl rfl) ?_
        refine LS.vv rfl rfl (by decide) (Val.extract rfl rfl) ?_
        refine LS.vv rfl rfl (by decide) (Val.extract rfl rfl) ?_
        refine LS.vv rfl rfl (by decide) (Val.assign rfl) ?_
        refine LS.vv rfl rfl (by decide) (Val.assign rfl) ?_
        refine LS.vv rfl rfl (by decide) (Val.assign rfl) ?_
        refine LS.nil ?_
        refine W.seqR ?_
        refine LS.vv rfl rfl (by decide) (Val.move rfl) ?_
        refine LS.vv rfl rfl (by decide) (Val.cast (v := .bool true) (Val.eql rfl rfl) (by first | (simp; done) | (simp; omega))) ?_
        refine LS.vv rfl rfl (by decide) (Val.move rfl) ?_
        refine LS.vg rfl rfl rfl rfl (by decide) (Val.move rfl) ?_
        refine LS.vg rfl rfl rfl rfl (by decide) (Val.cast (v := .bool true) (Val.eql rfl rfl) (by first | (simp; done) | (simp; omega))) ?_
        refine LS.vv rfl rfl (by decide) (Val.pickT rfl rfl rfl) ?_
        refine LS.vv rfl rfl (by decide) (Val.move rfl) ?_
        refine LS.vg rfl rfl rfl rfl (by decide) (Val.move rfl) ?_
        refine LS.vg rfl rfl rfl rfl (by decide) (Val.move rfl) ?_
        first | refine LS.vg rfl rfl rfl rfl (by decide) (Val.addN (j := 1) rfl rfl (by omega)) ?_ | refine LS.vg rfl rfl rfl rfl (by decide) (Val.add64 rfl rfl (by omega)) ?_
        refine LS.vg rfl rfl rfl rfl (by decide) (Val.cast (v := .bool true) (Val.eql rfl rfl) (by refine congrArg Value.bool (decide_eq_true ?_); omega)) ?_
        refine LS.vv rfl rfl (by decide) (Val.pickT rfl rfl rfl) ?_
        refine LS.vv rfl rfl (by decide) (Val.move rfl) ?_
        refine LS.vg rfl rfl rfl rfl (by decide) (Val.move rfl) ?_
        refine LS.vg rfl rfl rfl rfl (by decide) (Val.cast (v := .bool true) (Val.eql rfl rfl) (by first | (simp; done) | (simp; omega))) ?_
        refine LS.vv rfl rfl (by decide) (Val.pickT rfl rfl rfl) ?_
        refine LS.vv rfl rfl (by decide) (Val.move rfl) ?_
        refine LS.vg rfl rfl rfl rfl (by decide) (Val.move rfl) ?_
        refine LS.vg rfl rfl rfl rfl (by decide) (Val.move rfl) ?_
        refine LS.mg rfl rfl rfl (Step.call body21 rfl rfl (by decide) rfl (CallsV.mono (boolsEq_any d d _ _ _ _ _ hOd.rd (hr.below hB) hl9) ?_))
        rintro _ w6 ⟨rfl, hb6⟩
        replace hB := hB.trans (hb6.mono hB.size)
        rw [show decide (d = d) = true from decide_eq_true rfl]
        replace hOc := hOc.below hb6
        refine LS.vv rfl rfl (by decide) (Val.pickT rfl rfl rfl) ?_
        refine LS.vv rfl rfl (by decide) (Val.move rfl) ?_
        refine LS.split 21 rfl (fun hg4 => ?_) (fun hg4 => ?_)
        ·
          first | (have hg4p := of_decide_eq_true hg4) | skip
          refine LS.vg rfl rfl rfl hg4 (by decide) (Val.move rfl) ?_
          refine LS.vg rfl rfl rfl hg4 (by decide) (Val.move rfl) ?_
          refine LS.mg rfl rfl hg4 (Step.call body21 rfl rfl (by decide) rfl (CallsV.mono (boolsEq_any d d _ _ _ _ _ hOc.rd (hr.below hB) hl9) ?_))
          rintro _ w7 ⟨rfl, hb7⟩
          replace hB := hB.trans (hb7.mono hB.size)
          rw [show decide (d = d) = true from decide_eq_true rfl]
          refine LS.vv rfl rfl (by decide) (Val.pickT rfl hg4 rfl) ?_
          refine LS.vv rfl rfl (by decide) (Val.assign rfl) ?_
          refine LS.nil ?_
          refine W.ret ?_
          refine ret1 (by first | exact .inl rfl | exact .inr rfl) rfl ?_
          first | exact ⟨rfl, hB⟩ | contradiction | (exfalso; omega)
        ·
          first | (have hg4p := of_decide_eq_false hg4) | skip
          refine LS.s rfl rfl rfl hg4 (by decide) ?_
          refine LS.s rfl rfl rfl hg4 (by decide) ?_
          refine LS.s rfl rfl rfl hg4 (by decide) ?_
          refine LS.vv rfl rfl (by decide) (Val.pickF rfl hg4 rfl) ?_
          refine LS.vv rfl rfl (by decide) (Val.assign rfl) ?_
          refine LS.nil ?_
          refine W.ret ?_
          refine ret1 (by first | exact .inl rfl | exact .inr rfl) rfl ?_
          first | exact ⟨rfl, hB⟩ | contradiction | (exfalso; omega)

end Go.Proofs.Ytbbmgcmibgdkiaa
