/-
  The statement FieldInverse.
-/
import Derived.Test.YtnaebllojkodbaaField
namespace Go.Proofs.Ytnaebllojkodbaa
open Go Go.RowKit V
theorem fieldInverse_any (a k : Int) (w0 : World) (hk : k ≤ 9223372036854775807) :
    CallsV Try.prog 5 #[.int .i64 a, .int .i64 k] w0 (fun v w => v = .bool true ∧ Below w0.heap.size w0 w) := by
  refine enter1 Try.func5 rfl Try.ntmps5 (by simp) rfl ?_
  have hB := Below.refl w0.heap.size w0
  simp only [argLoc, Nat.zero_add]
  refine W.seqR ?_
  refine LS.vv rfl rfl (by decide) (Val.assign rfl) ?_
  refine LS.nil ?_
  refine W.seqR ?_
  refine LS.vv rfl rfl (by decide) (Val.move rfl) ?_
  refine LS.m rfl (Step.call body16 rfl rfl (by decide) rfl (CallsV.mono (inv_any a _) ?_))
  rintro _ w1 ⟨r1, e1, rfl, he1, hv1, hl1, hb1⟩
  replace hB := hB.trans (hb1.mono hB.size)
  refine LS.vv rfl rfl (by decide) (Val.move rfl) ?_
  refine LS.vv rfl rfl (by decide) (Val.extract rfl rfl) ?_
  refine LS.vv rfl rfl (by decide) (Val.extract rfl rfl) ?_
  refine LS.vv rfl rfl (by decide) (Val.assign rfl) ?_
  refine LS.vv rfl rfl (by decide) (Val.assign rfl) ?_
  refine LS.nil ?_
  refine W.seq ?_
  refine W.seqR ?_
  refine LS.vv rfl rfl (by decide) (Val.move rfl) ?_
  refine LS.m rfl (Step.lit (B := w0.heap.size) rfl rfl (by decide) Try.underlying27 elem3 rfl rfl (by omega) (by simp [Value.oneCell']) hB.size ?_)
  rintro w2 hO2 hg2 hbl2 hsz2
  replace hB := hB.trans (hbl2.mono hB.size)
  refine LS.m rfl (Step.call body14 rfl rfl (by decide) rfl (CallsV.mono (numbers_any [a] _ _ _ hO2.rd (by simp)) ?_))
  rintro _ w3 ⟨b1, rfl, hb1, hb3⟩
  replace hB := hB.trans (hb3.mono hB.size)
  refine LS.vv rfl rfl (by decide) (Val.not rfl) ?_
  refine LS.vv rfl rfl (by decide) (Val.move rfl) ?_
  refine LS.split 4 rfl (fun hg1 => ?_) (fun hg1 => ?_)
  ·
    first | (have hg1p := of_decide_eq_true hg1) | skip
    refine LS.s rfl rfl rfl hg1 (by decide) ?_
    refine LS.s rfl rfl rfl hg1 (by decide) ?_
    refine LS.vv rfl rfl (by decide) (Val.pickT rfl hg1 rfl) ?_
    refine LS.nil ?_
    refine W.condT rfl ?_
    refine W.seqR ?_
    refine LS.vv rfl rfl (by decide) (Val.move rfl) ?_
    refine LS.vv rfl rfl (by decide) (Val.neq rfl rfl) ?_
    refine LS.vv rfl rfl (by decide) (Val.assign rfl) ?_
    refine LS.nil ?_
    refine W.ret ?_
    refine thenP_ret ?_
    refine ret1 (by first | exact .inl rfl | exact .inr rfl) rfl ?_
    first | exact ⟨rfl, hB⟩ | (refine ⟨congrArg Value.bool (decide_eq_true ?_), hB⟩; intro h0; have h1 := he1.1 (by omega); first | exact h1.2 (by assumption) | (have h2 := hb1.2 h1.1; simp_all))
  ·
    first | (have hg1p := of_decide_eq_false hg1) | skip
    refine LS.vg rfl rfl rfl hg1 (by decide) (Val.move rfl) ?_
    refine LS.vg rfl rfl rfl hg1 (by decide) (Val.eql rfl rfl) ?_
    refine LS.vv rfl rfl (by decide) (Val.pickF rfl hg1 rfl) ?_
    refine LS.nil ?_
    first | refine W.condD rfl (fun hc2 => ?_) (fun hc2 => ?_) | refine W.cond rfl (fun hc2 => ?_) (fun hc2 => ?_)
    ·
      refine W.seqR ?_
      refine LS.vv rfl rfl (by decide) (Val.move rfl) ?_
      refine LS.vv rfl rfl (by decide) (Val.neq rfl rfl) ?_
      refine LS.vv rfl rfl (by decide) (Val.assign rfl) ?_
      refine LS.nil ?_
      refine W.ret ?_
      refine thenP_ret ?_
      refine ret1 (by first | exact .inl rfl | exact .inr rfl) rfl ?_
      first | exact ⟨rfl, hB⟩ | (refine ⟨congrArg Value.bool (decide_eq_true ?_), hB⟩; intro h0; have h1 := he1.1 (by omega); first | exact h1.2 (by assumption) | (have h2 := hb1.2 h1.1; simp_all))
    ·
      have hq0 : a ≠ 0 := by assumption
      have hok := hb1.1 (by simpa using ‹(!b1) = false›)
      have hq := hok a (by simp)
      refine W.skip ?_
      refine thenP_normal ?_
      refine W.seqR ?_
      refine LS.vv rfl rfl (by decide) (Val.move rfl) ?_
      refine LS.vv rfl rfl (by decide) (Val.move rfl) ?_
      obtain ⟨A, rfl⟩ := Int.eq_ofNat_of_zero_le hq.1
      have k1 := he1.2 ⟨hok, hq0⟩
      have v1 := hv1 k1
      simp only [Int.toNat_natCast] at v1
      obtain ⟨g1, g2, g3, g4⟩ := inv_facts (a := A) (by omega) (by omega)
      have hf14 := fpow_lt (a := A) (by omega) 14
      refine LS.m rfl (Step.call body13 rfl rfl (by decide) rfl (CallsV.mono (mul_any _ _ _) ?_))
      rintro _ w4 ⟨r2, e2, rfl, he2, hv2, hl2, hb4⟩
      replace hB := hB.trans (hb4.mono hB.size)
      have v2 := hv2 (he2.2 (by simp [OkF]; omega))
      simp only [Int.toNat_natCast] at v2
      have k2 := he2.2 (by simp [OkF]; omega)
      refine LS.vv rfl rfl (by decide) (Val.move rfl) ?_
      refine LS.vv rfl rfl (by decide) (Val.extract rfl rfl) ?_
      refine LS.vv rfl rfl (by decide) (Val.extract rfl rfl) ?_
      refine LS.vv rfl rfl (by decide) (Val.assign rfl) ?_
      refine LS.vv rfl rfl (by decide) (Val.assign rfl) ?_
      refine LS.nil ?_
      refine W.seqR ?_
      refine LS.vv rfl rfl (by decide) (Val.move rfl) ?_
      refine LS.m rfl (Step.call body16 rfl rfl (by decide) rfl (CallsV.mono (inv_any _ _) ?_))
      rintro _ w5 ⟨r3, e3, rfl, he3, hv3, hl3, hb5⟩
      replace hB := hB.trans (hb5.mono hB.size)
      have k3 := he3.2 ⟨by simp [OkF]; omega, by rw [v1]; omega⟩
      have v3 := hv3 k3
      simp only [Int.toNat_natCast] at v3
      refine LS.vv rfl rfl (by decide) (Val.move rfl) ?_
      refine LS.vv rfl rfl (by decide) (Val.extract rfl rfl) ?_
      refine LS.vv rfl rfl (by decide) (Val.extract rfl rfl) ?_
      refine LS.vv rfl rfl (by decide) (Val.assign rfl) ?_
      refine LS.vv rfl rfl (by decide) (Val.assign rfl) ?_
      refine LS.nil ?_
      refine W.seqR ?_
      refine LS.vv rfl rfl (by decide) (Val.move rfl) ?_
      refine LS.m rfl (Step.call body17 rfl rfl (by decide) rfl (CallsV.mono (pow_any _ 15 _ (by omega)) ?_))
      rintro _ w6 ⟨r4, e4, rfl, he4, hv4, hl4, hb6⟩
      replace hB := hB.trans (hb6.mono hB.size)
      have k4 := he4.2 ⟨hok, by omega⟩
      have v4 := hv4 k4
      simp only [Int.toNat_natCast] at v4
      rw [show (15 : Int).toNat = 15 from rfl] at v4
      refine LS.vv rfl rfl (by decide) (Val.move rfl) ?_
      refine LS.vv rfl rfl (by decide) (Val.extract rfl rfl) ?_
      refine LS.vv rfl rfl (by decide) (Val.extract rfl rfl) ?_
      refine LS.vv rfl rfl (by decide) (Val.assign rfl) ?_
      refine LS.vv rfl rfl (by decide) (Val.assign rfl) ?_
      refine LS.nil ?_
      refine W.seq ?_
      refine W.seqR ?_
      refine LS.vv rfl rfl (by decide) (Val.move rfl) ?_
      refine LS.vv rfl rfl (by decide) (Val.cast (v := .bool false) (Val.neq rfl rfl) (by first | (simp; done) | (simp; omega))) ?_
      refine LS.vv rfl rfl (by decide) (Val.move rfl) ?_
      refine LS.vg rfl rfl rfl rfl (by decide) (Val.move rfl) ?_
      refine LS.vg rfl rfl rfl rfl (by decide) (Val.cast (v := .bool false) (Val.neq rfl rfl) (by first | (simp; done) | (simp; omega))) ?_
      refine LS.vv rfl rfl (by decide) (Val.pickF rfl rfl rfl) ?_
      refine LS.vv rfl rfl (by decide) (Val.move rfl) ?_
      refine LS.vg rfl rfl rfl rfl (by decide) (Val.move rfl) ?_
      refine LS.vg rfl rfl rfl rfl (by decide) (Val.cast (v := .bool false) (Val.neq rfl rfl) (by first | (simp; done) | (simp; omega))) ?_
      refine LS.vv rfl rfl (by decide) (Val.pickF rfl rfl rfl) ?_
      refine LS.vv rfl rfl (by decide) (Val.move rfl) ?_
      refine LS.vg rfl rfl rfl rfl (by decide) (Val.move rfl) ?_
      refine LS.vg rfl rfl rfl rfl (by decide) (Val.cast (v := .bool false) (Val.neq rfl rfl) (by first | (simp; done) | (simp; omega))) ?_
      refine LS.vv rfl rfl (by decide) (Val.pickF rfl rfl rfl) ?_
      refine LS.vv rfl rfl (by decide) (Val.move rfl) ?_
      refine LS.vg rfl rfl rfl rfl (by decide) (Val.move rfl) ?_
      refine LS.vg rfl rfl rfl rfl (by decide) (Val.cast (v := .bool false) (Val.neq rfl rfl) (by refine congrArg Value.bool (decide_eq_false ?_); rw [v2, v1, g1]; simp)) ?_
      refine LS.vv rfl rfl (by decide) (Val.pickF rfl rfl rfl) ?_
      refine LS.vv rfl rfl (by decide) (Val.move rfl) ?_
      refine LS.vg rfl rfl rfl rfl (by decide) (Val.move rfl) ?_
      refine LS.vg rfl rfl rfl rfl (by decide) (Val.move rfl) ?_
      refine LS.vg rfl rfl rfl rfl (by decide) (Val.cast (v := .bool false) (Val.neq rfl rfl) (by refine congrArg Value.bool (decide_eq_false ?_); rw [v3, v1, g2]; simp)) ?_
      refine LS.vv rfl rfl (by decide) (Val.pickF rfl rfl rfl) ?_
      refine LS.vv rfl rfl (by decide) (Val.move rfl) ?_
      refine LS.vg rfl rfl rfl rfl (by decide) (Val.move rfl) ?_
      refine LS.vg rfl rfl rfl rfl (by decide) (Val.cast (v := .bool false) (Val.neq rfl rfl) (by refine congrArg Value.bool (decide_eq_false ?_); rw [v4, g3]; simp)) ?_
      refine LS.vv rfl rfl (by decide) (Val.pickF rfl rfl rfl) ?_
      refine LS.nil ?_
      refine W.condF rfl ?_
      refine W.skip ?_
      refine thenP_normal ?_
      refine W.seq ?_
      refine W.seqR ?_
      refine LS.vv rfl rfl (by decide) (Val.move rfl) ?_
      refine LS.vv rfl rfl (by decide) (Val.lss rfl rfl) ?_
      refine LS.vv rfl rfl (by decide) (Val.move rfl) ?_
      refine LS.split 2 rfl (fun hg3 => ?_) (fun hg3 => ?_)
      ·
        first | (have hg3p := of_decide_eq_true hg3) | skip
        refine LS.s rfl rfl rfl hg3 (by decide) ?_
        refine LS.s rfl rfl rfl hg3 (by decide) ?_
        refine LS.vv rfl rfl (by decide) (Val.pickT rfl hg3 rfl) ?_
        refine LS.nil ?_
        refine W.condT rfl ?_
        refine W.seqR ?_
        refine LS.vv rfl rfl (by decide) (Val.assign rfl) ?_
        refine LS.nil ?_
        refine W.ret ?_
        refine thenP_ret ?_
        refine ret1 (by first | exact .inl rfl | exact .inr rfl) rfl ?_
        first | exact ⟨rfl, hB⟩ | (refine ⟨congrArg Value.bool (decide_eq_true ?_), hB⟩; intro h0; have h1 := he1.1 (by omega); first | exact h1.2 (by assumption) | (have h2 := hb1.2 h1.1; simp_all))
      ·
        first | (have hg3p := of_decide_eq_false hg3) | skip
        refine LS.vg rfl rfl rfl hg3 (by decide) (Val.move rfl) ?_
        refine LS.vg rfl rfl rfl hg3 (by decide) (Val.gtr rfl rfl) ?_
        refine LS.vv rfl rfl (by decide) (Val.pickF rfl hg3 rfl) ?_
        refine LS.nil ?_
        first | refine W.condD rfl (fun hc4 => ?_) (fun hc4 => ?_) | refine W.cond rfl (fun hc4 => ?_) (fun hc4 => ?_)
        ·
          refine W.seqR ?_
          refine LS.vv rfl rfl (by decide) (Val.assign rfl) ?_
          refine LS.nil ?_
          refine W.ret ?_
          refine thenP_ret ?_
          refine ret1 (by first | exact .inl rfl | exact .inr rfl) rfl ?_
          first | exact ⟨rfl, hB⟩ | (refine ⟨congrArg Value.bool (decide_eq_true ?_), hB⟩; intro h0; have h1 := he1.1 (by omega); first | exact h1.2 (by assumption) | (have h2 := hb1.2 h1.1; simp_all))
        ·
          refine W.skip ?_
          refine thenP_normal ?_
          refine W.seqR ?_
          refine LS.vv rfl rfl (by decide) (Val.move rfl) ?_
          refine LS.vv rfl rfl (by decide) (Val.move rfl) ?_
          obtain ⟨K, rfl⟩ := Int.eq_ofNat_of_zero_le (show 0 ≤ k by omega)
          refine LS.m rfl (Step.call body17 rfl rfl (by decide) rfl (CallsV.mono (pow_any _ _ _ (by omega)) ?_))
          rintro _ w7 ⟨r5, e5, rfl, he5, hv5, hl5, hb7⟩
          replace hB := hB.trans (hb7.mono hB.size)
          have k5 := he5.2 ⟨hok, by omega⟩
          have v5 := hv5 k5
          simp only [Int.toNat_natCast] at v5
          refine LS.vv rfl rfl (by decide) (Val.move rfl) ?_
          refine LS.vv rfl rfl (by decide) (Val.extract rfl rfl) ?_
          refine LS.vv rfl rfl (by decide) (Val.extract rfl rfl) ?_
          refine LS.vv rfl rfl (by decide) (Val.assign rfl) ?_
          refine LS.vv rfl rfl (by decide) (Val.assign rfl) ?_
          refine LS.nil ?_
          refine W.seqR ?_
          refine LS.vv rfl rfl (by decide) (Val.move rfl) ?_
          refine LS.vv rfl rfl (by decide) (Val.move rfl) ?_
          first | refine LS.vv rfl rfl (by decide) (Val.addN (j := 1) rfl rfl (by omega)) ?_ | refine LS.vv rfl rfl (by decide) (Val.add64 rfl rfl (by omega)) ?_
          refine LS.m rfl (Step.call body17 rfl rfl (by decide) rfl (CallsV.mono (pow_any _ _ _ (by omega)) ?_))
          rintro _ w8 ⟨r6, e6, rfl, he6, hv6, hl6, hb8⟩
          replace hB := hB.trans (hb8.mono hB.size)
          have k6 := he6.2 ⟨hok, by omega⟩
          have v6 := hv6 k6
          simp only [Int.toNat_natCast] at v6
          refine LS.vv rfl rfl (by decide) (Val.move rfl) ?_
          refine LS.vv rfl rfl (by decide) (Val.extract rfl rfl) ?_
          refine LS.vv rfl rfl (by decide) (Val.extract rfl rfl) ?_
          refine LS.vv rfl rfl (by decide) (Val.assign rfl) ?_
          refine LS.vv rfl rfl (by decide) (Val.assign rfl) ?_
          refine LS.nil ?_
          refine W.seqR ?_
          refine LS.vv rfl rfl (by decide) (Val.move rfl) ?_
          refine LS.vv rfl rfl (by decide) (Val.move rfl) ?_
          refine LS.m rfl (Step.call body13 rfl rfl (by decide) rfl (CallsV.mono (mul_any _ _ _) ?_))
          rintro _ w9 ⟨r7, e7, rfl, he7, hv7, hl7, hb9⟩
          replace hB := hB.trans (hb9.mono hB.size)
          have k7 := he7.2 (by simp [OkF]; omega)
          have v7 := hv7 k7
          simp only [Int.toNat_natCast] at v7
          refine LS.vv rfl rfl (by decide) (Val.move rfl) ?_
          refine LS.vv rfl rfl (by decide) (Val.extract rfl rfl) ?_
          refine LS.vv rfl rfl (by decide) (Val.extract rfl rfl) ?_
          refine LS.vv rfl rfl (by decide) (Val.assign rfl) ?_
          refine LS.vv rfl rfl (by decide) (Val.assign rfl) ?_
          refine LS.nil ?_
          refine W.seqR ?_
          refine LS.vv rfl rfl (by decide) (Val.move rfl) ?_
          refine LS.vv rfl rfl (by decide) (Val.cast (v := .bool true) (Val.eql rfl rfl) (by first | (simp; done) | (simp; omega))) ?_
          refine LS.vv rfl rfl (by decide) (Val.move rfl) ?_
          refine LS.vg rfl rfl rfl rfl (by decide) (Val.move rfl) ?_
          refine LS.vg rfl rfl rfl rfl (by decide) (Val.cast (v := .bool true) (Val.eql rfl rfl) (by first | (simp; done) | (simp; omega))) ?_
          refine LS.vv rfl rfl (by decide) (Val.pickT rfl rfl rfl) ?_
          refine LS.vv rfl rfl (by decide) (Val.move rfl) ?_
          refine LS.vg rfl rfl rfl rfl (by decide) (Val.move rfl) ?_
          refine LS.vg rfl rfl rfl rfl (by decide) (Val.cast (v := .bool true) (Val.eql rfl rfl) (by first | (simp; done) | (simp; omega))) ?_
          refine LS.vv rfl rfl (by decide) (Val.pickT rfl rfl rfl) ?_
          refine LS.vv rfl rfl (by decide) (Val.move rfl) ?_
          refine LS.vg rfl rfl rfl rfl (by decide) (Val.move rfl) ?_
          refine LS.vg rfl rfl rfl rfl (by decide) (Val.move rfl) ?_
          refine LS.vg rfl rfl rfl rfl (by decide) (Val.cast (v := .bool true) (Val.eql rfl rfl) (by refine congrArg Value.bool (decide_eq_true ?_); rw [v6, v7, v5]; rfl)) ?_
          refine LS.vv rfl rfl (by decide) (Val.pickT rfl rfl rfl) ?_
          refine LS.vv rfl rfl (by decide) (Val.assign rfl) ?_
          refine LS.nil ?_
          refine W.ret ?_
          refine ret1 (by first | exact .inl rfl | exact .inr rfl) rfl ?_
          first | exact ⟨rfl, hB⟩ | (refine ⟨congrArg Value.bool (decide_eq_true ?_), hB⟩; intro h0; have h1 := he1.1 (by omega); first | exact h1.2 (by assumption) | (have h2 := hb1.2 h1.1; simp_all))

end Go.Proofs.Ytnaebllojkodbaa
