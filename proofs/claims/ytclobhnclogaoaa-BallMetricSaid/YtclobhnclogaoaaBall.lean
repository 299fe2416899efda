/-
  ball.Dist; the statement BallMetric.
-/
import Derived.Test.YtclobhnclogaoaaWords
import Derived.Test.YtclobhnclogaoaaRankPlain
import Derived.Test.YtclobhnclogaoaaRank
namespace Go.Proofs.Ytclobhnclogaoaa
open Go Go.RowKit V
theorem dist_any (n : Int) (a b : Nat) (w0 : World) (ha : a < 4294967296) (hb : b < 4294967296) :
    CallsV Try.prog 24 #[.int .i64 n, .int .u32 (a : Int), .int .u32 (b : Int)] w0 (fun v w => ∃ r e : Nat, v = .tuple #[.int .i64 (r : Int), .int .i64 (e : Int)] ∧ (e = 0 ↔ OkW n [a, b]) ∧ (e = 0 → r = popc (a ^^^ b)) ∧ r ≤ 32 ∧ Below w0.heap.size w0 w) := by
  refine enter2 Try.func24 rfl Try.ntmps24 (by simp) rfl ?_
  have hB := Below.refl w0.heap.size w0
  simp only [argLoc, Nat.zero_add, Nat.reduceAdd]
  have hx : a ^^^ b < 2 ^ 32 := Nat.xor_lt_two_pow (by omega) (by omega)
  have hp : popc (a ^^^ b) ≤ 32 := popTo_le _ 32
  refine W.seqR ?_
  refine LS.vv rfl rfl (by decide) (Val.cast (v := .int .i64 ((0 : Nat) : Int)) (Val.assign rfl) rfl) ?_
  refine LS.vv rfl rfl (by decide) (Val.cast (v := .int .i64 ((0 : Nat) : Int)) (Val.assign rfl) rfl) ?_
  refine LS.nil ?_
  refine W.seq ?_
  refine W.seqR ?_
  refine LS.vv rfl rfl (by decide) (Val.move rfl) ?_
  refine LS.vv rfl rfl (by decide) (Val.move rfl) ?_
  refine LS.vv rfl rfl (by decide) (Val.move rfl) ?_
  refine LS.m rfl (Step.lit (B := w0.heap.size) rfl rfl (by decide) Try.underlying44 elem27 rfl rfl (by omega) (by simp [Value.oneCell']) hB.size ?_)
  rintro w1 hO1 hg1 hbl1 hsz1
  replace hB := hB.trans (hbl1.mono hB.size)
  refine LS.m rfl (Step.call body36 rfl rfl (by decide) rfl (CallsV.mono (ballCheck_any n [a, b] _ _ _ hO1.rd (by simp) (by simp; omega)) ?_))
  rintro _ w2 ⟨e, rfl, he, hb2⟩
  replace hB := hB.trans (hb2.mono hB.size)
  refine LS.vv rfl rfl (by decide) (Val.assign rfl) ?_
  refine LS.nil ?_
  refine W.seqR ?_
  refine LS.vv rfl rfl (by decide) (Val.move rfl) ?_
  refine LS.vv rfl rfl (by decide) (Val.neq rfl rfl) ?_
  refine LS.nil ?_
  first | refine W.condD rfl (fun hc1 => ?_) (fun hc1 => ?_) | refine W.cond rfl (fun hc1 => ?_) (fun hc1 => ?_)
  ·
    refine W.seqR ?_
    refine LS.vv rfl rfl (by decide) (Val.move rfl) ?_
    refine LS.vv rfl rfl (by decide) (Val.cast (v := .int .i64 ((0 : Nat) : Int)) (Val.assign rfl) rfl) ?_
    refine LS.vv rfl rfl (by decide) (Val.assign rfl) ?_
    refine LS.nil ?_
    refine W.ret ?_
    refine thenP_ret ?_
    refine ret2 (by first | exact .inl rfl | exact .inr rfl) rfl rfl ?_
    exact ⟨0, e, rfl, he, fun h => by omega, by omega, hB⟩
  ·
    refine W.skip ?_
    refine thenP_normal ?_
    refine W.seqR ?_
    refine LS.vv rfl rfl (by decide) (Val.move rfl) ?_
    refine LS.vv rfl rfl (by decide) (Val.move rfl) ?_
    refine LS.vv rfl rfl (by decide) (Val.xorU32 rfl rfl (by omega) (by omega)) ?_
    refine LS.m rfl (Step.call body32 rfl rfl (by decide) rfl (CallsV.mono (ones32_any (a ^^^ b) _ (by omega)) ?_))
    rintro _ w3 ⟨rfl, hb3⟩
    replace hB := hB.trans (hb3.mono hB.size)
    refine LS.vv rfl rfl (by decide) (Val.assign rfl) ?_
    refine LS.vv rfl rfl (by decide) (Val.cast (v := .int .i64 ((0 : Nat) : Int)) (Val.assign rfl) rfl) ?_
    refine LS.nil ?_
    refine W.ret ?_
    refine ret2 (by first | exact .inl rfl | exact .inr rfl) rfl rfl ?_
    exact ⟨_, 0, rfl, by rw [← he]; omega, fun _ => rfl, hp, hB⟩

theorem ballMetric_any (n : Int) (a b c : Nat) (w0 : World) (ha : a < 4294967296) (hb : b < 4294967296) (hc : c < 4294967296) :
    CallsV Try.prog 6 #[.int .i64 n, .int .u32 (a : Int), .int .u32 (b : Int), .int .u32 (c : Int)] w0 (fun v w => v = .bool true ∧ Below w0.heap.size w0 w) := by
  refine enter1 Try.func6 rfl Try.ntmps6 (by simp) rfl ?_
  have hB := Below.refl w0.heap.size w0
  simp only [argLoc, Nat.zero_add, Nat.reduceAdd]
  have hac : a ^^^ c < 2 ^ 32 := Nat.xor_lt_two_pow (by omega) (by omega)
  have hbc : b ^^^ c < 2 ^ 32 := Nat.xor_lt_two_pow (by omega) (by omega)
  refine W.seqR ?_
  refine LS.vv rfl rfl (by decide) (Val.assign rfl) ?_
  refine LS.nil ?_
  refine W.seqR ?_
  refine LS.vv rfl rfl (by decide) (Val.move rfl) ?_
  refine LS.vv rfl rfl (by decide) (Val.move rfl) ?_
  refine LS.vv rfl rfl (by decide) (Val.move rfl) ?_
  refine LS.m rfl (Step.call body24 rfl rfl (by decide) rfl (CallsV.mono (dist_any _ a b _ (by omega) (by omega)) ?_))
  rintro _ w1 ⟨d1, e1, rfl, he1, hd1, hl1, hb1⟩
  replace hB := hB.trans (hb1.mono hB.size)
  refine LS.vv rfl rfl (by decide) (Val.move rfl) ?_
  refine LS.vv rfl rfl (by decide) (Val.extract rfl rfl) ?_
  refine LS.vv rfl rfl (by decide) (Val.extract rfl rfl) ?_
  refine LS.vv rfl rfl (by decide) (Val.assign rfl) ?_
  refine LS.vv rfl rfl (by decide) (Val.assign rfl) ?_
  refine LS.nil ?_
  refine W.seq ?_
  refine W.seqR ?_
  refine LS.vv rfl rfl (by decide) (Val.move rfl) ?_
  refine LS.vv rfl rfl (by decide) (Val.move rfl) ?_
  refine LS.vv rfl rfl (by decide) (Val.move rfl) ?_
  refine LS.vv rfl rfl (by decide) (Val.move rfl) ?_
  refine LS.m rfl (Step.lit (B := w0.heap.size) rfl rfl (by decide) Try.underlying44 elem27 rfl rfl (by omega) (by simp [Value.oneCell']) hB.size ?_)
  rintro w2 hO2 hg2 hbl2 hsz2
  replace hB := hB.trans (hbl2.mono hB.size)
  refine LS.m rfl (Step.call body17 rfl rfl (by decide) rfl (CallsV.mono (below_any n [a, b, c] _ _ _ hO2.rd (by simp) (by simp; omega)) ?_))
  rintro _ w3 ⟨b1, rfl, hb1, hb3⟩
  replace hB := hB.trans (hb3.mono hB.size)
  refine LS.vv rfl rfl (by decide) (Val.not rfl) ?_
  refine LS.nil ?_
  first | refine W.condD rfl (fun hc1 => ?_) (fun hc1 => ?_) | refine W.cond rfl (fun hc1 => ?_) (fun hc1 => ?_)
  ·
    refine W.seqR ?_
    refine LS.vv rfl rfl (by decide) (Val.move rfl) ?_
    refine LS.vv rfl rfl (by decide) (Val.move rfl) ?_
    refine LS.vv rfl rfl (by decide) (Val.move rfl) ?_
    refine LS.m rfl (Step.lit (B := w0.heap.size) rfl rfl (by decide) Try.underlying44 elem27 rfl rfl (by omega) (by simp [Value.oneCell']) hB.size ?_)
    rintro w4 hO4 hg4 hbl4 hsz4
    replace hB := hB.trans (hbl4.mono hB.size)
    refine LS.m rfl (Step.call body17 rfl rfl (by decide) rfl (CallsV.mono (below_any n [a, b] _ _ _ hO4.rd (by simp) (by simp; omega)) ?_))
    rintro _ w5 ⟨b2, rfl, hb2, hb5⟩
    replace hB := hB.trans (hb5.mono hB.size)
    refine LS.vv rfl rfl (by decide) (Val.not rfl) ?_
    refine LS.vv rfl rfl (by decide) (Val.move rfl) ?_
    refine LS.vv rfl rfl (by decide) (Val.neq rfl rfl) ?_
    refine LS.vv rfl rfl (by decide) (Val.cast (v := .bool true) (Val.eqlB Try.underlying4 rfl rfl) (by exact congrArg Value.bool (not_eq_err hb2 he1))) ?_
    refine LS.vv rfl rfl (by decide) (Val.assign rfl) ?_
    refine LS.nil ?_
    refine W.ret ?_
    refine thenP_ret ?_
    refine ret1 (by first | exact .inl rfl | exact .inr rfl) rfl ?_
    first | exact ⟨rfl, hB⟩ | (exfalso; omega)
  ·
    have hbt : b1 = true := by simpa using hc1
    obtain ⟨q0, q1, q2⟩ := hb1.1 hbt
    have qa := q2 a (by simp)
    have qb := q2 b (by simp)
    have qc := q2 c (by simp)
    have k1 : e1 = 0 := he1.2 ⟨q0, q1, by simp; exact ⟨qa, qb⟩⟩
    have v1 := hd1 k1
    refine W.skip ?_
    refine thenP_normal ?_
    refine W.seqR ?_
    refine LS.vv rfl rfl (by decide) (Val.move rfl) ?_
    refine LS.vv rfl rfl (by decide) (Val.move rfl) ?_
    refine LS.vv rfl rfl (by decide) (Val.move rfl) ?_
    refine LS.m rfl (Step.call body24 rfl rfl (by decide) rfl (CallsV.mono (dist_any _ b a _ (by omega) (by omega)) ?_))
    rintro _ w6 ⟨d2, e2, rfl, he2, hd2, hl2, hb6⟩
    replace hB := hB.trans (hb6.mono hB.size)
    have k2 : e2 = 0 := he2.2 ⟨q0, q1, by simp; exact ⟨qb, qa⟩⟩
    have v2 := hd2 k2
    refine LS.vv rfl rfl (by decide) (Val.move rfl) ?_
    refine LS.vv rfl rfl (by decide) (Val.extract rfl rfl) ?_
    refine LS.vv rfl rfl (by decide) (Val.extract rfl rfl) ?_
    refine LS.vv rfl rfl (by decide) (Val.assign rfl) ?_
    refine LS.vv rfl rfl (by decide) (Val.assign rfl) ?_
    refine LS.nil ?_
    refine W.seqR ?_
    refine LS.vv rfl rfl (by decide) (Val.move rfl) ?_
    refine LS.vv rfl rfl (by decide) (Val.move rfl) ?_
    refine LS.vv rfl rfl (by decide) (Val.move rfl) ?_
    refine LS.m rfl (Step.call body24 rfl rfl (by decide) rfl (CallsV.mono (dist_any _ b c _ (by omega) (by omega)) ?_))
    rintro _ w7 ⟨d3, e3, rfl, he3, hd3, hl3, hb7⟩
    replace hB := hB.trans (hb7.mono hB.size)
    have k3 : e3 = 0 := he3.2 ⟨q0, q1, by simp; exact ⟨qb, qc⟩⟩
    have v3 := hd3 k3
    refine LS.vv rfl rfl (by decide) (Val.move rfl) ?_
    refine LS.vv rfl rfl (by decide) (Val.extract rfl rfl) ?_
    refine LS.vv rfl rfl (by decide) (Val.extract rfl rfl) ?_
    refine LS.vv rfl rfl (by decide) (Val.assign rfl) ?_
    refine LS.vv rfl rfl (by decide) (Val.assign rfl) ?_
    refine LS.nil ?_
    refine W.seqR ?_
    refine LS.vv rfl rfl (by decide) (Val.move rfl) ?_
    refine LS.vv rfl rfl (by decide) (Val.move rfl) ?_
    refine LS.vv rfl rfl (by decide) (Val.move rfl) ?_
    refine LS.m rfl (Step.call body24 rfl rfl (by decide) rfl (CallsV.mono (dist_any _ a c _ (by omega) (by omega)) ?_))
    rintro _ w8 ⟨d4, e4, rfl, he4, hd4, hl4, hb8⟩
    replace hB := hB.trans (hb8.mono hB.size)
    have k4 : e4 = 0 := he4.2 ⟨q0, q1, by simp; exact ⟨qa, qc⟩⟩
    have v4 := hd4 k4
    refine LS.vv rfl rfl (by decide) (Val.move rfl) ?_
    refine LS.vv rfl rfl (by decide) (Val.extract rfl rfl) ?_
    refine LS.vv rfl rfl (by decide) (Val.extract rfl rfl) ?_
    refine LS.vv rfl rfl (by decide) (Val.assign rfl) ?_
    refine LS.vv rfl rfl (by decide) (Val.assign rfl) ?_
    refine LS.nil ?_
    refine W.seqR ?_
    refine LS.vv rfl rfl (by decide) (Val.move rfl) ?_
    refine LS.vv rfl rfl (by decide) (Val.move rfl) ?_
    refine LS.vv rfl rfl (by decide) (Val.move rfl) ?_
    refine LS.vv rfl rfl (by decide) (Val.xorU32 rfl rfl (by omega) (by omega)) ?_
    refine LS.vv rfl rfl (by decide) (Val.move rfl) ?_
    refine LS.vv rfl rfl (by decide) (Val.move rfl) ?_
    refine LS.vv rfl rfl (by decide) (Val.xorU32 rfl rfl (by omega) (by omega)) ?_
    refine LS.m rfl (Step.call body24 rfl rfl (by decide) rfl (CallsV.mono (dist_any _ (a ^^^ c) (b ^^^ c) _ (by omega) (by omega)) ?_))
    rintro _ w9 ⟨d5, e5, rfl, he5, hd5, hl5, hb9⟩
    replace hB := hB.trans (hb9.mono hB.size)
    have k5 : e5 = 0 := he5.2 ⟨q0, q1, by simp; exact ⟨Nat.xor_lt_two_pow qa qc, Nat.xor_lt_two_pow qb qc⟩⟩
    have v5 := hd5 k5
    refine LS.vv rfl rfl (by decide) (Val.move rfl) ?_
    refine LS.vv rfl rfl (by decide) (Val.extract rfl rfl) ?_
    refine LS.vv rfl rfl (by decide) (Val.extract rfl rfl) ?_
    refine LS.vv rfl rfl (by decide) (Val.assign rfl) ?_
    refine LS.vv rfl rfl (by decide) (Val.assign rfl) ?_
    refine LS.nil ?_
    refine W.seqR ?_
    refine LS.vv rfl rfl (by decide) (Val.move rfl) ?_
    refine LS.vv rfl rfl (by decide) (Val.cast (v := .bool true) (Val.eql rfl rfl) (by first | (simp; done) | (simp; omega))) ?_
    refine LS.vv rfl rfl (by decide) (Val.move rfl) ?_
    refine LS.vg rfl rfl rfl rfl (by decide) (Val.move rfl) ?_
    refine LS.vg rfl rfl rfl rfl (by decide) (Val.cast (v := .bool true) (Val.eql rfl rfl) (by first | (simp; done) | (simp; omega))) ?_
    refine LS.vv rfl rfl (by decide) (Val.pickT rfl rfl rfl) ?_
    refine LS.vv rfl rfl (by decide) (Val.move rfl) ?_
    refine LS.vg rfl rfl rfl rfl (by decide) (Val.move rfl) ?_
    refine LS.vg rfl rfl rfl rfl (by decide) (Val.cast (v := .bool true) (Val.eql rfl rfl) (by first | (simp; done) | (simp; omega))) ?_
    refine LS.vv rfl rfl (by decide) (Val.pickT rfl rfl rfl) ?_
    refine LS.vv rfl rfl (by decide) (Val.move rfl) ?_
    refine LS.vg rfl rfl rfl rfl (by decide) (Val.move rfl) ?_
    refine LS.vg rfl rfl rfl rfl (by decide) (Val.cast (v := .bool true) (Val.eql rfl rfl) (by first | (simp; done) | (simp; omega))) ?_
    refine LS.vv rfl rfl (by decide) (Val.pickT rfl rfl rfl) ?_
    refine LS.vv rfl rfl (by decide) (Val.move rfl) ?_
    refine LS.vg rfl rfl rfl rfl (by decide) (Val.move rfl) ?_
    refine LS.vg rfl rfl rfl rfl (by decide) (Val.cast (v := .bool true) (Val.eql rfl rfl) (by first | (simp; done) | (simp; omega))) ?_
    refine LS.vv rfl rfl (by decide) (Val.pickT rfl rfl rfl) ?_
    refine LS.vv rfl rfl (by decide) (Val.move rfl) ?_
    refine LS.vg rfl rfl rfl rfl (by decide) (Val.move rfl) ?_
    refine LS.vg rfl rfl rfl rfl (by decide) (Val.move rfl) ?_
    refine LS.vg rfl rfl rfl rfl (by decide) (Val.cast (v := .bool true) (Val.eql rfl rfl) (by refine congrArg Value.bool (decide_eq_true ?_); rw [v1, v2, popc_comm])) ?_
    refine LS.vv rfl rfl (by decide) (Val.pickT rfl rfl rfl) ?_
    refine LS.vv rfl rfl (by decide) (Val.move rfl) ?_
    refine LS.vg rfl rfl rfl rfl (by decide) (Val.move rfl) ?_
    refine LS.vg rfl rfl rfl rfl (by decide) (Val.eql rfl rfl) ?_
    refine LS.vg rfl rfl rfl rfl (by decide) (Val.move rfl) ?_
    refine LS.vg rfl rfl rfl rfl (by decide) (Val.move rfl) ?_
    refine LS.vg rfl rfl rfl rfl (by decide) (Val.eql rfl rfl) ?_
    refine LS.vg rfl rfl rfl rfl (by decide) (Val.cast (v := .bool true) (Val.eqlB Try.underlying4 rfl rfl) (by refine congrArg Value.bool (decide_eq_true ?_); rw [decide_eq_decide, v1]; have := popc_dist_zero (a := a) (b := b) (by omega) (by omega); omega)) ?_
    refine LS.vv rfl rfl (by decide) (Val.pickT rfl rfl rfl) ?_
    refine LS.vv rfl rfl (by decide) (Val.move rfl) ?_
    refine LS.vg rfl rfl rfl rfl (by decide) (Val.move rfl) ?_
    refine LS.vg rfl rfl rfl rfl (by decide) (Val.move rfl) ?_
    refine LS.vg rfl rfl rfl rfl (by decide) (Val.move rfl) ?_
    first | refine LS.vg rfl rfl rfl rfl (by decide) (Val.addN rfl rfl (by omega)) ?_ | refine LS.vg rfl rfl rfl rfl (by decide) (Val.add64 rfl rfl (by omega)) ?_
    refine LS.vg rfl rfl rfl rfl (by decide) (Val.cast (v := .bool true) (Val.leq rfl rfl) (by refine congrArg Value.bool (decide_eq_true ?_); have := popc_tri a b c; omega)) ?_
    refine LS.vv rfl rfl (by decide) (Val.pickT rfl rfl rfl) ?_
    refine LS.vv rfl rfl (by decide) (Val.move rfl) ?_
    refine LS.vg rfl rfl rfl rfl (by decide) (Val.move rfl) ?_
    refine LS.vg rfl rfl rfl rfl (by decide) (Val.move rfl) ?_
    refine LS.vg rfl rfl rfl rfl (by decide) (Val.cast (v := .bool true) (Val.eql rfl rfl) (by refine congrArg Value.bool (decide_eq_true ?_); rw [v1, v5, xor_shift])) ?_
    refine LS.vv rfl rfl (by decide) (Val.pickT rfl rfl rfl) ?_
    refine LS.vv rfl rfl (by decide) (Val.assign rfl) ?_
    refine LS.nil ?_
    refine W.ret ?_
    refine ret1 (by first | exact .inl rfl | exact .inr rfl) rfl ?_
    first | exact ⟨rfl, hB⟩ | (exfalso; omega)

end Go.Proofs.Ytclobhnclogaoaa
