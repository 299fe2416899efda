/-
  rank.choose, rank.Many; the statement RankPascal.
-/
import Derived.Test.YtclobhnclogaoaaWords
import Derived.Test.YtclobhnclogaoaaRankPlain
namespace Go.Proofs.Ytclobhnclogaoaa
open Go Go.RowKit V
set_option linter.unusedVariables false

theorem choose_any (n k : Nat) (w0 : World) (hn : n ≤ 12) (hk : k ≤ 12) :
    CallsV Try.prog 31 #[.int .i64 (n : Int), .int .i64 (k : Int)] w0 (fun v w => v = .int .i64 (cho n k : Int) ∧ Below w0.heap.size w0 w) := by
  refine enter1 Try.func31 rfl Try.ntmps31 (by simp) rfl ?_
  have hB := Below.refl w0.heap.size w0
  simp only [argLoc, Nat.zero_add]
  refine W.seqR ?_
  refine LS.vv rfl rfl (by decide) (Val.cast (v := .int .i64 ((0 : Nat) : Int)) (Val.assign rfl) rfl) ?_
  refine LS.nil ?_
  refine W.seq ?_
  refine W.seqR ?_
  refine LS.vv rfl rfl (by decide) (Val.move rfl) ?_
  refine LS.vv rfl rfl (by decide) (Val.lss rfl rfl) ?_
  refine LS.vv rfl rfl (by decide) (Val.move rfl) ?_
  refine LS.split 2 rfl (fun hg1 => ?_) (fun hg1 => ?_)
  ·
    first | (have hg1p := of_decide_eq_true hg1) | skip
    refine LS.s rfl rfl rfl hg1 (by decide) ?_
    refine LS.s rfl rfl rfl hg1 (by decide) ?_
    refine LS.s rfl rfl rfl hg1 (by decide) ?_
    refine LS.vv rfl rfl (by decide) (Val.pickT rfl hg1 rfl) ?_
    refine LS.nil ?_
    refine W.condT rfl ?_
    refine W.seqR ?_
    refine LS.vv rfl rfl (by decide) (Val.cast (v := .int .i64 ((0 : Nat) : Int)) (Val.assign rfl) rfl) ?_
    refine LS.nil ?_
    refine W.ret ?_
    refine thenP_ret ?_
    refine ret1 (by first | exact .inl rfl | exact .inr rfl) rfl ?_
    first | (exfalso; omega) | exact ⟨by rw [cho, if_pos (show n < k by omega)], hB⟩ | exact ⟨by rw [cho, if_neg (show ¬ n < k by omega), show k = i from by omega], hB⟩
  ·
    first | (have hg1p := of_decide_eq_false hg1) | skip
    refine LS.vg rfl rfl rfl hg1 (by decide) (Val.move rfl) ?_
    refine LS.vg rfl rfl rfl hg1 (by decide) (Val.move rfl) ?_
    refine LS.vg rfl rfl rfl hg1 (by decide) (Val.gtr rfl rfl) ?_
    refine LS.vv rfl rfl (by decide) (Val.pickF rfl hg1 rfl) ?_
    refine LS.nil ?_
    first | refine W.condD rfl (fun hc2 => ?_) (fun hc2 => ?_) | refine W.cond rfl (fun hc2 => ?_) (fun hc2 => ?_)
    ·
      refine W.seqR ?_
      refine LS.vv rfl rfl (by decide) (Val.cast (v := .int .i64 ((0 : Nat) : Int)) (Val.assign rfl) rfl) ?_
      refine LS.nil ?_
      refine W.ret ?_
      refine thenP_ret ?_
      refine ret1 (by first | exact .inl rfl | exact .inr rfl) rfl ?_
      first | (exfalso; omega) | exact ⟨by rw [cho, if_pos (show n < k by omega)], hB⟩ | exact ⟨by rw [cho, if_neg (show ¬ n < k by omega), show k = i from by omega], hB⟩
    ·
      refine W.skip ?_
      refine thenP_normal ?_
      refine W.seqR ?_
      refine LS.vv rfl rfl (by decide) (Val.cast (v := .int .i64 ((1 : Nat) : Int)) (Val.assign rfl) rfl) ?_
      refine LS.nil ?_
      refine W.seq ?_
      refine W.seqR ?_
      refine LS.vv rfl rfl (by decide) (Val.move rfl) ?_
      refine LS.vv rfl rfl (by decide) (Val.cast (v := .int .i64 ((0 : Nat) : Int)) (Val.move rfl) rfl) ?_
      refine LS.nil ?_
      refine W.block ?_
      refine W.loop (α := Nat) (fun i => [(5, .int .i64 (choTo n i : Int)), (15, .int .i64 (i : Int))]) [(0, _), (14, _)] (fun i w => i ≤ k ∧ Below w0.heap.size w0 w) (fun i => k - i) (0) (Sub.cons rfl (Sub.cons rfl (Sub.nil _))) (Sub.cons rfl (Sub.cons rfl (Sub.nil _))) ?_ ?_
      · exact ⟨Nat.zero_le _, hB⟩
      rintro i w1 ⟨hi, hB⟩
      simp only [List.cons_append, List.nil_append]
      have hc := (cho_facts hn (show i ≤ 12 by omega)).1
      have hmul : choTo n i * (n - i) ≤ 1000 * 12 := Nat.mul_le_mul hc (by omega)
      refine W.seqR ?_
      refine LS.vv rfl rfl (by decide) (Val.lss rfl rfl) ?_
      refine LS.nil ?_
      refine W.seq ?_
      first | refine W.condD rfl (fun hc3 => ?_) (fun hc3 => ?_) | refine W.cond rfl (fun hc3 => ?_) (fun hc3 => ?_)
      ·
        refine W.skip ?_
        refine thenP_normal ?_
        refine W.seq ?_
        refine W.block ?_
        refine W.seqR ?_
        refine LS.vv rfl rfl (by decide) (Val.move rfl) ?_
        refine LS.vv rfl rfl (by decide) (Val.assign rfl) ?_
        refine LS.nil ?_
        refine W.reg ?_
        refine LS.vv rfl rfl (by decide) (Val.move rfl) ?_
        refine LS.vv rfl rfl (by decide) (Val.move rfl) ?_
        refine LS.vv rfl rfl (by decide) (Val.move rfl) ?_
        first | refine LS.vv rfl rfl (by decide) (Val.subN rfl rfl (by omega) (by omega)) ?_ | refine LS.vv rfl rfl (by decide) (Val.sub64 rfl rfl (by omega)) ?_
        first | refine LS.vv rfl rfl (by decide) (Val.mulN rfl rfl (by omega)) ?_ | refine LS.vv rfl rfl (by decide) (Val.mul64 rfl rfl (by omega)) ?_
        refine LS.vv rfl rfl (by decide) (Val.move rfl) ?_
        first | refine LS.vv rfl rfl (by decide) (Val.addN (j := 1) rfl rfl (by omega)) ?_ | refine LS.vv rfl rfl (by decide) (Val.add64 rfl rfl (by omega)) ?_
        first | refine LS.vv rfl rfl (by decide) (Val.quoN rfl rfl (by omega) (by omega)) ?_ | refine LS.vv rfl rfl (by decide) (Val.quo64 rfl rfl (by omega) (by omega)) ?_
        refine LS.vv rfl rfl (by decide) (Val.assign rfl) ?_
        refine LS.nil ?_
        refine inBlk_normal ?_
        refine thenP_normal ?_
        refine W.reg ?_
        first | refine LS.vv rfl rfl (by decide) (Val.addN (j := 1) rfl rfl (by omega)) ?_ | refine LS.vv rfl rfl (by decide) (Val.add64 rfl rfl (by omega)) ?_
        refine LS.vv rfl rfl (by decide) (Val.move rfl) ?_
        refine LS.nil ?_
        refine thenP_normal ?_
        refine ⟨i + 1, ?_, ?_, ⟨by omega, hB⟩, by omega⟩
        · exact Sub.cons rfl (Sub.cons rfl (Sub.nil _))
        · exact Sub.cons rfl (Sub.cons rfl (Sub.nil _))
      ·
        refine W.exit ?_
        refine thenP_exit ?_
        refine thenP_exit ?_
        refine inBlk_exit ?_
        refine thenP_normal ?_
        refine W.seqR ?_
        refine LS.vv rfl rfl (by decide) (Val.move rfl) ?_
        refine LS.vv rfl rfl (by decide) (Val.assign rfl) ?_
        refine LS.nil ?_
        refine W.ret ?_
        refine ret1 (by first | exact .inl rfl | exact .inr rfl) rfl ?_
        first | (exfalso; omega) | exact ⟨by rw [cho, if_pos (show n < k by omega)], hB⟩ | exact ⟨by rw [cho, if_neg (show ¬ n < k by omega), show k = i from by omega], hB⟩

theorem many_any (n k : Int) (w0 : World) :
    CallsV Try.prog 14 #[.int .i64 n, .int .i64 k] w0 (fun v w => ∃ m e : Nat, v = .tuple #[.int .i64 (m : Int), .int .i64 (e : Int)] ∧ (e = 0 ↔ 0 ≤ n ∧ n ≤ 12 ∧ 0 ≤ k ∧ k ≤ n) ∧ (e = 0 → m = cho n.toNat k.toNat) ∧ Below w0.heap.size w0 w) := by
  refine enter2 Try.func14 rfl Try.ntmps14 (by simp) rfl ?_
  have hB := Below.refl w0.heap.size w0
  simp only [argLoc, Nat.zero_add]
  refine W.seqR ?_
  refine LS.vv rfl rfl (by decide) (Val.cast (v := .int .i64 ((0 : Nat) : Int)) (Val.assign rfl) rfl) ?_
  refine LS.vv rfl rfl (by decide) (Val.cast (v := .int .i64 ((0 : Nat) : Int)) (Val.assign rfl) rfl) ?_
  refine LS.nil ?_
  refine W.seq ?_
  refine W.seqR ?_
  refine LS.vv rfl rfl (by decide) (Val.move rfl) ?_
  refine LS.vv rfl rfl (by decide) (Val.lss rfl rfl) ?_
  refine LS.vv rfl rfl (by decide) (Val.move rfl) ?_
  refine LS.split 2 rfl (fun hg1 => ?_) (fun hg1 => ?_)
  ·
    first | (have hg1p := of_decide_eq_true hg1) | skip
    refine LS.s rfl rfl rfl hg1 (by decide) ?_
    refine LS.s rfl rfl rfl hg1 (by decide) ?_
    refine LS.vv rfl rfl (by decide) (Val.pickT rfl hg1 rfl) ?_
    refine LS.nil ?_
    refine W.condT rfl ?_
    refine W.seqR ?_
    refine LS.vv rfl rfl (by decide) (Val.cast (v := .int .i64 ((0 : Nat) : Int)) (Val.assign rfl) rfl) ?_
    refine LS.vv rfl rfl (by decide) (Val.cast (v := .int .i64 ((1 : Nat) : Int)) (Val.assign rfl) rfl) ?_
    refine LS.nil ?_
    refine W.ret ?_
    refine thenP_ret ?_
    refine ret2 (by first | exact .inl rfl | exact .inr rfl) rfl rfl ?_
    first | exact ⟨0, 1, rfl, by omega, by omega, hB⟩ | exact ⟨0, 4, rfl, by omega, by omega, hB⟩ | exact ⟨_, 0, rfl, by omega, fun _ => rfl, hB⟩ | (exfalso; omega)
  ·
    first | (have hg1p := of_decide_eq_false hg1) | skip
    refine LS.vg rfl rfl rfl hg1 (by decide) (Val.move rfl) ?_
    refine LS.vg rfl rfl rfl hg1 (by decide) (Val.gtr rfl rfl) ?_
    refine LS.vv rfl rfl (by decide) (Val.pickF rfl hg1 rfl) ?_
    refine LS.nil ?_
    first | refine W.condD rfl (fun hc2 => ?_) (fun hc2 => ?_) | refine W.cond rfl (fun hc2 => ?_) (fun hc2 => ?_)
    ·
      refine W.seqR ?_
      refine LS.vv rfl rfl (by decide) (Val.cast (v := .int .i64 ((0 : Nat) : Int)) (Val.assign rfl) rfl) ?_
      refine LS.vv rfl rfl (by decide) (Val.cast (v := .int .i64 ((1 : Nat) : Int)) (Val.assign rfl) rfl) ?_
      refine LS.nil ?_
      refine W.ret ?_
      refine thenP_ret ?_
      refine ret2 (by first | exact .inl rfl | exact .inr rfl) rfl rfl ?_
      first | exact ⟨0, 1, rfl, by omega, by omega, hB⟩ | exact ⟨0, 4, rfl, by omega, by omega, hB⟩ | exact ⟨_, 0, rfl, by omega, fun _ => rfl, hB⟩ | (exfalso; omega)
    ·
      refine W.skip ?_
      refine thenP_normal ?_
      refine W.seq ?_
      refine W.seqR ?_
      refine LS.vv rfl rfl (by decide) (Val.move rfl) ?_
      refine LS.vv rfl rfl (by decide) (Val.lss rfl rfl) ?_
      refine LS.vv rfl rfl (by decide) (Val.move rfl) ?_
      refine LS.split 2 rfl (fun hg3 => ?_) (fun hg3 => ?_)
      ·
        first | (have hg3p := of_decide_eq_true hg3) | skip
        refine LS.s rfl rfl rfl hg3 (by decide) ?_
        refine LS.s rfl rfl rfl hg3 (by decide) ?_
        refine LS.s rfl rfl rfl hg3 (by decide) ?_
        refine LS.vv rfl rfl (by decide) (Val.pickT rfl hg3 rfl) ?_
        refine LS.nil ?_
        refine W.condT rfl ?_
        refine W.seqR ?_
        refine LS.vv rfl rfl (by decide) (Val.cast (v := .int .i64 ((0 : Nat) : Int)) (Val.assign rfl) rfl) ?_
        refine LS.vv rfl rfl (by decide) (Val.cast (v := .int .i64 ((4 : Nat) : Int)) (Val.assign rfl) rfl) ?_
        refine LS.nil ?_
        refine W.ret ?_
        refine thenP_ret ?_
        refine ret2 (by first | exact .inl rfl | exact .inr rfl) rfl rfl ?_
        first | exact ⟨0, 1, rfl, by omega, by omega, hB⟩ | exact ⟨0, 4, rfl, by omega, by omega, hB⟩ | exact ⟨_, 0, rfl, by omega, fun _ => rfl, hB⟩ | (exfalso; omega)
      ·
        first | (have hg3p := of_decide_eq_false hg3) | skip
        refine LS.vg rfl rfl rfl hg3 (by decide) (Val.move rfl) ?_
        refine LS.vg rfl rfl rfl hg3 (by decide) (Val.move rfl) ?_
        refine LS.vg rfl rfl rfl hg3 (by decide) (Val.gtr rfl rfl) ?_
        refine LS.vv rfl rfl (by decide) (Val.pickF rfl hg3 rfl) ?_
        refine LS.nil ?_
        first | refine W.condD rfl (fun hc4 => ?_) (fun hc4 => ?_) | refine W.cond rfl (fun hc4 => ?_) (fun hc4 => ?_)
        ·
          refine W.seqR ?_
          refine LS.vv rfl rfl (by decide) (Val.cast (v := .int .i64 ((0 : Nat) : Int)) (Val.assign rfl) rfl) ?_
          refine LS.vv rfl rfl (by decide) (Val.cast (v := .int .i64 ((4 : Nat) : Int)) (Val.assign rfl) rfl) ?_
          refine LS.nil ?_
          refine W.ret ?_
          refine thenP_ret ?_
          refine ret2 (by first | exact .inl rfl | exact .inr rfl) rfl rfl ?_
          first | exact ⟨0, 1, rfl, by omega, by omega, hB⟩ | exact ⟨0, 4, rfl, by omega, by omega, hB⟩ | exact ⟨_, 0, rfl, by omega, fun _ => rfl, hB⟩ | (exfalso; omega)
        ·
          refine W.skip ?_
          refine thenP_normal ?_
          refine W.seqR ?_
          refine LS.vv rfl rfl (by decide) (Val.move rfl) ?_
          refine LS.vv rfl rfl (by decide) (Val.move rfl) ?_
          obtain ⟨n, rfl⟩ := Int.eq_ofNat_of_zero_le (show 0 ≤ n by omega)
          obtain ⟨k, rfl⟩ := Int.eq_ofNat_of_zero_le (show 0 ≤ k by omega)
          refine LS.m rfl (Step.call body31 rfl rfl (by decide) rfl (CallsV.mono (choose_any n k _ (by omega) (by omega)) ?_))
          rintro _ w1 ⟨rfl, hb1⟩
          replace hB := hB.trans (hb1.mono hB.size)
          refine LS.vv rfl rfl (by decide) (Val.assign rfl) ?_
          refine LS.vv rfl rfl (by decide) (Val.cast (v := .int .i64 ((0 : Nat) : Int)) (Val.assign rfl) rfl) ?_
          refine LS.nil ?_
          refine W.ret ?_
          refine ret2 (by first | exact .inl rfl | exact .inr rfl) rfl rfl ?_
          first | exact ⟨0, 1, rfl, by omega, by omega, hB⟩ | exact ⟨0, 4, rfl, by omega, by omega, hB⟩ | exact ⟨_, 0, rfl, by omega, fun _ => rfl, hB⟩ | (exfalso; omega)

theorem kbits_any (n : Int) (w0 : World) :
    CallsV Try.prog 15 #[.int .i64 n] w0 (fun v w => ∃ b : Bool, v = .bool b ∧ (b = true ↔ 0 ≤ n ∧ n ≤ 12) ∧ Below w0.heap.size w0 w) := by
  refine enter1 Try.func15 rfl Try.ntmps15 (by simp) rfl ?_
  have hB := Below.refl w0.heap.size w0
  simp only [argLoc]
  refine W.seqR ?_
  refine LS.vv rfl rfl (by decide) (Val.assign rfl) ?_
  refine LS.nil ?_
  refine W.seqR ?_
  refine LS.vv rfl rfl (by decide) (Val.move rfl) ?_
  refine LS.vv rfl rfl (by decide) (Val.geq rfl rfl) ?_
  refine LS.vv rfl rfl (by decide) (Val.move rfl) ?_
  refine LS.split 2 rfl (fun hg1 => ?_) (fun hg1 => ?_)
  ·
    first | (have hg1p := of_decide_eq_true hg1) | skip
    refine LS.vg rfl rfl rfl hg1 (by decide) (Val.move rfl) ?_
    refine LS.vg rfl rfl rfl hg1 (by decide) (Val.leq rfl rfl) ?_
    refine LS.vv rfl rfl (by decide) (Val.pickT rfl hg1 rfl) ?_
    refine LS.vv rfl rfl (by decide) (Val.assign rfl) ?_
    refine LS.nil ?_
    refine W.ret ?_
    refine ret1 (by first | exact .inl rfl | exact .inr rfl) rfl ?_
    first | exact ⟨_, rfl, by rw [decide_eq_true_iff]; omega, hB⟩ | exact ⟨_, rfl, ⟨fun h => (by cases h), fun h => (by omega)⟩, hB⟩
  ·
    first | (have hg1p := of_decide_eq_false hg1) | skip
    refine LS.s rfl rfl rfl hg1 (by decide) ?_
    refine LS.s rfl rfl rfl hg1 (by decide) ?_
    refine LS.vv rfl rfl (by decide) (Val.pickF rfl hg1 rfl) ?_
    refine LS.vv rfl rfl (by decide) (Val.assign rfl) ?_
    refine LS.nil ?_
    refine W.ret ?_
    refine ret1 (by first | exact .inl rfl | exact .inr rfl) rfl ?_
    first | exact ⟨_, rfl, by rw [decide_eq_true_iff]; omega, hB⟩ | exact ⟨_, rfl, ⟨fun h => (by cases h), fun h => (by omega)⟩, hB⟩

theorem rankPascal_any (n k : Int) (w0 : World) (hn : -9223372036854775808 ≤ n) (hk : -9223372036854775808 ≤ k) :
    CallsV Try.prog 3 #[.int .i64 n, .int .i64 k] w0 (fun v w => v = .bool true ∧ Below w0.heap.size w0 w) := by
  refine enter1 Try.func3 rfl Try.ntmps3 (by simp) rfl ?_
  have hB := Below.refl w0.heap.size w0
  simp only [argLoc, Nat.zero_add]
  refine W.seqR ?_
  refine LS.vv rfl rfl (by decide) (Val.assign rfl) ?_
  refine LS.nil ?_
  refine W.seqR ?_
  refine LS.vv rfl rfl (by decide) (Val.move rfl) ?_
  refine LS.vv rfl rfl (by decide) (Val.move rfl) ?_
  refine LS.m rfl (Step.call body14 rfl rfl (by decide) rfl (CallsV.mono (many_any n k _) ?_))
  rintro _ w1 ⟨m1, e1, rfl, he1, hm1, hb1⟩
  replace hB := hB.trans (hb1.mono hB.size)
  refine LS.vv rfl rfl (by decide) (Val.move rfl) ?_
  refine LS.vv rfl rfl (by decide) (Val.extract rfl rfl) ?_
  refine LS.vv rfl rfl (by decide) (Val.extract rfl rfl) ?_
  refine LS.vv rfl rfl (by decide) (Val.assign rfl) ?_
  refine LS.vv rfl rfl (by decide) (Val.assign rfl) ?_
  refine LS.nil ?_
  refine W.seq ?_
  refine W.seqR ?_
  refine LS.vv rfl rfl (by decide) (Val.move rfl) ?_
  refine LS.m rfl (Step.call body15 rfl rfl (by decide) rfl (CallsV.mono (kbits_any n _) ?_))
  rintro _ w2 ⟨b, rfl, hbb, hb2⟩
  replace hB := hB.trans (hb2.mono hB.size)
  have hbf : b = false ↔ ¬ (0 ≤ n ∧ n ≤ 12) := by rw [← hbb]; simp
  refine LS.vv rfl rfl (by decide) (Val.not rfl) ?_
  refine LS.vv rfl rfl (by decide) (Val.move rfl) ?_
  refine LS.split 3 rfl (fun hg1 => ?_) (fun hg1 => ?_)
  ·
    first | (have hg1p := of_decide_eq_true hg1) | skip
    refine LS.s rfl rfl rfl hg1 (by decide) ?_
    refine LS.s rfl rfl rfl hg1 (by decide) ?_
    refine LS.vv rfl rfl (by decide) (Val.pickT rfl hg1 rfl) ?_
    refine LS.vv rfl rfl (by decide) (Val.move rfl) ?_
    refine LS.s rfl rfl rfl rfl (by decide) ?_
    refine LS.s rfl rfl rfl rfl (by decide) ?_
    refine LS.s rfl rfl rfl rfl (by decide) ?_
    refine LS.vv rfl rfl (by decide) (Val.pickT rfl rfl rfl) ?_
    refine LS.nil ?_
    refine W.condT rfl ?_
    refine W.seqR ?_
    refine LS.vv rfl rfl (by decide) (Val.move rfl) ?_
    refine LS.vv rfl rfl (by decide) (Val.neq rfl rfl) ?_
    refine LS.vv rfl rfl (by decide) (Val.assign rfl) ?_
    refine LS.nil ?_
    refine W.ret ?_
    refine thenP_ret ?_
    refine ret1 (by first | exact .inl rfl | exact .inr rfl) rfl ?_
    first | exact ⟨rfl, hB⟩ | (exfalso; omega) | exact ⟨congrArg Value.bool (decide_eq_true (by omega)), hB⟩ | (have := hbf.1 (by simpa using ‹(!b) = true›); exact ⟨congrArg Value.bool (decide_eq_true (by omega)), hB⟩)
  ·
    first | (have hg1p := of_decide_eq_false hg1) | skip
    have hbt : b = true := by simpa using ‹(!b) = false›
    have hn2 := hbb.1 hbt
    refine LS.vg rfl rfl rfl hg1 (by decide) (Val.move rfl) ?_
    refine LS.vg rfl rfl rfl hg1 (by decide) (Val.lss rfl rfl) ?_
    refine LS.vv rfl rfl (by decide) (Val.pickF rfl hg1 rfl) ?_
    refine LS.vv rfl rfl (by decide) (Val.move rfl) ?_
    refine LS.split 7 rfl (fun hg2 => ?_) (fun hg2 => ?_)
    ·
      first | (have hg2p := of_decide_eq_true hg2) | skip
      refine LS.s rfl rfl rfl hg2 (by decide) ?_
      refine LS.s rfl rfl rfl hg2 (by decide) ?_
      refine LS.s rfl rfl rfl hg2 (by decide) ?_
      refine LS.vv rfl rfl (by decide) (Val.pickT rfl hg2 rfl) ?_
      refine LS.nil ?_
      refine W.condT rfl ?_
      refine W.seqR ?_
      refine LS.vv rfl rfl (by decide) (Val.move rfl) ?_
      refine LS.vv rfl rfl (by decide) (Val.neq rfl rfl) ?_
      refine LS.vv rfl rfl (by decide) (Val.assign rfl) ?_
      refine LS.nil ?_
      refine W.ret ?_
      refine thenP_ret ?_
      refine ret1 (by first | exact .inl rfl | exact .inr rfl) rfl ?_
      first | exact ⟨rfl, hB⟩ | (exfalso; omega) | exact ⟨congrArg Value.bool (decide_eq_true (by omega)), hB⟩ | (have := hbf.1 (by simpa using ‹(!b) = true›); exact ⟨congrArg Value.bool (decide_eq_true (by omega)), hB⟩)
    ·
      first | (have hg2p := of_decide_eq_false hg2) | skip
      refine LS.vg rfl rfl rfl hg2 (by decide) (Val.move rfl) ?_
      refine LS.vg rfl rfl rfl hg2 (by decide) (Val.move rfl) ?_
      refine LS.vg rfl rfl rfl hg2 (by decide) (Val.gtr rfl rfl) ?_
      refine LS.vv rfl rfl (by decide) (Val.pickF rfl hg2 rfl) ?_
      refine LS.nil ?_
      first | refine W.condD rfl (fun hc3 => ?_) (fun hc3 => ?_) | refine W.cond rfl (fun hc3 => ?_) (fun hc3 => ?_)
      ·
        refine W.seqR ?_
        refine LS.vv rfl rfl (by decide) (Val.move rfl) ?_
        refine LS.vv rfl rfl (by decide) (Val.neq rfl rfl) ?_
        refine LS.vv rfl rfl (by decide) (Val.assign rfl) ?_
        refine LS.nil ?_
        refine W.ret ?_
        refine thenP_ret ?_
        refine ret1 (by first | exact .inl rfl | exact .inr rfl) rfl ?_
        first | exact ⟨rfl, hB⟩ | (exfalso; omega) | exact ⟨congrArg Value.bool (decide_eq_true (by omega)), hB⟩ | (have := hbf.1 (by simpa using ‹(!b) = true›); exact ⟨congrArg Value.bool (decide_eq_true (by omega)), hB⟩)
      ·
        refine W.skip ?_
        refine thenP_normal ?_
        refine W.seq ?_
        refine W.seqR ?_
        have hn3 : 0 ≤ n := by omega
        obtain ⟨n, rfl⟩ := Int.eq_ofNat_of_zero_le hn3
        obtain ⟨k, rfl⟩ := Int.eq_ofNat_of_zero_le (show 0 ≤ k by omega)
        have h1 := hm1 (he1.2 (by omega))
        simp only [Int.toNat_natCast] at h1
        obtain ⟨c1, c2, c3, c4⟩ := cho_facts (n := n) (k := k) (by omega) (by omega)
        refine LS.vv rfl rfl (by decide) (Val.move rfl) ?_
        refine LS.vv rfl rfl (by decide) (Val.eql rfl rfl) ?_
        refine LS.vv rfl rfl (by decide) (Val.move rfl) ?_
        refine LS.split 2 rfl (fun hg4 => ?_) (fun hg4 => ?_)
        ·
          first | (have hg4p := of_decide_eq_true hg4) | skip
          refine LS.s rfl rfl rfl hg4 (by decide) ?_
          refine LS.s rfl rfl rfl hg4 (by decide) ?_
          refine LS.s rfl rfl rfl hg4 (by decide) ?_
          refine LS.vv rfl rfl (by decide) (Val.pickT rfl hg4 rfl) ?_
          refine LS.nil ?_
          refine W.condT rfl ?_
          refine W.seqR ?_
          refine LS.vv rfl rfl (by decide) (Val.move rfl) ?_
          refine LS.vv rfl rfl (by decide) (Val.cast (v := .bool true) (Val.eql rfl rfl) (by first | (simp; done) | (simp; omega))) ?_
          refine LS.vv rfl rfl (by decide) (Val.move rfl) ?_
          refine LS.vg rfl rfl rfl rfl (by decide) (Val.move rfl) ?_
          refine LS.vg rfl rfl rfl rfl (by decide) (Val.cast (v := .bool true) (Val.eql rfl rfl) (by refine congrArg Value.bool (decide_eq_true ?_); rw [h1]; first | (rw [show k = 0 from by omega, c3]; rfl) | (rw [show k = n from by omega, c4]; rfl))) ?_
          refine LS.vv rfl rfl (by decide) (Val.pickT rfl rfl rfl) ?_
          refine LS.vv rfl rfl (by decide) (Val.assign rfl) ?_
          refine LS.nil ?_
          refine W.ret ?_
          refine thenP_ret ?_
          refine ret1 (by first | exact .inl rfl | exact .inr rfl) rfl ?_
          first | exact ⟨rfl, hB⟩ | (exfalso; omega) | exact ⟨congrArg Value.bool (decide_eq_true (by omega)), hB⟩ | (have := hbf.1 (by simpa using ‹(!b) = true›); exact ⟨congrArg Value.bool (decide_eq_true (by omega)), hB⟩)
        ·
          first | (have hg4p := of_decide_eq_false hg4) | skip
          refine LS.vg rfl rfl rfl hg4 (by decide) (Val.move rfl) ?_
          refine LS.vg rfl rfl rfl hg4 (by decide) (Val.move rfl) ?_
          refine LS.vg rfl rfl rfl hg4 (by decide) (Val.eql rfl rfl) ?_
          refine LS.vv rfl rfl (by decide) (Val.pickF rfl hg4 rfl) ?_
          refine LS.nil ?_
          first | refine W.condD rfl (fun hc5 => ?_) (fun hc5 => ?_) | refine W.cond rfl (fun hc5 => ?_) (fun hc5 => ?_)
          ·
            refine W.seqR ?_
            refine LS.vv rfl rfl (by decide) (Val.move rfl) ?_
            refine LS.vv rfl rfl (by decide) (Val.cast (v := .bool true) (Val.eql rfl rfl) (by first | (simp; done) | (simp; omega))) ?_
            refine LS.vv rfl rfl (by decide) (Val.move rfl) ?_
            refine LS.vg rfl rfl rfl rfl (by decide) (Val.move rfl) ?_
            refine LS.vg rfl rfl rfl rfl (by decide) (Val.cast (v := .bool true) (Val.eql rfl rfl) (by refine congrArg Value.bool (decide_eq_true ?_); rw [h1]; first | (rw [show k = 0 from by omega, c3]; rfl) | (rw [show k = n from by omega, c4]; rfl))) ?_
            refine LS.vv rfl rfl (by decide) (Val.pickT rfl rfl rfl) ?_
            refine LS.vv rfl rfl (by decide) (Val.assign rfl) ?_
            refine LS.nil ?_
            refine W.ret ?_
            refine thenP_ret ?_
            refine ret1 (by first | exact .inl rfl | exact .inr rfl) rfl ?_
            first | exact ⟨rfl, hB⟩ | (exfalso; omega) | exact ⟨congrArg Value.bool (decide_eq_true (by omega)), hB⟩ | (have := hbf.1 (by simpa using ‹(!b) = true›); exact ⟨congrArg Value.bool (decide_eq_true (by omega)), hB⟩)
          ·
            refine W.skip ?_
            refine thenP_normal ?_
            refine W.seqR ?_
            refine LS.vv rfl rfl (by decide) (Val.move rfl) ?_
            first | refine LS.vv rfl rfl (by decide) (Val.subN (j := 1) rfl rfl (by omega) (by omega)) ?_ | refine LS.vv rfl rfl (by decide) (Val.sub64 rfl rfl (by omega)) ?_
            refine LS.vv rfl rfl (by decide) (Val.move rfl) ?_
            refine LS.m rfl (Step.call body14 rfl rfl (by decide) rfl (CallsV.mono (many_any _ _ _) ?_))
            rintro _ w3 ⟨m2, e2, rfl, he2, hm2, hb3⟩
            replace hB := hB.trans (hb3.mono hB.size)
            refine LS.vv rfl rfl (by decide) (Val.move rfl) ?_
            refine LS.vv rfl rfl (by decide) (Val.extract rfl rfl) ?_
            refine LS.vv rfl rfl (by decide) (Val.extract rfl rfl) ?_
            refine LS.vv rfl rfl (by decide) (Val.assign rfl) ?_
            refine LS.vv rfl rfl (by decide) (Val.assign rfl) ?_
            refine LS.nil ?_
            refine W.seqR ?_
            refine LS.vv rfl rfl (by decide) (Val.move rfl) ?_
            first | refine LS.vv rfl rfl (by decide) (Val.subN (j := 1) rfl rfl (by omega) (by omega)) ?_ | refine LS.vv rfl rfl (by decide) (Val.sub64 rfl rfl (by omega)) ?_
            refine LS.vv rfl rfl (by decide) (Val.move rfl) ?_
            first | refine LS.vv rfl rfl (by decide) (Val.subN (j := 1) rfl rfl (by omega) (by omega)) ?_ | refine LS.vv rfl rfl (by decide) (Val.sub64 rfl rfl (by omega)) ?_
            refine LS.m rfl (Step.call body14 rfl rfl (by decide) rfl (CallsV.mono (many_any _ _ _) ?_))
            rintro _ w4 ⟨m3, e3, rfl, he3, hm3, hb4⟩
            replace hB := hB.trans (hb4.mono hB.size)
            have h2 := hm2 (he2.2 (by omega))
            have h3 := hm3 (he3.2 (by omega))
            have hch := c2 (by omega) (by omega) (by omega)
            rw [show (((n - 1 : Nat) : Int)).toNat = n - 1 from by omega] at h2 h3
            rw [Int.toNat_natCast] at h2
            rw [show (((k - 1 : Nat) : Int)).toNat = k - 1 from by omega] at h3
            have hle : m2 ≤ 2000 := by rw [h2, cho]; have := (cho_facts (n := n - 1) (k := k) (by omega) (by omega)).1; split <;> omega
            have hle3 : m3 ≤ 2000 := by rw [h3, cho]; have := (cho_facts (n := n - 1) (k := k - 1) (by omega) (by omega)).1; split <;> omega
            refine LS.vv rfl rfl (by decide) (Val.move rfl) ?_
            refine LS.vv rfl rfl (by decide) (Val.extract rfl rfl) ?_
            refine LS.vv rfl rfl (by decide) (Val.extract rfl rfl) ?_
            refine LS.vv rfl rfl (by decide) (Val.assign rfl) ?_
            refine LS.vv rfl rfl (by decide) (Val.assign rfl) ?_
            refine LS.nil ?_
            refine W.seqR ?_
            refine LS.vv rfl rfl (by decide) (Val.move rfl) ?_
            refine LS.vv rfl rfl (by decide) (Val.cast (v := .bool true) (Val.eql rfl rfl) (by first | (simp; done) | (simp; omega))) ?_
            refine LS.vv rfl rfl (by decide) (Val.move rfl) ?_
            refine LS.vg rfl rfl rfl rfl (by decide) (Val.move rfl) ?_
            refine LS.vg rfl rfl rfl rfl (by decide) (Val.cast (v := .bool true) (Val.eql rfl rfl) (by first | (simp; done) | (simp; omega))) ?_
            refine LS.vv rfl rfl (by decide) (Val.pickT rfl rfl rfl) ?_
            refine LS.vv rfl rfl (by decide) (Val.move rfl) ?_
            refine LS.vg rfl rfl rfl rfl (by decide) (Val.move rfl) ?_
            refine LS.vg rfl rfl rfl rfl (by decide) (Val.cast (v := .bool true) (Val.eql rfl rfl) (by first | (simp; done) | (simp; omega))) ?_
            refine LS.vv rfl rfl (by decide) (Val.pickT rfl rfl rfl) ?_
            refine LS.vv rfl rfl (by decide) (Val.move rfl) ?_
            refine LS.vg rfl rfl rfl rfl (by decide) (Val.move rfl) ?_
            refine LS.vg rfl rfl rfl rfl (by decide) (Val.move rfl) ?_
            refine LS.vg rfl rfl rfl rfl (by decide) (Val.move rfl) ?_
            first | refine LS.vg rfl rfl rfl rfl (by decide) (Val.addN rfl rfl (by omega)) ?_ | refine LS.vg rfl rfl rfl rfl (by decide) (Val.add64 rfl rfl (by omega)) ?_
            refine LS.vg rfl rfl rfl rfl (by decide) (Val.cast (v := .bool true) (Val.eql rfl rfl) (by refine congrArg Value.bool (decide_eq_true ?_); omega)) ?_
            refine LS.vv rfl rfl (by decide) (Val.pickT rfl rfl rfl) ?_
            refine LS.vv rfl rfl (by decide) (Val.assign rfl) ?_
            refine LS.nil ?_
            refine W.ret ?_
            refine ret1 (by first | exact .inl rfl | exact .inr rfl) rfl ?_
            first | exact ⟨rfl, hB⟩ | (exfalso; omega) | exact ⟨congrArg Value.bool (decide_eq_true (by omega)), hB⟩ | (have := hbf.1 (by simpa using ‹(!b) = true›); exact ⟨congrArg Value.bool (decide_eq_true (by omega)), hB⟩)

end Go.Proofs.Ytclobhnclogaoaa
