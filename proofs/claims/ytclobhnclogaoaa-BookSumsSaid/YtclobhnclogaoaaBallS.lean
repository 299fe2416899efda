/-
  The walk of ball.Size.
-/
import Derived.Test.YtclobhnclogaoaaWords
import Derived.Test.YtclobhnclogaoaaCountPlain
import Derived.Test.YtclobhnclogaoaaRank
import Derived.Test.YtclobhnclogaoaaVmore
namespace Go.Proofs.Ytclobhnclogaoaa
open Go Go.RowKit V
set_option linter.unusedVariables false

theorem bsize_any (n r : Int) (w0 : World) :
    CallsV Try.prog 26 #[.int .i64 n, .int .i64 r] w0 (fun v w => ∃ M e : Nat, v = .tuple #[.int .i64 (M : Int), .int .i64 (e : Int)] ∧ (e = 0 ↔ 0 ≤ n ∧ n ≤ 12 ∧ 0 ≤ r ∧ r ≤ n) ∧ (e = 0 → M = ballN n.toNat r.toNat) ∧ Below w0.heap.size w0 w) := by
  refine enter2 Try.func26 rfl Try.ntmps26 (by simp) rfl ?_
  have hB := Below.refl w0.heap.size w0
  simp only [argLoc, Nat.zero_add]
  refine W.seqR ?_
  refine LS.vv rfl rfl (by decide) (Val.cast (v := .int .i64 ((0 : Nat) : Int)) (Val.assign rfl) rfl) ?_
  refine LS.vv rfl rfl (by decide) (Val.cast (v := .int .i64 ((0 : Nat) : Int)) (Val.assign rfl) rfl) ?_
  refine LS.nil ?_
  refine W.seq ?_
  refine W.seqR ?_
  refine LS.vv rfl rfl (by decide) (Val.move rfl) ?_
  refine LS.m rfl (Step.call body36 rfl rfl (by decide) rfl (CallsV.mono (ballCheck_any n [] _ _ _ (Rd.nil _ _) (by simp) (by simp)) ?_))
  rintro _ w1 ⟨e, rfl, he, hb1⟩
  replace hB := hB.trans (hb1.mono hB.size)
  refine LS.vv rfl rfl (by decide) (Val.assign rfl) ?_
  refine LS.nil ?_
  refine W.seqR ?_
  refine LS.vv rfl rfl (by decide) (Val.move rfl) ?_
  refine LS.vv rfl rfl (by decide) (Val.neq rfl rfl) ?_
  refine LS.nil ?_
  first | refine W.condD rfl (fun hc1 => ?_) (fun hc1 => ?_) | refine W.cond rfl (fun hc1 => ?_) (fun hc1 => ?_)
  ·
    refine W.seqR ?_
    refine LS.vv rfl rfl (by decide) (Val.move rfl) ?_
    refine LS.vv rfl rfl (by decide) (Val.cast (v := .int .i64 ((0 : Nat) : Int)) (Val.assign rfl) rfl) ?_
    refine LS.vv rfl rfl (by decide) (Val.assign rfl) ?_
    refine LS.nil ?_
    refine W.ret ?_
    refine thenP_ret ?_
    refine ret2 (by first | exact .inl rfl | exact .inr rfl) rfl rfl ?_
    first | (refine ⟨0, e, rfl, ⟨fun h => by omega, fun h => he.2 ⟨h.1, h.2.1, by simp⟩⟩, fun h => by omega, hB⟩) | (refine ⟨0, 4, rfl, ⟨fun h => by omega, fun h => by (exfalso; omega)⟩, fun h => by omega, hB⟩) | (obtain rfl : k = q + 1 := (by omega); exact ⟨_, 0, rfl, ⟨fun _ => by omega, fun _ => rfl⟩, fun _ => choSum_ball m q hm12 (by omega), hB⟩)
  ·
    refine W.skip ?_
    refine thenP_normal ?_
    refine W.seq ?_
    refine W.seqR ?_
    refine LS.vv rfl rfl (by decide) (Val.move rfl) ?_
    refine LS.vv rfl rfl (by decide) (Val.lss rfl rfl) ?_
    refine LS.vv rfl rfl (by decide) (Val.move rfl) ?_
    refine LS.split 2 rfl (fun hg2 => ?_) (fun hg2 => ?_)
    ·
      first | (have hg2p := of_decide_eq_true hg2) | skip
      refine LS.s rfl rfl rfl hg2 (by decide) ?_
      refine LS.s rfl rfl rfl hg2 (by decide) ?_
      refine LS.s rfl rfl rfl hg2 (by decide) ?_
      refine LS.vv rfl rfl (by decide) (Val.pickT rfl hg2 rfl) ?_
      refine LS.nil ?_
      refine W.condT rfl ?_
      refine W.seqR ?_
      refine LS.vv rfl rfl (by decide) (Val.cast (v := .int .i64 ((0 : Nat) : Int)) (Val.assign rfl) rfl) ?_
      refine LS.vv rfl rfl (by decide) (Val.cast (v := .int .i64 ((4 : Nat) : Int)) (Val.assign rfl) rfl) ?_
      refine LS.nil ?_
      refine W.ret ?_
      refine thenP_ret ?_
      refine ret2 (by first | exact .inl rfl | exact .inr rfl) rfl rfl ?_
      first | (refine ⟨0, e, rfl, ⟨fun h => by omega, fun h => he.2 ⟨h.1, h.2.1, by simp⟩⟩, fun h => by omega, hB⟩) | (refine ⟨0, 4, rfl, ⟨fun h => by omega, fun h => by (exfalso; omega)⟩, fun h => by omega, hB⟩) | (obtain rfl : k = q + 1 := (by omega); exact ⟨_, 0, rfl, ⟨fun _ => by omega, fun _ => rfl⟩, fun _ => choSum_ball m q hm12 (by omega), hB⟩)
    ·
      first | (have hg2p := of_decide_eq_false hg2) | skip
      refine LS.vg rfl rfl rfl hg2 (by decide) (Val.move rfl) ?_
      refine LS.vg rfl rfl rfl hg2 (by decide) (Val.move rfl) ?_
      refine LS.vg rfl rfl rfl hg2 (by decide) (Val.gtr rfl rfl) ?_
      refine LS.vv rfl rfl (by decide) (Val.pickF rfl hg2 rfl) ?_
      refine LS.nil ?_
      first | refine W.condD rfl (fun hc3 => ?_) (fun hc3 => ?_) | refine W.cond rfl (fun hc3 => ?_) (fun hc3 => ?_)
      ·
        refine W.seqR ?_
        refine LS.vv rfl rfl (by decide) (Val.cast (v := .int .i64 ((0 : Nat) : Int)) (Val.assign rfl) rfl) ?_
        refine LS.vv rfl rfl (by decide) (Val.cast (v := .int .i64 ((4 : Nat) : Int)) (Val.assign rfl) rfl) ?_
        refine LS.nil ?_
        refine W.ret ?_
        refine thenP_ret ?_
        refine ret2 (by first | exact .inl rfl | exact .inr rfl) rfl rfl ?_
        first | (refine ⟨0, e, rfl, ⟨fun h => by omega, fun h => he.2 ⟨h.1, h.2.1, by simp⟩⟩, fun h => by omega, hB⟩) | (refine ⟨0, 4, rfl, ⟨fun h => by omega, fun h => by (exfalso; omega)⟩, fun h => by omega, hB⟩) | (obtain rfl : k = q + 1 := (by omega); exact ⟨_, 0, rfl, ⟨fun _ => by omega, fun _ => rfl⟩, fun _ => choSum_ball m q hm12 (by omega), hB⟩)
      ·
        obtain ⟨m, rfl⟩ := Int.eq_ofNat_of_zero_le (show 0 ≤ n by have := (he.1 (by omega)).1; omega)
        obtain ⟨q, rfl⟩ := Int.eq_ofNat_of_zero_le (show 0 ≤ r by omega)
        have hm12 : m ≤ 12 := by have := (he.1 (by omega)).2.1; omega
        refine W.skip ?_
        refine thenP_normal ?_
        refine W.seqR ?_
        refine LS.vv rfl rfl (by decide) (Val.cast (v := .int .i64 ((0 : Nat) : Int)) (Val.assign rfl) rfl) ?_
        refine LS.nil ?_
        refine W.seq ?_
        refine W.seqR ?_
        refine LS.vv rfl rfl (by decide) (Val.move rfl) ?_
        first | refine LS.vv rfl rfl (by decide) (Val.addN (j := 1) rfl rfl (by omega)) ?_ | refine LS.vv rfl rfl (by decide) (Val.add64 rfl rfl (by omega)) ?_
        refine LS.vv rfl rfl (by decide) (Val.cast (v := .int .i64 ((0 : Nat) : Int)) (Val.move rfl) rfl) ?_
        refine LS.nil ?_
        refine W.block ?_
        refine W.loop (α := Nat) (fun k => [(7, .int .i64 (choSum m k : Int)), (25, .int .i64 (k : Int))]) [(0, _), (24, _)] (fun k w => k ≤ q + 1 ∧ Below w0.heap.size w0 w) (fun k => q + 1 - k) (0) (Sub.cons rfl (Sub.cons rfl (Sub.nil _))) (Sub.cons rfl (Sub.cons rfl (Sub.nil _))) ?_ ?_
        · exact ⟨Nat.zero_le _, hB⟩
        rintro k w2 ⟨hk, hB⟩
        simp only [List.cons_append, List.nil_append]
        obtain ⟨b1, b2⟩ := choSum_le hm12 (show k ≤ 13 by omega)
        refine W.seqR ?_
        refine LS.vv rfl rfl (by decide) (Val.lss rfl rfl) ?_
        refine LS.nil ?_
        refine W.seq ?_
        first | refine W.condD rfl (fun hc4 => ?_) (fun hc4 => ?_) | refine W.cond rfl (fun hc4 => ?_) (fun hc4 => ?_)
        ·
          refine W.skip ?_
          refine thenP_normal ?_
          refine W.seq ?_
          refine W.block ?_
          refine W.seqR ?_
          refine LS.vv rfl rfl (by decide) (Val.move rfl) ?_
          refine LS.vv rfl rfl (by decide) (Val.assign rfl) ?_
          refine LS.nil ?_
          refine W.seqR ?_
          refine LS.vv rfl rfl (by decide) (Val.move rfl) ?_
          refine LS.vv rfl rfl (by decide) (Val.move rfl) ?_
          refine LS.m rfl (Step.call body14 rfl rfl (by decide) rfl (CallsV.mono (many_any _ _ _) ?_))
          rintro _ w3 ⟨x, e2, rfl, he2, hx, hb3⟩
          replace hB := hB.trans (hb3.mono hB.size)
          obtain rfl := hx (he2.2 (by omega))
          simp only [Int.toNat_natCast]
          refine LS.vv rfl rfl (by decide) (Val.move rfl) ?_
          refine LS.vv rfl rfl (by decide) (Val.extract rfl rfl) ?_
          refine LS.vv rfl rfl (by decide) (Val.extract rfl rfl) ?_
          refine LS.vv rfl rfl (by decide) (Val.assign rfl) ?_
          refine LS.vv rfl rfl (by decide) (Val.assign rfl) ?_
          refine LS.nil ?_
          refine W.reg ?_
          refine LS.vv rfl rfl (by decide) (Val.move rfl) ?_
          refine LS.vv rfl rfl (by decide) (Val.move rfl) ?_
          first | refine LS.vv rfl rfl (by decide) (Val.addN rfl rfl (by omega)) ?_ | refine LS.vv rfl rfl (by decide) (Val.add64 rfl rfl (by omega)) ?_
          refine LS.vv rfl rfl (by decide) (Val.assign rfl) ?_
          refine LS.nil ?_
          refine inBlk_normal ?_
          refine thenP_normal ?_
          refine W.reg ?_
          first | refine LS.vv rfl rfl (by decide) (Val.addN (j := 1) rfl rfl (by omega)) ?_ | refine LS.vv rfl rfl (by decide) (Val.add64 rfl rfl (by omega)) ?_
          refine LS.vv rfl rfl (by decide) (Val.move rfl) ?_
          refine LS.nil ?_
          refine thenP_normal ?_
          refine ⟨k + 1, ?_, ?_, ⟨by omega, hB⟩, by omega⟩
          · exact Sub.cons rfl (Sub.cons rfl (Sub.nil _))
          · repeat (first | exact Sub.nil _ | refine Sub.cons rfl ?_)
        ·
          refine W.exit ?_
          refine thenP_exit ?_
          refine thenP_exit ?_
          refine inBlk_exit ?_
          refine thenP_normal ?_
          refine W.seqR ?_
          refine LS.vv rfl rfl (by decide) (Val.move rfl) ?_
          refine LS.vv rfl rfl (by decide) (Val.assign rfl) ?_
          refine LS.vv rfl rfl (by decide) (Val.cast (v := .int .i64 ((0 : Nat) : Int)) (Val.assign rfl) rfl) ?_
          refine LS.nil ?_
          refine W.ret ?_
          refine ret2 (by first | exact .inl rfl | exact .inr rfl) rfl rfl ?_
          first | (refine ⟨0, e, rfl, ⟨fun h => by omega, fun h => he.2 ⟨h.1, h.2.1, by simp⟩⟩, fun h => by omega, hB⟩) | (refine ⟨0, 4, rfl, ⟨fun h => by omega, fun h => by (exfalso; omega)⟩, fun h => by omega, hB⟩) | (obtain rfl : k = q + 1 := (by omega); exact ⟨_, 0, rfl, ⟨fun _ => by omega, fun _ => rfl⟩, fun _ => choSum_ball m q hm12 (by omega), hB⟩)

end Go.Proofs.Ytclobhnclogaoaa
