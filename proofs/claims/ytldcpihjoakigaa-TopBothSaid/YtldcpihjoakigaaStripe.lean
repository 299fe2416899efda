/-
  Where a block stands: stripe.Place; the statement StripeApart.
-/
import Derived.Test.YtldcpihjoakigaaVfacts
import Derived.Test.YtldcpihjoakigaaStripePlain
namespace Go.Proofs.Ytldcpihjoakigaa
open Go Go.RowKit V
set_option linter.unusedVariables false
set_option linter.unusedSimpArgs false

theorem check_any (d r : Nat) (w0 : World) (hd : 1 ≤ d) (hd6 : d ≤ 1000) (hr : r ≤ 100000) :
    CallsV Try.prog 26 #[.int .i64 (d : Int), .int .i64 (r : Int)] w0 (fun v w => v = .int .i64 ((d - 1 - r % d : Nat) : Int) ∧ Below w0.heap.size w0 w) := by
  refine enter1 Try.func26 rfl Try.ntmps26 (by simp) rfl ?_
  have hB := Below.refl w0.heap.size w0
  simp only [argLoc, Nat.zero_add]
  have hm := Nat.mod_lt r (show 0 < d by omega)
  refine W.seqR ?_
  refine LS.vv rfl rfl (by decide) (Val.cast (v := .int .i64 ((0 : Nat) : Int)) (Val.assign rfl) rfl) ?_
  refine LS.nil ?_
  refine W.seqR ?_
  refine LS.vv rfl rfl (by decide) (Val.move rfl) ?_
  first | refine LS.vv rfl rfl (by decide) (Val.subN (j := 1) rfl rfl (by omega) (by omega)) ?_ | refine LS.vv rfl rfl (by decide) (Val.sub64 rfl rfl (by omega)) ?_
  refine LS.vv rfl rfl (by decide) (Val.move rfl) ?_
  refine LS.vv rfl rfl (by decide) (Val.move rfl) ?_
  first | refine LS.vv rfl rfl (by decide) (Val.remN rfl rfl (by omega)) ?_ | refine LS.vv rfl rfl (by decide) (Val.rem rfl rfl (by omega) (by omega)) ?_ | refine LS.vv rfl rfl (by decide) (Val.remT rfl rfl (by omega)) ?_
  first | refine LS.vv rfl rfl (by decide) (Val.subN rfl rfl (by omega) (by omega)) ?_ | refine LS.vv rfl rfl (by decide) (Val.sub64 rfl rfl (by omega)) ?_
  refine LS.vv rfl rfl (by decide) (Val.assign rfl) ?_
  refine LS.nil ?_
  refine W.ret ?_
  refine ret1 (by first | exact .inl rfl | exact .inr rfl) rfl ?_
  exact ⟨rfl, hB⟩

theorem place1_any (d b : Nat) (w0 : World) (hd : 3 ≤ d) (hd6 : d ≤ 6) (hb : b ≤ 1000) :
    CallsV Try.prog 19 #[.int .i64 (d : Int), .int .i64 (b : Int)] w0 (fun v w => v = .tuple #[.int .i64 (discOf d b : Int), .int .i64 (rowOf d b : Int)] ∧ Below w0.heap.size w0 w) := by
  refine enter2 Try.func19 rfl Try.ntmps19 (by simp) rfl ?_
  have hB := Below.refl w0.heap.size w0
  simp only [argLoc, Nat.zero_add]
  have hm := Nat.mod_lt b (show 0 < d - 1 by omega)
  have hq : b / (d - 1) ≤ 1000 := Nat.le_trans (Nat.div_le_self _ _) hb
  refine W.seqR ?_
  refine LS.vv rfl rfl (by decide) (Val.cast (v := .int .i64 ((0 : Nat) : Int)) (Val.assign rfl) rfl) ?_
  refine LS.vv rfl rfl (by decide) (Val.cast (v := .int .i64 ((0 : Nat) : Int)) (Val.assign rfl) rfl) ?_
  refine LS.nil ?_
  refine W.seqR ?_
  refine LS.vv rfl rfl (by decide) (Val.move rfl) ?_
  refine LS.vv rfl rfl (by decide) (Val.move rfl) ?_
  first | refine LS.vv rfl rfl (by decide) (Val.subN (j := 1) rfl rfl (by omega) (by omega)) ?_ | refine LS.vv rfl rfl (by decide) (Val.sub64 rfl rfl (by omega)) ?_
  first | refine LS.vv rfl rfl (by decide) (Val.quoN rfl rfl (by omega) (by omega)) ?_ | refine LS.vv rfl rfl (by decide) (Val.quo64 rfl rfl (by omega) (by omega)) ?_
  refine LS.vv rfl rfl (by decide) (Val.assign rfl) ?_
  refine LS.nil ?_
  refine W.seqR ?_
  refine LS.vv rfl rfl (by decide) (Val.move rfl) ?_
  refine LS.vv rfl rfl (by decide) (Val.move rfl) ?_
  first | refine LS.vv rfl rfl (by decide) (Val.subN (j := 1) rfl rfl (by omega) (by omega)) ?_ | refine LS.vv rfl rfl (by decide) (Val.sub64 rfl rfl (by omega)) ?_
  first | refine LS.vv rfl rfl (by decide) (Val.remN rfl rfl (by omega)) ?_ | refine LS.vv rfl rfl (by decide) (Val.rem rfl rfl (by omega) (by omega)) ?_ | refine LS.vv rfl rfl (by decide) (Val.remT rfl rfl (by omega)) ?_
  refine LS.vv rfl rfl (by decide) (Val.assign rfl) ?_
  refine LS.nil ?_
  refine W.seq ?_
  refine W.seqR ?_
  refine LS.vv rfl rfl (by decide) (Val.move rfl) ?_
  refine LS.vv rfl rfl (by decide) (Val.move rfl) ?_
  refine LS.vv rfl rfl (by decide) (Val.move rfl) ?_
  refine LS.m rfl (Step.call body26 rfl rfl (by decide) rfl (CallsV.mono (check_any d _ _ (by omega) (by omega) (by omega)) ?_))
  rintro _ w1 ⟨rfl, hb1⟩
  replace hB := hB.trans (hb1.mono hB.size)
  refine LS.vv rfl rfl (by decide) (Val.geq rfl rfl) ?_
  refine LS.nil ?_
  first | refine W.condD rfl (fun hc1 => ?_) (fun hc1 => ?_) | refine W.cond rfl (fun hc1 => ?_) (fun hc1 => ?_)
  ·
    refine W.reg ?_
    refine LS.vv rfl rfl (by decide) (Val.move rfl) ?_
    first | refine LS.vv rfl rfl (by decide) (Val.addN (j := 1) rfl rfl (by omega)) ?_ | refine LS.vv rfl rfl (by decide) (Val.add64 rfl rfl (by omega)) ?_
    refine LS.vv rfl rfl (by decide) (Val.assign rfl) ?_
    refine LS.nil ?_
    refine thenP_normal ?_
    refine W.seqR ?_
    refine LS.vv rfl rfl (by decide) (Val.move rfl) ?_
    refine LS.vv rfl rfl (by decide) (Val.move rfl) ?_
    refine LS.vv rfl rfl (by decide) (Val.assign rfl) ?_
    refine LS.vv rfl rfl (by decide) (Val.assign rfl) ?_
    refine LS.nil ?_
    refine W.ret ?_
    refine ret2 (by first | exact .inl rfl | exact .inr rfl) rfl rfl ?_
    refine ⟨?_, hB⟩
    have : discOf d b = b % (d - 1) + 1 := if_pos (by unfold rowOf; omega)
    rw [this]; rfl
  ·
    refine W.skip ?_
    refine thenP_normal ?_
    refine W.seqR ?_
    refine LS.vv rfl rfl (by decide) (Val.move rfl) ?_
    refine LS.vv rfl rfl (by decide) (Val.move rfl) ?_
    refine LS.vv rfl rfl (by decide) (Val.assign rfl) ?_
    refine LS.vv rfl rfl (by decide) (Val.assign rfl) ?_
    refine LS.nil ?_
    refine W.ret ?_
    refine ret2 (by first | exact .inl rfl | exact .inr rfl) rfl rfl ?_
    refine ⟨?_, hB⟩
    have : discOf d b = b % (d - 1) := if_neg (by unfold rowOf; omega)
    rw [this]; rfl

theorem place_any (d b : Int) (w0 : World) :
    CallsV Try.prog 11 #[.int .i64 d, .int .i64 b] w0 (fun v w => ∃ x r e : Nat, v = .tuple #[.int .i64 (x : Int), .int .i64 (r : Int), .int .i64 (e : Int)] ∧ (e = 0 ↔ 3 ≤ d ∧ d ≤ 6 ∧ 0 ≤ b ∧ b < 24) ∧ (e = 0 → x = discOf d.toNat b.toNat ∧ r = rowOf d.toNat b.toNat) ∧ Below w0.heap.size w0 w) := by
  refine enter3 Try.func11 rfl Try.ntmps11 (by simp) rfl ?_
  have hB := Below.refl w0.heap.size w0
  simp only [argLoc, Nat.zero_add]
  refine W.seqR ?_
  refine LS.vv rfl rfl (by decide) (Val.cast (v := .int .i64 ((0 : Nat) : Int)) (Val.assign rfl) rfl) ?_
  refine LS.vv rfl rfl (by decide) (Val.cast (v := .int .i64 ((0 : Nat) : Int)) (Val.assign rfl) rfl) ?_
  refine LS.vv rfl rfl (by decide) (Val.cast (v := .int .i64 ((0 : Nat) : Int)) (Val.assign rfl) rfl) ?_
  refine LS.nil ?_
  refine W.seq ?_
  refine W.seqR ?_
  refine LS.vv rfl rfl (by decide) (Val.move rfl) ?_
  refine LS.vv rfl rfl (by decide) (Val.lss rfl rfl) ?_
  refine LS.vv rfl rfl (by decide) (Val.move rfl) ?_
  refine LS.split 2 rfl (fun hg1 => ?_) (fun hg1 => ?_)
  ·
    first | (have hg1p := of_decide_eq_true hg1) | skip
    refine LS.s rfl rfl rfl hg1 (by decide) ?_
    refine LS.s rfl rfl rfl hg1 (by decide) ?_
    refine LS.vv rfl rfl (by decide) (Val.pickT rfl hg1 rfl) ?_
    refine LS.nil ?_
    refine W.condT rfl ?_
    refine W.seqR ?_
    refine LS.vv rfl rfl (by decide) (Val.cast (v := .int .i64 ((0 : Nat) : Int)) (Val.assign rfl) rfl) ?_
    refine LS.vv rfl rfl (by decide) (Val.cast (v := .int .i64 ((0 : Nat) : Int)) (Val.assign rfl) rfl) ?_
    refine LS.vv rfl rfl (by decide) (Val.cast (v := .int .i64 ((4 : Nat) : Int)) (Val.assign rfl) rfl) ?_
    refine LS.nil ?_
    refine W.ret ?_
    refine thenP_ret ?_
    refine ret3 (by first | exact .inl rfl | exact .inr rfl) rfl rfl rfl ?_
    first | exact ⟨0, 0, 4, rfl, by omega, by omega, hB⟩ | exact ⟨0, 0, 2, rfl, by omega, by omega, hB⟩ | exact ⟨_, _, 0, rfl, by omega, fun _ => ⟨rfl, rfl⟩, hB⟩ | (exfalso; omega)
  ·
    first | (have hg1p := of_decide_eq_false hg1) | skip
    refine LS.vg rfl rfl rfl hg1 (by decide) (Val.move rfl) ?_
    refine LS.vg rfl rfl rfl hg1 (by decide) (Val.gtr rfl rfl) ?_
    refine LS.vv rfl rfl (by decide) (Val.pickF rfl hg1 rfl) ?_
    refine LS.nil ?_
    first | refine W.condD rfl (fun hc2 => ?_) (fun hc2 => ?_) | refine W.cond rfl (fun hc2 => ?_) (fun hc2 => ?_)
    ·
      refine W.seqR ?_
      refine LS.vv rfl rfl (by decide) (Val.cast (v := .int .i64 ((0 : Nat) : Int)) (Val.assign rfl) rfl) ?_
      refine LS.vv rfl rfl (by decide) (Val.cast (v := .int .i64 ((0 : Nat) : Int)) (Val.assign rfl) rfl) ?_
      refine LS.vv rfl rfl (by decide) (Val.cast (v := .int .i64 ((4 : Nat) : Int)) (Val.assign rfl) rfl) ?_
      refine LS.nil ?_
      refine W.ret ?_
      refine thenP_ret ?_
      refine ret3 (by first | exact .inl rfl | exact .inr rfl) rfl rfl rfl ?_
      first | exact ⟨0, 0, 4, rfl, by omega, by omega, hB⟩ | exact ⟨0, 0, 2, rfl, by omega, by omega, hB⟩ | exact ⟨_, _, 0, rfl, by omega, fun _ => ⟨rfl, rfl⟩, hB⟩ | (exfalso; omega)
    ·
      refine W.skip ?_
      refine thenP_normal ?_
      refine W.seq ?_
      refine W.seqR ?_
      refine LS.vv rfl rfl (by decide) (Val.move rfl) ?_
      refine LS.vv rfl rfl (by decide) (Val.lss rfl rfl) ?_
      refine LS.vv rfl rfl (by decide) (Val.move rfl) ?_
      refine LS.split 2 rfl (fun hg3 => ?_) (fun hg3 => ?_)
      ·
        first | (have hg3p := of_decide_eq_true hg3) | skip
        refine LS.s rfl rfl rfl hg3 (by decide) ?_
        refine LS.s rfl rfl rfl hg3 (by decide) ?_
        refine LS.vv rfl rfl (by decide) (Val.pickT rfl hg3 rfl) ?_
        refine LS.nil ?_
        refine W.condT rfl ?_
        refine W.seqR ?_
        refine LS.vv rfl rfl (by decide) (Val.cast (v := .int .i64 ((0 : Nat) : Int)) (Val.assign rfl) rfl) ?_
        refine LS.vv rfl rfl (by decide) (Val.cast (v := .int .i64 ((0 : Nat) : Int)) (Val.assign rfl) rfl) ?_
        refine LS.vv rfl rfl (by decide) (Val.cast (v := .int .i64 ((2 : Nat) : Int)) (Val.assign rfl) rfl) ?_
        refine LS.nil ?_
        refine W.ret ?_
        refine thenP_ret ?_
        refine ret3 (by first | exact .inl rfl | exact .inr rfl) rfl rfl rfl ?_
        first | exact ⟨0, 0, 4, rfl, by omega, by omega, hB⟩ | exact ⟨0, 0, 2, rfl, by omega, by omega, hB⟩ | exact ⟨_, _, 0, rfl, by omega, fun _ => ⟨rfl, rfl⟩, hB⟩ | (exfalso; omega)
      ·
        first | (have hg3p := of_decide_eq_false hg3) | skip
        refine LS.vg rfl rfl rfl hg3 (by decide) (Val.move rfl) ?_
        refine LS.vg rfl rfl rfl hg3 (by decide) (Val.geq rfl rfl) ?_
        refine LS.vv rfl rfl (by decide) (Val.pickF rfl hg3 rfl) ?_
        refine LS.nil ?_
        first | refine W.condD rfl (fun hc4 => ?_) (fun hc4 => ?_) | refine W.cond rfl (fun hc4 => ?_) (fun hc4 => ?_)
        ·
          refine W.seqR ?_
          refine LS.vv rfl rfl (by decide) (Val.cast (v := .int .i64 ((0 : Nat) : Int)) (Val.assign rfl) rfl) ?_
          refine LS.vv rfl rfl (by decide) (Val.cast (v := .int .i64 ((0 : Nat) : Int)) (Val.assign rfl) rfl) ?_
          refine LS.vv rfl rfl (by decide) (Val.cast (v := .int .i64 ((2 : Nat) : Int)) (Val.assign rfl) rfl) ?_
          refine LS.nil ?_
          refine W.ret ?_
          refine thenP_ret ?_
          refine ret3 (by first | exact .inl rfl | exact .inr rfl) rfl rfl rfl ?_
          first | exact ⟨0, 0, 4, rfl, by omega, by omega, hB⟩ | exact ⟨0, 0, 2, rfl, by omega, by omega, hB⟩ | exact ⟨_, _, 0, rfl, by omega, fun _ => ⟨rfl, rfl⟩, hB⟩ | (exfalso; omega)
        ·
          refine W.skip ?_
          refine thenP_normal ?_
          refine W.seqR ?_
          refine LS.vv rfl rfl (by decide) (Val.move rfl) ?_
          refine LS.vv rfl rfl (by decide) (Val.move rfl) ?_
          obtain ⟨m, rfl⟩ := Int.eq_ofNat_of_zero_le (show 0 ≤ d by omega)
          obtain ⟨c, rfl⟩ := Int.eq_ofNat_of_zero_le (show 0 ≤ b by omega)
          refine LS.m rfl (Step.call body19 rfl rfl (by decide) rfl (CallsV.mono (place1_any m c _ (by omega) (by omega) (by omega)) ?_))
          rintro _ w1 ⟨rfl, hb1⟩
          replace hB := hB.trans (hb1.mono hB.size)
          refine LS.vv rfl rfl (by decide) (Val.move rfl) ?_
          refine LS.vv rfl rfl (by decide) (Val.extract rfl rfl) ?_
          refine LS.vv rfl rfl (by decide) (Val.extract rfl rfl) ?_
          refine LS.vv rfl rfl (by decide) (Val.assign rfl) ?_
          refine LS.vv rfl rfl (by decide) (Val.assign rfl) ?_
          refine LS.nil ?_
          refine W.seqR ?_
          refine LS.vv rfl rfl (by decide) (Val.move rfl) ?_
          refine LS.vv rfl rfl (by decide) (Val.move rfl) ?_
          refine LS.vv rfl rfl (by decide) (Val.assign rfl) ?_
          refine LS.vv rfl rfl (by decide) (Val.assign rfl) ?_
          refine LS.vv rfl rfl (by decide) (Val.cast (v := .int .i64 ((0 : Nat) : Int)) (Val.assign rfl) rfl) ?_
          refine LS.nil ?_
          refine W.ret ?_
          refine ret3 (by first | exact .inl rfl | exact .inr rfl) rfl rfl rfl ?_
          first | exact ⟨0, 0, 4, rfl, by omega, by omega, hB⟩ | exact ⟨0, 0, 2, rfl, by omega, by omega, hB⟩ | exact ⟨_, _, 0, rfl, by omega, fun _ => ⟨rfl, rfl⟩, hB⟩ | (exfalso; omega)

theorem stripeApart_any (d a b : Int) (w0 : World) :
    CallsV Try.prog 3 #[.int .i64 d, .int .i64 a, .int .i64 b] w0 (fun v w => v = .bool true ∧ Below w0.heap.size w0 w) := by
  refine enter1 Try.func3 rfl Try.ntmps3 (by simp) rfl ?_
  have hB := Below.refl w0.heap.size w0
  simp only [argLoc, Nat.zero_add, Nat.reduceAdd]
  refine W.seqR ?_
  refine LS.vv rfl rfl (by decide) (Val.assign rfl) ?_
  refine LS.nil ?_
  refine W.seqR ?_
  refine LS.vv rfl rfl (by decide) (Val.move rfl) ?_
  refine LS.vv rfl rfl (by decide) (Val.move rfl) ?_
  refine LS.m rfl (Step.call body11 rfl rfl (by decide) rfl (CallsV.mono (place_any d a _) ?_))
  rintro _ w1 ⟨x1, r1, e1, rfl, he1, hx1, hb1⟩
  replace hB := hB.trans (hb1.mono hB.size)
  refine LS.vv rfl rfl (by decide) (Val.move rfl) ?_
  refine LS.vv rfl rfl (by decide) (Val.extract rfl rfl) ?_
  refine LS.vv rfl rfl (by decide) (Val.extract rfl rfl) ?_
  refine LS.vv rfl rfl (by decide) (Val.extract rfl rfl) ?_
  refine LS.vv rfl rfl (by decide) (Val.assign rfl) ?_
  refine LS.vv rfl rfl (by decide) (Val.assign rfl) ?_
  refine LS.vv rfl rfl (by decide) (Val.assign rfl) ?_
  refine LS.nil ?_
  refine W.seqR ?_
  refine LS.vv rfl rfl (by decide) (Val.move rfl) ?_
  refine LS.vv rfl rfl (by decide) (Val.move rfl) ?_
  refine LS.m rfl (Step.call body11 rfl rfl (by decide) rfl (CallsV.mono (place_any d b _) ?_))
  rintro _ w2 ⟨x2, r2, e2, rfl, he2, hx2, hb2⟩
  replace hB := hB.trans (hb2.mono hB.size)
  refine LS.vv rfl rfl (by decide) (Val.move rfl) ?_
  refine LS.vv rfl rfl (by decide) (Val.extract rfl rfl) ?_
  refine LS.vv rfl rfl (by decide) (Val.extract rfl rfl) ?_
  refine LS.vv rfl rfl (by decide) (Val.extract rfl rfl) ?_
  refine LS.vv rfl rfl (by decide) (Val.assign rfl) ?_
  refine LS.vv rfl rfl (by decide) (Val.assign rfl) ?_
  refine LS.vv rfl rfl (by decide) (Val.assign rfl) ?_
  refine LS.nil ?_
  refine W.seq ?_
  refine W.seqR ?_
  refine LS.vv rfl rfl (by decide) (Val.move rfl) ?_
  refine LS.vv rfl rfl (by decide) (Val.lss rfl rfl) ?_
  refine LS.vv rfl rfl (by decide) (Val.move rfl) ?_
  refine LS.split 2 rfl (fun hg1 => ?_) (fun hg1 => ?_)
  ·
    first | (have hg1p := of_decide_eq_true hg1) | skip
    refine LS.s rfl rfl rfl hg1 (by decide) ?_
    refine LS.s rfl rfl rfl hg1 (by decide) ?_
    refine LS.vv rfl rfl (by decide) (Val.pickT rfl hg1 rfl) ?_
    refine LS.vv rfl rfl (by decide) (Val.move rfl) ?_
    refine LS.s rfl rfl rfl rfl (by decide) ?_
    refine LS.s rfl rfl rfl rfl (by decide) ?_
    refine LS.vv rfl rfl (by decide) (Val.pickT rfl rfl rfl) ?_
    refine LS.vv rfl rfl (by decide) (Val.move rfl) ?_
    refine LS.s rfl rfl rfl rfl (by decide) ?_
    refine LS.s rfl rfl rfl rfl (by decide) ?_
    refine LS.vv rfl rfl (by decide) (Val.pickT rfl rfl rfl) ?_
    refine LS.vv rfl rfl (by decide) (Val.move rfl) ?_
    refine LS.s rfl rfl rfl rfl (by decide) ?_
    refine LS.s rfl rfl rfl rfl (by decide) ?_
    refine LS.vv rfl rfl (by decide) (Val.pickT rfl rfl rfl) ?_
    refine LS.vv rfl rfl (by decide) (Val.move rfl) ?_
    refine LS.s rfl rfl rfl rfl (by decide) ?_
    refine LS.s rfl rfl rfl rfl (by decide) ?_
    refine LS.vv rfl rfl (by decide) (Val.pickT rfl rfl rfl) ?_
    refine LS.nil ?_
    refine W.condT rfl ?_
    refine W.seqR ?_
    refine LS.vv rfl rfl (by decide) (Val.move rfl) ?_
    refine LS.vv rfl rfl (by decide) (Val.neq rfl rfl) ?_
    refine LS.vv rfl rfl (by decide) (Val.move rfl) ?_
    refine LS.split 2 rfl (fun hg2 => ?_) (fun hg2 => ?_)
    ·
      first | (have hg2p := of_decide_eq_true hg2) | skip
      refine LS.s rfl rfl rfl hg2 (by decide) ?_
      refine LS.s rfl rfl rfl hg2 (by decide) ?_
      refine LS.vv rfl rfl (by decide) (Val.pickT rfl hg2 rfl) ?_
      refine LS.vv rfl rfl (by decide) (Val.assign rfl) ?_
      refine LS.nil ?_
      refine W.ret ?_
      refine thenP_ret ?_
      refine ret1 (by first | exact .inl rfl | exact .inr rfl) rfl ?_
      first | exact ⟨rfl, hB⟩ | (exfalso; omega) | exact ⟨congrArg Value.bool (decide_eq_true (by omega)), hB⟩
    ·
      first | (have hg2p := of_decide_eq_false hg2) | skip
      refine LS.vg rfl rfl rfl hg2 (by decide) (Val.move rfl) ?_
      refine LS.vg rfl rfl rfl hg2 (by decide) (Val.neq rfl rfl) ?_
      refine LS.vv rfl rfl (by decide) (Val.pickF rfl hg2 rfl) ?_
      refine LS.vv rfl rfl (by decide) (Val.assign rfl) ?_
      refine LS.nil ?_
      refine W.ret ?_
      refine thenP_ret ?_
      refine ret1 (by first | exact .inl rfl | exact .inr rfl) rfl ?_
      first | exact ⟨rfl, hB⟩ | (exfalso; omega) | exact ⟨congrArg Value.bool (decide_eq_true (by omega)), hB⟩
  ·
    first | (have hg1p := of_decide_eq_false hg1) | skip
    refine LS.vg rfl rfl rfl hg1 (by decide) (Val.move rfl) ?_
    refine LS.vg rfl rfl rfl hg1 (by decide) (Val.gtr rfl rfl) ?_
    refine LS.vv rfl rfl (by decide) (Val.pickF rfl hg1 rfl) ?_
    refine LS.vv rfl rfl (by decide) (Val.move rfl) ?_
    refine LS.split 6 rfl (fun hg3 => ?_) (fun hg3 => ?_)
    ·
      first | (have hg3p := of_decide_eq_true hg3) | skip
      refine LS.s rfl rfl rfl hg3 (by decide) ?_
      refine LS.s rfl rfl rfl hg3 (by decide) ?_
      refine LS.vv rfl rfl (by decide) (Val.pickT rfl hg3 rfl) ?_
      refine LS.vv rfl rfl (by decide) (Val.move rfl) ?_
      refine LS.s rfl rfl rfl rfl (by decide) ?_
      refine LS.s rfl rfl rfl rfl (by decide) ?_
      refine LS.vv rfl rfl (by decide) (Val.pickT rfl rfl rfl) ?_
      refine LS.vv rfl rfl (by decide) (Val.move rfl) ?_
      refine LS.s rfl rfl rfl rfl (by decide) ?_
      refine LS.s rfl rfl rfl rfl (by decide) ?_
      refine LS.vv rfl rfl (by decide) (Val.pickT rfl rfl rfl) ?_
      refine LS.vv rfl rfl (by decide) (Val.move rfl) ?_
      refine LS.s rfl rfl rfl rfl (by decide) ?_
      refine LS.s rfl rfl rfl rfl (by decide) ?_
      refine LS.vv rfl rfl (by decide) (Val.pickT rfl rfl rfl) ?_
      refine LS.nil ?_
      refine W.condT rfl ?_
      refine W.seqR ?_
      refine LS.vv rfl rfl (by decide) (Val.move rfl) ?_
      refine LS.vv rfl rfl (by decide) (Val.neq rfl rfl) ?_
      refine LS.vv rfl rfl (by decide) (Val.move rfl) ?_
      refine LS.split 2 rfl (fun hg4 => ?_) (fun hg4 => ?_)
      ·
        first | (have hg4p := of_decide_eq_true hg4) | skip
        refine LS.s rfl rfl rfl hg4 (by decide) ?_
        refine LS.s rfl rfl rfl hg4 (by decide) ?_
        refine LS.vv rfl rfl (by decide) (Val.pickT rfl hg4 rfl) ?_
        refine LS.vv rfl rfl (by decide) (Val.assign rfl) ?_
        refine LS.nil ?_
        refine W.ret ?_
        refine thenP_ret ?_
        refine ret1 (by first | exact .inl rfl | exact .inr rfl) rfl ?_
        first | exact ⟨rfl, hB⟩ | (exfalso; omega) | exact ⟨congrArg Value.bool (decide_eq_true (by omega)), hB⟩
      ·
        first | (have hg4p := of_decide_eq_false hg4) | skip
        refine LS.vg rfl rfl rfl hg4 (by decide) (Val.move rfl) ?_
        refine LS.vg rfl rfl rfl hg4 (by decide) (Val.neq rfl rfl) ?_
        refine LS.vv rfl rfl (by decide) (Val.pickF rfl hg4 rfl) ?_
        refine LS.vv rfl rfl (by decide) (Val.assign rfl) ?_
        refine LS.nil ?_
        refine W.ret ?_
        refine thenP_ret ?_
        refine ret1 (by first | exact .inl rfl | exact .inr rfl) rfl ?_
        first | exact ⟨rfl, hB⟩ | (exfalso; omega) | exact ⟨congrArg Value.bool (decide_eq_true (by omega)), hB⟩
    ·
      first | (have hg3p := of_decide_eq_false hg3) | skip
      refine LS.vg rfl rfl rfl hg3 (by decide) (Val.move rfl) ?_
      refine LS.vg rfl rfl rfl hg3 (by decide) (Val.lss rfl rfl) ?_
      refine LS.vv rfl rfl (by decide) (Val.pickF rfl hg3 rfl) ?_
      refine LS.vv rfl rfl (by decide) (Val.move rfl) ?_
      refine LS.split 10 rfl (fun hg5 => ?_) (fun hg5 => ?_)
      ·
        first | (have hg5p := of_decide_eq_true hg5) | skip
        refine LS.s rfl rfl rfl hg5 (by decide) ?_
        refine LS.s rfl rfl rfl hg5 (by decide) ?_
        refine LS.vv rfl rfl (by decide) (Val.pickT rfl hg5 rfl) ?_
        refine LS.vv rfl rfl (by decide) (Val.move rfl) ?_
        refine LS.s rfl rfl rfl rfl (by decide) ?_
        refine LS.s rfl rfl rfl rfl (by decide) ?_
        refine LS.vv rfl rfl (by decide) (Val.pickT rfl rfl rfl) ?_
        refine LS.vv rfl rfl (by decide) (Val.move rfl) ?_
        refine LS.s rfl rfl rfl rfl (by decide) ?_
        refine LS.s rfl rfl rfl rfl (by decide) ?_
        refine LS.vv rfl rfl (by decide) (Val.pickT rfl rfl rfl) ?_
        refine LS.nil ?_
        refine W.condT rfl ?_
        refine W.seqR ?_
        refine LS.vv rfl rfl (by decide) (Val.move rfl) ?_
        refine LS.vv rfl rfl (by decide) (Val.neq rfl rfl) ?_
        refine LS.vv rfl rfl (by decide) (Val.move rfl) ?_
        refine LS.split 2 rfl (fun hg6 => ?_) (fun hg6 => ?_)
        ·
          first | (have hg6p := of_decide_eq_true hg6) | skip
          refine LS.s rfl rfl rfl hg6 (by decide) ?_
          refine LS.s rfl rfl rfl hg6 (by decide) ?_
          refine LS.vv rfl rfl (by decide) (Val.pickT rfl hg6 rfl) ?_
          refine LS.vv rfl rfl (by decide) (Val.assign rfl) ?_
          refine LS.nil ?_
          refine W.ret ?_
          refine thenP_ret ?_
          refine ret1 (by first | exact .inl rfl | exact .inr rfl) rfl ?_
          first | exact ⟨rfl, hB⟩ | (exfalso; omega) | exact ⟨congrArg Value.bool (decide_eq_true (by omega)), hB⟩
        ·
          first | (have hg6p := of_decide_eq_false hg6) | skip
          refine LS.vg rfl rfl rfl hg6 (by decide) (Val.move rfl) ?_
          refine LS.vg rfl rfl rfl hg6 (by decide) (Val.neq rfl rfl) ?_
          refine LS.vv rfl rfl (by decide) (Val.pickF rfl hg6 rfl) ?_
          refine LS.vv rfl rfl (by decide) (Val.assign rfl) ?_
          refine LS.nil ?_
          refine W.ret ?_
          refine thenP_ret ?_
          refine ret1 (by first | exact .inl rfl | exact .inr rfl) rfl ?_
          first | exact ⟨rfl, hB⟩ | (exfalso; omega) | exact ⟨congrArg Value.bool (decide_eq_true (by omega)), hB⟩
      ·
        first | (have hg5p := of_decide_eq_false hg5) | skip
        refine LS.vg rfl rfl rfl hg5 (by decide) (Val.move rfl) ?_
        refine LS.vg rfl rfl rfl hg5 (by decide) (Val.lss rfl rfl) ?_
        refine LS.vv rfl rfl (by decide) (Val.pickF rfl hg5 rfl) ?_
        refine LS.vv rfl rfl (by decide) (Val.move rfl) ?_
        refine LS.split 14 rfl (fun hg7 => ?_) (fun hg7 => ?_)
        ·
          first | (have hg7p := of_decide_eq_true hg7) | skip
          refine LS.s rfl rfl rfl hg7 (by decide) ?_
          refine LS.s rfl rfl rfl hg7 (by decide) ?_
          refine LS.vv rfl rfl (by decide) (Val.pickT rfl hg7 rfl) ?_
          refine LS.vv rfl rfl (by decide) (Val.move rfl) ?_
          refine LS.s rfl rfl rfl rfl (by decide) ?_
          refine LS.s rfl rfl rfl rfl (by decide) ?_
          refine LS.vv rfl rfl (by decide) (Val.pickT rfl rfl rfl) ?_
          refine LS.nil ?_
          refine W.condT rfl ?_
          refine W.seqR ?_
          refine LS.vv rfl rfl (by decide) (Val.move rfl) ?_
          refine LS.vv rfl rfl (by decide) (Val.neq rfl rfl) ?_
          refine LS.vv rfl rfl (by decide) (Val.move rfl) ?_
          refine LS.split 2 rfl (fun hg8 => ?_) (fun hg8 => ?_)
          ·
            first | (have hg8p := of_decide_eq_true hg8) | skip
            refine LS.s rfl rfl rfl hg8 (by decide) ?_
            refine LS.s rfl rfl rfl hg8 (by decide) ?_
            refine LS.vv rfl rfl (by decide) (Val.pickT rfl hg8 rfl) ?_
            refine LS.vv rfl rfl (by decide) (Val.assign rfl) ?_
            refine LS.nil ?_
            refine W.ret ?_
            refine thenP_ret ?_
            refine ret1 (by first | exact .inl rfl | exact .inr rfl) rfl ?_
            first | exact ⟨rfl, hB⟩ | (exfalso; omega) | exact ⟨congrArg Value.bool (decide_eq_true (by omega)), hB⟩
          ·
            first | (have hg8p := of_decide_eq_false hg8) | skip
            refine LS.vg rfl rfl rfl hg8 (by decide) (Val.move rfl) ?_
            refine LS.vg rfl rfl rfl hg8 (by decide) (Val.neq rfl rfl) ?_
            refine LS.vv rfl rfl (by decide) (Val.pickF rfl hg8 rfl) ?_
            refine LS.vv rfl rfl (by decide) (Val.assign rfl) ?_
            refine LS.nil ?_
            refine W.ret ?_
            refine thenP_ret ?_
            refine ret1 (by first | exact .inl rfl | exact .inr rfl) rfl ?_
            first | exact ⟨rfl, hB⟩ | (exfalso; omega) | exact ⟨congrArg Value.bool (decide_eq_true (by omega)), hB⟩
        ·
          first | (have hg7p := of_decide_eq_false hg7) | skip
          refine LS.vg rfl rfl rfl hg7 (by decide) (Val.move rfl) ?_
          refine LS.vg rfl rfl rfl hg7 (by decide) (Val.geq rfl rfl) ?_
          refine LS.vv rfl rfl (by decide) (Val.pickF rfl hg7 rfl) ?_
          refine LS.vv rfl rfl (by decide) (Val.move rfl) ?_
          refine LS.split 18 rfl (fun hg9 => ?_) (fun hg9 => ?_)
          ·
            first | (have hg9p := of_decide_eq_true hg9) | skip
            refine LS.s rfl rfl rfl hg9 (by decide) ?_
            refine LS.s rfl rfl rfl hg9 (by decide) ?_
            refine LS.vv rfl rfl (by decide) (Val.pickT rfl hg9 rfl) ?_
            refine LS.nil ?_
            refine W.condT rfl ?_
            refine W.seqR ?_
            refine LS.vv rfl rfl (by decide) (Val.move rfl) ?_
            refine LS.vv rfl rfl (by decide) (Val.neq rfl rfl) ?_
            refine LS.vv rfl rfl (by decide) (Val.move rfl) ?_
            refine LS.split 2 rfl (fun hg10 => ?_) (fun hg10 => ?_)
            ·
              first | (have hg10p := of_decide_eq_true hg10) | skip
              refine LS.s rfl rfl rfl hg10 (by decide) ?_
              refine LS.s rfl rfl rfl hg10 (by decide) ?_
              refine LS.vv rfl rfl (by decide) (Val.pickT rfl hg10 rfl) ?_
              refine LS.vv rfl rfl (by decide) (Val.assign rfl) ?_
              refine LS.nil ?_
              refine W.ret ?_
              refine thenP_ret ?_
              refine ret1 (by first | exact .inl rfl | exact .inr rfl) rfl ?_
              first | exact ⟨rfl, hB⟩ | (exfalso; omega) | exact ⟨congrArg Value.bool (decide_eq_true (by omega)), hB⟩
            ·
              first | (have hg10p := of_decide_eq_false hg10) | skip
              refine LS.vg rfl rfl rfl hg10 (by decide) (Val.move rfl) ?_
              refine LS.vg rfl rfl rfl hg10 (by decide) (Val.neq rfl rfl) ?_
              refine LS.vv rfl rfl (by decide) (Val.pickF rfl hg10 rfl) ?_
              refine LS.vv rfl rfl (by decide) (Val.assign rfl) ?_
              refine LS.nil ?_
              refine W.ret ?_
              refine thenP_ret ?_
              refine ret1 (by first | exact .inl rfl | exact .inr rfl) rfl ?_
              first | exact ⟨rfl, hB⟩ | (exfalso; omega) | exact ⟨congrArg Value.bool (decide_eq_true (by omega)), hB⟩
          ·
            first | (have hg9p := of_decide_eq_false hg9) | skip
            refine LS.vg rfl rfl rfl hg9 (by decide) (Val.move rfl) ?_
            refine LS.vg rfl rfl rfl hg9 (by decide) (Val.geq rfl rfl) ?_
            refine LS.vv rfl rfl (by decide) (Val.pickF rfl hg9 rfl) ?_
            refine LS.nil ?_
            first | refine W.condD rfl (fun hc11 => ?_) (fun hc11 => ?_) | refine W.cond rfl (fun hc11 => ?_) (fun hc11 => ?_)
            ·
              refine W.seqR ?_
              refine LS.vv rfl rfl (by decide) (Val.move rfl) ?_
              refine LS.vv rfl rfl (by decide) (Val.neq rfl rfl) ?_
              refine LS.vv rfl rfl (by decide) (Val.move rfl) ?_
              refine LS.split 2 rfl (fun hg12 => ?_) (fun hg12 => ?_)
              ·
                first | (have hg12p := of_decide_eq_true hg12) | skip
                refine LS.s rfl rfl rfl hg12 (by decide) ?_
                refine LS.s rfl rfl rfl hg12 (by decide) ?_
                refine LS.vv rfl rfl (by decide) (Val.pickT rfl hg12 rfl) ?_
                refine LS.vv rfl rfl (by decide) (Val.assign rfl) ?_
                refine LS.nil ?_
                refine W.ret ?_
                refine thenP_ret ?_
                refine ret1 (by first | exact .inl rfl | exact .inr rfl) rfl ?_
                first | exact ⟨rfl, hB⟩ | (exfalso; omega) | exact ⟨congrArg Value.bool (decide_eq_true (by omega)), hB⟩
              ·
                first | (have hg12p := of_decide_eq_false hg12) | skip
                refine LS.vg rfl rfl rfl hg12 (by decide) (Val.move rfl) ?_
                refine LS.vg rfl rfl rfl hg12 (by decide) (Val.neq rfl rfl) ?_
                refine LS.vv rfl rfl (by decide) (Val.pickF rfl hg12 rfl) ?_
                refine LS.vv rfl rfl (by decide) (Val.assign rfl) ?_
                refine LS.nil ?_
                refine W.ret ?_
                refine thenP_ret ?_
                refine ret1 (by first | exact .inl rfl | exact .inr rfl) rfl ?_
                first | exact ⟨rfl, hB⟩ | (exfalso; omega) | exact ⟨congrArg Value.bool (decide_eq_true (by omega)), hB⟩
            ·
              refine W.skip ?_
              refine thenP_normal ?_
              refine W.seqR ?_
              obtain ⟨D, rfl⟩ := Int.eq_ofNat_of_zero_le (show 0 ≤ d by omega)
              obtain ⟨A, rfl⟩ := Int.eq_ofNat_of_zero_le (show 0 ≤ a by omega)
              obtain ⟨C, rfl⟩ := Int.eq_ofNat_of_zero_le (show 0 ≤ b by omega)
              have hE1 : e1 = 0 := he1.2 (by omega)
              have hE2 : e2 = 0 := he2.2 (by omega)
              obtain ⟨h1, h2⟩ := hx1 hE1
              obtain ⟨h3, h4⟩ := hx2 hE2
              simp only [Int.toNat_natCast] at h1 h2 h3 h4
              obtain ⟨g1, g2, g3, g4⟩ := stripe_apart (d := D) (a := A) (b := C) (by omega) (by omega) (by omega) (by omega)
              rw [← h1, ← h2, ← h3, ← h4] at g3 g4
              rw [← h1] at g1
              rw [← h1, ← h2] at g2
              have hmm := Nat.mod_lt r1 (show 0 < D by omega)
              refine LS.vv rfl rfl (by decide) (Val.move rfl) ?_
              refine LS.vv rfl rfl (by decide) (Val.cast (v := .bool true) (Val.eql rfl rfl) (by first | (simp; done) | (simp; omega))) ?_
              refine LS.vv rfl rfl (by decide) (Val.move rfl) ?_
              refine LS.vg rfl rfl rfl rfl (by decide) (Val.move rfl) ?_
              refine LS.vg rfl rfl rfl rfl (by decide) (Val.cast (v := .bool true) (Val.eql rfl rfl) (by first | (simp; done) | (simp; omega))) ?_
              refine LS.vv rfl rfl (by decide) (Val.pickT rfl rfl rfl) ?_
              refine LS.vv rfl rfl (by decide) (Val.move rfl) ?_
              refine LS.vg rfl rfl rfl rfl (by decide) (Val.move rfl) ?_
              refine LS.vg rfl rfl rfl rfl (by decide) (Val.cast (v := .bool true) (Val.geq rfl rfl) (by first | (simp; done) | (simp; omega))) ?_
              refine LS.vv rfl rfl (by decide) (Val.pickT rfl rfl rfl) ?_
              refine LS.vv rfl rfl (by decide) (Val.move rfl) ?_
              refine LS.vg rfl rfl rfl rfl (by decide) (Val.move rfl) ?_
              refine LS.vg rfl rfl rfl rfl (by decide) (Val.move rfl) ?_
              refine LS.vg rfl rfl rfl rfl (by decide) (Val.cast (v := .bool true) (Val.lss rfl rfl) (by first | (simp; done) | (simp; omega))) ?_
              refine LS.vv rfl rfl (by decide) (Val.pickT rfl rfl rfl) ?_
              refine LS.vv rfl rfl (by decide) (Val.move rfl) ?_
              refine LS.vg rfl rfl rfl rfl (by decide) (Val.move rfl) ?_
              refine LS.vg rfl rfl rfl rfl (by decide) (Val.cast (v := .bool true) (Val.geq rfl rfl) (by first | (simp; done) | (simp; omega))) ?_
              refine LS.vv rfl rfl (by decide) (Val.pickT rfl rfl rfl) ?_
              refine LS.vv rfl rfl (by decide) (Val.move rfl) ?_
              refine LS.vg rfl rfl rfl rfl (by decide) (Val.move rfl) ?_
              refine LS.vg rfl rfl rfl rfl (by decide) (Val.move rfl) ?_
              first | refine LS.vg rfl rfl rfl rfl (by decide) (Val.subN (j := 1) rfl rfl (by omega) (by omega)) ?_ | refine LS.vg rfl rfl rfl rfl (by decide) (Val.sub64 rfl rfl (by omega)) ?_
              refine LS.vg rfl rfl rfl rfl (by decide) (Val.move rfl) ?_
              refine LS.vg rfl rfl rfl rfl (by decide) (Val.move rfl) ?_
              first | refine LS.vg rfl rfl rfl rfl (by decide) (Val.remN rfl rfl (by omega)) ?_ | refine LS.vg rfl rfl rfl rfl (by decide) (Val.rem rfl rfl (by omega) (by omega)) ?_ | refine LS.vg rfl rfl rfl rfl (by decide) (Val.remT rfl rfl (by omega)) ?_
              first | refine LS.vg rfl rfl rfl rfl (by decide) (Val.subN rfl rfl (by omega) (by omega)) ?_ | refine LS.vg rfl rfl rfl rfl (by decide) (Val.sub64 rfl rfl (by omega)) ?_
              refine LS.vg rfl rfl rfl rfl (by decide) (Val.cast (v := .bool true) (Val.neq rfl rfl) (by first | (simp; done) | (simp; omega))) ?_
              refine LS.vv rfl rfl (by decide) (Val.pickT rfl rfl rfl) ?_
              refine LS.vv rfl rfl (by decide) (Val.move rfl) ?_
              refine LS.vg rfl rfl rfl rfl (by decide) (Val.move rfl) ?_
              refine LS.vg rfl rfl rfl rfl (by decide) (Val.move rfl) ?_
              refine LS.vg rfl rfl rfl rfl (by decide) (Val.eql rfl rfl) ?_
              refine LS.vg rfl rfl rfl rfl (by decide) (Val.move rfl) ?_
              refine LS.split 33 rfl (fun hg13 => ?_) (fun hg13 => ?_)
              ·
                first | (have hg13p := of_decide_eq_true hg13) | skip
                refine LS.vg rfl rfl rfl hg13 (by decide) (Val.move rfl) ?_
                refine LS.vg rfl rfl rfl hg13 (by decide) (Val.move rfl) ?_
                refine LS.vg rfl rfl rfl hg13 (by decide) (Val.eql rfl rfl) ?_
                refine LS.vg rfl rfl rfl rfl (by decide) (Val.pickT rfl hg13 rfl) ?_
                refine LS.vg rfl rfl rfl rfl (by decide) (Val.move rfl) ?_
                refine LS.vg rfl rfl rfl rfl (by decide) (Val.move rfl) ?_
                refine LS.vg rfl rfl rfl rfl (by decide) (Val.eql rfl rfl) ?_
                refine LS.vg rfl rfl rfl rfl (by decide) (Val.cast (v := .bool true) (Val.eqlB Try.underlying4 rfl rfl) (by first | (refine congrArg Value.bool (decide_eq_true ?_); rw [decide_eq_decide]; omega) | (refine congrArg Value.bool (decide_eq_true ?_); simp; omega))) ?_
                refine LS.vv rfl rfl (by decide) (Val.pickT rfl rfl rfl) ?_
                refine LS.vv rfl rfl (by decide) (Val.move rfl) ?_
                refine LS.vg rfl rfl rfl rfl (by decide) (Val.move rfl) ?_
                refine LS.vg rfl rfl rfl rfl (by decide) (Val.move rfl) ?_
                refine LS.vg rfl rfl rfl rfl (by decide) (Val.leq rfl rfl) ?_
                refine LS.vg rfl rfl rfl rfl (by decide) (Val.move rfl) ?_
                refine LS.vg rfl rfl rfl rfl (by decide) (Val.move rfl) ?_
                refine LS.vg rfl rfl rfl rfl (by decide) (Val.lss rfl rfl) ?_
                refine LS.vg rfl rfl rfl rfl (by decide) (Val.move rfl) ?_
                refine LS.split 50 rfl (fun hg14 => ?_) (fun hg14 => ?_)
                ·
                  first | (have hg14p := of_decide_eq_true hg14) | skip
                  refine LS.s rfl rfl rfl hg14 (by decide) ?_
                  refine LS.s rfl rfl rfl hg14 (by decide) ?_
                  refine LS.s rfl rfl rfl hg14 (by decide) ?_
                  refine LS.s rfl rfl rfl hg14 (by decide) ?_
                  refine LS.skipU rfl rfl rfl (by decide) ?_
                  refine LS.skipU rfl rfl rfl (by decide) ?_
                  refine LS.skipU rfl rfl rfl (by decide) ?_
                  refine LS.s rfl rfl rfl hg14 (by decide) ?_
                  refine LS.vg rfl rfl rfl rfl (by decide) (Val.pickT rfl hg14 rfl) ?_
                  refine LS.vg rfl rfl rfl rfl (by decide) (Val.cast (v := .bool true) (Val.eqlB Try.underlying4 rfl rfl) (by first | (refine congrArg Value.bool (decide_eq_true ?_); rw [decide_eq_decide]; omega) | (refine congrArg Value.bool (decide_eq_true ?_); simp; omega))) ?_
                  refine LS.vv rfl rfl (by decide) (Val.pickT rfl rfl rfl) ?_
                  refine LS.vv rfl rfl (by decide) (Val.assign rfl) ?_
                  refine LS.nil ?_
                  refine W.ret ?_
                  refine ret1 (by first | exact .inl rfl | exact .inr rfl) rfl ?_
                  first | exact ⟨rfl, hB⟩ | (exfalso; omega) | exact ⟨congrArg Value.bool (decide_eq_true (by omega)), hB⟩
                ·
                  first | (have hg14p := of_decide_eq_false hg14) | skip
                  refine LS.vg rfl rfl rfl hg14 (by decide) (Val.move rfl) ?_
                  refine LS.vg rfl rfl rfl hg14 (by decide) (Val.move rfl) ?_
                  refine LS.vg rfl rfl rfl hg14 (by decide) (Val.eql rfl rfl) ?_
                  refine LS.vg rfl rfl rfl hg14 (by decide) (Val.move rfl) ?_
                  refine LS.split 54 rfl (fun hg15 => ?_) (fun hg15 => ?_)
                  ·
                    first | (have hg15p := of_decide_eq_true hg15) | skip
                    refine LS.vg rfl rfl rfl hg15 (by decide) (Val.move rfl) ?_
                    refine LS.vg rfl rfl rfl hg15 (by decide) (Val.move rfl) ?_
                    refine LS.vg rfl rfl rfl hg15 (by decide) (Val.leq rfl rfl) ?_
                    refine LS.vg rfl rfl rfl hg14 (by decide) (Val.pickT rfl hg15 rfl) ?_
                    refine LS.vg rfl rfl rfl rfl (by decide) (Val.pickF rfl hg14 rfl) ?_
                    refine LS.vg rfl rfl rfl rfl (by decide) (Val.cast (v := .bool true) (Val.eqlB Try.underlying4 rfl rfl) (by first | (refine congrArg Value.bool (decide_eq_true ?_); rw [decide_eq_decide]; omega) | (refine congrArg Value.bool (decide_eq_true ?_); simp; omega))) ?_
                    refine LS.vv rfl rfl (by decide) (Val.pickT rfl rfl rfl) ?_
                    refine LS.vv rfl rfl (by decide) (Val.assign rfl) ?_
                    refine LS.nil ?_
                    refine W.ret ?_
                    refine ret1 (by first | exact .inl rfl | exact .inr rfl) rfl ?_
                    first | exact ⟨rfl, hB⟩ | (exfalso; omega) | exact ⟨congrArg Value.bool (decide_eq_true (by omega)), hB⟩
                  ·
                    first | (have hg15p := of_decide_eq_false hg15) | skip
                    refine LS.s rfl rfl rfl hg15 (by decide) ?_
                    refine LS.s rfl rfl rfl hg15 (by decide) ?_
                    refine LS.s rfl rfl rfl hg15 (by decide) ?_
                    refine LS.vg rfl rfl rfl hg14 (by decide) (Val.pickF rfl hg15 rfl) ?_
                    refine LS.vg rfl rfl rfl rfl (by decide) (Val.pickF rfl hg14 rfl) ?_
                    refine LS.vg rfl rfl rfl rfl (by decide) (Val.cast (v := .bool true) (Val.eqlB Try.underlying4 rfl rfl) (by first | (refine congrArg Value.bool (decide_eq_true ?_); rw [decide_eq_decide]; omega) | (refine congrArg Value.bool (decide_eq_true ?_); simp; omega))) ?_
                    refine LS.vv rfl rfl (by decide) (Val.pickT rfl rfl rfl) ?_
                    refine LS.vv rfl rfl (by decide) (Val.assign rfl) ?_
                    refine LS.nil ?_
                    refine W.ret ?_
                    refine ret1 (by first | exact .inl rfl | exact .inr rfl) rfl ?_
                    first | exact ⟨rfl, hB⟩ | (exfalso; omega) | exact ⟨congrArg Value.bool (decide_eq_true (by omega)), hB⟩
              ·
                first | (have hg13p := of_decide_eq_false hg13) | skip
                refine LS.s rfl rfl rfl hg13 (by decide) ?_
                refine LS.s rfl rfl rfl hg13 (by decide) ?_
                refine LS.s rfl rfl rfl hg13 (by decide) ?_
                refine LS.vg rfl rfl rfl rfl (by decide) (Val.pickF rfl hg13 rfl) ?_
                refine LS.vg rfl rfl rfl rfl (by decide) (Val.move rfl) ?_
                refine LS.vg rfl rfl rfl rfl (by decide) (Val.move rfl) ?_
                refine LS.vg rfl rfl rfl rfl (by decide) (Val.eql rfl rfl) ?_
                refine LS.vg rfl rfl rfl rfl (by decide) (Val.cast (v := .bool true) (Val.eqlB Try.underlying4 rfl rfl) (by first | (refine congrArg Value.bool (decide_eq_true ?_); rw [decide_eq_decide]; omega) | (refine congrArg Value.bool (decide_eq_true ?_); simp; omega))) ?_
                refine LS.vv rfl rfl (by decide) (Val.pickT rfl rfl rfl) ?_
                refine LS.vv rfl rfl (by decide) (Val.move rfl) ?_
                refine LS.vg rfl rfl rfl rfl (by decide) (Val.move rfl) ?_
                refine LS.vg rfl rfl rfl rfl (by decide) (Val.move rfl) ?_
                refine LS.vg rfl rfl rfl rfl (by decide) (Val.leq rfl rfl) ?_
                refine LS.vg rfl rfl rfl rfl (by decide) (Val.move rfl) ?_
                refine LS.vg rfl rfl rfl rfl (by decide) (Val.move rfl) ?_
                refine LS.vg rfl rfl rfl rfl (by decide) (Val.lss rfl rfl) ?_
                refine LS.vg rfl rfl rfl rfl (by decide) (Val.move rfl) ?_
                refine LS.split 50 rfl (fun hg16 => ?_) (fun hg16 => ?_)
                ·
                  first | (have hg16p := of_decide_eq_true hg16) | skip
                  refine LS.s rfl rfl rfl hg16 (by decide) ?_
                  refine LS.s rfl rfl rfl hg16 (by decide) ?_
                  refine LS.s rfl rfl rfl hg16 (by decide) ?_
                  refine LS.s rfl rfl rfl hg16 (by decide) ?_
                  refine LS.skipU rfl rfl rfl (by decide) ?_
                  refine LS.skipU rfl rfl rfl (by decide) ?_
                  refine LS.skipU rfl rfl rfl (by decide) ?_
                  refine LS.s rfl rfl rfl hg16 (by decide) ?_
                  refine LS.vg rfl rfl rfl rfl (by decide) (Val.pickT rfl hg16 rfl) ?_
                  refine LS.vg rfl rfl rfl rfl (by decide) (Val.cast (v := .bool true) (Val.eqlB Try.underlying4 rfl rfl) (by first | (refine congrArg Value.bool (decide_eq_true ?_); rw [decide_eq_decide]; omega) | (refine congrArg Value.bool (decide_eq_true ?_); simp; omega))) ?_
                  refine LS.vv rfl rfl (by decide) (Val.pickT rfl rfl rfl) ?_
                  refine LS.vv rfl rfl (by decide) (Val.assign rfl) ?_
                  refine LS.nil ?_
                  refine W.ret ?_
                  refine ret1 (by first | exact .inl rfl | exact .inr rfl) rfl ?_
                  first | exact ⟨rfl, hB⟩ | (exfalso; omega) | exact ⟨congrArg Value.bool (decide_eq_true (by omega)), hB⟩
                ·
                  first | (have hg16p := of_decide_eq_false hg16) | skip
                  refine LS.vg rfl rfl rfl hg16 (by decide) (Val.move rfl) ?_
                  refine LS.vg rfl rfl rfl hg16 (by decide) (Val.move rfl) ?_
                  refine LS.vg rfl rfl rfl hg16 (by decide) (Val.eql rfl rfl) ?_
                  refine LS.vg rfl rfl rfl hg16 (by decide) (Val.move rfl) ?_
                  refine LS.split 54 rfl (fun hg17 => ?_) (fun hg17 => ?_)
                  ·
                    first | (have hg17p := of_decide_eq_true hg17) | skip
                    refine LS.vg rfl rfl rfl hg17 (by decide) (Val.move rfl) ?_
                    refine LS.vg rfl rfl rfl hg17 (by decide) (Val.move rfl) ?_
                    refine LS.vg rfl rfl rfl hg17 (by decide) (Val.leq rfl rfl) ?_
                    refine LS.vg rfl rfl rfl hg16 (by decide) (Val.pickT rfl hg17 rfl) ?_
                    refine LS.vg rfl rfl rfl rfl (by decide) (Val.pickF rfl hg16 rfl) ?_
                    refine LS.vg rfl rfl rfl rfl (by decide) (Val.cast (v := .bool true) (Val.eqlB Try.underlying4 rfl rfl) (by first | (refine congrArg Value.bool (decide_eq_true ?_); rw [decide_eq_decide]; omega) | (refine congrArg Value.bool (decide_eq_true ?_); simp; omega))) ?_
                    refine LS.vv rfl rfl (by decide) (Val.pickT rfl rfl rfl) ?_
                    refine LS.vv rfl rfl (by decide) (Val.assign rfl) ?_
                    refine LS.nil ?_
                    refine W.ret ?_
                    refine ret1 (by first | exact .inl rfl | exact .inr rfl) rfl ?_
                    first | exact ⟨rfl, hB⟩ | (exfalso; omega) | exact ⟨congrArg Value.bool (decide_eq_true (by omega)), hB⟩
                  ·
                    first | (have hg17p := of_decide_eq_false hg17) | skip
                    refine LS.s rfl rfl rfl hg17 (by decide) ?_
                    refine LS.s rfl rfl rfl hg17 (by decide) ?_
                    refine LS.s rfl rfl rfl hg17 (by decide) ?_
                    refine LS.vg rfl rfl rfl hg16 (by decide) (Val.pickF rfl hg17 rfl) ?_
                    refine LS.vg rfl rfl rfl rfl (by decide) (Val.pickF rfl hg16 rfl) ?_
                    refine LS.vg rfl rfl rfl rfl (by decide) (Val.cast (v := .bool true) (Val.eqlB Try.underlying4 rfl rfl) (by first | (refine congrArg Value.bool (decide_eq_true ?_); rw [decide_eq_decide]; omega) | (refine congrArg Value.bool (decide_eq_true ?_); simp; omega))) ?_
                    refine LS.vv rfl rfl (by decide) (Val.pickT rfl rfl rfl) ?_
                    refine LS.vv rfl rfl (by decide) (Val.assign rfl) ?_
                    refine LS.nil ?_
                    refine W.ret ?_
                    refine ret1 (by first | exact .inl rfl | exact .inr rfl) rfl ?_
                    first | exact ⟨rfl, hB⟩ | (exfalso; omega) | exact ⟨congrArg Value.bool (decide_eq_true (by omega)), hB⟩

end Go.Proofs.Ytldcpihjoakigaa
