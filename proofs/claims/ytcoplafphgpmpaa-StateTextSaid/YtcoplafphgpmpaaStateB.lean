/-
  The walk of state.Take; the statement StateBack.
-/
import Derived.Test.YtcoplafphgpmpaaState
import Derived.Test.YtcoplafphgpmpaaStateBPlain
import Derived.Test.YtcoplafphgpmpaaRefs
namespace Go.Proofs.Ytcoplafphgpmpaa
open Go Go.RowKit V
set_option linter.unusedVariables false

theorem take_any (zs : List Int) (p : Option Addr) (c : Nat) (x : Int) (w0 : World) (hr : Rd w0 p (iv zs)) (hc : zs.length ≤ c) :
    CallsV Try.prog 23 #[.slice p zs.length c, .int .i64 x] w0 (fun v w => ∃ (y s : Int) (e : Nat), v = .tuple #[.int .i64 y, .int .i64 s, .int .i64 (e : Int)] ∧ (e = 0 ↔ OkP zs x) ∧ (e = 0 → ∃ S : Nat, s = S ∧ S < zs.length ∧ sumTo zs S ≤ x % sumTo zs zs.length ∧ x % sumTo zs zs.length < sumTo zs (S + 1) ∧ y = takeV zs x S) ∧ Below w0.heap.size w0 w) := by
  refine enter3 Try.func23 rfl Try.ntmps23 (by simp) rfl ?_
  have hB := Below.refl w0.heap.size w0
  simp only [argLoc, Nat.zero_add]
  refine W.seqR ?_
  refine LS.vv rfl rfl (by decide) (Val.cast (v := .int .i64 ((0 : Nat) : Int)) (Val.assign rfl) rfl) ?_
  refine LS.vv rfl rfl (by decide) (Val.cast (v := .int .i64 ((0 : Nat) : Int)) (Val.assign rfl) rfl) ?_
  refine LS.vv rfl rfl (by decide) (Val.cast (v := .int .i64 ((0 : Nat) : Int)) (Val.assign rfl) rfl) ?_
  refine LS.nil ?_
  refine W.seq ?_
  refine W.seqR ?_
  refine LS.vv rfl rfl (by decide) (Val.move rfl) ?_
  refine LS.vv rfl rfl (by decide) (Val.move rfl) ?_
  refine LS.m rfl (Step.call body43 rfl rfl (by decide) rfl (CallsV.mono (wrong_any zs _ _ x _ (hr.below hB)) ?_))
  rintro _ w1 ⟨e, rfl, he, hb1⟩
  replace hB := hB.trans (hb1.mono hB.size)
  refine LS.vv rfl rfl (by decide) (Val.assign rfl) ?_
  refine LS.nil ?_
  refine W.seqR ?_
  refine LS.vv rfl rfl (by decide) (Val.move rfl) ?_
  refine LS.vv rfl rfl (by decide) (Val.neq rfl rfl) ?_
  refine LS.nil ?_
  first | refine W.condD rfl (fun hc1 => ?_) (fun hc1 => ?_) | refine W.cond rfl (fun hc1 => ?_) (fun hc1 => ?_)
  ·
    refine W.seqR ?_
    refine LS.vv rfl rfl (by decide) (Val.move rfl) ?_
    refine LS.vv rfl rfl (by decide) (Val.cast (v := .int .i64 ((0 : Nat) : Int)) (Val.assign rfl) rfl) ?_
    refine LS.vv rfl rfl (by decide) (Val.cast (v := .int .i64 ((0 : Nat) : Int)) (Val.assign rfl) rfl) ?_
    refine LS.vv rfl rfl (by decide) (Val.assign rfl) ?_
    refine LS.nil ?_
    refine W.ret ?_
    refine thenP_ret ?_
    refine ret3 (by first | exact .inl rfl | exact .inr rfl) rfl rfl rfl ?_
    first | (exact ⟨0, 0, e, rfl, he, fun h => by omega, hB⟩) | (exact ⟨_, _, 0, rfl, ⟨fun _ => hok, fun _ => rfl⟩, fun _ => ⟨k, rfl, hk, hge, by omega, rfl⟩, hB⟩)
  ·
    refine W.skip ?_
    refine thenP_normal ?_
    refine W.seqR ?_
    refine LS.vv rfl rfl (by decide) (Val.move rfl) ?_
    refine LS.vv rfl rfl (by decide) (Val.move rfl) ?_
    refine LS.vv rfl rfl (by decide) (Val.len Try.underlying33 rfl) ?_
    have hok := he.1 (by omega)
    refine LS.m rfl (Step.call body44 rfl rfl (by decide) rfl (CallsV.mono (start_any zs _ _ zs.length _ (hr.below hB) hc hok.1 hok.2.1 (Nat.le_refl _)) ?_))
    rintro _ w2 ⟨rfl, hb2⟩
    replace hB := hB.trans (hb2.mono hB.size)
    have h8 := hok.1
    have hTT := hok.2.2.1
    have hTU := hok.2.2.2.1
    have hx0 := hok.2.2.2.2.1
    have hxl := hok.2.2.2.2.2
    have hm0 := Int.emod_nonneg x (show sumTo zs zs.length ≠ 0 by omega)
    have hm1 := Int.emod_lt_of_pos x (show 0 < sumTo zs zs.length by omega)
    have hn0 : 0 < zs.length := Nat.pos_of_ne_zero fun h => by (rw [h] at hTT; exact absurd hTT (show ¬ (1 : Int) ≤ 0 by decide))
    refine LS.vv rfl rfl (by decide) (Val.assign rfl) ?_
    refine LS.nil ?_
    refine W.seqR ?_
    refine LS.vv rfl rfl (by decide) (Val.move rfl) ?_
    refine LS.vv rfl rfl (by decide) (Val.move rfl) ?_
    refine LS.vv rfl rfl (by decide) (Val.rem rfl rfl (by omega) (by omega)) ?_
    refine LS.vv rfl rfl (by decide) (Val.assign rfl) ?_
    refine LS.nil ?_
    refine W.seqR ?_
    refine LS.vv rfl rfl (by decide) (Val.cast (v := .int .i64 ((0 : Nat) : Int)) (Val.assign rfl) rfl) ?_
    refine LS.nil ?_
    refine W.seq ?_
    refine W.block ?_
    refine W.loop (α := Nat) (fun k => [(10, .int .i64 (k : Int))]) [(0, _), (1, _), (8, _), (9, _)] (fun k w => (k < zs.length ∧ sumTo zs k ≤ x % sumTo zs zs.length) ∧ Below w0.heap.size w0 w) (fun k => zs.length - k) (0) (Sub.cons rfl (Sub.nil _)) (Sub.cons rfl (Sub.cons rfl (Sub.cons rfl (Sub.cons rfl (Sub.nil _))))) ?_ ?_
    · exact ⟨⟨hn0, show (0 : Int) ≤ _ from hm0⟩, hB⟩
    rintro k w3 ⟨⟨hk, hge⟩, hB⟩
    simp only [List.cons_append, List.nil_append]
    refine W.seq ?_
    refine W.seqR ?_
    refine LS.vv rfl rfl (by decide) (Val.move rfl) ?_
    refine LS.vv rfl rfl (by decide) (Val.move rfl) ?_
    refine LS.vv rfl rfl (by decide) (Val.move rfl) ?_
    first | refine LS.vv rfl rfl (by decide) (Val.addN (j := 1) rfl rfl (by omega)) ?_ | refine LS.vv rfl rfl (by decide) (Val.add64 rfl rfl (by omega)) ?_
    refine LS.m rfl (Step.call body44 rfl rfl (by decide) rfl (CallsV.mono (start_any zs _ _ (k + 1) _ (hr.below hB) hc hok.1 hok.2.1 (by omega)) ?_))
    rintro _ w4 ⟨rfl, hb4⟩
    replace hB := hB.trans (hb4.mono hB.size)
    refine LS.vv rfl rfl (by decide) (Val.geq rfl rfl) ?_
    refine LS.nil ?_
    first | refine W.condD rfl (fun hc2 => ?_) (fun hc2 => ?_) | refine W.cond rfl (fun hc2 => ?_) (fun hc2 => ?_)
    ·
      refine W.skip ?_
      refine thenP_normal ?_
      refine W.block ?_
      refine W.reg ?_
      refine LS.vv rfl rfl (by decide) (Val.move rfl) ?_
      first | refine LS.vv rfl rfl (by decide) (Val.addN (j := 1) rfl rfl (by omega)) ?_ | refine LS.vv rfl rfl (by decide) (Val.add64 rfl rfl (by omega)) ?_
      refine LS.vv rfl rfl (by decide) (Val.assign rfl) ?_
      refine LS.nil ?_
      refine inBlk_normal ?_
      refine thenP_normal ?_
      have hkk : k + 1 ≠ zs.length := fun hn => by (have hx : sumTo zs (k + 1) = sumTo zs zs.length := by rw [hn]); omega
      refine ⟨k + 1, ?_, ?_, ⟨⟨by omega, by omega⟩, hB⟩, by omega⟩
      · exact Sub.cons rfl (Sub.nil _)
      · repeat (first | exact Sub.nil _ | refine Sub.cons rfl ?_)
    ·
      refine W.exit ?_
      refine thenP_exit ?_
      refine thenP_exit ?_
      refine inBlk_exit ?_
      refine thenP_normal ?_
      refine W.seqD (S := fun w => Below w0.heap.size w0 w) [(0, true), (1, true), (2, true), (3, true), (4, true), (5, true), (6, true), (7, true), (8, true), (9, true), (10, true), (11, true), (14, true), (12, false), (13, true), (15, true), (16, true), (17, true)] mixed (by kernel_rfl) hB.drew ?_
      replace hB := hB.drew
      refine DX.vv rfl rfl rfl (by decide) (Val.move rfl) ?_
      refine DX.vv rfl rfl rfl (by decide) (Val.move rfl) ?_
      obtain ⟨f1, f1b, f2, f3, f4, f5, f6, f7, f8, f9, f10, f11, f12⟩ := take_facts hok hk hge (by omega)
      refine DX.vv rfl rfl rfl (by decide) (Val.quo64 rfl rfl (by omega) (by omega)) ?_
      refine DX.vv rfl rfl rfl (by decide) (Val.move rfl) ?_
      refine DX.vv rfl rfl rfl (by decide) (Val.move rfl) ?_
      refine DX.vv rfl rfl rfl (by decide) (Val.index1 Try.underlying33 elem3 rfl rfl (by omega) hr (iv_lt (by omega))) ?_
      refine DX.vv rfl rfl rfl (by decide) (Val.load flat3 rfl (fun _ h => hr.below h) (iv_at (by omega))) ?_
      refine DX.vv rfl rfl rfl (by decide) (Val.mul64 rfl rfl (by omega)) ?_
      refine DX.vv rfl rfl rfl (by decide) (Val.move rfl) ?_
      refine DX.vv rfl rfl rfl (by decide) (Val.add64 rfl rfl (by omega)) ?_
      refine DX.vv rfl rfl rfl (by decide) (Val.move rfl) ?_
      refine DX.vv rfl rfl rfl (by decide) (Val.move rfl) ?_
      refine DX.vv rfl rfl rfl (by decide) (Val.move rfl) ?_
      refine DX.m rfl rfl (Step.call body44 rfl rfl (by decide) rfl (CallsV.mono (start_any zs _ _ k _ (hr.below hB) hc hok.1 hok.2.1 (by omega)) ?_))
      rintro _ w5 ⟨rfl, hb5⟩
      replace hB := hB.trans (hb5.mono hB.size)
      refine ⟨hB, ?_⟩
      refine DX.vv rfl rfl rfl (by decide) (Val.sub64 rfl rfl (by unfold takeV at f10 f11; omega)) ?_
      refine DX.vv rfl rfl rfl (by decide) (Val.assign rfl) ?_
      refine DX.vv rfl rfl rfl (by decide) (Val.assign rfl) ?_
      refine DX.vv rfl rfl rfl (by decide) (Val.cast (v := .int .i64 ((0 : Nat) : Int)) (Val.assign rfl) rfl) ?_
      refine DX.nil ?_
      refine W.ret ?_
      refine ret3 (by first | exact .inl rfl | exact .inr rfl) rfl rfl rfl ?_
      first | (exact ⟨0, 0, e, rfl, he, fun h => by omega, hB⟩) | (exact ⟨_, _, 0, rfl, ⟨fun _ => hok, fun _ => rfl⟩, fun _ => ⟨k, rfl, hk, hge, by omega, rfl⟩, hB⟩)

theorem stateBack_any (zs : List Int) (p : Option Addr) (c : Nat) (x s : Int) (w0 : World) (hr : Rd w0 p (iv zs)) (hc : zs.length ≤ c) :
    CallsV Try.prog 9 #[.slice p zs.length c, .int .i64 x, .int .i64 s] w0 (fun v w => v = .bool true ∧ Below w0.heap.size w0 w) := by
  refine enter1 Try.func9 rfl Try.ntmps9 (by simp) rfl ?_
  have hB := Below.refl w0.heap.size w0
  simp only [argLoc, Nat.zero_add, Nat.reduceAdd]
  refine W.seqR ?_
  refine LS.vv rfl rfl (by decide) (Val.assign rfl) ?_
  refine LS.nil ?_
  refine W.seqR ?_
  refine LS.vv rfl rfl (by decide) (Val.move rfl) ?_
  refine LS.vv rfl rfl (by decide) (Val.move rfl) ?_
  refine LS.vv rfl rfl (by decide) (Val.move rfl) ?_
  refine LS.m rfl (Step.call body21 rfl rfl (by decide) rfl (CallsV.mono (put_any zs _ _ x s _ (hr.below hB) hc) ?_))
  rintro _ w1 ⟨y1, e1, rfl, he1, hy1, hz1, hb1⟩
  replace hB := hB.trans (hb1.mono hB.size)
  refine LS.vv rfl rfl (by decide) (Val.move rfl) ?_
  refine LS.vv rfl rfl (by decide) (Val.extract rfl rfl) ?_
  refine LS.vv rfl rfl (by decide) (Val.extract rfl rfl) ?_
  refine LS.vv rfl rfl (by decide) (Val.assign rfl) ?_
  refine LS.vv rfl rfl (by decide) (Val.assign rfl) ?_
  refine LS.nil ?_
  refine W.seqR ?_
  refine LS.vv rfl rfl (by decide) (Val.move rfl) ?_
  refine LS.vv rfl rfl (by decide) (Val.move rfl) ?_
  refine LS.m rfl (Step.call body23 rfl rfl (by decide) rfl (CallsV.mono (take_any zs _ _ x _ (hr.below hB) hc) ?_))
  rintro _ w2 ⟨z, t, f, rfl, hf, hz, hb2⟩
  replace hB := hB.trans (hb2.mono hB.size)
  refine LS.vv rfl rfl (by decide) (Val.move rfl) ?_
  refine LS.vv rfl rfl (by decide) (Val.extract rfl rfl) ?_
  refine LS.vv rfl rfl (by decide) (Val.extract rfl rfl) ?_
  refine LS.vv rfl rfl (by decide) (Val.extract rfl rfl) ?_
  refine LS.vv rfl rfl (by decide) (Val.assign rfl) ?_
  refine LS.vv rfl rfl (by decide) (Val.assign rfl) ?_
  refine LS.vv rfl rfl (by decide) (Val.assign rfl) ?_
  refine LS.nil ?_
  refine W.seq ?_
  refine W.seqR ?_
  refine LS.vv rfl rfl (by decide) (Val.move rfl) ?_
  refine LS.vv rfl rfl (by decide) (Val.move rfl) ?_
  refine LS.m rfl (Step.call body22 rfl rfl (by decide) rfl (CallsV.mono (parted_any zs _ _ x _ (hr.below hB)) ?_))
  rintro _ w3 ⟨b1, rfl, hb1, hb3⟩
  replace hB := hB.trans (hb3.mono hB.size)
  refine LS.vv rfl rfl (by decide) (Val.not rfl) ?_
  refine LS.nil ?_
  first | refine W.condD rfl (fun hc1 => ?_) (fun hc1 => ?_) | refine W.cond rfl (fun hc1 => ?_) (fun hc1 => ?_)
  ·
    refine W.seqR ?_
    refine LS.vv rfl rfl (by decide) (Val.move rfl) ?_
    have hno : ¬ OkP zs x := fun h => by (have := hb1.2 h; simp_all)
    have n1 : e1 ≠ 0 := fun h => hno (he1.1 h).1
    have n2 : f ≠ 0 := fun h => hno (hf.1 h)
    refine LS.vv rfl rfl (by decide) (Val.cast (v := .bool true) (Val.neq rfl rfl) (by simp; omega)) ?_
    refine LS.vv rfl rfl (by decide) (Val.move rfl) ?_
    refine LS.vg rfl rfl rfl rfl (by decide) (Val.move rfl) ?_
    refine LS.vg rfl rfl rfl rfl (by decide) (Val.cast (v := .bool true) (Val.neq rfl rfl) (by simp; omega)) ?_
    refine LS.vv rfl rfl (by decide) (Val.pickT rfl rfl rfl) ?_
    refine LS.vv rfl rfl (by decide) (Val.assign rfl) ?_
    refine LS.nil ?_
    refine W.ret ?_
    refine thenP_ret ?_
    refine ret1 (by first | exact .inl rfl | exact .inr rfl) rfl ?_
    first | exact ⟨rfl, hB⟩ | (exfalso; omega)
  ·
    refine W.skip ?_
    refine thenP_normal ?_
    refine W.seq ?_
    refine W.seqR ?_
    refine LS.vv rfl rfl (by decide) (Val.move rfl) ?_
    have hyes : OkP zs x := hb1.1 (by simp_all)
    have n2 : f = 0 := hf.2 hyes
    obtain ⟨S, rfl, hS, hS1, hS2, rfl⟩ := hz n2
    clear hz
    obtain ⟨f1, f1b, f2, f3, f4, f5, f6, f7, f8, f9, f10, f11, f12⟩ := take_facts hyes hS hS1 hS2
    refine LS.vv rfl rfl (by decide) (Val.cast (v := .bool false) (Val.neq rfl rfl) (by simp; omega)) ?_
    refine LS.nil ?_
    refine W.condF rfl ?_
    refine W.skip ?_
    refine thenP_normal ?_
    refine W.seqR ?_
    refine LS.vv rfl rfl (by decide) (Val.move rfl) ?_
    refine LS.vv rfl rfl (by decide) (Val.move rfl) ?_
    refine LS.vv rfl rfl (by decide) (Val.move rfl) ?_
    refine LS.m rfl (Step.call body21 rfl rfl (by decide) rfl (CallsV.mono (put_any zs _ _ _ _ _ (hr.below hB) hc) ?_))
    rintro _ w4 ⟨y2, g, rfl, hg, hy2, hz2, hb4⟩
    replace hB := hB.trans (hb4.mono hB.size)
    have n3 : g = 0 := hg.2 ⟨⟨hyes.1, hyes.2.1, hyes.2.2.1, hyes.2.2.2.1, f10, Int.le_trans f11 hyes.2.2.2.2.2⟩, by omega, by omega, by rw [Int.toNat_natCast]; exact f1, by rw [Int.toNat_natCast, f12]; exact hyes.2.2.2.2.2⟩
    have n4 := hy2 n3
    rw [Int.toNat_natCast, f12] at n4
    refine LS.vv rfl rfl (by decide) (Val.move rfl) ?_
    refine LS.vv rfl rfl (by decide) (Val.extract rfl rfl) ?_
    refine LS.vv rfl rfl (by decide) (Val.extract rfl rfl) ?_
    refine LS.vv rfl rfl (by decide) (Val.assign rfl) ?_
    refine LS.vv rfl rfl (by decide) (Val.assign rfl) ?_
    refine LS.nil ?_
    refine W.seq ?_
    refine W.seqR ?_
    refine LS.vv rfl rfl (by decide) (Val.move rfl) ?_
    refine LS.vv rfl rfl (by decide) (Val.cast (v := .bool false) (Val.neq rfl rfl) (by simp; omega)) ?_
    refine LS.vv rfl rfl (by decide) (Val.move rfl) ?_
    refine LS.vg rfl rfl rfl rfl (by decide) (Val.move rfl) ?_
    refine LS.vg rfl rfl rfl rfl (by decide) (Val.move rfl) ?_
    refine LS.vg rfl rfl rfl rfl (by decide) (Val.cast (v := .bool false) (Val.neq rfl rfl) (by simp; omega)) ?_
    refine LS.vv rfl rfl (by decide) (Val.pickF rfl rfl rfl) ?_
    refine LS.nil ?_
    refine W.condF rfl ?_
    refine W.skip ?_
    refine thenP_normal ?_
    refine W.seq ?_
    refine W.seqR ?_
    refine LS.vv rfl rfl (by decide) (Val.move rfl) ?_
    refine LS.vv rfl rfl (by decide) (Val.neq rfl rfl) ?_
    refine LS.nil ?_
    first | refine W.condD rfl (fun hc2 => ?_) (fun hc2 => ?_) | refine W.cond rfl (fun hc2 => ?_) (fun hc2 => ?_)
    ·
      refine W.seqR ?_
      refine LS.vv rfl rfl (by decide) (Val.move rfl) ?_
      refine LS.vv rfl rfl (by decide) (Val.cast (v := .bool true) (Val.eql rfl rfl) (by simp; omega)) ?_
      refine LS.vv rfl rfl (by decide) (Val.assign rfl) ?_
      refine LS.nil ?_
      refine W.ret ?_
      refine thenP_ret ?_
      refine ret1 (by first | exact .inl rfl | exact .inr rfl) rfl ?_
      first | exact ⟨rfl, hB⟩ | (exfalso; omega)
    ·
      refine W.skip ?_
      refine thenP_normal ?_
      refine W.seqR ?_
      refine LS.vv rfl rfl (by decide) (Val.move rfl) ?_
      refine LS.vv rfl rfl (by decide) (Val.move rfl) ?_
      have n1 : e1 = 0 := by omega
      obtain ⟨_, k1, k2, k3, k4⟩ := he1.1 n1
      have n5 := hy1 n1
      have k5 := putV_ge hyes (show s.toNat < zs.length by omega) k3
      have k6 : OkP zs y1 := ⟨hyes.1, hyes.2.1, hyes.2.2.1, hyes.2.2.2.1, by rw [n5]; exact Int.le_trans hyes.2.2.2.2.1 k5, by rw [n5]; exact k4⟩
      refine LS.m rfl (Step.call body23 rfl rfl (by decide) rfl (CallsV.mono (take_any zs _ _ y1 _ (hr.below hB) hc) ?_))
      rintro _ w5 ⟨a, b, g2, rfl, hg2, ha, hb5⟩
      replace hB := hB.trans (hb5.mono hB.size)
      have n6 := hg2.2 k6
      obtain ⟨U, rfl, hU, hU1, hU2, rfl⟩ := ha n6
      clear ha
      rw [n5] at hU1 hU2
      obtain ⟨m1, m2⟩ := put_take hyes (show s.toNat < zs.length by omega) k3 hU hU1 hU2
      rw [← n5] at m2
      refine LS.vv rfl rfl (by decide) (Val.move rfl) ?_
      refine LS.vv rfl rfl (by decide) (Val.extract rfl rfl) ?_
      refine LS.vv rfl rfl (by decide) (Val.extract rfl rfl) ?_
      refine LS.vv rfl rfl (by decide) (Val.extract rfl rfl) ?_
      refine LS.vv rfl rfl (by decide) (Val.assign rfl) ?_
      refine LS.vv rfl rfl (by decide) (Val.assign rfl) ?_
      refine LS.vv rfl rfl (by decide) (Val.assign rfl) ?_
      refine LS.nil ?_
      refine W.seqR ?_
      refine LS.vv rfl rfl (by decide) (Val.move rfl) ?_
      refine LS.vv rfl rfl (by decide) (Val.cast (v := .bool true) (Val.eql rfl rfl) (by simp; omega)) ?_
      refine LS.vv rfl rfl (by decide) (Val.move rfl) ?_
      refine LS.vg rfl rfl rfl rfl (by decide) (Val.move rfl) ?_
      refine LS.vg rfl rfl rfl rfl (by decide) (Val.move rfl) ?_
      refine LS.vg rfl rfl rfl rfl (by decide) (Val.cast (v := .bool true) (Val.eql rfl rfl) (by simp; omega)) ?_
      refine LS.vv rfl rfl (by decide) (Val.pickT rfl rfl rfl) ?_
      refine LS.vv rfl rfl (by decide) (Val.move rfl) ?_
      refine LS.vg rfl rfl rfl rfl (by decide) (Val.move rfl) ?_
      refine LS.vg rfl rfl rfl rfl (by decide) (Val.move rfl) ?_
      refine LS.vg rfl rfl rfl rfl (by decide) (Val.cast (v := .bool true) (Val.eql rfl rfl) (by simp; omega)) ?_
      refine LS.vv rfl rfl (by decide) (Val.pickT rfl rfl rfl) ?_
      refine LS.vv rfl rfl (by decide) (Val.assign rfl) ?_
      refine LS.nil ?_
      refine W.ret ?_
      refine ret1 (by first | exact .inl rfl | exact .inr rfl) rfl ?_
      first | exact ⟨rfl, hB⟩ | (exfalso; omega)

end Go.Proofs.Ytcoplafphgpmpaa
