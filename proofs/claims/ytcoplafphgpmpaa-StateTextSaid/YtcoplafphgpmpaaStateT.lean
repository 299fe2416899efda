/-
  The walks of state.Write and state.Read; the statement StateText.
-/
import Derived.Test.YtcoplafphgpmpaaStateB
namespace Go.Proofs.Ytcoplafphgpmpaa
open Go Go.RowKit V
set_option linter.unusedVariables false

theorem write_any (zs ys : List Int) (p q : Option Addr) (c d : Nat) (w0 : World) (hr : Rd w0 p (iv zs)) (hc : zs.length ≤ c) (hr2 : Rd w0 q (iv ys)) (hl2 : ys.length ≤ 9223372036854775807) :
    CallsV Try.prog 24 #[.slice p zs.length c, .slice q ys.length d] w0 (fun v w => ∃ (x : Int) (e : Nat), v = .tuple #[.int .i64 x, .int .i64 (e : Int)] ∧ (e = 0 → ys.length ≤ 64 ∧ x = txt zs ys ys.length ∧ GoodT zs ys ys.length ∧ OkP zs 0) ∧ (e ≠ 0 → x = 0) ∧ Below w0.heap.size w0 w) := by
  refine enter2 Try.func24 rfl Try.ntmps24 (by simp) rfl ?_
  have hB := Below.refl w0.heap.size w0
  simp only [argLoc, Nat.zero_add]
  refine W.seqR ?_
  refine LS.vv rfl rfl (by decide) (Val.cast (v := .int .i64 ((0 : Nat) : Int)) (Val.assign rfl) rfl) ?_
  refine LS.vv rfl rfl (by decide) (Val.cast (v := .int .i64 ((0 : Nat) : Int)) (Val.assign rfl) rfl) ?_
  refine LS.nil ?_
  refine W.seq ?_
  refine W.seqR ?_
  refine LS.vv rfl rfl (by decide) (Val.move rfl) ?_
  refine LS.m rfl (Step.call body43 rfl rfl (by decide) rfl (CallsV.mono (wrong_any zs _ _ 0 _ (hr.below hB)) ?_))
  rintro _ w1 ⟨e, rfl, he, hb1⟩
  replace hB := hB.trans (hb1.mono hB.size)
  refine LS.vv rfl rfl (by decide) (Val.assign rfl) ?_
  refine LS.nil ?_
  refine W.seqR ?_
  refine LS.vv rfl rfl (by decide) (Val.move rfl) ?_
  refine LS.vv rfl rfl (by decide) (Val.neq rfl rfl) ?_
  refine LS.nil ?_
  first | refine W.condD rfl (fun hc1 => ?_) (fun hc1 => ?_) | refine W.cond rfl (fun hc1 => ?_) (fun hc1 => ?_)
  ·
    refine W.seqR ?_
    refine LS.vv rfl rfl (by decide) (Val.move rfl) ?_
    refine LS.vv rfl rfl (by decide) (Val.cast (v := .int .i64 ((0 : Nat) : Int)) (Val.assign rfl) rfl) ?_
    refine LS.vv rfl rfl (by decide) (Val.assign rfl) ?_
    refine LS.nil ?_
    refine W.ret ?_
    refine thenP_ret ?_
    refine ret2 (by first | exact .inl rfl | exact .inr rfl) rfl rfl ?_
    first | exact ⟨0, e, rfl, fun h => by omega, fun _ => rfl, hB⟩ | exact ⟨0, 1, rfl, fun h => by omega, fun _ => rfl, hB⟩ | exact ⟨0, e2, rfl, fun h => by omega, fun _ => rfl, hB⟩ | (subst hkl; exact ⟨_, 0, rfl, fun _ => ⟨by omega, rfl, hG, he.1 (by omega)⟩, fun h => absurd rfl h, hB⟩)
  ·
    refine W.skip ?_
    refine thenP_normal ?_
    refine W.seq ?_
    refine W.seqR ?_
    refine LS.vv rfl rfl (by decide) (Val.move rfl) ?_
    refine LS.vv rfl rfl (by decide) (Val.len Try.underlying33 rfl) ?_
    refine LS.vv rfl rfl (by decide) (Val.gtr rfl rfl) ?_
    refine LS.nil ?_
    first | refine W.condD rfl (fun hc2 => ?_) (fun hc2 => ?_) | refine W.cond rfl (fun hc2 => ?_) (fun hc2 => ?_)
    ·
      refine W.seqR ?_
      refine LS.vv rfl rfl (by decide) (Val.cast (v := .int .i64 ((0 : Nat) : Int)) (Val.assign rfl) rfl) ?_
      refine LS.vv rfl rfl (by decide) (Val.cast (v := .int .i64 ((1 : Nat) : Int)) (Val.assign rfl) rfl) ?_
      refine LS.nil ?_
      refine W.ret ?_
      refine thenP_ret ?_
      refine ret2 (by first | exact .inl rfl | exact .inr rfl) rfl rfl ?_
      first | exact ⟨0, e, rfl, fun h => by omega, fun _ => rfl, hB⟩ | exact ⟨0, 1, rfl, fun h => by omega, fun _ => rfl, hB⟩ | exact ⟨0, e2, rfl, fun h => by omega, fun _ => rfl, hB⟩ | (subst hkl; exact ⟨_, 0, rfl, fun _ => ⟨by omega, rfl, hG, he.1 (by omega)⟩, fun h => absurd rfl h, hB⟩)
    ·
      refine W.skip ?_
      refine thenP_normal ?_
      refine W.seqR ?_
      refine LS.vv rfl rfl (by decide) (Val.cast (v := .int .i64 ((0 : Nat) : Int)) (Val.assign rfl) rfl) ?_
      refine LS.nil ?_
      refine W.seq ?_
      refine W.seqR ?_
      refine LS.vv rfl rfl (by decide) (Val.move rfl) ?_
      refine LS.vv rfl rfl (by decide) (Val.len Try.underlying33 rfl) ?_
      refine LS.vv rfl rfl (by decide) (Val.sub64 rfl rfl (by omega)) ?_
      refine LS.vv rfl rfl (by decide) (Val.assign rfl) ?_
      refine LS.nil ?_
      refine W.block ?_
      refine W.loop (α := Nat) (fun k => [(7, .int .i64 (txt zs ys k)), (8, .int .i64 ((ys.length : Int) - 1 - (k : Int)))]) [(0, _), (1, _)] (fun k w => (k ≤ ys.length ∧ GoodT zs ys k) ∧ Below w0.heap.size w0 w) (fun k => ys.length - k) (0) (Sub.cons rfl (Sub.cons (congrArg (fun u => some (Value.int .i64 u)) (by simp)) (Sub.nil _))) (Sub.cons rfl (Sub.cons rfl (Sub.nil _))) ?_ ?_
      · exact ⟨⟨Nat.zero_le _, fun i hi => by omega⟩, hB⟩
      rintro k w2 ⟨⟨hk, hG⟩, hB⟩
      simp only [List.cons_append, List.nil_append]
      refine W.seq ?_
      refine W.seqR ?_
      refine LS.vv rfl rfl (by decide) (Val.move rfl) ?_
      refine LS.vv rfl rfl (by decide) (Val.geq rfl rfl) ?_
      refine LS.nil ?_
      first | refine W.condD rfl (fun hc3 => ?_) (fun hc3 => ?_) | refine W.cond rfl (fun hc3 => ?_) (fun hc3 => ?_)
      ·
        have hkl : k < ys.length := by omega
        have hidx : (ys.length : Int) - 1 - (k : Int) = ((ys.length - 1 - k : Nat) : Int) := by omega
        rw [hidx]
        refine W.skip ?_
        refine thenP_normal ?_
        refine W.seq ?_
        refine W.block ?_
        refine W.seqR ?_
        refine LS.vv rfl rfl (by decide) (Val.move rfl) ?_
        refine LS.vv rfl rfl (by decide) (Val.move rfl) ?_
        refine LS.vv rfl rfl (by decide) (Val.move rfl) ?_
        refine LS.vv rfl rfl (by decide) (Val.move rfl) ?_
        refine LS.vv rfl rfl (by decide) (Val.index1 Try.underlying33 elem3 rfl rfl (by omega) hr2 (iv_lt (by omega))) ?_
        refine LS.m rfl (Step.load rfl rfl (by decide) flat3 rfl (hr2.below hB) (iv_at (by omega)) ?_)
        refine LS.m rfl (Step.call body21 rfl rfl (by decide) rfl (CallsV.mono (put_any zs _ _ _ _ _ (hr.below hB) hc) ?_))
        rintro _ w3 ⟨y, e2, rfl, he2, hy, hz, hb3⟩
        replace hB := hB.trans (hb3.mono hB.size)
        refine LS.vv rfl rfl (by decide) (Val.move rfl) ?_
        refine LS.vv rfl rfl (by decide) (Val.extract rfl rfl) ?_
        refine LS.vv rfl rfl (by decide) (Val.extract rfl rfl) ?_
        refine LS.vv rfl rfl (by decide) (Val.assign rfl) ?_
        refine LS.vv rfl rfl (by decide) (Val.assign rfl) ?_
        refine LS.nil ?_
        refine W.seq ?_
        refine W.seqR ?_
        refine LS.vv rfl rfl (by decide) (Val.move rfl) ?_
        refine LS.vv rfl rfl (by decide) (Val.neq rfl rfl) ?_
        refine LS.nil ?_
        first | refine W.condD rfl (fun hc4 => ?_) (fun hc4 => ?_) | refine W.cond rfl (fun hc4 => ?_) (fun hc4 => ?_)
        ·
          refine W.seqR ?_
          refine LS.vv rfl rfl (by decide) (Val.move rfl) ?_
          refine LS.vv rfl rfl (by decide) (Val.cast (v := .int .i64 ((0 : Nat) : Int)) (Val.assign rfl) rfl) ?_
          refine LS.vv rfl rfl (by decide) (Val.assign rfl) ?_
          refine LS.nil ?_
          refine W.ret ?_
          refine thenP_ret ?_
          refine inBlk_ret ?_
          refine thenP_ret ?_
          refine thenP_ret ?_
          refine inBlk_ret ?_
          refine thenP_ret ?_
          refine ret2 (by first | exact .inl rfl | exact .inr rfl) rfl rfl ?_
          first | exact ⟨0, e, rfl, fun h => by omega, fun _ => rfl, hB⟩ | exact ⟨0, 1, rfl, fun h => by omega, fun _ => rfl, hB⟩ | exact ⟨0, e2, rfl, fun h => by omega, fun _ => rfl, hB⟩ | (subst hkl; exact ⟨_, 0, rfl, fun _ => ⟨by omega, rfl, hG, he.1 (by omega)⟩, fun h => absurd rfl h, hB⟩)
        ·
          refine W.skip ?_
          refine thenP_normal ?_
          refine W.reg ?_
          refine LS.vv rfl rfl (by decide) (Val.move rfl) ?_
          refine LS.vv rfl rfl (by decide) (Val.assign rfl) ?_
          refine LS.nil ?_
          refine inBlk_normal ?_
          refine thenP_normal ?_
          refine W.reg ?_
          refine LS.vv rfl rfl (by decide) (Val.move rfl) ?_
          obtain ⟨g1, g2, g3, g4, g5⟩ := he2.1 (by omega)
          obtain rfl := hy (by omega)
          refine LS.vv rfl rfl (by decide) (Val.cast (v := .int .i64 ((ys.length : Int) - 1 - ((k + 1 : Nat) : Int))) (Val.sub64 rfl rfl (by omega)) (by congr 1; omega)) ?_
          refine LS.vv rfl rfl (by decide) (Val.assign rfl) ?_
          refine LS.nil ?_
          refine thenP_normal ?_
          have hgood := hG.succ ⟨g1, by omega, by omega, by omega, by rw [txt_succ]; omega⟩
          refine ⟨k + 1, ?_, ?_, ⟨⟨by omega, hgood⟩, hB⟩, by omega⟩
          · exact Sub.cons rfl (Sub.cons rfl (Sub.nil _))
          · repeat (first | exact Sub.nil _ | refine Sub.cons rfl ?_)
      ·
        have hkl : k = ys.length := by omega
        refine W.exit ?_
        refine thenP_exit ?_
        refine thenP_exit ?_
        refine inBlk_exit ?_
        refine thenP_normal ?_
        refine W.seqR ?_
        refine LS.vv rfl rfl (by decide) (Val.move rfl) ?_
        refine LS.vv rfl rfl (by decide) (Val.assign rfl) ?_
        refine LS.vv rfl rfl (by decide) (Val.cast (v := .int .i64 ((0 : Nat) : Int)) (Val.assign rfl) rfl) ?_
        refine LS.nil ?_
        refine W.ret ?_
        refine ret2 (by first | exact .inl rfl | exact .inr rfl) rfl rfl ?_
        first | exact ⟨0, e, rfl, fun h => by omega, fun _ => rfl, hB⟩ | exact ⟨0, 1, rfl, fun h => by omega, fun _ => rfl, hB⟩ | exact ⟨0, e2, rfl, fun h => by omega, fun _ => rfl, hB⟩ | (subst hkl; exact ⟨_, 0, rfl, fun _ => ⟨by omega, rfl, hG, he.1 (by omega)⟩, fun h => absurd rfl h, hB⟩)

theorem read_any (zs ys : List Int) (p : Option Addr) (c : Nat) (w0 : World) (h64 : ys.length ≤ 64) (hG : GoodT zs ys ys.length) (h0 : OkP zs 0) (hr : Rd w0 p (iv zs)) (hc : zs.length ≤ c) :
    CallsV Try.prog 25 #[.slice p zs.length c, .int .i64 (txt zs ys ys.length), .int .i64 (ys.length : Int)] w0 (fun v w => ∃ (p2 : Option Addr) (c2 : Nat), v = .tuple #[.slice p2 ys.length c2, .int .i64 0] ∧ Rd w p2 (iv ys) ∧ Below w0.heap.size w0 w) := by
  refine enter2 Try.func25 rfl Try.ntmps25 (by simp) rfl ?_
  have hB := Below.refl w0.heap.size w0
  simp only [argLoc, Nat.zero_add, Nat.reduceAdd]
  have hok := hG.ok h0 ys.length (Nat.le_refl _)
  refine W.seqR ?_
  refine LS.vv rfl rfl (by decide) (Val.assign rfl) ?_
  refine LS.vv rfl rfl (by decide) (Val.cast (v := .int .i64 ((0 : Nat) : Int)) (Val.assign rfl) rfl) ?_
  refine LS.nil ?_
  refine W.seq ?_
  refine W.seqR ?_
  refine LS.vv rfl rfl (by decide) (Val.move rfl) ?_
  refine LS.vv rfl rfl (by decide) (Val.move rfl) ?_
  refine LS.m rfl (Step.call body43 rfl rfl (by decide) rfl (CallsV.mono (wrong_any zs _ _ _ _ (hr.below hB)) ?_))
  rintro _ w1 ⟨e, rfl, he, hb1⟩
  replace hB := hB.trans (hb1.mono hB.size)
  obtain rfl : e = 0 := he.2 hok
  refine LS.vv rfl rfl (by decide) (Val.assign rfl) ?_
  refine LS.nil ?_
  refine W.seqR ?_
  refine LS.vv rfl rfl (by decide) (Val.move rfl) ?_
  refine LS.vv rfl rfl (by decide) (Val.neq rfl rfl) ?_
  refine LS.nil ?_
  first | refine W.condD rfl (fun hc1 => ?_) (fun hc1 => ?_) | refine W.cond rfl (fun hc1 => ?_) (fun hc1 => ?_)
  ·
    omega
  ·
    refine W.skip ?_
    refine thenP_normal ?_
    refine W.seq ?_
    refine W.seqR ?_
    refine LS.vv rfl rfl (by decide) (Val.move rfl) ?_
    refine LS.vv rfl rfl (by decide) (Val.gtr rfl rfl) ?_
    refine LS.nil ?_
    first | refine W.condD rfl (fun hc2 => ?_) (fun hc2 => ?_) | refine W.cond rfl (fun hc2 => ?_) (fun hc2 => ?_)
    ·
      omega
    ·
      refine W.skip ?_
      refine thenP_normal ?_
      refine W.seq ?_
      refine W.seqR ?_
      refine LS.vv rfl rfl (by decide) (Val.move rfl) ?_
      refine LS.vv rfl rfl (by decide) (Val.lss rfl rfl) ?_
      refine LS.nil ?_
      first | refine W.condD rfl (fun hc3 => ?_) (fun hc3 => ?_) | refine W.cond rfl (fun hc3 => ?_) (fun hc3 => ?_)
      ·
        omega
      ·
        refine W.skip ?_
        refine thenP_normal ?_
        refine W.seqR ?_
        refine LS.vv rfl rfl (by decide) (Val.assign rfl) ?_
        refine LS.nil ?_
        refine W.seq ?_
        refine W.seqR ?_
        refine LS.vv rfl rfl (by decide) (Val.move rfl) ?_
        refine LS.vv rfl rfl (by decide) (Val.cast (v := .int .i64 ((0 : Nat) : Int)) (Val.move rfl) rfl) ?_
        refine LS.nil ?_
        refine W.block ?_
        refine W.loop (α := Nat × Option Addr × Nat) (fun g => [(1, .int .i64 (txt zs ys (ys.length - g.1))), (9, .slice g.2.1 g.1 g.2.2), (24, .int .i64 (g.1 : Int))]) [(0, _), (23, _)] (fun g w => (g.1 ≤ ys.length ∧ Own w w0.heap.size 3 g.2.1 g.1 g.2.2 (iv (ys.take g.1))) ∧ Below w0.heap.size w0 w) (fun g => ys.length - g.1) ((0, none, 0)) (Sub.cons rfl (Sub.cons rfl (Sub.cons rfl (Sub.nil _)))) (Sub.cons rfl (Sub.cons rfl (Sub.nil _))) ?_ ?_
        · exact ⟨⟨Nat.zero_le _, Own.nil _ _ _⟩, hB⟩
        rintro ⟨k, p1, c1⟩ w2 ⟨⟨hk, hO⟩, hB⟩
        simp only [List.cons_append, List.nil_append]
        simp only at hk hO
        refine W.seqR ?_
        refine LS.vv rfl rfl (by decide) (Val.lss rfl rfl) ?_
        refine LS.nil ?_
        refine W.seq ?_
        first | refine W.condD rfl (fun hc4 => ?_) (fun hc4 => ?_) | refine W.cond rfl (fun hc4 => ?_) (fun hc4 => ?_)
        ·
          have hok1 := hG.ok h0 (ys.length - k) (by omega)
          refine W.skip ?_
          refine thenP_normal ?_
          refine W.seq ?_
          refine W.block ?_
          refine W.seqR ?_
          refine LS.vv rfl rfl (by decide) (Val.move rfl) ?_
          refine LS.vv rfl rfl (by decide) (Val.move rfl) ?_
          refine LS.m rfl (Step.call body23 rfl rfl (by decide) rfl (CallsV.mono (take_any zs _ _ _ _ (hr.below hB) hc) ?_))
          rintro _ w3 ⟨y, t, f, rfl, hf, hz, hb3⟩
          replace hB := hB.trans (hb3.mono hB.size)
          obtain rfl : f = 0 := hf.2 hok1
          obtain ⟨S, rfl, hS, hS1, hS2, rfl⟩ := hz rfl
          clear hz
          obtain ⟨hs1, hs2⟩ := read_step hG (by omega) hS hS1 hS2
          rw [hs2, ← hs1]
          replace hO := hO.below hb3
          refine LS.vv rfl rfl (by decide) (Val.move rfl) ?_
          refine LS.vv rfl rfl (by decide) (Val.extract rfl rfl) ?_
          refine LS.vv rfl rfl (by decide) (Val.extract rfl rfl) ?_
          refine LS.vv rfl rfl (by decide) (Val.extract rfl rfl) ?_
          refine LS.vv rfl rfl (by decide) (Val.assign rfl) ?_
          refine LS.vv rfl rfl (by decide) (Val.assign rfl) ?_
          refine LS.vv rfl rfl (by decide) (Val.assign rfl) ?_
          refine LS.nil ?_
          refine W.reg ?_
          refine LS.vv rfl rfl (by decide) (Val.move rfl) ?_
          refine LS.vv rfl rfl (by decide) (Val.move rfl) ?_
          refine LS.vv rfl rfl (by decide) (Val.move rfl) ?_
          refine LS.m rfl (Step.lit (B := w0.heap.size) rfl rfl (by decide) Try.underlying33 elem3 rfl rfl (by omega) (by simp [Value.oneCell']) hB.size ?_)
          rintro w4 hO4 hg4 hbl4 hsz4
          replace hB := hB.trans (hbl4.mono hB.size)
          replace hO := hO.below hbl4
          refine LS.m rfl (Step.append (B := w0.heap.size) rfl rfl (by decide) Try.underlying33 elem3 rfl rfl rfl rfl (hO) (hO4.rd) (rfl) ((by simp [Value.oneCell'])) (by omega) (by omega) hB.size ?_)
          rintro p5 c5 w5 hO5 hg5 hbl5
          replace hB := hB.trans hbl5
          refine LS.vv rfl rfl (by decide) (Val.assign rfl) ?_
          refine LS.vv rfl rfl (by decide) (Val.assign rfl) ?_
          refine LS.nil ?_
          refine inBlk_normal ?_
          refine thenP_normal ?_
          refine W.reg ?_
          first | refine LS.vv rfl rfl (by decide) (Val.addN (j := 1) rfl rfl (by omega)) ?_ | refine LS.vv rfl rfl (by decide) (Val.add64 rfl rfl (by omega)) ?_
          refine LS.vv rfl rfl (by decide) (Val.move rfl) ?_
          refine LS.nil ?_
          refine thenP_normal ?_
          refine ⟨(k + 1, p5, c5), ?_, ?_, ⟨⟨by simp only; omega, ?_⟩, hB⟩, by simp only; omega⟩
          · exact Sub.cons rfl (Sub.cons rfl (Sub.cons rfl (Sub.nil _)))
          · repeat (first | exact Sub.nil _ | refine Sub.cons rfl ?_)
          · simp only; rw [iv_take_succ (by omega)]; exact hO5
        ·
          obtain rfl : k = ys.length := by omega
          simp only [Nat.sub_self]
          refine W.exit ?_
          refine thenP_exit ?_
          refine thenP_exit ?_
          refine inBlk_exit ?_
          refine thenP_normal ?_
          refine W.seq ?_
          refine W.seqR ?_
          refine LS.vv rfl rfl (by decide) (Val.move rfl) ?_
          refine LS.vv rfl rfl (by decide) (Val.neq rfl rfl) ?_
          refine LS.nil ?_
          first | refine W.condD rfl (fun hc5 => ?_) (fun hc5 => ?_) | refine W.cond rfl (fun hc5 => ?_) (fun hc5 => ?_)
          ·
            exfalso; exact hc5 rfl
          ·
            refine W.skip ?_
            refine thenP_normal ?_
            refine W.seqR ?_
            refine LS.vv rfl rfl (by decide) (Val.move rfl) ?_
            refine LS.vv rfl rfl (by decide) (Val.assign rfl) ?_
            refine LS.vv rfl rfl (by decide) (Val.cast (v := .int .i64 ((0 : Nat) : Int)) (Val.assign rfl) rfl) ?_
            refine LS.nil ?_
            refine W.ret ?_
            refine ret2 (by first | exact .inl rfl | exact .inr rfl) rfl rfl ?_
            rw [List.take_length] at hO
            exact ⟨_, _, rfl, hO.rd, hB⟩

theorem stateText_any (zs ys : List Int) (p q : Option Addr) (c d : Nat) (w0 : World) (hr : Rd w0 p (iv zs)) (hc : zs.length ≤ c) (hr2 : Rd w0 q (iv ys)) (hl2 : ys.length ≤ 9223372036854775807) :
    CallsV Try.prog 10 #[.slice p zs.length c, .slice q ys.length d] w0 (fun v w => v = .bool true ∧ Below w0.heap.size w0 w) := by
  refine enter1 Try.func10 rfl Try.ntmps10 (by simp) rfl ?_
  have hB := Below.refl w0.heap.size w0
  simp only [argLoc, Nat.zero_add]
  refine W.seqR ?_
  refine LS.vv rfl rfl (by decide) (Val.assign rfl) ?_
  refine LS.nil ?_
  refine W.seqR ?_
  refine LS.vv rfl rfl (by decide) (Val.move rfl) ?_
  refine LS.vv rfl rfl (by decide) (Val.move rfl) ?_
  refine LS.m rfl (Step.call body24 rfl rfl (by decide) rfl (CallsV.mono (write_any zs ys _ _ _ _ _ (hr.below hB) hc (hr2.below hB) hl2) ?_))
  rintro _ w1 ⟨x, e, rfl, he, hx, hb1⟩
  replace hB := hB.trans (hb1.mono hB.size)
  refine LS.vv rfl rfl (by decide) (Val.move rfl) ?_
  refine LS.vv rfl rfl (by decide) (Val.extract rfl rfl) ?_
  refine LS.vv rfl rfl (by decide) (Val.extract rfl rfl) ?_
  refine LS.vv rfl rfl (by decide) (Val.assign rfl) ?_
  refine LS.vv rfl rfl (by decide) (Val.assign rfl) ?_
  refine LS.nil ?_
  refine W.seq ?_
  refine W.seqR ?_
  refine LS.vv rfl rfl (by decide) (Val.move rfl) ?_
  refine LS.m rfl (Step.call body22 rfl rfl (by decide) rfl (CallsV.mono (parted_any zs _ _ 0 _ (hr.below hB)) ?_))
  rintro _ w2 ⟨b1, rfl, hb1, hb2⟩
  replace hB := hB.trans (hb2.mono hB.size)
  refine LS.vv rfl rfl (by decide) (Val.not rfl) ?_
  refine LS.nil ?_
  first | refine W.condD rfl (fun hc1 => ?_) (fun hc1 => ?_) | refine W.cond rfl (fun hc1 => ?_) (fun hc1 => ?_)
  ·
    refine W.seqR ?_
    refine LS.vv rfl rfl (by decide) (Val.move rfl) ?_
    have hno : ¬ OkP zs 0 := fun h => by (have := hb1.2 h; simp_all)
    have n1 : e ≠ 0 := fun h => hno (he h).2.2.2
    refine LS.vv rfl rfl (by decide) (Val.cast (v := .bool true) (Val.neq rfl rfl) (by simp; omega)) ?_
    refine LS.vv rfl rfl (by decide) (Val.assign rfl) ?_
    refine LS.nil ?_
    refine W.ret ?_
    refine thenP_ret ?_
    refine ret1 (by first | exact .inl rfl | exact .inr rfl) rfl ?_
    first | exact ⟨rfl, hB⟩ | exact ⟨congrArg Value.bool (decide_eq_true rfl), hB⟩
  ·
    refine W.skip ?_
    refine thenP_normal ?_
    refine W.seq ?_
    refine W.seqR ?_
    refine LS.vv rfl rfl (by decide) (Val.move rfl) ?_
    refine LS.vv rfl rfl (by decide) (Val.neq rfl rfl) ?_
    refine LS.nil ?_
    first | refine W.condD rfl (fun hc2 => ?_) (fun hc2 => ?_) | refine W.cond rfl (fun hc2 => ?_) (fun hc2 => ?_)
    ·
      refine W.seqR ?_
      refine LS.vv rfl rfl (by decide) (Val.move rfl) ?_
      have n2 := hx (by omega)
      refine LS.vv rfl rfl (by decide) (Val.cast (v := .bool true) (Val.eql rfl rfl) (by simp; omega)) ?_
      refine LS.vv rfl rfl (by decide) (Val.assign rfl) ?_
      refine LS.nil ?_
      refine W.ret ?_
      refine thenP_ret ?_
      refine ret1 (by first | exact .inl rfl | exact .inr rfl) rfl ?_
      first | exact ⟨rfl, hB⟩ | exact ⟨congrArg Value.bool (decide_eq_true rfl), hB⟩
    ·
      refine W.skip ?_
      refine thenP_normal ?_
      refine W.seqR ?_
      refine LS.vv rfl rfl (by decide) (Val.move rfl) ?_
      refine LS.vv rfl rfl (by decide) (Val.move rfl) ?_
      refine LS.vv rfl rfl (by decide) (Val.move rfl) ?_
      refine LS.vv rfl rfl (by decide) (Val.len Try.underlying33 rfl) ?_
      obtain ⟨n1, rfl, n3, n4⟩ := he (by omega)
      refine LS.m rfl (Step.call body25 rfl rfl (by decide) rfl (CallsV.mono (read_any zs ys _ _ _ n1 n3 n4 (hr.below hB) hc) ?_))
      rintro _ w3 ⟨p2, c2, rfl, hr3, hb3⟩
      replace hB := hB.trans (hb3.mono hB.size)
      refine LS.vv rfl rfl (by decide) (Val.move rfl) ?_
      refine LS.vv rfl rfl (by decide) (Val.extract rfl rfl) ?_
      refine LS.vv rfl rfl (by decide) (Val.extract rfl rfl) ?_
      refine LS.vv rfl rfl (by decide) (Val.assign rfl) ?_
      refine LS.vv rfl rfl (by decide) (Val.assign rfl) ?_
      refine LS.nil ?_
      refine W.seqR ?_
      refine LS.vv rfl rfl (by decide) (Val.move rfl) ?_
      refine LS.vv rfl rfl (by decide) (Val.cast (v := .bool true) (Val.eql rfl rfl) (by rfl)) ?_
      refine LS.vv rfl rfl (by decide) (Val.move rfl) ?_
      refine LS.vg rfl rfl rfl rfl (by decide) (Val.move rfl) ?_
      refine LS.vg rfl rfl rfl rfl (by decide) (Val.move rfl) ?_
      refine LS.mg rfl rfl rfl (Step.call body26 rfl rfl (by decide) rfl (CallsV.mono (intsEq_any ys ys _ _ _ _ _ hr3 (hr2.below hB) hl2) ?_))
      rintro _ w4 ⟨rfl, hb4⟩
      replace hB := hB.trans (hb4.mono hB.size)
      refine LS.vv rfl rfl (by decide) (Val.pickT rfl rfl rfl) ?_
      refine LS.vv rfl rfl (by decide) (Val.assign rfl) ?_
      refine LS.nil ?_
      refine W.ret ?_
      refine ret1 (by first | exact .inl rfl | exact .inr rfl) rfl ?_
      first | exact ⟨rfl, hB⟩ | exact ⟨congrArg Value.bool (decide_eq_true rfl), hB⟩

end Go.Proofs.Ytcoplafphgpmpaa
