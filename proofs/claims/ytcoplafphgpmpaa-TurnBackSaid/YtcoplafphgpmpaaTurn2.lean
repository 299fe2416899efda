/-
  Package turn: Back.
-/
import Derived.Test.YtcoplafphgpmpaaTurn1
namespace Go.Proofs.Ytcoplafphgpmpaa
open Go Go.RowKit V
set_option linter.unusedVariables false
set_option linter.unusedSimpArgs false

theorem isNaN_u8 (x : Nat) (w0 : World) :
    CallsV Try.prog 55 #[.int .u8 (x : Int)] w0 (fun v w => v = .bool false ∧ Below w0.heap.size w0 w) := by
  refine enter1 Try.func55 rfl Try.ntmps55 (by simp) rfl ?_
  have hB := Below.refl w0.heap.size w0
  simp only [argLoc]
  refine W.seqR ?_
  refine LS.vv rfl rfl (by decide) (Val.assign rfl) ?_
  refine LS.nil ?_
  refine W.seqR ?_
  refine LS.vv rfl rfl (by decide) (Val.move rfl) ?_
  refine LS.vv rfl rfl (by decide) (Val.move rfl) ?_
  refine LS.vv rfl rfl (by decide) (Val.cast (v := .bool false) (Val.neq rfl rfl) (by simp)) ?_
  refine LS.vv rfl rfl (by decide) (Val.assign rfl) ?_
  refine LS.nil ?_
  refine W.ret ?_
  refine ret1 (by first | exact .inl rfl | exact .inr rfl) rfl ?_
  exact ⟨rfl, hB⟩

theorem compare_u8 (x y : Nat) (w0 : World) :
    CallsV Try.prog 41 #[.int .u8 (x : Int), .int .u8 (y : Int)] w0 (fun v w => ∃ z : Int, v = .int .i64 z ∧ (z < 0 ↔ x < y) ∧ Below w0.heap.size w0 w) := by
  refine enter1 Try.func41 rfl Try.ntmps41 (by simp) rfl ?_
  have hB := Below.refl w0.heap.size w0
  simp only [argLoc, Nat.zero_add]
  refine W.seqR ?_
  refine LS.vv rfl rfl (by decide) (Val.cast (v := .int .i64 ((0 : Nat) : Int)) (Val.assign rfl) rfl) ?_
  refine LS.nil ?_
  refine W.seqR ?_
  refine LS.vv rfl rfl (by decide) (Val.move rfl) ?_
  refine LS.m rfl (Step.call body55 rfl rfl (by decide) rfl (CallsV.mono (isNaN_u8 x _) ?_))
  rintro _ w1 ⟨rfl, hb1⟩
  replace hB := hB.trans (hb1.mono hB.size)
  refine LS.vv rfl rfl (by decide) (Val.assign rfl) ?_
  refine LS.nil ?_
  refine W.seqR ?_
  refine LS.vv rfl rfl (by decide) (Val.move rfl) ?_
  refine LS.m rfl (Step.call body55 rfl rfl (by decide) rfl (CallsV.mono (isNaN_u8 y _) ?_))
  rintro _ w2 ⟨rfl, hb2⟩
  replace hB := hB.trans (hb2.mono hB.size)
  refine LS.vv rfl rfl (by decide) (Val.assign rfl) ?_
  refine LS.nil ?_
  refine W.seq ?_
  refine W.seqR ?_
  refine LS.vv rfl rfl (by decide) (Val.move rfl) ?_
  refine LS.nil ?_
  refine W.condF rfl ?_
  refine W.skip ?_
  refine thenP_normal ?_
  refine W.seq ?_
  refine W.seqR ?_
  refine LS.vv rfl rfl (by decide) (Val.move rfl) ?_
  refine LS.nil ?_
  refine W.condF rfl ?_
  refine W.skip ?_
  refine thenP_normal ?_
  refine W.seq ?_
  refine W.seqR ?_
  refine LS.vv rfl rfl (by decide) (Val.move rfl) ?_
  refine LS.vv rfl rfl (by decide) (Val.move rfl) ?_
  refine LS.vv rfl rfl (by decide) (Val.lss rfl rfl) ?_
  refine LS.nil ?_
  first | refine W.condD rfl (fun hc1 => ?_) (fun hc1 => ?_) | refine W.cond rfl (fun hc1 => ?_) (fun hc1 => ?_)
  ·
    refine W.seqR ?_
    refine LS.vv rfl rfl (by decide) (Val.assign rfl) ?_
    refine LS.nil ?_
    refine W.ret ?_
    refine thenP_ret ?_
    refine ret1 (by first | exact .inl rfl | exact .inr rfl) rfl ?_
    exact ⟨_, rfl, by constructor <;> intro h <;> omega, hB⟩
  ·
    refine W.skip ?_
    refine thenP_normal ?_
    refine W.seq ?_
    refine W.seqR ?_
    refine LS.vv rfl rfl (by decide) (Val.move rfl) ?_
    refine LS.vv rfl rfl (by decide) (Val.move rfl) ?_
    refine LS.vv rfl rfl (by decide) (Val.gtr rfl rfl) ?_
    refine LS.nil ?_
    first | refine W.condD rfl (fun hc2 => ?_) (fun hc2 => ?_) | refine W.cond rfl (fun hc2 => ?_) (fun hc2 => ?_)
    ·
      refine W.seqR ?_
      refine LS.vv rfl rfl (by decide) (Val.cast (v := .int .i64 ((1 : Nat) : Int)) (Val.assign rfl) rfl) ?_
      refine LS.nil ?_
      refine W.ret ?_
      refine thenP_ret ?_
      refine ret1 (by first | exact .inl rfl | exact .inr rfl) rfl ?_
      exact ⟨_, rfl, by constructor <;> intro h <;> omega, hB⟩
    ·
      refine W.skip ?_
      refine thenP_normal ?_
      refine W.seqR ?_
      refine LS.vv rfl rfl (by decide) (Val.cast (v := .int .i64 ((0 : Nat) : Int)) (Val.assign rfl) rfl) ?_
      refine LS.nil ?_
      refine W.ret ?_
      refine ret1 (by first | exact .inl rfl | exact .inr rfl) rfl ?_
      exact ⟨_, rfl, by constructor <;> intro h <;> omega, hB⟩

theorem backLess_any (l : List Nat) (p : Option Addr) (c g a b n : Nat) (w0 : World) (hx : Rd w0 (some ⟨g, 0, none⟩) [.slice p n c]) (hr : Rd w0 p (yv l)) (hn : l.length = n) (ha : a < n) (hb : b < n) (hn2 : n ≤ 64) :
    CallsV Try.prog 40 #[.int .i64 (a : Int), .int .i64 (b : Int), .pointer (some ⟨g, 0, none⟩)] w0 (fun v w => ∃ z : Int, v = .int .i64 z ∧ (z < 0 ↔ gn l a < gn l b) ∧ Below w0.heap.size w0 w) := by
  refine enter1 Try.func40 rfl Try.ntmps40 (by simp) rfl ?_
  have hB := Below.refl w0.heap.size w0
  simp only [argLoc, Nat.zero_add]
  have hM := Mem.nil w0 w0.heap.size
  subst hn
  refine W.seqR ?_
  refine LS.vv rfl rfl (by decide) (Val.cast (v := .int .i64 ((0 : Nat) : Int)) (Val.assign rfl) rfl) ?_
  refine LS.nil ?_
  refine W.seqF 10 [(0, true), (1, true), (2, true), (3, true), (4, true), (5, true), (6, true), (7, true), (8, false), (9, true)] mixed (by kernel_rfl) hB hM ?_
  replace hB := hB.drew
  replace hM := hM.drew
  refine DF.vv rfl rfl rfl (by decide) (Val.loadBox flat22 rfl ((fun _ h => hx.below h.1))) ?_
  refine DF.vv rfl rfl rfl (by decide) (Val.move rfl) ?_
  refine DF.vv rfl rfl rfl (by decide) (Val.index1 Try.underlying22 elem5 rfl rfl (by omega) ((hr.below hB)) (yv_lt (by omega))) ?_
  refine DF.vv rfl rfl rfl (by decide) (Val.load flat5 rfl (fun _ h => (hr.below h.1)) (yv_at (by omega))) ?_
  refine DF.vv rfl rfl rfl (by decide) (Val.loadBox flat22 rfl ((fun _ h => hx.below h.1))) ?_
  refine DF.vv rfl rfl rfl (by decide) (Val.move rfl) ?_
  refine DF.vv rfl rfl rfl (by decide) (Val.index1 Try.underlying22 elem5 rfl rfl (by omega) ((hr.below hB)) (yv_lt (by omega))) ?_
  refine DF.vv rfl rfl rfl (by decide) (Val.load flat5 rfl (fun _ h => (hr.below h.1)) (yv_at (by omega))) ?_
  refine DF.m rfl rfl (Step.call body41 rfl rfl (by decide) rfl (CallsV.mono (compare_u8 _ _ _) ?_))
  rintro _ w1 ⟨z, rfl, hz, hb1⟩
  replace hM := hM.below hb1
  replace hB := hB.trans (hb1.mono hB.size)
  refine ⟨fun _ => ⟨hB, hM⟩, ?_⟩
  refine DF.vv rfl rfl rfl (by decide) (Val.assign rfl) ?_
  refine DF.nil ?_
  refine W.ret ?_
  refine ret1 (by first | exact .inl rfl | exact .inr rfl) rfl ?_
  exact ⟨z, rfl, hz, hB⟩

theorem bytesEqual_same (a : List Nat) (p q : Option Addr) (c d m n : Nat) (w0 : World) (ha : Rd w0 p (yv a)) (hb : Rd w0 q (yv a)) (hm : a.length = m) (hn : a.length = n) :
    CallsV Try.prog 42 #[.slice p m c, .slice q n d] w0 (fun v w => v = .bool true ∧ Below w0.heap.size w0 w) := by
  refine enter1 Try.func42 rfl Try.ntmps42 (by simp) rfl ?_
  have hB := Below.refl w0.heap.size w0
  simp only [argLoc, Nat.zero_add]
  have hM := Mem.nil w0 w0.heap.size
  refine W.seqR ?_
  refine LS.vv rfl rfl (by decide) (Val.assign rfl) ?_
  refine LS.nil ?_
  refine W.seqR ?_
  refine LS.vv rfl rfl (by decide) (Val.move rfl) ?_
  refine LS.m rfl (Step.bytesStr rfl rfl (by decide) Try.underlying22 Try.underlying5 Try.underlying9 rfl (ha.below hB) hm ?_)
  refine LS.vv rfl rfl (by decide) (Val.move rfl) ?_
  refine LS.m rfl (Step.bytesStr rfl rfl (by decide) Try.underlying22 Try.underlying5 Try.underlying9 rfl (hb.below hB) hn ?_)
  refine LS.vv rfl rfl (by decide) (Val.eqlS rfl rfl) ?_
  refine LS.vv rfl rfl (by decide) (Val.assign rfl) ?_
  refine LS.nil ?_
  refine W.ret ?_
  refine ret1 (by first | exact .inl rfl | exact .inr rfl) rfl ?_
  exact ⟨by simp, hB⟩

theorem back_any (t l : List Nat) (a : Nat) (p : Option Addr) (c m : Nat) (w0 : World) (hr : Rd w0 p (yv l)) (hm : l.length = m) (hT : Turned t l a) (h64 : m ≤ 64) (h256 : ∀ x ∈ t, x < 256) :
    CallsV Try.prog 20 #[.slice p m c, .int .i64 (a : Int)] w0 (fun v w => ∃ (p2 : Option Addr) (c2 : Nat), v = .tuple #[.slice p2 m c2, .int .i64 0] ∧ Own w w0.heap.size 5 p2 m c2 (yv t) ∧ Below w0.heap.size w0 w) := by
  refine enter2 Try.func20 rfl Try.ntmps20 (by simp) rfl ?_
  have hB := Below.refl w0.heap.size w0
  simp only [argLoc, Nat.zero_add]
  have hM := Mem.nil w0 w0.heap.size
  subst hm
  have hTl := hT.len
  have hTz : t.length = 0 → a = 0 := by obtain ⟨_, _, _, h9, _⟩ := hT.out; exact h9
  have hTp : 0 < t.length → a < t.length := by obtain ⟨_, _, _, _, h9⟩ := hT.out; exact fun h0 => (h9 h0).1
  refine W.seqR ?_
  refine LS.m rfl (Step.box rfl rfl (by decide) rfl rfl (Nat.le_refl _) ?_)
  rintro w1 hO1 hg1 hbl1 hsz1
  replace hM := hM.add hB.size hbl1 hO1
  replace hB := hB.trans (hbl1.mono hB.size)
  skip
  refine LS.vv rfl rfl (by decide) (Val.assign rfl) ?_
  refine LS.vv rfl rfl (by decide) (Val.cast (v := .int .i64 ((0 : Nat) : Int)) (Val.assign rfl) rfl) ?_
  refine LS.nil ?_
  refine W.seqR ?_
  refine LS.m rfl (Step.loadBox rfl rfl (by decide) flat22 rfl (hM.o0.rd) ?_)
  refine LS.vv rfl rfl (by decide) (Val.len Try.underlying22 rfl) ?_
  refine LS.vv rfl rfl (by decide) (Val.assign rfl) ?_
  refine LS.nil ?_
  refine W.seq ?_
  refine W.seqR ?_
  refine LS.vv rfl rfl (by decide) (Val.move rfl) ?_
  refine LS.vv rfl rfl (by decide) (Val.gtr rfl rfl) ?_
  refine LS.nil ?_
  first | refine W.condD rfl (fun hc1 => ?_) (fun hc1 => ?_) | refine W.cond rfl (fun hc1 => ?_) (fun hc1 => ?_)
  ·
    exfalso; omega
  ·
    refine W.skip ?_
    refine thenP_normal ?_
    refine W.seq ?_
    refine W.seqR ?_
    refine LS.vv rfl rfl (by decide) (Val.move rfl) ?_
    refine LS.vv rfl rfl (by decide) (Val.eql rfl rfl) ?_
    refine LS.nil ?_
    first | refine W.condD rfl (fun hc2 => ?_) (fun hc2 => ?_) | refine W.cond rfl (fun hc2 => ?_) (fun hc2 => ?_)
    ·
      refine W.seq ?_
      refine W.seqR ?_
      refine LS.vv rfl rfl (by decide) (Val.move rfl) ?_
      refine LS.vv rfl rfl (by decide) (Val.neq rfl rfl) ?_
      refine LS.nil ?_
      first | refine W.condD rfl (fun hc3 => ?_) (fun hc3 => ?_) | refine W.cond rfl (fun hc3 => ?_) (fun hc3 => ?_)
      ·
        exfalso; have := hTz (by omega); omega
      ·
        refine W.skip ?_
        refine thenP_normal ?_
        refine W.seqR ?_
        refine LS.vv rfl rfl (by decide) (Val.assign rfl) ?_
        refine LS.vv rfl rfl (by decide) (Val.cast (v := .int .i64 ((0 : Nat) : Int)) (Val.assign rfl) rfl) ?_
        refine LS.nil ?_
        refine W.ret ?_
        refine thenP_ret ?_
        refine ret2 (by first | exact .inl rfl | exact .inr rfl) rfl rfl ?_
        first
          | (have h0 : l.length = 0 := by omega
             have ht0 := nil_of (show t.length = 0 by omega)
             subst ht0
             rw [h0]
             exact ⟨none, 0, rfl, Own.nil _ _ _, hB⟩)
          | exact ⟨p2, c2, rfl, hM.o1, hB⟩
          | exact ⟨p2, c2, rfl, hM.o0, hB⟩
    ·
      refine W.skip ?_
      refine thenP_normal ?_
      refine W.seq ?_
      refine W.seqR ?_
      refine LS.vv rfl rfl (by decide) (Val.move rfl) ?_
      refine LS.vv rfl rfl (by decide) (Val.cast (v := .bool false) (Val.lss rfl rfl) (by refine congrArg Value.bool (decide_eq_false ?_); omega)) ?_
      refine LS.vv rfl rfl (by decide) (Val.move rfl) ?_
      refine LS.vg rfl rfl rfl rfl (by decide) (Val.move rfl) ?_
      refine LS.vg rfl rfl rfl rfl (by decide) (Val.move rfl) ?_
      have hap := hTp (by omega)
      refine LS.vg rfl rfl rfl rfl (by decide) (Val.cast (v := .bool false) (Val.geq rfl rfl) (by refine congrArg Value.bool (decide_eq_false ?_); omega)) ?_
      refine LS.vv rfl rfl (by decide) (Val.pickF rfl rfl rfl) ?_
      refine LS.nil ?_
      refine W.condF rfl ?_
      refine W.skip ?_
      refine thenP_normal ?_
      refine W.seqR ?_
      refine LS.vv rfl rfl (by decide) (Val.assign rfl) ?_
      refine LS.nil ?_
      refine W.seq ?_
      refine W.seqR ?_
      refine LS.vv rfl rfl (by decide) (Val.move rfl) ?_
      refine LS.vv rfl rfl (by decide) (Val.cast (v := .int .i64 ((0 : Nat) : Int)) (Val.move rfl) rfl) ?_
      refine LS.nil ?_
      refine W.block ?_
      replace hM := hM.addNil 3
      refine W.loop (α := Nat × Option Addr × Nat) (fun g => [(7, .slice g.2.1 g.1 g.2.2), (30, .int .i64 (g.1 : Int))]) [(1, _), (2, _), (6, _), (29, _)] (fun g w => (g.1 ≤ l.length) ∧ Mem w w0.heap.size [⟨3, g.2.1, g.1, g.2.2, nv (List.range g.1)⟩, ⟨22, some ⟨w0.heap.size, 0, none⟩, 1, 1, [.slice p l.length c]⟩] ∧ Below w0.heap.size w0 w) (fun g => l.length - g.1) ((0, none, 0)) (Sub.cons rfl (Sub.cons rfl (Sub.nil _))) (Sub.cons rfl (Sub.cons rfl (Sub.cons rfl (Sub.cons rfl (Sub.nil _))))) ?_ ?_
      · exact ⟨Nat.zero_le _, hM, hB⟩
      rintro ⟨k, p1, c1⟩ w2 ⟨hk, hM, hB⟩
      try simp only at hM
      simp only [List.cons_append, List.nil_append]
      simp only at hk
      refine W.seqR ?_
      refine LS.vv rfl rfl (by decide) (Val.lss rfl rfl) ?_
      refine LS.nil ?_
      refine W.seq ?_
      first | refine W.condD rfl (fun hc4 => ?_) (fun hc4 => ?_) | refine W.cond rfl (fun hc4 => ?_) (fun hc4 => ?_)
      ·
        refine W.skip ?_
        refine thenP_normal ?_
        refine W.seq ?_
        refine W.block ?_
        refine W.seqR ?_
        refine LS.vv rfl rfl (by decide) (Val.move rfl) ?_
        refine LS.vv rfl rfl (by decide) (Val.assign rfl) ?_
        refine LS.nil ?_
        refine W.reg ?_
        refine LS.vv rfl rfl (by decide) (Val.move rfl) ?_
        refine LS.vv rfl rfl (by decide) (Val.move rfl) ?_
        refine LS.m rfl (Step.lit rfl rfl (by decide) Try.underlying33 elem3 rfl rfl (by omega) (by simp [Value.oneCell']) (Nat.le_refl _) ?_)
        rintro w3 hO3 hg3 hbl3 hsz3
        replace hM := hM.add hB.size hbl3 hO3
        replace hB := hB.trans (hbl3.mono hB.size)
        generalize w2.heap.size = gg3 at *
        refine LS.m rfl (Step.append2 (B := w0.heap.size) rfl rfl (by decide) Try.underlying33 elem3 rfl rfl rfl rfl (hM.o1) (hM.o0.rd) (by first | rfl | (simp; done) | (simp; omega)) (by first | exact one_map _ (fun _ => rfl) _ | simp [Value.oneCell']) (by omega) (by omega) hB.size ?_)
        rintro p4 c4 w4 hO4 hg4 hbl4 hbk4
        replace hM := hM.s1 hg4 hO4 hbk4
        replace hM := hM.tail
        try simp only [nv_app1, nv_app, nv_set, nv_rep, nv_one, nv_cons, nv_take, nv_drop, List.nil_append] at hM
        replace hB := hB.trans hbl4
        refine LS.vv rfl rfl (by decide) (Val.assign rfl) ?_
        refine LS.nil ?_
        refine inBlk_normal ?_
        refine thenP_normal ?_
        refine W.reg ?_
        first | refine LS.vv rfl rfl (by decide) (Val.addN (j := 1) rfl rfl (by omega)) ?_ | refine LS.vv rfl rfl (by decide) (Val.add64 rfl rfl (by omega)) ?_
        refine LS.vv rfl rfl (by decide) (Val.move rfl) ?_
        refine LS.nil ?_
        refine thenP_normal ?_
        refine ⟨(k + 1, p4, c4), ?_, ?_, ⟨by simp only; omega, ?_, hB⟩, by simp only; omega⟩
        · exact (Sub.cons rfl (Sub.cons rfl (Sub.nil _)))
        · repeat (first | exact Sub.nil _ | refine Sub.cons rfl ?_)
        · simp only [List.range_succ]; exact hM
      ·
        refine W.exit ?_
        refine thenP_exit ?_
        refine thenP_exit ?_
        refine inBlk_exit ?_
        refine thenP_normal ?_
        refine W.seqR ?_
        refine LS.vv rfl rfl (by decide) (Val.move rfl) ?_
        refine LS.vv rfl rfl (by decide) (Val.makeFunc rfl) ?_
        obtain rfl : k = l.length := by omega
        refine LS.m rfl (Step.call body36 rfl rfl (by decide) rfl (CallsV.mono (sortStable_any (gn l) 40 _ _ _ _ _ _ _ _ hM hB.size (⟨body40, fun x y w hx hy hL hB2 => hL.elim fun L9 h9 => backLess_any l p c _ x y l.length w h9.o1.rd (hr.below (hB.trans hB2)) rfl hx hy h64⟩) (Below.refl _ _) h64) ?_))
        rintro _ w5 ⟨nx, rfl, hM5, ho1, ho2, hb5⟩
        replace hM := hM5
        replace hB := hB.trans hb5
        have hO : Ordd2 (gn l) l.length nx := ⟨ho1, ho2⟩
        have hol := hO.len
        refine LS.nil ?_
        refine W.seqR ?_
        refine LS.vv rfl rfl (by decide) (Val.assign rfl) ?_
        refine LS.nil ?_
        refine W.seq ?_
        refine W.seqR ?_
        refine LS.vv rfl rfl (by decide) (Val.move rfl) ?_
        refine LS.vv rfl rfl (by decide) (Val.assign rfl) ?_
        refine LS.nil ?_
        refine W.block ?_
        replace hM := hM.addNil 5
        refine W.loop (α := Nat × Option Addr × Nat) (fun g => [(9, .slice g.2.1 g.1 g.2.2), (10, .int .i64 (goT nx a g.1 : Int))]) [(1, _), (2, _), (6, _), (7, _)] (fun g w => (g.1 ≤ l.length) ∧ Mem w w0.heap.size [⟨5, g.2.1, g.1, g.2.2, yv (outT l nx a g.1)⟩, ⟨3, p1, l.length, c1, nv nx⟩, ⟨22, some ⟨w0.heap.size, 0, none⟩, 1, 1, [.slice p l.length c]⟩] ∧ Below w0.heap.size w0 w) (fun g => l.length - g.1) ((0, none, 0)) (Sub.cons rfl (Sub.cons rfl (Sub.nil _))) (Sub.cons rfl (Sub.cons rfl (Sub.cons rfl (Sub.cons rfl (Sub.nil _))))) ?_ ?_
        · exact ⟨Nat.zero_le _, hM, hB⟩
        rintro ⟨k2, p2, c2⟩ w6 ⟨hk2, hM, hB⟩
        try simp only at hM
        simp only [List.cons_append, List.nil_append]
        simp only at hk2
        have hgl : ∀ q, goT nx a q < l.length := goT_lt hO (by omega)
        have hg1 := hgl k2
        have hg2 : gn nx (goT nx a k2) < l.length := hgl (k2 + 1)
        refine W.seq ?_
        refine W.seqR ?_
        refine LS.vv rfl rfl (by decide) (Val.move rfl) ?_
        refine LS.vv rfl rfl (by decide) (Val.len Try.underlying22 rfl) ?_
        refine LS.vv rfl rfl (by decide) (Val.move rfl) ?_
        refine LS.vv rfl rfl (by decide) (Val.lss rfl rfl) ?_
        refine LS.nil ?_
        first | refine W.condD rfl (fun hc5 => ?_) (fun hc5 => ?_) | refine W.cond rfl (fun hc5 => ?_) (fun hc5 => ?_)
        ·
          refine W.skip ?_
          refine thenP_normal ?_
          refine W.block ?_
          refine W.seqR ?_
          refine LS.vv rfl rfl (by decide) (Val.move rfl) ?_
          refine LS.vv rfl rfl (by decide) (Val.move rfl) ?_
          refine LS.vv rfl rfl (by decide) (Val.index1 Try.underlying33 elem3 rfl rfl (by omega) (hM.o1.rd) (nv_lt (by omega))) ?_
          refine LS.m rfl (Step.load rfl rfl (by decide) flat3 rfl (hM.o1.rd) (nv_at (by omega)) ?_)
          refine LS.vv rfl rfl (by decide) (Val.assign rfl) ?_
          refine LS.nil ?_
          refine W.reg ?_
          refine LS.vv rfl rfl (by decide) (Val.move rfl) ?_
          refine LS.m rfl (Step.loadBox rfl rfl (by decide) flat22 rfl (hM.o2.rd) ?_)
          refine LS.vv rfl rfl (by decide) (Val.move rfl) ?_
          refine LS.vv rfl rfl (by decide) (Val.index1 Try.underlying22 elem5 rfl rfl (by omega) ((hr.below hB)) (yv_lt (by omega))) ?_
          refine LS.m rfl (Step.load rfl rfl (by decide) flat5 rfl ((hr.below hB)) (yv_at (by omega)) ?_)
          refine LS.m rfl (Step.lit rfl rfl (by decide) Try.underlying22 elem5 rfl rfl (by omega) (by simp [Value.oneCell']) (Nat.le_refl _) ?_)
          rintro w7 hO7 hg7 hbl7 hsz7
          replace hM := hM.add hB.size hbl7 hO7
          replace hB := hB.trans (hbl7.mono hB.size)
          generalize w6.heap.size = gg7 at *
          refine LS.m rfl (Step.append2 (B := w0.heap.size) rfl rfl (by decide) Try.underlying22 elem5 rfl rfl rfl rfl (hM.o1) (hM.o0.rd) (by first | rfl | (simp; done) | (simp; omega)) (by first | exact one_map _ (fun _ => rfl) _ | simp [Value.oneCell']) (by omega) (by omega) hB.size ?_)
          rintro p8 c8 w8 hO8 hg8 hbl8 hbk8
          replace hM := hM.s1 hg8 hO8 hbk8
          replace hM := hM.tail
          try simp only [yv_app1, yv_app, yv_set, yv_rep, yv_one, yv_cons, yv_take, yv_drop, List.nil_append] at hM
          replace hB := hB.trans hbl8
          refine LS.vv rfl rfl (by decide) (Val.assign rfl) ?_
          refine LS.nil ?_
          refine inBlk_normal ?_
          refine thenP_normal ?_
          rw [← outT_succ] at hM
          refine ⟨(k2 + 1, p8, c8), ?_, ?_, ⟨by simp only; omega, hM, hB⟩, by simp only; omega⟩
          · exact (Sub.cons rfl (Sub.cons rfl (Sub.nil _)))
          · repeat (first | exact Sub.nil _ | refine Sub.cons rfl ?_)
        ·
          refine W.exit ?_
          refine thenP_exit ?_
          refine thenP_exit ?_
          refine inBlk_exit ?_
          refine thenP_normal ?_
          refine W.seqR ?_
          refine LS.vv rfl rfl (by decide) (Val.move rfl) ?_
          obtain rfl : k2 = l.length := by omega
          have hbk : outT l nx a l.length = t := by rw [hTl] at hO ⊢; exact turn_back (by omega) (by omega) h256 hT hO
          rw [hbk] at hM
          refine LS.m rfl (Step.call body19 rfl rfl (by decide) rfl (CallsV.mono (turn_any t _ _ l.length _ hM.o0.rd hTl.symm h256 (by omega)) ?_))
          rintro _ w9 ⟨p3, c3, l3, a3, e3, rfl, hO3, he3, hT3, hb9⟩
          replace hM := hM.add hB.size hb9 hO3
          replace hB := hB.trans (hb9.mono hB.size)
          obtain ⟨rfl, rfl⟩ := hT.uniq (hT3 (he3.2 h64))
          refine LS.vv rfl rfl (by decide) (Val.move rfl) ?_
          refine LS.vv rfl rfl (by decide) (Val.extract rfl rfl) ?_
          refine LS.vv rfl rfl (by decide) (Val.extract rfl rfl) ?_
          refine LS.vv rfl rfl (by decide) (Val.extract rfl rfl) ?_
          refine LS.vv rfl rfl (by decide) (Val.assign rfl) ?_
          refine LS.vv rfl rfl (by decide) (Val.assign rfl) ?_
          refine LS.vv rfl rfl (by decide) (Val.assign rfl) ?_
          refine LS.nil ?_
          refine W.seq ?_
          refine W.seqR ?_
          refine LS.vv rfl rfl (by decide) (Val.move rfl) ?_
          refine LS.vv rfl rfl (by decide) (Val.move rfl) ?_
          refine LS.vv rfl rfl (by decide) (Val.cast (v := .bool false) (Val.neq rfl rfl) (by simp)) ?_
          refine LS.vv rfl rfl (by decide) (Val.move rfl) ?_
          refine LS.vg rfl rfl rfl rfl (by decide) (Val.move rfl) ?_
          refine LS.mg rfl rfl rfl (Step.loadBox rfl rfl (by decide) flat22 rfl (hM.o3.rd) ?_)
          refine LS.mg rfl rfl rfl (Step.call body42 rfl rfl (by decide) rfl (CallsV.mono (bytesEqual_same l _ _ _ _ _ _ _ hM.o0.rd (hr.below hB) rfl rfl) ?_))
          rintro _ w10 ⟨rfl, hb10⟩
          replace hM := hM.below hb10
          replace hB := hB.trans (hb10.mono hB.size)
          refine LS.vg rfl rfl rfl rfl (by decide) (Val.cast (v := .bool false) (Val.not rfl) (by rfl)) ?_
          refine LS.vv rfl rfl (by decide) (Val.pickF rfl rfl rfl) ?_
          refine LS.nil ?_
          refine W.condF rfl ?_
          refine W.skip ?_
          refine thenP_normal ?_
          refine W.seqR ?_
          refine LS.vv rfl rfl (by decide) (Val.move rfl) ?_
          refine LS.vv rfl rfl (by decide) (Val.assign rfl) ?_
          refine LS.vv rfl rfl (by decide) (Val.cast (v := .int .i64 ((0 : Nat) : Int)) (Val.assign rfl) rfl) ?_
          refine LS.nil ?_
          refine W.ret ?_
          refine ret2 (by first | exact .inl rfl | exact .inr rfl) rfl rfl ?_
          first
            | (have h0 : l.length = 0 := by omega
               have ht0 := nil_of (show t.length = 0 by omega)
               subst ht0
               rw [h0]
               exact ⟨none, 0, rfl, Own.nil _ _ _, hB⟩)
            | exact ⟨p2, c2, rfl, hM.o1, hB⟩
            | exact ⟨p2, c2, rfl, hM.o0, hB⟩

end Go.Proofs.Ytcoplafphgpmpaa
