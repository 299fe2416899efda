/-
  The walks of turn.Front and turn.Unfront.
-/
import Derived.Test.YtcoplafphgpmpaaFrontPlain
import Derived.Test.YtcoplafphgpmpaaVfacts2
import Derived.Test.YtcoplafphgpmpaaVfin
import Derived.Test.YtcoplafphgpmpaaVext
import Derived.Test.YtcoplafphgpmpaaVcopy
namespace Go.Proofs.Ytcoplafphgpmpaa
open Go Go.RowKit V
set_option linter.unusedVariables false

theorem extIndexByte : Ext Try.prog 51 Extern.BytealgIndexByte.indexByte := ⟨⟨_, Try.func51, by kernel_rfl, rfl, by kernel_rfl, by kernel_rfl⟩⟩

theorem indexB_any (l : List Nat) (b m kc : Nat) (p : Option Addr) (w0 : World) (hr : Rd w0 p (yv l)) (hm : l.length = m) (hl : ∀ x ∈ l, x < 256) (hb : b < 256) (hin : b ∈ l) :
    CallsV Try.prog 33 #[.slice p m kc, .int .u8 (b : Int)] w0 (fun v w => v = .int .i64 (idxB l b : Int) ∧ idxB l b < m ∧ Below w0.heap.size w0 w) := by
  refine enter1 Try.func33 rfl Try.ntmps33 (by simp) rfl ?_
  have hB := Below.refl w0.heap.size w0
  simp only [argLoc, Nat.zero_add]
  have hM := Mem.nil w0 w0.heap.size
  refine W.seqR ?_
  refine LS.vv rfl rfl (by decide) (Val.cast (v := .int .i64 ((0 : Nat) : Int)) (Val.assign rfl) rfl) ?_
  refine LS.nil ?_
  refine W.seqR ?_
  refine LS.vv rfl rfl (by decide) (Val.move rfl) ?_
  refine LS.vv rfl rfl (by decide) (Val.move rfl) ?_
  obtain ⟨z, hrun, hz⟩ := run_indexByte (P := Try.prog) (kc := kc) (hr.below hB) hm hl hb
  refine LS.m rfl (Step.callExt extIndexByte rfl rfl (by decide) rfl hrun ?_)
  refine LS.vv rfl rfl (by decide) (Val.assign rfl) ?_
  refine LS.nil ?_
  refine W.ret ?_
  refine ret1 (by first | exact .inl rfl | exact .inr rfl) rfl ?_
  obtain ⟨hi1, hi2⟩ := idxB_mem hin
  rcases hz with ⟨rfl, h1⟩ | ⟨k, rfl, h1, h2, h3⟩
  · exact absurd hi2 (h1 _ (by omega))
  · rw [idxB_of (by omega) h2 h3]; exact ⟨rfl, h1, hB⟩

theorem list_any (w0 : World) :
    CallsV Try.prog 32 #[] w0 (fun v w => ∃ (p2 : Option Addr) (c2 : Nat), v = .slice p2 256 c2 ∧ Own w w0.heap.size 5 p2 256 c2 (yv (List.range 256)) ∧ Below w0.heap.size w0 w) := by
  refine enter1 Try.func32 rfl Try.ntmps32 (by simp) rfl ?_
  have hB := Below.refl w0.heap.size w0
  have hM := Mem.nil w0 w0.heap.size
  refine W.seqR ?_
  refine LS.vv rfl rfl (by decide) (Val.assign rfl) ?_
  refine LS.nil ?_
  refine W.seqR ?_
  refine LS.vv rfl rfl (by decide) (Val.assign rfl) ?_
  refine LS.nil ?_
  refine W.seq ?_
  refine W.seqR ?_
  refine LS.vv rfl rfl (by decide) (Val.cast (v := .int .i64 ((0 : Nat) : Int)) (Val.move rfl) rfl) ?_
  refine LS.nil ?_
  refine W.block ?_
  replace hM := hM.addNil 5
  refine W.loop (α := Nat × Option Addr × Nat) (fun g => [(1, .slice g.2.1 g.1 g.2.2), (3, .int .i64 (g.1 : Int))]) [] (fun g w => (g.1 ≤ 256) ∧ Mem w w0.heap.size [⟨5, g.2.1, g.1, g.2.2, yv (List.range g.1)⟩] ∧ Below w0.heap.size w0 w) (fun g => 256 - g.1) ((0, none, 0)) (Sub.cons rfl (Sub.cons rfl (Sub.nil _))) (Sub.nil _) ?_ ?_
  · exact ⟨Nat.zero_le _, hM, hB⟩
  rintro ⟨k, po, co⟩ w1 ⟨hk, hM, hB⟩
  try simp only at hM
  simp only [List.cons_append, List.nil_append]
  simp only at hk
  refine W.seqR ?_
  refine LS.vv rfl rfl (by decide) (Val.lss rfl rfl) ?_
  refine LS.nil ?_
  refine W.seq ?_
  first | refine W.condD rfl (fun hc1 => ?_) (fun hc1 => ?_) | refine W.cond rfl (fun hc1 => ?_) (fun hc1 => ?_)
  ·
    refine W.skip ?_
    refine thenP_normal ?_
    refine W.seq ?_
    refine W.block ?_
    refine W.seqR ?_
    refine LS.vv rfl rfl (by decide) (Val.move rfl) ?_
    refine LS.vv rfl rfl (by decide) (Val.assign rfl) ?_
    refine LS.nil ?_
    refine W.reg ?_
    refine LS.vv rfl rfl (by decide) (Val.move rfl) ?_
    refine LS.vv rfl rfl (by decide) (Val.move rfl) ?_
    refine LS.vv rfl rfl (by decide) (Val.conv rfl Try.underlying3 Try.underlying5 (IntWalk.u8_in _ (by omega))) ?_
    refine LS.m rfl (Step.lit rfl rfl (by decide) Try.underlying22 elem5 rfl rfl (by omega) (by simp [Value.oneCell']) (Nat.le_refl _) ?_)
    rintro w2 hO2 hg2 hbl2 hsz2
    replace hM := hM.add hB.size hbl2 hO2
    try simp only [yv_app1, yv_app, yv_set, yv_rep, yv_one, yv_cons, yv_take, yv_drop, List.nil_append] at hM
    replace hB := hB.trans (hbl2.mono hB.size)
    generalize w1.heap.size = gg2 at *
    refine LS.m rfl (Step.append2 (B := w0.heap.size) rfl rfl (by decide) Try.underlying22 elem5 rfl rfl rfl rfl (hM.o1) (hM.o0.rd) (by first | rfl | (simp; done) | (simp; omega)) (by first | exact one_map _ (fun _ => rfl) _ | simp [Value.oneCell']) (by omega) (by omega) hB.size ?_)
    rintro p3 c3 w3 hO3 hg3 hbl3 hbk3
    replace hM := hM.s1 hg3 hO3 hbk3
    replace hM := hM.tail
    try simp only [yv_app1, yv_app, yv_set, yv_rep, yv_one, yv_cons, yv_take, yv_drop, List.nil_append] at hM
    replace hB := hB.trans hbl3
    refine LS.vv rfl rfl (by decide) (Val.assign rfl) ?_
    refine LS.nil ?_
    refine inBlk_normal ?_
    refine thenP_normal ?_
    refine W.reg ?_
    first | refine LS.vv rfl rfl (by decide) (Val.addN (j := 1) rfl rfl (by omega)) ?_ | refine LS.vv rfl rfl (by decide) (Val.add64 rfl rfl (by omega)) ?_
    refine LS.vv rfl rfl (by decide) (Val.move rfl) ?_
    refine LS.nil ?_
    refine thenP_normal ?_
    refine ⟨(k + 1, p3, c3), ?_, ?_, ⟨by simp only; omega, ?_, hB⟩, by simp only; omega⟩
    · exact (Sub.cons rfl (Sub.cons rfl (Sub.nil _)))
    · repeat (first | exact Sub.nil _ | refine Sub.cons rfl ?_)
    · simp only [List.range_succ]; exact hM
  ·
    refine W.exit ?_
    refine thenP_exit ?_
    refine thenP_exit ?_
    refine inBlk_exit ?_
    refine thenP_normal ?_
    refine W.seqR ?_
    refine LS.vv rfl rfl (by decide) (Val.move rfl) ?_
    refine LS.vv rfl rfl (by decide) (Val.assign rfl) ?_
    refine LS.nil ?_
    refine W.ret ?_
    refine ret1 (by first | exact .inl rfl | exact .inr rfl) rfl ?_
    obtain rfl : k = 256 := by omega
    exact ⟨po, co, rfl, hM.o0, hB⟩

theorem front_any (l : List Nat) (p : Option Addr) (i m c : Nat) (B : Nat) (S : List Ob) (w0 : World) (hM0 : Mem w0 B (⟨5, p, m, c, yv l⟩ :: S)) (hB0 : B ≤ w0.heap.size) (hm : l.length = m) (hi : i < m) (hm2 : m ≤ 1000) :
    CallsV Try.prog 34 #[.slice p m c, .int .i64 (i : Int)] w0 (fun v w => Mem w B (⟨5, p, m, c, yv (toFront l i)⟩ :: S) ∧ Below B w0 w) := by
  refine enter0 Try.func34 rfl Try.ntmps34 (by simp) rfl ?_
  have hB := Below.refl B w0
  simp only [argLoc, Nat.zero_add]
  have hM := hM0
  subst hm
  have hcp := hM0.o0.le_cap
  refine W.seqR ?_
  refine LS.vv rfl rfl (by decide) (Val.move rfl) ?_
  refine LS.vv rfl rfl (by decide) (Val.move rfl) ?_
  refine LS.vv rfl rfl (by decide) (Val.index1 Try.underlying22 elem5 rfl rfl (by omega) (hM.o0.rd) (yv_lt (by omega))) ?_
  refine LS.m rfl (Step.load rfl rfl (by decide) flat5 rfl (hM.o0.rd) (yv_at (by omega)) ?_)
  refine LS.vv rfl rfl (by decide) (Val.assign rfl) ?_
  refine LS.nil ?_
  refine W.seqF 7 [(0, true), (1, true), (2, true), (3, true), (4, true), (5, true), (6, true), (7, false)] mixed (by kernel_rfl) hB hM ?_
  replace hB := hB.drew
  replace hM := hM.drew
  refine DF.vv rfl rfl rfl (by decide) (Val.move rfl) ?_
  refine DF.vv rfl rfl rfl (by decide) (Val.move rfl) ?_
  first | refine DF.vv rfl rfl rfl (by decide) (Val.addN (j := 1) rfl rfl (by omega)) ?_ | refine DF.vv rfl rfl rfl (by decide) (Val.add64 rfl rfl (by omega)) ?_
  refine DF.vv rfl rfl rfl (by decide) (Val.sliceFromTo (l := 1) Try.underlying22 elem5 rfl rfl rfl (by omega) (by omega)) ?_
  refine DF.vv rfl rfl rfl (by decide) (Val.move rfl) ?_
  refine DF.vv rfl rfl rfl (by decide) (Val.move rfl) ?_
  refine DF.vv rfl rfl rfl (by decide) (Val.sliceTo Try.underlying22 elem5 rfl rfl (by omega)) ?_
  refine DF.m rfl rfl (Step.copyOwn (l := 1) rfl rfl (by decide) Try.underlying22 elem5 rfl rfl (hM.o0.rd.take_yv (k := i)) (by simp; omega) (one_map _ (fun _ => rfl) _) (by omega) (hM.o0) (Nat.le_trans hB0 hB.size) ?_)
  rintro w1 hO1 hg1 hbl1 hsz1
  replace hM := hM.s0 hg1 hO1 inl_block
  replace hB := hB.trans hbl1
  refine ⟨fun h => absurd rfl h, ?_⟩
  refine DF.nil ?_
  refine W.reg ?_
  refine LS.vv rfl rfl (by decide) (Val.move rfl) ?_
  refine LS.vv rfl rfl (by decide) (Val.move rfl) ?_
  refine LS.vv rfl rfl (by decide) (Val.index1 (j := 0) Try.underlying22 elem5 rfl rfl (by omega) (hM.o0.rd) (by have := hM.o0.length; omega)) ?_
  refine LS.m rfl (Step.store (B := B) rfl rfl flat5 elem5 rfl rfl rfl (hM.o0) (by omega) (Nat.le_trans hB0 hB.size) ?_)
  rintro w2 hO2 hg2 hbl2 hsz2
  replace hM := hM.s0 hg2 hO2 inl_block
  try simp only [yv_app1, yv_app, yv_set, yv_rep, yv_one, yv_cons, yv_take, yv_drop, List.nil_append] at hM
  replace hB := hB.trans hbl2
  refine LS.nil ?_
  refine ret0 (by first | exact .inl rfl | exact .inr rfl) ?_
  refine ⟨?_, hB⟩; rw [toFront_cells hi] at hM; exact hM

theorem Front_any (t : List Nat) (p : Option Addr) (c m : Nat) (w0 : World) (hr : Rd w0 p (yv t)) (hm : t.length = m) (ht : ∀ b ∈ t, b < 256) (hl : m ≤ 9223372036854775807) :
    CallsV Try.prog 17 #[.slice p m c] w0 (fun v w => ∃ (p2 : Option Addr) (c2 n e : Nat) (L : List Nat), v = .tuple #[.slice p2 n c2, .int .i64 (e : Int)] ∧ Own w w0.heap.size 3 p2 n c2 (nv L) ∧ (e = 0 ↔ m ≤ 64) ∧ (e = 0 → L = pls t m ∧ n = m) ∧ Below w0.heap.size w0 w) := by
  refine enter2 Try.func17 rfl Try.ntmps17 (by simp) rfl ?_
  have hB := Below.refl w0.heap.size w0
  simp only [argLoc]
  have hM := Mem.nil w0 w0.heap.size
  subst hm
  refine W.seqR ?_
  refine LS.vv rfl rfl (by decide) (Val.assign rfl) ?_
  refine LS.vv rfl rfl (by decide) (Val.cast (v := .int .i64 ((0 : Nat) : Int)) (Val.assign rfl) rfl) ?_
  refine LS.nil ?_
  refine W.seq ?_
  refine W.seqR ?_
  refine LS.vv rfl rfl (by decide) (Val.move rfl) ?_
  refine LS.vv rfl rfl (by decide) (Val.len Try.underlying22 rfl) ?_
  refine LS.vv rfl rfl (by decide) (Val.gtr rfl rfl) ?_
  refine LS.nil ?_
  first | refine W.condD rfl (fun hc1 => ?_) (fun hc1 => ?_) | refine W.cond rfl (fun hc1 => ?_) (fun hc1 => ?_)
  ·
    refine W.seqR ?_
    refine LS.vv rfl rfl (by decide) (Val.assign rfl) ?_
    refine LS.vv rfl rfl (by decide) (Val.cast (v := .int .i64 ((1 : Nat) : Int)) (Val.assign rfl) rfl) ?_
    refine LS.nil ?_
    refine W.ret ?_
    refine thenP_ret ?_
    refine ret2 (by first | exact .inl rfl | exact .inr rfl) rfl rfl ?_
    first | (refine ⟨none, 0, 0, 1, [], rfl, Own.nil _ _ _, ⟨fun h => by omega, fun h => by omega⟩, fun h => by omega, hB⟩; done) | (obtain rfl : k = t.length := (by omega); exact ⟨po, co, _, 0, _, rfl, hM.o0, ⟨fun _ => by omega, fun _ => rfl⟩, fun _ => ⟨rfl, rfl⟩, hB⟩)
  ·
    refine W.skip ?_
    refine thenP_normal ?_
    refine W.seqR ?_
    refine LS.m rfl (Step.call body32 rfl rfl (by decide) rfl (CallsV.mono (list_any _) ?_))
    rintro _ w1 ⟨pl0, cl0, rfl, hOl, hb1⟩
    replace hM := hM.add hB.size hb1 hOl
    replace hB := hB.trans (hb1.mono hB.size)
    refine LS.vv rfl rfl (by decide) (Val.assign rfl) ?_
    refine LS.nil ?_
    refine W.seqR ?_
    refine LS.vv rfl rfl (by decide) (Val.assign rfl) ?_
    refine LS.nil ?_
    refine W.seq ?_
    refine W.seqR ?_
    refine LS.vv rfl rfl (by decide) (Val.move rfl) ?_
    refine LS.vv rfl rfl (by decide) (Val.len Try.underlying22 rfl) ?_
    refine LS.vv rfl rfl (by decide) (Val.cast (v := .int .i64 ((0 : Nat) : Int)) (Val.move rfl) rfl) ?_
    refine LS.nil ?_
    refine W.block ?_
    replace hM := hM.addNil 3
    refine W.loop (α := Nat × Option Addr × Nat) (fun g => [(5, .slice g.2.1 g.1 g.2.2), (15, .int .i64 (g.1 : Int))]) [(4, _), (13, _), (14, _)] (fun g w => (g.1 ≤ t.length) ∧ Mem w w0.heap.size [⟨3, g.2.1, g.1, g.2.2, nv (pls t g.1)⟩, ⟨5, pl0, 256, cl0, yv (LT t g.1)⟩] ∧ Below w0.heap.size w0 w) (fun g => t.length - g.1) ((0, none, 0)) (Sub.cons rfl (Sub.cons rfl (Sub.nil _))) (Sub.cons rfl (Sub.cons rfl (Sub.cons rfl (Sub.nil _)))) ?_ ?_
    · exact ⟨Nat.zero_le _, hM, hB⟩
    rintro ⟨k, po, co⟩ w2 ⟨hk, hM, hB⟩
    try simp only at hM
    simp only [List.cons_append, List.nil_append]
    simp only at hk
    refine W.seqR ?_
    refine LS.vv rfl rfl (by decide) (Val.lss rfl rfl) ?_
    refine LS.nil ?_
    refine W.seq ?_
    first | refine W.condD rfl (fun hc2 => ?_) (fun hc2 => ?_) | refine W.cond rfl (fun hc2 => ?_) (fun hc2 => ?_)
    ·
      refine W.skip ?_
      refine thenP_normal ?_
      refine W.seq ?_
      refine W.block ?_
      refine W.seqR ?_
      refine LS.vv rfl rfl (by decide) (Val.index1 Try.underlying22 elem5 rfl rfl (by omega) ((hr.below hB)) (yv_lt (by omega))) ?_
      refine LS.m rfl (Step.load rfl rfl (by decide) flat5 rfl ((hr.below hB)) (yv_at (by omega)) ?_)
      refine LS.vv rfl rfl (by decide) (Val.assign rfl) ?_
      refine LS.nil ?_
      refine W.seqR ?_
      refine LS.vv rfl rfl (by decide) (Val.move rfl) ?_
      refine LS.vv rfl rfl (by decide) (Val.move rfl) ?_
      refine LS.m rfl (Step.call body33 rfl rfl (by decide) rfl (CallsV.mono (indexB_any (LT t k) (gn t k) _ _ _ _ hM.o1.rd (LT_len ht k) (fun x hx => List.mem_range.1 ((LT_perm ht k).mem_iff.1 hx)) (gn_256 ht k) (LT_mem ht k (gn_256 ht k))) ?_))
      rintro _ w3 ⟨rfl, hix, hb3⟩
      replace hM := hM.below hb3
      replace hB := hB.trans (hb3.mono hB.size)
      refine LS.vv rfl rfl (by decide) (Val.assign rfl) ?_
      refine LS.nil ?_
      refine W.seqR ?_
      refine LS.vv rfl rfl (by decide) (Val.move rfl) ?_
      refine LS.vv rfl rfl (by decide) (Val.move rfl) ?_
      refine LS.m rfl (Step.call body34 rfl rfl (by decide) rfl (CallsV.mono (front_any (LT t k) _ (idxB (LT t k) (gn t k)) 256 _ w0.heap.size _ _ hM.swap hB.size (LT_len ht k) hix (by omega)) ?_))
      rintro _ w4 ⟨hM4, hb4⟩
      replace hM := hM4
      replace hB := hB.trans hb4
      refine LS.nil ?_
      refine W.reg ?_
      refine LS.vv rfl rfl (by decide) (Val.move rfl) ?_
      refine LS.vv rfl rfl (by decide) (Val.move rfl) ?_
      refine LS.m rfl (Step.lit rfl rfl (by decide) Try.underlying33 elem3 rfl rfl (by omega) (by simp [Value.oneCell']) (Nat.le_refl _) ?_)
      rintro w5 hO5 hg5 hbl5 hsz5
      replace hM := hM.add hB.size hbl5 hO5
      replace hB := hB.trans (hbl5.mono hB.size)
      generalize w4.heap.size = gg5 at *
      refine LS.m rfl (Step.append2 (B := w0.heap.size) rfl rfl (by decide) Try.underlying33 elem3 rfl rfl rfl rfl (hM.o2) (hM.o0.rd) (by first | rfl | (simp; done) | (simp; omega)) (by first | exact one_map _ (fun _ => rfl) _ | simp [Value.oneCell']) (by omega) (by omega) hB.size ?_)
      rintro p6 c6 w6 hO6 hg6 hbl6 hbk6
      replace hM := hM.s2 hg6 hO6 hbk6
      replace hM := hM.tail
      try simp only [nv_app1, nv_app, nv_set, nv_rep, nv_one, nv_cons, nv_take, nv_drop, List.nil_append] at hM
      replace hB := hB.trans hbl6
      refine LS.vv rfl rfl (by decide) (Val.assign rfl) ?_
      refine LS.nil ?_
      refine inBlk_normal ?_
      refine thenP_normal ?_
      refine W.reg ?_
      first | refine LS.vv rfl rfl (by decide) (Val.addN (j := 1) rfl rfl (by omega)) ?_ | refine LS.vv rfl rfl (by decide) (Val.add64 rfl rfl (by omega)) ?_
      refine LS.vv rfl rfl (by decide) (Val.move rfl) ?_
      refine LS.nil ?_
      refine thenP_normal ?_
      refine ⟨(k + 1, p6, c6), ?_, ?_, ⟨by simp only; omega, ?_, hB⟩, by simp only; omega⟩
      · exact (Sub.cons rfl (Sub.cons rfl (Sub.nil _)))
      · repeat (first | exact Sub.nil _ | refine Sub.cons rfl ?_)
      · simp only [LT_succ, pls_succ]; exact hM.swap
    ·
      refine W.exit ?_
      refine thenP_exit ?_
      refine thenP_exit ?_
      refine inBlk_exit ?_
      refine thenP_normal ?_
      refine W.seqR ?_
      refine LS.vv rfl rfl (by decide) (Val.move rfl) ?_
      refine LS.vv rfl rfl (by decide) (Val.assign rfl) ?_
      refine LS.vv rfl rfl (by decide) (Val.cast (v := .int .i64 ((0 : Nat) : Int)) (Val.assign rfl) rfl) ?_
      refine LS.nil ?_
      refine W.ret ?_
      refine ret2 (by first | exact .inl rfl | exact .inr rfl) rfl rfl ?_
      first | (refine ⟨none, 0, 0, 1, [], rfl, Own.nil _ _ _, ⟨fun h => by omega, fun h => by omega⟩, fun h => by omega, hB⟩; done) | (obtain rfl : k = t.length := (by omega); exact ⟨po, co, _, 0, _, rfl, hM.o0, ⟨fun _ => by omega, fun _ => rfl⟩, fun _ => ⟨rfl, rfl⟩, hB⟩)

theorem Unfront_any (ps : List Nat) (p : Option Addr) (c m : Nat) (w0 : World) (hr : Rd w0 p (nv ps)) (hm : ps.length = m) (hs : ∀ k, gn ps k < 256) (hl : m ≤ 64) :
    CallsV Try.prog 18 #[.slice p m c] w0 (fun v w => ∃ (p2 : Option Addr) (c2 : Nat), v = .tuple #[.slice p2 m c2, .int .i64 0] ∧ Own w w0.heap.size 5 p2 m c2 (yv (ubs ps m)) ∧ Below w0.heap.size w0 w) := by
  refine enter2 Try.func18 rfl Try.ntmps18 (by simp) rfl ?_
  have hB := Below.refl w0.heap.size w0
  simp only [argLoc]
  have hM := Mem.nil w0 w0.heap.size
  subst hm
  refine W.seqR ?_
  refine LS.vv rfl rfl (by decide) (Val.assign rfl) ?_
  refine LS.vv rfl rfl (by decide) (Val.cast (v := .int .i64 ((0 : Nat) : Int)) (Val.assign rfl) rfl) ?_
  refine LS.nil ?_
  refine W.seq ?_
  refine W.seqR ?_
  refine LS.vv rfl rfl (by decide) (Val.move rfl) ?_
  refine LS.vv rfl rfl (by decide) (Val.len Try.underlying33 rfl) ?_
  refine LS.vv rfl rfl (by decide) (Val.gtr rfl rfl) ?_
  refine LS.nil ?_
  first | refine W.condD rfl (fun hc1 => ?_) (fun hc1 => ?_) | refine W.cond rfl (fun hc1 => ?_) (fun hc1 => ?_)
  ·
    exfalso; omega
  ·
    refine W.skip ?_
    refine thenP_normal ?_
    refine W.seqR ?_
    refine LS.m rfl (Step.call body32 rfl rfl (by decide) rfl (CallsV.mono (list_any _) ?_))
    rintro _ w1 ⟨pl0, cl0, rfl, hOl, hb1⟩
    replace hM := hM.add hB.size hb1 hOl
    replace hB := hB.trans (hb1.mono hB.size)
    refine LS.vv rfl rfl (by decide) (Val.assign rfl) ?_
    refine LS.nil ?_
    refine W.seqR ?_
    refine LS.vv rfl rfl (by decide) (Val.assign rfl) ?_
    refine LS.nil ?_
    refine W.seq ?_
    refine W.seqR ?_
    refine LS.vv rfl rfl (by decide) (Val.move rfl) ?_
    refine LS.vv rfl rfl (by decide) (Val.len Try.underlying33 rfl) ?_
    refine LS.vv rfl rfl (by decide) (Val.cast (v := .int .i64 ((0 : Nat) : Int)) (Val.move rfl) rfl) ?_
    refine LS.nil ?_
    refine W.block ?_
    replace hM := hM.addNil 5
    refine W.loop (α := Nat × Option Addr × Nat) (fun g => [(5, .slice g.2.1 g.1 g.2.2), (14, .int .i64 (g.1 : Int))]) [(4, _), (12, _), (13, _)] (fun g w => (g.1 ≤ ps.length) ∧ Mem w w0.heap.size [⟨5, g.2.1, g.1, g.2.2, yv (ubs ps g.1)⟩, ⟨5, pl0, 256, cl0, yv (LU ps g.1)⟩] ∧ Below w0.heap.size w0 w) (fun g => ps.length - g.1) ((0, none, 0)) (Sub.cons rfl (Sub.cons rfl (Sub.nil _))) (Sub.cons rfl (Sub.cons rfl (Sub.cons rfl (Sub.nil _)))) ?_ ?_
    · exact ⟨Nat.zero_le _, hM, hB⟩
    rintro ⟨k, po, co⟩ w2 ⟨hk, hM, hB⟩
    try simp only at hM
    simp only [List.cons_append, List.nil_append]
    simp only at hk
    refine W.seqR ?_
    refine LS.vv rfl rfl (by decide) (Val.lss rfl rfl) ?_
    refine LS.nil ?_
    refine W.seq ?_
    first | refine W.condD rfl (fun hc2 => ?_) (fun hc2 => ?_) | refine W.cond rfl (fun hc2 => ?_) (fun hc2 => ?_)
    ·
      refine W.skip ?_
      refine thenP_normal ?_
      refine W.seq ?_
      refine W.block ?_
      refine W.seqR ?_
      refine LS.vv rfl rfl (by decide) (Val.index1 Try.underlying33 elem3 rfl rfl (by omega) ((hr.below hB)) (nv_lt (by omega))) ?_
      refine LS.m rfl (Step.load rfl rfl (by decide) flat3 rfl ((hr.below hB)) (nv_at (by omega)) ?_)
      refine LS.vv rfl rfl (by decide) (Val.assign rfl) ?_
      refine LS.nil ?_
      refine W.seq ?_
      refine W.seqR ?_
      refine LS.vv rfl rfl (by decide) (Val.move rfl) ?_
      have hps := hs k
      have hLl := LU_len hs k
      have hLl2 := LU_len hs (k + 1)
      refine LS.vv rfl rfl (by decide) (Val.cast (v := .bool false) (Val.lss rfl rfl) (by refine congrArg Value.bool (decide_eq_false ?_); omega)) ?_
      refine LS.vv rfl rfl (by decide) (Val.move rfl) ?_
      refine LS.vg rfl rfl rfl rfl (by decide) (Val.move rfl) ?_
      refine LS.vg rfl rfl rfl rfl (by decide) (Val.cast (v := .bool false) (Val.gtr rfl rfl) (by refine congrArg Value.bool (decide_eq_false ?_); omega)) ?_
      refine LS.vv rfl rfl (by decide) (Val.pickF rfl rfl rfl) ?_
      refine LS.nil ?_
      refine W.condF rfl ?_
      refine W.skip ?_
      refine thenP_normal ?_
      refine W.seqR ?_
      refine LS.vv rfl rfl (by decide) (Val.move rfl) ?_
      refine LS.vv rfl rfl (by decide) (Val.move rfl) ?_
      refine LS.m rfl (Step.call body34 rfl rfl (by decide) rfl (CallsV.mono (front_any (LU ps k) _ (gn ps k) 256 _ w0.heap.size _ _ hM.swap hB.size hLl (hs k) (by omega)) ?_))
      rintro _ w3 ⟨hM3, hb3⟩
      replace hM := hM3
      replace hB := hB.trans hb3
      rw [← LU_succ] at hM
      refine LS.nil ?_
      refine W.reg ?_
      refine LS.vv rfl rfl (by decide) (Val.move rfl) ?_
      refine LS.vv rfl rfl (by decide) (Val.move rfl) ?_
      refine LS.vv rfl rfl (by decide) (Val.index1 (j := 0) Try.underlying22 elem5 rfl rfl (by omega) (hM.o0.rd) (yv_lt (by omega))) ?_
      refine LS.m rfl (Step.load rfl rfl (by decide) flat5 rfl (hM.o0.rd) (yv_at (by omega)) ?_)
      refine LS.m rfl (Step.lit rfl rfl (by decide) Try.underlying22 elem5 rfl rfl (by omega) (by simp [Value.oneCell']) (Nat.le_refl _) ?_)
      rintro w4 hO4 hg4 hbl4 hsz4
      replace hM := hM.add hB.size hbl4 hO4
      replace hB := hB.trans (hbl4.mono hB.size)
      generalize w3.heap.size = gg4 at *
      refine LS.m rfl (Step.append2 (B := w0.heap.size) rfl rfl (by decide) Try.underlying22 elem5 rfl rfl rfl rfl (hM.o2) (hM.o0.rd) (by first | rfl | (simp; done) | (simp; omega)) (by first | exact one_map _ (fun _ => rfl) _ | simp [Value.oneCell']) (by omega) (by omega) hB.size ?_)
      rintro p5 c5 w5 hO5 hg5 hbl5 hbk5
      replace hM := hM.s2 hg5 hO5 hbk5
      replace hM := hM.tail
      try simp only [yv_app1, yv_app, yv_set, yv_rep, yv_one, yv_cons, yv_take, yv_drop, List.nil_append] at hM
      replace hB := hB.trans hbl5
      refine LS.vv rfl rfl (by decide) (Val.assign rfl) ?_
      refine LS.nil ?_
      refine inBlk_normal ?_
      refine thenP_normal ?_
      refine W.reg ?_
      first | refine LS.vv rfl rfl (by decide) (Val.addN (j := 1) rfl rfl (by omega)) ?_ | refine LS.vv rfl rfl (by decide) (Val.add64 rfl rfl (by omega)) ?_
      refine LS.vv rfl rfl (by decide) (Val.move rfl) ?_
      refine LS.nil ?_
      refine thenP_normal ?_
      refine ⟨(k + 1, p5, c5), ?_, ?_, ⟨by simp only; omega, ?_, hB⟩, by simp only; omega⟩
      · exact (Sub.cons rfl (Sub.cons rfl (Sub.nil _)))
      · repeat (first | exact Sub.nil _ | refine Sub.cons rfl ?_)
      · simp only [ubs_succ]; exact hM.swap
    ·
      refine W.exit ?_
      refine thenP_exit ?_
      refine thenP_exit ?_
      refine inBlk_exit ?_
      refine thenP_normal ?_
      refine W.seqR ?_
      refine LS.vv rfl rfl (by decide) (Val.move rfl) ?_
      refine LS.vv rfl rfl (by decide) (Val.assign rfl) ?_
      refine LS.vv rfl rfl (by decide) (Val.cast (v := .int .i64 ((0 : Nat) : Int)) (Val.assign rfl) rfl) ?_
      refine LS.nil ?_
      refine W.ret ?_
      refine ret2 (by first | exact .inl rfl | exact .inr rfl) rfl rfl ?_
      (obtain rfl : k = ps.length := (by omega); exact ⟨po, co, rfl, hM.o0, hB⟩)

end Go.Proofs.Ytcoplafphgpmpaa
