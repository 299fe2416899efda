/-
  The walks of bose.sums, bose.Fix, quipukeep.turned.
-/
import Derived.Test.YtnaebllojkodbaaField
import Derived.Test.YtnaebllojkodbaaBose
import Derived.Test.YtnaebllojkodbaaBose2Plain
import Derived.Test.YtnaebllojkodbaaVarr
import Derived.Test.YtnaebllojkodbaaVgrow
import Derived.Test.YtnaebllojkodbaaVfacts2
namespace Go.Proofs.Ytnaebllojkodbaa
open Go Go.RowKit V
set_option linter.unusedVariables false

theorem bsums_any (l : List Bool) (p : Option Addr) (c m : Nat) (w0 : World) (hr : Rd w0 p (bv l)) (hm : l.length = m) (h15 : m ≤ 15) :
    CallsV Try.prog 43 #[.slice p m c] w0 (fun v w => v = .tuple #[.int .i64 (sA l m : Int), .int .i64 (sB l m : Int)] ∧ Below w0.heap.size w0 w) := by
  refine enter2 Try.func43 rfl Try.ntmps43 (by simp) rfl ?_
  have hB := Below.refl w0.heap.size w0
  simp only [argLoc]
  have hM := Mem.nil w0 w0.heap.size
  subst hm
  refine W.seqR ?_
  refine LS.vv rfl rfl (by decide) (Val.cast (v := .int .i64 ((0 : Nat) : Int)) (Val.assign rfl) rfl) ?_
  refine LS.vv rfl rfl (by decide) (Val.cast (v := .int .i64 ((0 : Nat) : Int)) (Val.assign rfl) rfl) ?_
  refine LS.nil ?_
  refine W.seqR ?_
  refine LS.vv rfl rfl (by decide) (Val.cast (v := .int .i64 ((0 : Nat) : Int)) (Val.assign rfl) rfl) ?_
  refine LS.vv rfl rfl (by decide) (Val.cast (v := .int .i64 ((0 : Nat) : Int)) (Val.assign rfl) rfl) ?_
  refine LS.nil ?_
  refine W.seq ?_
  refine W.seqR ?_
  refine LS.vv rfl rfl (by decide) (Val.move rfl) ?_
  refine LS.vv rfl rfl (by decide) (Val.len Try.underlying35 rfl) ?_
  refine LS.vv rfl rfl (by decide) (Val.cast (v := .int .i64 ((0 : Nat) : Int)) (Val.move rfl) rfl) ?_
  refine LS.nil ?_
  refine W.block ?_
  refine W.loop (α := Nat) (fun k => [(4, .int .i64 (sA l k : Int)), (5, .int .i64 (sB l k : Int)), (11, .int .i64 (k : Int))]) [(9, _), (10, _)] (fun k w => (k ≤ l.length) ∧ Mem w w0.heap.size [] ∧ Below w0.heap.size w0 w) (fun k => l.length - k) (0) (Sub.cons rfl (Sub.cons rfl (Sub.cons rfl (Sub.nil _)))) (Sub.cons rfl (Sub.cons rfl (Sub.nil _))) ?_ ?_
  · exact ⟨Nat.zero_le _, hM, hB⟩
  rintro k w1 ⟨hk, hM, hB⟩
  try simp only at hM
  simp only [List.cons_append, List.nil_append]
  refine W.seqR ?_
  refine LS.vv rfl rfl (by decide) (Val.lss rfl rfl) ?_
  refine LS.nil ?_
  refine W.seq ?_
  first | refine W.condD rfl (fun hc1 => ?_) (fun hc1 => ?_) | refine W.cond rfl (fun hc1 => ?_) (fun hc1 => ?_)
  ·
    refine W.skip ?_
    refine thenP_normal ?_
    refine W.seq ?_
    refine W.block ?_
    refine W.seqR ?_
    refine LS.vv rfl rfl (by decide) (Val.move rfl) ?_
    refine LS.vv rfl rfl (by decide) (Val.index1 Try.underlying35 elem4 rfl rfl (by omega) ((hr.below hB)) (bv_lt (by omega))) ?_
    refine LS.m rfl (Step.load rfl rfl (by decide) flat4 rfl ((hr.below hB)) (bv_at (by omega)) ?_)
    refine LS.vv rfl rfl (by decide) (Val.assign rfl) ?_
    refine LS.vv rfl rfl (by decide) (Val.assign rfl) ?_
    refine LS.nil ?_
    refine W.seqR ?_
    refine LS.vv rfl rfl (by decide) (Val.move rfl) ?_
    refine LS.nil ?_
    first | refine W.condD rfl (fun hc2 => ?_) (fun hc2 => ?_) | refine W.cond rfl (fun hc2 => ?_) (fun hc2 => ?_)
    ·
      refine W.seqR ?_
      refine LS.vv rfl rfl (by decide) (Val.move rfl) ?_
      have hla := sA_lt l k
      have hlb := sB_lt l k
      refine LS.vv rfl rfl (by decide) (Val.subN (i := 14) rfl rfl (by omega) (by omega)) ?_
      refine LS.vv rfl rfl (by decide) (Val.assign rfl) ?_
      refine LS.nil ?_
      refine W.seqR ?_
      refine LS.vv rfl rfl (by decide) (Val.move rfl) ?_
      refine LS.vv rfl rfl (by decide) (Val.move rfl) ?_
      refine LS.m rfl (Step.call body35 rfl rfl (by decide) rfl (CallsV.mono (power_any 2 (14 - k) _ (by omega) (by omega)) ?_))
      rintro _ w2 ⟨rfl, hb2⟩
      replace hM := hM.below hb2
      replace hB := hB.trans (hb2.mono hB.size)
      have hc1 := c1_lt k
      rw [show fpow 2 (14 - k) = c1 k from rfl]
      refine LS.vv rfl rfl (by decide) (Val.xor64 rfl rfl (by omega) (by omega)) ?_
      refine LS.vv rfl rfl (by decide) (Val.assign rfl) ?_
      refine LS.nil ?_
      refine W.reg ?_
      refine LS.vv rfl rfl (by decide) (Val.move rfl) ?_
      refine LS.vv rfl rfl (by decide) (Val.move rfl) ?_
      refine LS.vv rfl rfl (by decide) (Val.cast (v := .int .i64 ((3 * (14 - k) : Nat) : Int)) (Val.mul64 (i := 3) (j := ((14 - k : Nat) : Int)) rfl rfl (by omega)) (by first | rfl | (congr 1; omega))) ?_
      refine LS.m rfl (Step.call body35 rfl rfl (by decide) rfl (CallsV.mono (power_any 2 (3 * (14 - k)) _ (by omega) (by omega)) ?_))
      rintro _ w3 ⟨rfl, hb3⟩
      replace hM := hM.below hb3
      replace hB := hB.trans (hb3.mono hB.size)
      have hc3 := c3_lt k
      rw [show fpow 2 (3 * (14 - k)) = c3 k from rfl]
      refine LS.vv rfl rfl (by decide) (Val.xor64 rfl rfl (by omega) (by omega)) ?_
      refine LS.vv rfl rfl (by decide) (Val.assign rfl) ?_
      refine LS.nil ?_
      refine inBlk_normal ?_
      refine thenP_normal ?_
      refine W.reg ?_
      first | refine LS.vv rfl rfl (by decide) (Val.addN (j := 1) rfl rfl (by omega)) ?_ | refine LS.vv rfl rfl (by decide) (Val.add64 rfl rfl (by omega)) ?_
      refine LS.vv rfl rfl (by decide) (Val.move rfl) ?_
      refine LS.nil ?_
      refine thenP_normal ?_
      refine ⟨k + 1, ?_, ?_, ⟨by omega, hM, hB⟩, by omega⟩
      · exact (Sub.cons' rfl (by first | rw [sA_succ, if_pos ‹gb l k = true›] | rw [sA_succ, if_neg (by simp_all)]) (Sub.cons' rfl (by first | rw [sB_succ, if_pos ‹gb l k = true›] | rw [sB_succ, if_neg (by simp_all)]) (Sub.cons rfl (Sub.nil _))))
      · repeat (first | exact Sub.nil _ | refine Sub.cons rfl ?_)
    ·
      refine W.skip ?_
      refine inBlk_normal ?_
      refine thenP_normal ?_
      refine W.reg ?_
      first | refine LS.vv rfl rfl (by decide) (Val.addN (j := 1) rfl rfl (by omega)) ?_ | refine LS.vv rfl rfl (by decide) (Val.add64 rfl rfl (by omega)) ?_
      refine LS.vv rfl rfl (by decide) (Val.move rfl) ?_
      refine LS.nil ?_
      refine thenP_normal ?_
      refine ⟨k + 1, ?_, ?_, ⟨by omega, hM, hB⟩, by omega⟩
      · exact (Sub.cons' rfl (by first | rw [sA_succ, if_pos ‹gb l k = true›] | rw [sA_succ, if_neg (by simp_all)]) (Sub.cons' rfl (by first | rw [sB_succ, if_pos ‹gb l k = true›] | rw [sB_succ, if_neg (by simp_all)]) (Sub.cons rfl (Sub.nil _))))
      · repeat (first | exact Sub.nil _ | refine Sub.cons rfl ?_)
  ·
    refine W.exit ?_
    refine thenP_exit ?_
    refine thenP_exit ?_
    refine inBlk_exit ?_
    refine thenP_normal ?_
    refine W.seqR ?_
    refine LS.vv rfl rfl (by decide) (Val.move rfl) ?_
    refine LS.vv rfl rfl (by decide) (Val.move rfl) ?_
    refine LS.vv rfl rfl (by decide) (Val.assign rfl) ?_
    refine LS.vv rfl rfl (by decide) (Val.assign rfl) ?_
    refine LS.nil ?_
    refine W.ret ?_
    refine ret2 (by first | exact .inl rfl | exact .inr rfl) rfl rfl ?_
    (have hkm : k = l.length := (by omega); subst hkm; exact ⟨rfl, hB⟩)

theorem bturned_any (l : List Bool) (ps : List Nat) (p q : Option Addr) (c d m n : Nat) (w0 : World) (hr1 : Rd w0 p (bv l)) (hr2 : Rd w0 q (nv ps)) (hm : l.length = m) (hn : ps.length = n) (hb : m ≤ 1000000) (hn2 : n ≤ 1000000) (hps : ∀ j, j < n → gn ps j < m) :
    CallsV Try.prog 27 #[.slice p m c, .slice q n d] w0 (fun v w => ∃ (p2 : Option Addr) (c2 : Nat), v = .slice p2 m c2 ∧ Own w w0.heap.size 4 p2 m c2 (bv (flTo l ps n)) ∧ Below w0.heap.size w0 w) := by
  refine enter1 Try.func27 rfl Try.ntmps27 (by simp) rfl ?_
  have hB := Below.refl w0.heap.size w0
  simp only [argLoc, Nat.zero_add]
  have hM := Mem.nil w0 w0.heap.size
  subst hm; subst hn
  refine W.seqR ?_
  refine LS.vv rfl rfl (by decide) (Val.assign rfl) ?_
  refine LS.nil ?_
  refine W.seqR ?_
  refine LS.m rfl (Step.lit rfl rfl (by decide) Try.underlying35 elem4 rfl rfl (by omega) (by simp [Value.oneCell']) (Nat.le_refl _) ?_)
  rintro w1 hO1 hg1 hbl1 hsz1
  replace hM := hM.add hB.size hbl1 hO1
  try simp only [bv_app1, bv_app, bv_set, bv_rep, bv_one, bv_cons, bv_take, bv_drop, List.nil_append] at hM
  replace hB := hB.trans (hbl1.mono hB.size)
  skip
  refine LS.vv rfl rfl (by decide) (Val.move rfl) ?_
  refine LS.m rfl (Step.append2 (B := w0.heap.size) rfl rfl (by decide) Try.underlying35 elem4 rfl rfl rfl rfl (hM.o0) ((hr1.below hB)) (by first | rfl | (simp; done) | (simp; omega)) (by first | exact one_map _ (fun _ => rfl) _ | simp [Value.oneCell']) (by omega) (by omega) hB.size ?_)
  rintro p2 c2 w2 hO2 hg2 hbl2 hbk2
  replace hM := hM.s0 hg2 hO2 hbk2
  try simp only [bv_app1, bv_app, bv_set, bv_rep, bv_one, bv_cons, bv_take, bv_drop, List.nil_append] at hM
  replace hB := hB.trans hbl2
  refine LS.vv rfl rfl (by decide) (Val.assign rfl) ?_
  refine LS.nil ?_
  refine W.seq ?_
  refine W.seqR ?_
  refine LS.vv rfl rfl (by decide) (Val.move rfl) ?_
  refine LS.vv rfl rfl (by decide) (Val.len Try.underlying27 rfl) ?_
  refine LS.vv rfl rfl (by decide) (Val.cast (v := .int .i64 ((0 : Nat) : Int)) (Val.move rfl) rfl) ?_
  refine LS.nil ?_
  refine W.block ?_
  rw [Nat.zero_add] at hM ⊢
  refine W.loop (α := Nat) (fun k => [(13, .int .i64 (k : Int))]) [(5, _), (11, _), (12, _)] (fun k w => (k ≤ ps.length) ∧ Mem w w0.heap.size [⟨4, p2, l.length, c2, bv (flTo l ps k)⟩] ∧ Below w0.heap.size w0 w) (fun k => ps.length - k) (0) (Sub.cons rfl (Sub.nil _)) (Sub.cons rfl (Sub.cons rfl (Sub.cons rfl (Sub.nil _)))) ?_ ?_
  · exact ⟨Nat.zero_le _, hM, hB⟩
  rintro k w3 ⟨hk, hM, hB⟩
  try simp only at hM
  simp only [List.cons_append, List.nil_append]
  refine W.seqR ?_
  refine LS.vv rfl rfl (by decide) (Val.lss rfl rfl) ?_
  refine LS.nil ?_
  refine W.seq ?_
  first | refine W.condD rfl (fun hc1 => ?_) (fun hc1 => ?_) | refine W.cond rfl (fun hc1 => ?_) (fun hc1 => ?_)
  ·
    refine W.skip ?_
    refine thenP_normal ?_
    refine W.seq ?_
    refine W.block ?_
    refine W.seqR ?_
    refine LS.vv rfl rfl (by decide) (Val.index1 Try.underlying27 elem3 rfl rfl (by omega) ((hr2.below hB)) (nv_lt (by omega))) ?_
    refine LS.m rfl (Step.load rfl rfl (by decide) flat3 rfl ((hr2.below hB)) (nv_at (by omega)) ?_)
    refine LS.vv rfl rfl (by decide) (Val.assign rfl) ?_
    refine LS.nil ?_
    refine W.reg ?_
    refine LS.vv rfl rfl (by decide) (Val.move rfl) ?_
    refine LS.vv rfl rfl (by decide) (Val.move rfl) ?_
    refine LS.vv rfl rfl (by decide) (Val.move rfl) ?_
    refine LS.vv rfl rfl (by decide) (Val.move rfl) ?_
    have hpk := hps k (by omega)
    have hfl := flTo_len l ps k
    refine LS.vv rfl rfl (by decide) (Val.index1 Try.underlying35 elem4 rfl rfl (by omega) (hM.o0.rd) (bv_lt (by omega))) ?_
    refine LS.m rfl (Step.load rfl rfl (by decide) flat4 rfl (hM.o0.rd) (bv_at (by omega)) ?_)
    refine LS.vv rfl rfl (by decide) (Val.not rfl) ?_
    refine LS.vv rfl rfl (by decide) (Val.index1 Try.underlying35 elem4 rfl rfl (by omega) (hM.o0.rd) (bv_lt (by omega))) ?_
    refine LS.m rfl (Step.store (B := w0.heap.size) rfl rfl flat4 elem4 rfl rfl rfl (hM.o0) (by omega) hB.size ?_)
    rintro w4 hO4 hg4 hbl4 hsz4
    replace hM := hM.s0 hg4 hO4 inl_block
    try simp only [bv_app1, bv_app, bv_set, bv_rep, bv_one, bv_cons, bv_take, bv_drop, List.nil_append] at hM
    replace hB := hB.trans hbl4
    refine LS.nil ?_
    refine inBlk_normal ?_
    refine thenP_normal ?_
    refine W.reg ?_
    first | refine LS.vv rfl rfl (by decide) (Val.addN (j := 1) rfl rfl (by omega)) ?_ | refine LS.vv rfl rfl (by decide) (Val.add64 rfl rfl (by omega)) ?_
    refine LS.vv rfl rfl (by decide) (Val.move rfl) ?_
    refine LS.nil ?_
    refine thenP_normal ?_
    refine ⟨k + 1, ?_, ?_, ⟨by omega, hM, hB⟩, by omega⟩
    · exact (Sub.cons rfl (Sub.nil _))
    · repeat (first | exact Sub.nil _ | refine Sub.cons rfl ?_)
  ·
    refine W.exit ?_
    refine thenP_exit ?_
    refine thenP_exit ?_
    refine inBlk_exit ?_
    refine thenP_normal ?_
    refine W.seqR ?_
    refine LS.vv rfl rfl (by decide) (Val.move rfl) ?_
    refine LS.vv rfl rfl (by decide) (Val.assign rfl) ?_
    refine LS.nil ?_
    refine W.ret ?_
    refine ret1 (by first | exact .inl rfl | exact .inr rfl) rfl ?_
    (have hkm : k = ps.length := (by omega); subst hkm; exact ⟨_, _, rfl, hM.o0, hB⟩)

theorem Fix0_any (l : List Bool) (p : Option Addr) (c : Nat) (hA : sA l 15 = 0) (hB2 : sB l 15 = 0) (w0 : World) (hr : Rd w0 p (bv l)) (hl : l.length = 15) (hcap : 15 ≤ c) :
    CallsV Try.prog 28 #[.slice p 15 c] w0 (fun v w => ∃ (p2 : Option Addr) (c2 : Nat), v = .tuple #[.slice p2 7 c2, .int .i64 ((0 : Nat) : Int), .int .i64 ((0 : Nat) : Int)] ∧ Own w w0.heap.size 4 p2 7 c2 (bv ((l).take 7)) ∧ Below w0.heap.size w0 w) := by
  refine enter3 Try.func28 rfl Try.ntmps28 (by simp) rfl ?_
  have hB := Below.refl w0.heap.size w0
  simp only [argLoc]
  have hM := Mem.nil w0 w0.heap.size
  refine W.seqR ?_
  refine LS.vv rfl rfl (by decide) (Val.assign rfl) ?_
  refine LS.vv rfl rfl (by decide) (Val.cast (v := .int .i64 ((0 : Nat) : Int)) (Val.assign rfl) rfl) ?_
  refine LS.vv rfl rfl (by decide) (Val.cast (v := .int .i64 ((0 : Nat) : Int)) (Val.assign rfl) rfl) ?_
  refine LS.nil ?_
  refine W.seq ?_
  refine W.seqR ?_
  refine LS.vv rfl rfl (by decide) (Val.move rfl) ?_
  refine LS.vv rfl rfl (by decide) (Val.len Try.underlying35 rfl) ?_
  refine LS.vv rfl rfl (by decide) (Val.neq rfl rfl) ?_
  refine LS.nil ?_
  first | refine W.condD rfl (fun hc1 => ?_) (fun hc1 => ?_) | refine W.cond rfl (fun hc1 => ?_) (fun hc1 => ?_)
  ·
    exfalso; omega
  ·
    refine W.skip ?_
    refine thenP_normal ?_
    refine W.seqR ?_
    refine LS.vv rfl rfl (by decide) (Val.move rfl) ?_
    refine LS.m rfl (Step.call body43 rfl rfl (by decide) rfl (CallsV.mono (bsums_any l _ _ 15 _ (hr.below hB) hl (by omega)) ?_))
    rintro _ w1 ⟨rfl, hb1⟩
    replace hM := hM.below hb1
    replace hB := hB.trans (hb1.mono hB.size)
    rw [hA, hB2]
    refine LS.vv rfl rfl (by decide) (Val.move rfl) ?_
    refine LS.vv rfl rfl (by decide) (Val.extract rfl rfl) ?_
    refine LS.vv rfl rfl (by decide) (Val.extract rfl rfl) ?_
    refine LS.vv rfl rfl (by decide) (Val.assign rfl) ?_
    refine LS.vv rfl rfl (by decide) (Val.assign rfl) ?_
    refine LS.nil ?_
    refine W.seq ?_
    refine W.seqR ?_
    refine LS.vv rfl rfl (by decide) (Val.move rfl) ?_
    refine LS.vv rfl rfl (by decide) (Val.cast (v := .bool true) (Val.eql rfl rfl) (by simp)) ?_
    refine LS.vv rfl rfl (by decide) (Val.move rfl) ?_
    refine LS.vg rfl rfl rfl rfl (by decide) (Val.move rfl) ?_
    refine LS.vg rfl rfl rfl rfl (by decide) (Val.cast (v := .bool true) (Val.eql rfl rfl) (by simp)) ?_
    refine LS.vv rfl rfl (by decide) (Val.pickT rfl rfl rfl) ?_
    refine LS.nil ?_
    refine W.condT rfl ?_
    refine W.seqR ?_
    refine LS.m rfl (Step.lit rfl rfl (by decide) Try.underlying35 elem4 rfl rfl (by omega) (by simp [Value.oneCell']) (Nat.le_refl _) ?_)
    rintro w2 hO2 hg2 hbl2 hsz2
    replace hM := hM.add hB.size hbl2 hO2
    try simp only [bv_app1, bv_app, bv_set, bv_rep, bv_one, bv_cons, bv_take, bv_drop, List.nil_append] at hM
    replace hB := hB.trans (hbl2.mono hB.size)
    generalize w1.heap.size = gg2 at *
    refine LS.vv rfl rfl (by decide) (Val.move rfl) ?_
    refine LS.vv rfl rfl (by decide) (Val.sliceTo (h := 7) Try.underlying35 elem4 rfl rfl (by first | omega | (simp only [List.length_set]; omega))) ?_
    refine LS.m rfl (Step.append2 (B := w0.heap.size) rfl rfl (by decide) Try.underlying35 elem4 rfl rfl rfl rfl (hM.o0) (((hr.below hB).take_bv (k := 7))) (by simp [bv]; omega) (by first | exact one_map _ (fun _ => rfl) _ | simp [Value.oneCell']) (by first | omega | (simp only [List.length_set]; omega)) (by first | omega | (simp only [List.length_set]; omega)) hB.size ?_)
    rintro p3 c3 w3 hO3 hg3 hbl3 hbk3
    replace hM := hM.s0 hg3 hO3 hbk3
    try simp only [bv_app1, bv_app, bv_set, bv_rep, bv_one, bv_cons, bv_take, bv_drop, List.nil_append] at hM
    replace hB := hB.trans hbl3
    refine LS.vv rfl rfl (by decide) (Val.assign rfl) ?_
    refine LS.vv rfl rfl (by decide) (Val.cast (v := .int .i64 ((0 : Nat) : Int)) (Val.assign rfl) rfl) ?_
    refine LS.vv rfl rfl (by decide) (Val.cast (v := .int .i64 ((0 : Nat) : Int)) (Val.assign rfl) rfl) ?_
    refine LS.nil ?_
    refine W.ret ?_
    refine thenP_ret ?_
    refine ret3 (by first | exact .inl rfl | exact .inr rfl) rfl rfl rfl ?_
    first | (exfalso; omega) | exact ⟨_, _, rfl, hM.o0, hB⟩

end Go.Proofs.Ytnaebllojkodbaa
