/-
  The table of package alpha.
-/
import Derived.Test.YtohflgcbpmoinaaHuffC
import Derived.Test.YtohflgcbpmoinaaAlphaMem
import Derived.Test.YtohflgcbpmoinaaVz4
namespace Go.Proofs.Ytohflgcbpmoinaa
open Go Go.RowKit V
set_option linter.unusedVariables false
set_option linter.unusedSimpArgs false

theorem body33 : Body Try.prog 33 := ⟨_, Try.func33, by kernel_rfl, rfl⟩

theorem bsum_any (ws : List Nat) (p po : Option Addr) (g c m mo co i j : Nat) (w0 : World) (hra : Rd w0 (some ⟨g, 0, none⟩) [.slice p m c, .slice po mo co]) (hr : Rd w0 p (nv ws)) (hm : ws.length = m) (hmc : m ≤ c) (hij : i ≤ j) (hj : j ≤ m) (h8 : m ≤ 8) (hw : ∀ x ∈ ws, x ≤ 1048576) :
    CallsV Try.prog 33 #[.pointer (some ⟨g, 0, none⟩), .int .i64 (i : Int), .int .i64 (j : Int)] w0 (fun v w => v = .int .i64 ((sumR ws i (j - i) : Nat) : Int) ∧ Below w0.heap.size w0 w) := by
  refine enter1 Try.func33 rfl Try.ntmps33 (by simp) rfl ?_
  have hB := Below.refl w0.heap.size w0
  simp only [argLoc, Nat.zero_add, Nat.reduceAdd]
  have hM := Mz.nil w0 w0.heap.size
  subst hm
  have hcut : Rd w0 (cutAt p c i) (nv (ws.drop i)) := hr.cut_nv (by omega)
  have hdl : (ws.drop i).length = ws.length - i := by rw [List.length_drop]
  refine W.seqR ?_
  refine LS.vv rfl rfl (by decide) (Val.cast (v := .int .i64 ((0 : Nat) : Int)) (Val.assign rfl) rfl) ?_
  refine LS.nil ?_
  refine W.seqR ?_
  refine LS.vv rfl rfl (by decide) (Val.cast (v := .int .i64 ((0 : Nat) : Int)) (Val.assign rfl) rfl) ?_
  refine LS.nil ?_
  refine W.seq ?_
  refine W.seqR ?_
  refine LS.vv rfl rfl (by decide) (Val.move rfl) ?_
  first | refine LS.vv rfl rfl (by decide) (Val.nilCheck rfl) ?_ | refine LS.vv rfl rfl (by decide) (Val.nilCheckP rfl) ?_
  refine LS.vv rfl rfl (by decide) (Val.fieldAddr0 fld47_0 rfl) ?_
  refine LS.m rfl (Step.load rfl rfl (by decide) flat22 rfl ((hra.below hB)) (rfl) ?_)
  refine LS.vv rfl rfl (by decide) (Val.move rfl) ?_
  refine LS.vv rfl rfl (by decide) (Val.move rfl) ?_
  refine LS.vv rfl rfl (by decide) (Val.sliceFromTo Try.underlying22 elem2 rfl rfl rfl (by omega) (by omega)) ?_
  refine LS.vv rfl rfl (by decide) (Val.len Try.underlying22 rfl) ?_
  refine LS.vv rfl rfl (by decide) (Val.cast (v := .int .i64 ((0 : Nat) : Int)) (Val.move rfl) rfl) ?_
  refine LS.nil ?_
  refine W.block ?_
  refine W.loop (α := Nat) (fun k => [(7, .int .i64 ((sumR ws i k : Nat) : Int)), (18, .int .i64 (k : Int))]) [(16, _), (17, _)] (fun k w => (k ≤ j - i) ∧ Mz w w0.heap.size [] ∧ Below w0.heap.size w0 w) (fun k => j - i - k) (0) (Sub.cons rfl (Sub.cons rfl (Sub.nil _))) (Sub.cons rfl (Sub.cons rfl (Sub.nil _))) ?_ ?_
  · exact ⟨Nat.zero_le _, hM, hB⟩
  rintro k w1 ⟨hk, hM, hB⟩
  try simp only at hM
  simp only [List.cons_append, List.nil_append]
  have hss := sumR_last ws i k
  have hs1 := sumR_le hw i k
  have hs2 := sumR_le hw i (k + 1)
  refine W.seqR ?_
  refine LS.vv rfl rfl (by decide) (Val.lss rfl rfl) ?_
  refine LS.nil ?_
  refine W.seq ?_
  first | refine W.condD rfl (fun hc1 => ?_) (fun hc1 => ?_) | refine W.cond rfl (fun hc1 => ?_) (fun hc1 => ?_)
  ·
    refine W.skip ?_
    refine thenP_normal ?_
    refine W.seq ?_
    refine W.block ?_
    refine W.seqR ?_
    refine LS.vv rfl rfl (by decide) (Val.index1 Try.underlying22 elem2 rfl rfl (by omega) (hcut.below hB) (nv_lt (by omega))) ?_
    refine LS.m rfl (Step.load rfl rfl (by decide) flat2 rfl (hcut.below hB) (nv_at (by omega)) ?_)
    refine LS.vv rfl rfl (by decide) (Val.assign rfl) ?_
    refine LS.nil ?_
    refine W.reg ?_
    refine LS.vv rfl rfl (by decide) (Val.move rfl) ?_
    refine LS.vv rfl rfl (by decide) (Val.move rfl) ?_
    first | refine LS.vv rfl rfl (by decide) (Val.addN rfl rfl (by omega)) ?_ | refine LS.vv rfl rfl (by decide) (Val.add64 rfl rfl (by omega)) ?_
    refine LS.vv rfl rfl (by decide) (Val.assign rfl) ?_
    refine LS.nil ?_
    refine inBlk_normal ?_
    refine thenP_normal ?_
    refine W.reg ?_
    first | refine LS.vv rfl rfl (by decide) (Val.addN (j := 1) rfl rfl (by omega)) ?_ | refine LS.vv rfl rfl (by decide) (Val.add64 rfl rfl (by omega)) ?_
    refine LS.vv rfl rfl (by decide) (Val.move rfl) ?_
    refine LS.nil ?_
    refine thenP_normal ?_
    refine ⟨k + 1, ?_, ?_, ⟨by omega, hM, hB⟩, by omega⟩
    · exact Sub.cons' rfl (by rw [hss, Int.natCast_add]) (Sub.cons rfl (Sub.nil _))
    · repeat (first | exact Sub.nil _ | refine Sub.cons rfl ?_)
  ·
    refine W.exit ?_
    refine thenP_exit ?_
    refine thenP_exit ?_
    refine inBlk_exit ?_
    refine thenP_normal ?_
    refine W.seqR ?_
    refine LS.vv rfl rfl (by decide) (Val.move rfl) ?_
    refine LS.vv rfl rfl (by decide) (Val.assign rfl) ?_
    refine LS.nil ?_
    refine W.ret ?_
    refine ret1 (by first | exact .inl rfl | exact .inr rfl) rfl ?_
    obtain rfl : k = j - i := by omega
    exact ⟨rfl, hB⟩

theorem reckon_any (ws : List Nat) (p : Option Addr) (c m : Nat) (w0 : World) (hr : Rd w0 p (nv ws)) (hm : ws.length = m) (hmc : m ≤ c) (h8 : m ≤ 8) (hw : ∀ x ∈ ws, x ≤ 1048576) :
    CallsV Try.prog 23 #[.slice p m c] w0 (fun v w => ∃ (g co : Nat) (po : Option Addr) (T : List Tx), v = .pointer (some ⟨g, 0, none⟩) ∧ Mz w w0.heap.size (⟨47, 2, some ⟨g, 0, none⟩, 1, 1, [.slice p m c, .slice po (m + 1) co]⟩ :: ⟨22, 1, po, m + 1, co, tv T⟩ :: tz T) ∧ Dp ws m (tab T) (m + 1) ∧ T.length = m + 1 ∧ (∀ k, k < m + 1 → (gT T k).l.length = m + 1) ∧ Below w0.heap.size w0 w) := by
  refine enter1 Try.func23 rfl Try.ntmps23 (by simp) rfl ?_
  have hB := Below.refl w0.heap.size w0
  simp only [argLoc]
  have hM := Mz.nil w0 w0.heap.size
  subst hm
  refine W.seqR ?_
  refine LS.vv rfl rfl (by decide) (Val.assign rfl) ?_
  refine LS.nil ?_
  refine W.seqR ?_
  refine LS.vv rfl rfl (by decide) (Val.move rfl) ?_
  refine LS.vv rfl rfl (by decide) (Val.len Try.underlying22 rfl) ?_
  refine LS.vv rfl rfl (by decide) (Val.assign rfl) ?_
  refine LS.nil ?_
  refine W.seqR ?_
  refine LS.vv rfl rfl (by decide) (Val.move rfl) ?_
  refine LS.vv rfl rfl (by decide) (Val.move rfl) ?_
  first | refine LS.vv rfl rfl (by decide) (Val.addN (j := 1) rfl rfl (by omega)) ?_ | refine LS.vv rfl rfl (by decide) (Val.add64 rfl rfl (by omega)) ?_
  refine LS.m rfl (Step.makeZ rfl rfl (by decide) Try.underlying45 elem22 rfl rfl (by omega) (by omega) (made_one rfl _) ?_)
  rintro w1 hO1 hg1 hbl1
  replace hM := hM.add hB.size hbl1 hO1
  replace hB := hB.trans (hbl1.mono hB.size)
  skip
  rw [tv_nil] at hM
  replace hM := (Mz.nils hM (ws.length + 1)).perm List.perm_append_comm
  refine LS.vv rfl rfl (by decide) (Val.build str47 elem47 rfl rfl rfl) ?_
  refine LS.m rfl (Step.boxZ rfl rfl (by decide) rfl rfl ?_)
  rintro w2 hO2 hg2 hbl2 hsz2
  replace hM := hM.add hB.size hbl2 hO2
  try simp only [List.length_cons, List.length_nil, Nat.zero_add, Nat.reduceAdd, Value.cells, List.toList_toArray, List.append_nil, List.set_cons_zero, List.set_cons_succ] at hM
  replace hB := hB.trans (hbl2.mono hB.size)
  generalize w1.heap.size = gg2 at *
  refine LS.vv rfl rfl (by decide) (Val.assign rfl) ?_
  refine LS.nil ?_
  refine W.seq ?_
  refine W.seqR ?_
  refine LS.vv rfl rfl (by decide) (Val.move rfl) ?_
  first | refine LS.vv rfl rfl (by decide) (Val.nilCheck rfl) ?_ | refine LS.vv rfl rfl (by decide) (Val.nilCheckP rfl) ?_
  refine LS.vv rfl rfl (by decide) (Val.fieldAddr0 fld47_1 rfl) ?_
  refine LS.m rfl (Step.load rfl rfl (by decide) flat45 rfl (hM.o0.rd) (rfl) ?_)
  refine LS.vv rfl rfl (by decide) (Val.len Try.underlying45 rfl) ?_
  refine LS.vv rfl rfl (by decide) (Val.cast (v := .int .i64 ((0 : Nat) : Int)) (Val.move rfl) rfl) ?_
  refine LS.nil ?_
  refine W.block ?_
  refine W.loop (α := Nat × List Tx) (fun g => [(25, .int .i64 (g.1 : Int))]) [(3, _), (4, _), (24, _)] (fun g w => (g.1 ≤ ws.length + 1 ∧ g.2.length = ws.length + 1 ∧ ∀ a, a < g.1 → (gT g.2 a).l = List.replicate (ws.length + 1) 0) ∧ Mz w w0.heap.size (⟨47, 2, some ⟨gg2, 0, none⟩, 1, 1, [.slice p ws.length c, .slice (some ⟨w0.heap.size, 0, none⟩) (ws.length + 1) (ws.length + 1)]⟩ :: ⟨22, 1, some ⟨w0.heap.size, 0, none⟩, ws.length + 1, ws.length + 1, tv g.2⟩ :: (tz g.2)) ∧ Below w0.heap.size w0 w) (fun g => ws.length + 1 - g.1) ((0, nilT (ws.length + 1))) (Sub.cons rfl (Sub.nil _)) (Sub.cons rfl (Sub.cons rfl (Sub.cons rfl (Sub.nil _)))) ?_ ?_
  · exact ⟨⟨Nat.zero_le _, by simp [nilT], fun a h => absurd h (by simp)⟩, hM, hB⟩
  rintro ⟨k, T⟩ w3 ⟨⟨hk, hTl, hrows⟩, hM, hB⟩
  try simp only at hM
  simp only [List.cons_append, List.nil_append]
  simp only at hk hTl hrows
  refine W.seqR ?_
  refine LS.vv rfl rfl (by decide) (Val.lss rfl rfl) ?_
  refine LS.nil ?_
  refine W.seq ?_
  first | refine W.condD rfl (fun hc1 => ?_) (fun hc1 => ?_) | refine W.cond rfl (fun hc1 => ?_) (fun hc1 => ?_)
  ·
    refine W.skip ?_
    refine thenP_normal ?_
    refine W.seq ?_
    refine W.block ?_
    refine W.seqR ?_
    refine LS.vv rfl rfl (by decide) (Val.move rfl) ?_
    refine LS.vv rfl rfl (by decide) (Val.assign rfl) ?_
    refine LS.nil ?_
    refine W.regT (S := fun w => Below w0.heap.size w0 w ∧ Mz w w0.heap.size _) (.val 0 (.val 1 (.val 2 (.val 3 (.val 4 (.val 5 (.val 6 (.mem 7 (.val 8 (.mem 9 (.done))))))))))) mixed (by kernel_rfl) ⟨hB.drew, hM.drew.er1⟩ ?_
    replace hB := hB.drew
    replace hM := hM.drew
    refine DT.vv rfl rfl rfl (by decide) (Val.move rfl) ?_
    first | refine DT.vv rfl rfl rfl (by decide) (Val.nilCheck rfl) ?_ | refine DT.vv rfl rfl rfl (by decide) (Val.nilCheckP rfl) ?_
    refine DT.vv rfl rfl rfl (by decide) (Val.fieldAddr0 fld47_1 rfl) ?_
    refine DT.vv rfl rfl rfl (by decide) (Val.load flat45 rfl (fun _ h => h.2.o0.rd) (rfl)) ?_
    refine DT.vv rfl rfl rfl (by decide) (Val.move rfl) ?_
    refine DT.vv rfl rfl rfl (by decide) (Val.move rfl) ?_
    first | refine DT.vv rfl rfl rfl (by decide) (Val.addN (j := 1) rfl rfl (by omega)) ?_ | refine DT.vv rfl rfl rfl (by decide) (Val.add64 rfl rfl (by omega)) ?_
    refine DT.m rfl rfl (Step.makeZ rfl rfl (by decide) Try.underlying22 elem2 rfl rfl (by omega) (by omega) (made_one rfl _) ?_)
    rintro w4 hO4 hg4 hbl4
    replace hM := hM.add hB.size hbl4 hO4
    try simp only [nv_app1, nv_app, nv_set, nv_rep, nv_one, nv_cons, nv_take, nv_drop, List.nil_append] at hM
    replace hB := hB.trans (hbl4.mono hB.size)
    generalize w3.drew.heap.size = gg4 at *
    refine ⟨⟨hB, hM.er2.er0⟩, ?_⟩
    refine DT.vv rfl rfl rfl (by decide) (Val.index1 Try.underlying45 elem22 rfl rfl (by omega) (hM.o2.rd) (by rw [tv_len]; omega)) ?_
    refine DT.m rfl rfl (Step.storeZ (B := w0.heap.size) rfl rfl flat22 elem22 rfl rfl rfl (hM.o2) (by rw [tv_len]; omega) hB.size ?_)
    rintro w5 hO5 hg5 hbl5 hsz5
    replace hM := hM.s2 (e := _) hg5 hO5 inl_block
    try simp only [List.set_cons_zero, List.set_cons_succ] at hM
    replace hB := hB.trans hbl5
    refine ⟨⟨hB, hM.er2.er0⟩, ?_⟩
    refine DT.nil ?_
    refine inBlk_normal ?_
    refine thenP_normal ?_
    refine W.reg ?_
    first | refine LS.vv rfl rfl (by decide) (Val.addN (j := 1) rfl rfl (by omega)) ?_ | refine LS.vv rfl rfl (by decide) (Val.add64 rfl rfl (by omega)) ?_
    refine LS.vv rfl rfl (by decide) (Val.move rfl) ?_
    refine LS.nil ?_
    refine thenP_normal ?_
    replace hM := putNew ⟨some ⟨gg4, 0, none⟩, ws.length + 1, List.replicate (ws.length + 1) 0⟩ (ws.length + 1) (by simp) (i := k) (by omega) hM
    refine ⟨(k + 1, T.set k ⟨some ⟨gg4, 0, none⟩, ws.length + 1, List.replicate (ws.length + 1) 0⟩), ?_, ?_, ⟨⟨by simp only; omega, by simp only [List.length_set]; exact hTl, fun a ha => ?_⟩, hM, hB⟩, by simp only; omega⟩
    · exact (Sub.cons rfl (Sub.nil _))
    · repeat (first | exact Sub.nil _ | refine Sub.cons rfl ?_)
    · simp only at ha ⊢
      rw [gT_set (by omega)]
      split
      · rfl
      · exact hrows a (by omega)
  ·
    refine W.exit ?_
    refine thenP_exit ?_
    refine thenP_exit ?_
    refine inBlk_exit ?_
    refine thenP_normal ?_
    refine W.seq ?_
    refine W.seqR ?_
    refine LS.vv rfl rfl (by decide) (Val.cast (v := .int .i64 ((2 : Nat) : Int)) (Val.assign rfl) rfl) ?_
    refine LS.nil ?_
    refine W.block ?_
    obtain rfl : k = ws.length + 1 := by omega
    have hD0 := Dq.start (ws := ws) hTl hrows
    refine W.loop (α := Nat × List Tx) (fun g => [(6, .int .i64 (g.1 : Int))]) [(3, _), (4, _)] (fun g w => (2 ≤ g.1 ∧ (g.1 ≤ ws.length + 1 ∨ g.1 = 2) ∧ Dq ws ws.length g.2 g.1 0) ∧ Mz w w0.heap.size (⟨47, 2, some ⟨gg2, 0, none⟩, 1, 1, [.slice p ws.length c, .slice (some ⟨w0.heap.size, 0, none⟩) (ws.length + 1) (ws.length + 1)]⟩ :: ⟨22, 1, some ⟨w0.heap.size, 0, none⟩, ws.length + 1, ws.length + 1, tv g.2⟩ :: (tz g.2)) ∧ Below w0.heap.size w0 w) (fun g => ws.length + 1 - g.1) ((2, T)) (Sub.cons rfl (Sub.nil _)) (Sub.cons rfl (Sub.cons rfl (Sub.nil _))) ?_ ?_
    · exact ⟨⟨by simp only; omega, .inr rfl, hD0⟩, hM, hB⟩
    rintro ⟨sz, T⟩ w6 ⟨⟨hsz, hszm, hDq0⟩, hM, hB⟩
    try simp only at hM
    simp only [List.cons_append, List.nil_append]
    simp only at hsz hszm hDq0
    refine W.seq ?_
    refine W.seqR ?_
    refine LS.vv rfl rfl (by decide) (Val.move rfl) ?_
    refine LS.vv rfl rfl (by decide) (Val.move rfl) ?_
    refine LS.vv rfl rfl (by decide) (Val.leq rfl rfl) ?_
    refine LS.nil ?_
    first | refine W.condD rfl (fun hc2 => ?_) (fun hc2 => ?_) | refine W.cond rfl (fun hc2 => ?_) (fun hc2 => ?_)
    ·
      refine W.skip ?_
      refine thenP_normal ?_
      refine W.seq ?_
      refine W.block ?_
      refine W.seqR ?_
      refine LS.vv rfl rfl (by decide) (Val.cast (v := .int .i64 ((0 : Nat) : Int)) (Val.assign rfl) rfl) ?_
      refine LS.nil ?_
      refine W.block ?_
      refine W.loop (α := Nat × List Tx) (fun g => [(7, .int .i64 (g.1 : Int))]) [(3, _), (4, _), (6, _)] (fun g w => (g.1 ≤ ws.length ∧ Dq ws ws.length g.2 sz g.1) ∧ Mz w w0.heap.size (⟨47, 2, some ⟨gg2, 0, none⟩, 1, 1, [.slice p ws.length c, .slice (some ⟨w0.heap.size, 0, none⟩) (ws.length + 1) (ws.length + 1)]⟩ :: ⟨22, 1, some ⟨w0.heap.size, 0, none⟩, ws.length + 1, ws.length + 1, tv g.2⟩ :: (tz g.2)) ∧ Below w0.heap.size w0 w) (fun g => ws.length + 1 - g.1) ((0, T)) (Sub.cons rfl (Sub.nil _)) (Sub.cons rfl (Sub.cons rfl (Sub.cons rfl (Sub.nil _)))) ?_ ?_
      · exact ⟨⟨Nat.zero_le _, hDq0⟩, hM, hB⟩
      rintro ⟨i, T⟩ w7 ⟨⟨hi, hDq⟩, hM, hB⟩
      try simp only at hM
      simp only [List.cons_append, List.nil_append]
      simp only at hi hDq
      have hTl := hDq.len
      have hDq1 := hDq
      refine W.seq ?_
      refine W.seqR ?_
      refine LS.vv rfl rfl (by decide) (Val.move rfl) ?_
      refine LS.vv rfl rfl (by decide) (Val.move rfl) ?_
      first | refine LS.vv rfl rfl (by decide) (Val.addN rfl rfl (by omega)) ?_ | refine LS.vv rfl rfl (by decide) (Val.add64 rfl rfl (by omega)) ?_
      refine LS.vv rfl rfl (by decide) (Val.move rfl) ?_
      refine LS.vv rfl rfl (by decide) (Val.leq rfl rfl) ?_
      refine LS.nil ?_
      first | refine W.condD rfl (fun hc3 => ?_) (fun hc3 => ?_) | refine W.cond rfl (fun hc3 => ?_) (fun hc3 => ?_)
      ·
        refine W.skip ?_
        refine thenP_normal ?_
        refine W.seq ?_
        refine W.block ?_
        refine W.seqR ?_
        refine LS.vv rfl rfl (by decide) (Val.move rfl) ?_
        refine LS.vv rfl rfl (by decide) (Val.move rfl) ?_
        first | refine LS.vv rfl rfl (by decide) (Val.addN rfl rfl (by omega)) ?_ | refine LS.vv rfl rfl (by decide) (Val.add64 rfl rfl (by omega)) ?_
        refine LS.vv rfl rfl (by decide) (Val.assign rfl) ?_
        refine LS.nil ?_
        refine W.seqR ?_
        refine LS.vv rfl rfl (by decide) (Val.assign rfl) ?_
        refine LS.nil ?_
        refine W.seq ?_
        refine W.seqR ?_
        refine LS.vv rfl rfl (by decide) (Val.move rfl) ?_
        first | refine LS.vv rfl rfl (by decide) (Val.addN (j := 1) rfl rfl (by omega)) ?_ | refine LS.vv rfl rfl (by decide) (Val.add64 rfl rfl (by omega)) ?_
        refine LS.vv rfl rfl (by decide) (Val.assign rfl) ?_
        refine LS.nil ?_
        refine W.block ?_
        replace hM := front hM (j := i) (by omega)
        have hri := hDq.rows i (by omega)
        refine W.loop (α := Nat × Int) (fun g => [(9, .int .i64 g.2), (10, .int .i64 (g.1 : Int))]) [(3, _), (4, _), (6, _), (7, _), (8, _)] (fun g w => (i < g.1 ∧ g.1 ≤ i + sz ∧ (g.1 = i + 1 ∧ g.2 = -1 ∨ i + 1 < g.1 ∧ ∃ v : Nat, g.2 = (v : Int) ∧ (∀ k2, i < k2 → k2 < g.1 → v ≤ tab T i k2 + tab T k2 (i + sz)) ∧ ∃ k2, i < k2 ∧ k2 < g.1 ∧ v = tab T i k2 + tab T k2 (i + sz))) ∧ Mz w w0.heap.size (⟨2, 1, (gT T i).p, (gT T i).l.length, (gT T i).c, nv (gT T i).l⟩ :: ⟨47, 2, some ⟨gg2, 0, none⟩, 1, 1, [.slice p ws.length c, .slice (some ⟨w0.heap.size, 0, none⟩) (ws.length + 1) (ws.length + 1)]⟩ :: ⟨22, 1, some ⟨w0.heap.size, 0, none⟩, ws.length + 1, ws.length + 1, tv T⟩ :: (tz (T.eraseIdx i))) ∧ Below w0.heap.size w0 w) (fun g => i + sz - g.1) ((i + 1, -1)) (Sub.cons rfl (Sub.cons rfl (Sub.nil _))) (Sub.cons rfl (Sub.cons rfl (Sub.cons rfl (Sub.cons rfl (Sub.cons rfl (Sub.nil _)))))) ?_ ?_
        · exact ⟨⟨by simp only; omega, by simp only; omega, .inl ⟨rfl, rfl⟩⟩, hM, hB⟩
        rintro ⟨k, lst⟩ w8 ⟨⟨hik, hks, hlst⟩, hM, hB⟩
        try simp only at hM
        simp only [List.cons_append, List.nil_append]
        simp only at hik hks hlst
        refine W.seq ?_
        refine W.seqR ?_
        refine LS.vv rfl rfl (by decide) (Val.move rfl) ?_
        refine LS.vv rfl rfl (by decide) (Val.move rfl) ?_
        refine LS.vv rfl rfl (by decide) (Val.lss rfl rfl) ?_
        refine LS.nil ?_
        first | refine W.condD rfl (fun hc4 => ?_) (fun hc4 => ?_) | refine W.cond rfl (fun hc4 => ?_) (fun hc4 => ?_)
        ·
          have hbi : gn (gT T i).l k ≤ 67108864 := hDq.lt (i := i) (j := k) (by omega) h8 (by omega)
          have hbk : gn (gT T k).l (i + sz) ≤ 67108864 := hDq.lt (i := k) (j := i + sz) (by omega) h8 (by omega)
          have hrk := hDq.rows k (by omega)
          refine W.skip ?_
          refine thenP_normal ?_
          refine W.seq ?_
          refine W.block ?_
          refine W.seqT (S := fun w => Below w0.heap.size w0 w ∧ Mz w w0.heap.size _) (.val 0 (.val 1 (.val 2 (.val 3 (.val 4 (.val 5 (.val 6 (.val 7 (.val 8 (.val 9 (.val 10 (.val 11 (.val 12 (.val 13 (.val 14 (.val 15 (.val 16 (.val 17 (.val 18 (.val 19 (.val 20 (.val 21 (.done))))))))))))))))))))))) mixed (by kernel_rfl) ⟨hB.drew, hM.drew⟩ ?_
          replace hB := hB.drew
          replace hM := hM.drew
          refine DT.vv rfl rfl rfl (by decide) (Val.move rfl) ?_
          first | refine DT.vv rfl rfl rfl (by decide) (Val.nilCheck rfl) ?_ | refine DT.vv rfl rfl rfl (by decide) (Val.nilCheckP rfl) ?_
          refine DT.vv rfl rfl rfl (by decide) (Val.fieldAddr0 fld47_1 rfl) ?_
          refine DT.vv rfl rfl rfl (by decide) (Val.load flat45 rfl (fun _ h => h.2.o1.rd) (rfl)) ?_
          refine DT.vv rfl rfl rfl (by decide) (Val.move rfl) ?_
          refine DT.vv rfl rfl rfl (by decide) (Val.index1 Try.underlying45 elem22 rfl rfl (by omega) (hM.o2.rd) (by rw [tv_len]; omega)) ?_
          refine DT.vv rfl rfl rfl (by decide) (Val.load flat22 rfl (fun _ h => h.2.o2.rd) (tv_at (by omega))) ?_
          refine DT.vv rfl rfl rfl (by decide) (Val.move rfl) ?_
          refine DT.vv rfl rfl rfl (by decide) (Val.index1 Try.underlying22 elem2 rfl rfl (by omega) ((txF (j := i) (k := i) (by omega) (by omega) hM)) (nv_lt (by omega))) ?_
          refine DT.vv rfl rfl rfl (by decide) (Val.load flat2 rfl (fun _ h => (txF (j := i) (k := i) (by omega) (by omega) h.2)) (nv_at (by omega))) ?_
          refine DT.vv rfl rfl rfl (by decide) (Val.move rfl) ?_
          first | refine DT.vv rfl rfl rfl (by decide) (Val.nilCheck rfl) ?_ | refine DT.vv rfl rfl rfl (by decide) (Val.nilCheckP rfl) ?_
          refine DT.vv rfl rfl rfl (by decide) (Val.fieldAddr0 fld47_1 rfl) ?_
          refine DT.vv rfl rfl rfl (by decide) (Val.load flat45 rfl (fun _ h => h.2.o1.rd) (rfl)) ?_
          refine DT.vv rfl rfl rfl (by decide) (Val.move rfl) ?_
          refine DT.vv rfl rfl rfl (by decide) (Val.index1 Try.underlying45 elem22 rfl rfl (by omega) (hM.o2.rd) (by rw [tv_len]; omega)) ?_
          refine DT.vv rfl rfl rfl (by decide) (Val.load flat22 rfl (fun _ h => h.2.o2.rd) (tv_at (by omega))) ?_
          refine DT.vv rfl rfl rfl (by decide) (Val.move rfl) ?_
          refine DT.vv rfl rfl rfl (by decide) (Val.index1 Try.underlying22 elem2 rfl rfl (by omega) ((txF (j := i) (k := k) (by omega) (by omega) hM)) (nv_lt (by omega))) ?_
          refine DT.vv rfl rfl rfl (by decide) (Val.load flat2 rfl (fun _ h => (txF (j := i) (k := k) (by omega) (by omega) h.2)) (nv_at (by omega))) ?_
          first | refine DT.vv rfl rfl rfl (by decide) (Val.addN rfl rfl (by omega)) ?_ | refine DT.vv rfl rfl rfl (by decide) (Val.add64 rfl rfl (by omega)) ?_
          refine DT.vv rfl rfl rfl (by decide) (Val.assign rfl) ?_
          refine DT.nil ?_
          refine W.seqR ?_
          refine LS.vv rfl rfl (by decide) (Val.move rfl) ?_
          refine LS.vv rfl rfl (by decide) (Val.lss rfl rfl) ?_
          refine LS.vv rfl rfl (by decide) (Val.move rfl) ?_
          refine LS.split 2 rfl (fun hg5 => ?_) (fun hg5 => ?_)
          ·
            first | (have hg5p := of_decide_eq_true hg5) | skip
            refine LS.s rfl rfl rfl hg5 (by decide) ?_
            refine LS.s rfl rfl rfl hg5 (by decide) ?_
            refine LS.s rfl rfl rfl hg5 (by decide) ?_
            refine LS.vv rfl rfl (by decide) (Val.pickT rfl hg5 rfl) ?_
            refine LS.nil ?_
            refine W.condT rfl ?_
            refine W.reg ?_
            refine LS.vv rfl rfl (by decide) (Val.move rfl) ?_
            refine LS.vv rfl rfl (by decide) (Val.assign rfl) ?_
            refine LS.nil ?_
            refine inBlk_normal ?_
            refine thenP_normal ?_
            refine W.reg ?_
            refine LS.vv rfl rfl (by decide) (Val.move rfl) ?_
            first | refine LS.vv rfl rfl (by decide) (Val.addN (j := 1) rfl rfl (by omega)) ?_ | refine LS.vv rfl rfl (by decide) (Val.add64 rfl rfl (by omega)) ?_
            refine LS.vv rfl rfl (by decide) (Val.assign rfl) ?_
            refine LS.nil ?_
            refine thenP_normal ?_
            have hx : (gn (gT T i).l k : Int) + (gn (gT T k).l (i + sz) : Int) = ((tab T i k + tab T k (i + sz) : Nat) : Int) := rfl
            first
              | (refine ⟨(k + 1, ((tab T i k + tab T k (i + sz) : Nat) : Int)), (Sub.cons rfl (Sub.cons rfl (Sub.nil _))), (by repeat (first | exact Sub.nil _ | refine Sub.cons rfl ?_)), ⟨⟨by simp only; omega, by simp only; omega, .inr ⟨by simp only; omega, _, rfl, fun k2 q1 q2 => ?_, k, by omega, by simp only; omega, rfl⟩⟩, hM, hB⟩, by simp only; omega⟩; by_cases e1 : k2 = k; (subst e1; exact Nat.le_refl _); (rcases hlst with ⟨z1, z2⟩ | ⟨z1, v, z2, z3, z4⟩; (exfalso; simp only at q2; omega); (have := z3 k2 q1 (by simp only at q2; omega); omega)))
              | (rcases hlst with ⟨z1, z2⟩ | ⟨z1, v, z2, z3, k3, y1, y2, y3⟩; (exfalso; omega); (subst z2; refine ⟨(k + 1, (v : Int)), (Sub.cons rfl (Sub.cons rfl (Sub.nil _))), (by repeat (first | exact Sub.nil _ | refine Sub.cons rfl ?_)), ⟨⟨by simp only; omega, by simp only; omega, .inr ⟨by simp only; omega, v, rfl, fun k2 q1 q2 => ?_, k3, y1, by simp only; omega, y3⟩⟩, hM, hB⟩, by simp only; omega⟩; by_cases e1 : k2 = k; (subst e1; omega); exact z3 k2 q1 (by simp only at q2; omega)))
          ·
            first | (have hg5p := of_decide_eq_false hg5) | skip
            refine LS.vg rfl rfl rfl hg5 (by decide) (Val.move rfl) ?_
            refine LS.vg rfl rfl rfl hg5 (by decide) (Val.move rfl) ?_
            refine LS.vg rfl rfl rfl hg5 (by decide) (Val.lss rfl rfl) ?_
            refine LS.vv rfl rfl (by decide) (Val.pickF rfl hg5 rfl) ?_
            refine LS.nil ?_
            first | refine W.condD rfl (fun hc6 => ?_) (fun hc6 => ?_) | refine W.cond rfl (fun hc6 => ?_) (fun hc6 => ?_)
            ·
              refine W.reg ?_
              refine LS.vv rfl rfl (by decide) (Val.move rfl) ?_
              refine LS.vv rfl rfl (by decide) (Val.assign rfl) ?_
              refine LS.nil ?_
              refine inBlk_normal ?_
              refine thenP_normal ?_
              refine W.reg ?_
              refine LS.vv rfl rfl (by decide) (Val.move rfl) ?_
              first | refine LS.vv rfl rfl (by decide) (Val.addN (j := 1) rfl rfl (by omega)) ?_ | refine LS.vv rfl rfl (by decide) (Val.add64 rfl rfl (by omega)) ?_
              refine LS.vv rfl rfl (by decide) (Val.assign rfl) ?_
              refine LS.nil ?_
              refine thenP_normal ?_
              have hx : (gn (gT T i).l k : Int) + (gn (gT T k).l (i + sz) : Int) = ((tab T i k + tab T k (i + sz) : Nat) : Int) := rfl
              first
                | (refine ⟨(k + 1, ((tab T i k + tab T k (i + sz) : Nat) : Int)), (Sub.cons rfl (Sub.cons rfl (Sub.nil _))), (by repeat (first | exact Sub.nil _ | refine Sub.cons rfl ?_)), ⟨⟨by simp only; omega, by simp only; omega, .inr ⟨by simp only; omega, _, rfl, fun k2 q1 q2 => ?_, k, by omega, by simp only; omega, rfl⟩⟩, hM, hB⟩, by simp only; omega⟩; by_cases e1 : k2 = k; (subst e1; exact Nat.le_refl _); (rcases hlst with ⟨z1, z2⟩ | ⟨z1, v, z2, z3, z4⟩; (exfalso; simp only at q2; omega); (have := z3 k2 q1 (by simp only at q2; omega); omega)))
                | (rcases hlst with ⟨z1, z2⟩ | ⟨z1, v, z2, z3, k3, y1, y2, y3⟩; (exfalso; omega); (subst z2; refine ⟨(k + 1, (v : Int)), (Sub.cons rfl (Sub.cons rfl (Sub.nil _))), (by repeat (first | exact Sub.nil _ | refine Sub.cons rfl ?_)), ⟨⟨by simp only; omega, by simp only; omega, .inr ⟨by simp only; omega, v, rfl, fun k2 q1 q2 => ?_, k3, y1, by simp only; omega, y3⟩⟩, hM, hB⟩, by simp only; omega⟩; by_cases e1 : k2 = k; (subst e1; omega); exact z3 k2 q1 (by simp only at q2; omega)))
            ·
              refine W.skip ?_
              refine inBlk_normal ?_
              refine thenP_normal ?_
              refine W.reg ?_
              refine LS.vv rfl rfl (by decide) (Val.move rfl) ?_
              first | refine LS.vv rfl rfl (by decide) (Val.addN (j := 1) rfl rfl (by omega)) ?_ | refine LS.vv rfl rfl (by decide) (Val.add64 rfl rfl (by omega)) ?_
              refine LS.vv rfl rfl (by decide) (Val.assign rfl) ?_
              refine LS.nil ?_
              refine thenP_normal ?_
              have hx : (gn (gT T i).l k : Int) + (gn (gT T k).l (i + sz) : Int) = ((tab T i k + tab T k (i + sz) : Nat) : Int) := rfl
              first
                | (refine ⟨(k + 1, ((tab T i k + tab T k (i + sz) : Nat) : Int)), (Sub.cons rfl (Sub.cons rfl (Sub.nil _))), (by repeat (first | exact Sub.nil _ | refine Sub.cons rfl ?_)), ⟨⟨by simp only; omega, by simp only; omega, .inr ⟨by simp only; omega, _, rfl, fun k2 q1 q2 => ?_, k, by omega, by simp only; omega, rfl⟩⟩, hM, hB⟩, by simp only; omega⟩; by_cases e1 : k2 = k; (subst e1; exact Nat.le_refl _); (rcases hlst with ⟨z1, z2⟩ | ⟨z1, v, z2, z3, z4⟩; (exfalso; simp only at q2; omega); (have := z3 k2 q1 (by simp only at q2; omega); omega)))
                | (rcases hlst with ⟨z1, z2⟩ | ⟨z1, v, z2, z3, k3, y1, y2, y3⟩; (exfalso; omega); (subst z2; refine ⟨(k + 1, (v : Int)), (Sub.cons rfl (Sub.cons rfl (Sub.nil _))), (by repeat (first | exact Sub.nil _ | refine Sub.cons rfl ?_)), ⟨⟨by simp only; omega, by simp only; omega, .inr ⟨by simp only; omega, v, rfl, fun k2 q1 q2 => ?_, k3, y1, by simp only; omega, y3⟩⟩, hM, hB⟩, by simp only; omega⟩; by_cases e1 : k2 = k; (subst e1; omega); exact z3 k2 q1 (by simp only at q2; omega)))
        ·
          obtain rfl : k = i + sz := by omega
          obtain ⟨v, rfl, hvle, hvat⟩ : ∃ v : Nat, lst = (v : Int) ∧ (∀ k2, i < k2 → k2 < i + sz → v ≤ tab T i k2 + tab T k2 (i + sz)) ∧ ∃ k2, i < k2 ∧ k2 < i + sz ∧ v = tab T i k2 + tab T k2 (i + sz) := by rcases hlst with ⟨h1, _⟩ | ⟨_, h⟩; (exfalso; omega); exact h
          have hvb : v ≤ 134217728 := by obtain ⟨k2, q1, q2, q3⟩ := hvat; have q4 := hDq.lt (i := i) (j := k2) (by omega) h8 (by omega); have q5 := hDq.lt (i := k2) (j := i + sz) (by omega) h8 (by omega); omega
          have hsr := sumR_le hw i sz
          have hsr2 : sumR ws i sz ≤ 8388608 := by omega
          refine W.exit ?_
          refine thenP_exit ?_
          refine thenP_exit ?_
          refine inBlk_exit ?_
          refine thenP_normal ?_
          refine W.regT (S := fun w => Below w0.heap.size w0 w ∧ Mz w w0.heap.size _) (.val 0 (.val 1 (.val 2 (.val 3 (.val 4 (.val 5 (.val 6 (.val 7 (.val 8 (.val 9 (.val 10 (.val 11 (.mem 12 (.val 13 (.val 14 (.mem 15 (.done))))))))))))))))) mixed (by kernel_rfl) ⟨hB.drew, hM.drew.er0⟩ ?_
          replace hB := hB.drew
          replace hM := hM.drew
          refine DT.vv rfl rfl rfl (by decide) (Val.move rfl) ?_
          first | refine DT.vv rfl rfl rfl (by decide) (Val.nilCheck rfl) ?_ | refine DT.vv rfl rfl rfl (by decide) (Val.nilCheckP rfl) ?_
          refine DT.vv rfl rfl rfl (by decide) (Val.fieldAddr0 fld47_1 rfl) ?_
          refine DT.vv rfl rfl rfl (by decide) (Val.load flat45 rfl (fun _ h => h.2.o0.rd) (rfl)) ?_
          refine DT.vv rfl rfl rfl (by decide) (Val.move rfl) ?_
          refine DT.vv rfl rfl rfl (by decide) (Val.index1 Try.underlying45 elem22 rfl rfl (by omega) (hM.o2.rd) (by rw [tv_len]; omega)) ?_
          refine DT.vv rfl rfl rfl (by decide) (Val.load flat22 rfl (fun _ h => h.2.o1.rd) (tv_at (by omega))) ?_
          refine DT.vv rfl rfl rfl (by decide) (Val.move rfl) ?_
          refine DT.vv rfl rfl rfl (by decide) (Val.move rfl) ?_
          refine DT.vv rfl rfl rfl (by decide) (Val.move rfl) ?_
          refine DT.vv rfl rfl rfl (by decide) (Val.move rfl) ?_
          refine DT.vv rfl rfl rfl (by decide) (Val.move rfl) ?_
          refine DT.m rfl rfl (Step.call body33 rfl rfl (by decide) rfl (CallsV.mono (bsum_any ws p _ _ c ws.length _ _ i (i + sz) _ hM.o1.rd (hr.below hB) rfl hmc (by omega) (by omega) h8 hw) ?_))
          rintro _ w9 ⟨rfl, hb9⟩
          replace hM := hM.below hb9
          replace hB := hB.trans (hb9.mono hB.size)
          rw [show i + sz - i = sz by omega]
          refine ⟨⟨hB, hM.er0⟩, ?_⟩
          first | refine DT.vv rfl rfl rfl (by decide) (Val.addN rfl rfl (by omega)) ?_ | refine DT.vv rfl rfl rfl (by decide) (Val.add64 rfl rfl (by omega)) ?_
          refine DT.vv rfl rfl rfl (by decide) (Val.index1 Try.underlying22 elem2 rfl rfl (by omega) (hM.o0.rd) (nv_lt (by omega))) ?_
          refine DT.m rfl rfl (Step.storeZ (B := w0.heap.size) rfl rfl flat2 elem2 rfl rfl rfl (hM.o0) (by first | decide | (simp; done) | (simp; omega) | omega) hB.size ?_)
          rintro w10 hO10 hg10 hbl10 hsz10
          replace hM := hM.s0 (e := _) hg10 hO10 inl_block
          try simp only [nv_app1, nv_app, nv_set, nv_rep, nv_one, nv_cons, nv_take, nv_drop, List.nil_append] at hM
          try simp only [List.set_cons_zero, List.set_cons_succ] at hM
          replace hB := hB.trans hbl10
          refine ⟨⟨hB, hM.er0⟩, ?_⟩
          refine DT.nil ?_
          refine inBlk_normal ?_
          refine thenP_normal ?_
          refine W.reg ?_
          refine LS.vv rfl rfl (by decide) (Val.move rfl) ?_
          first | refine LS.vv rfl rfl (by decide) (Val.addN (j := 1) rfl rfl (by omega)) ?_ | refine LS.vv rfl rfl (by decide) (Val.add64 rfl rfl (by omega)) ?_
          refine LS.vv rfl rfl (by decide) (Val.assign rfl) ?_
          refine LS.nil ?_
          refine thenP_normal ?_
          replace hM := back (T := T) (j := i) (by omega) (by simp) hM
          refine ⟨(i + 1, putT T i ((gT T i).l.set (i + sz) (v + sumR ws i sz))), ?_, ?_, ⟨⟨by simp only; omega, hDq.step hsz h8 hw (by omega) hvle hvat⟩, hM, hB⟩, by simp only; omega⟩
          · exact (Sub.cons rfl (Sub.nil _))
          · repeat (first | exact Sub.nil _ | refine Sub.cons rfl ?_)
      ·
        refine W.exit ?_
        refine thenP_exit ?_
        refine thenP_exit ?_
        refine inBlk_exit ?_
        refine inBlk_normal ?_
        refine thenP_normal ?_
        refine W.reg ?_
        refine LS.vv rfl rfl (by decide) (Val.move rfl) ?_
        first | refine LS.vv rfl rfl (by decide) (Val.addN (j := 1) rfl rfl (by omega)) ?_ | refine LS.vv rfl rfl (by decide) (Val.add64 rfl rfl (by omega)) ?_
        refine LS.vv rfl rfl (by decide) (Val.assign rfl) ?_
        refine LS.nil ?_
        refine thenP_normal ?_
        refine ⟨(sz + 1, T), ?_, ?_, ⟨⟨by simp only; omega, .inl (by simp only; omega), hDq1.next (by omega)⟩, hM, hB⟩, by simp only; omega⟩
        · exact (Sub.cons rfl (Sub.nil _))
        · repeat (first | exact Sub.nil _ | refine Sub.cons rfl ?_)
    ·
      refine W.exit ?_
      refine thenP_exit ?_
      refine thenP_exit ?_
      refine inBlk_exit ?_
      refine thenP_normal ?_
      refine W.seqR ?_
      refine LS.vv rfl rfl (by decide) (Val.move rfl) ?_
      refine LS.vv rfl rfl (by decide) (Val.assign rfl) ?_
      refine LS.nil ?_
      refine W.ret ?_
      refine ret1 (by first | exact .inl rfl | exact .inr rfl) rfl ?_
      have hdn := hDq0.done (by omega)
      exact ⟨_, _, _, T, rfl, hM, hdn, hDq0.len, hDq0.rows, hB⟩

end Go.Proofs.Ytohflgcbpmoinaa
