/-
  The pair of sites: put.
-/
import Derived.Test.YtldcpihjoakigaaPair
namespace Go.Proofs.Ytldcpihjoakigaa
open Go Go.RowKit V
set_option linter.unusedVariables false
set_option linter.unusedSimpArgs false

theorem put_any (d B : Nat) (q : PG) (s : PS) (S : List Oz) (w0 : World) (hI : PI w0 B d q s S) (hB0 : B ≤ w0.heap.size) (hk : PK d s) (a : Nat) (ha : a ≤ s.l.put) :
    CallsV Try.prog 35 #[.pointer (some ⟨q.g, 0, none⟩), .int .i64 (a : Int)] w0 (fun v w => PI w B d q { s with D1 := pputs d s.t1 (wsl s.l a) s.D1 } S ∧ Below B w0 w) := by
  refine enter0 Try.func35 rfl Try.ntmps35 (by simp) rfl ?_
  have hB := Below.refl B w0
  simp only [argLoc, Nat.zero_add]
  obtain ⟨T0, T1, pw, cw, hM, hD0, hT0, hD1, hT1⟩ := hI.ex
  have k1 := hk.put; have k2 := hk.got; have k3 := hk.sent; have k4 := hk.wr; have k5 := hk.main; have hd3 := hk.hd3; have hd6 := hk.hd6
  have hs0 : Shape d (dT T0) := by rw [hD0]; exact hk.sh0
  have hs1 : Shape d (dT T1) := by rw [hD1]; exact hk.sh1
  have hcw := hM.o1.le_cap
  have hwl := wsl_len s.l (a := a) (by omega)
  generalize hWL : wsl s.l a = WL at *
  refine W.seqFz 14 [(0, true), (1, true), (2, true), (3, true), (4, true), (5, true), (6, true), (7, true), (8, true), (9, true), (10, true), (11, true), (12, true), (13, true)] mixed (by kernel_rfl) hB hM ?_
  replace hB := hB.drew
  replace hM := hM.drew
  refine DF.vv rfl rfl rfl (by decide) (Val.move rfl) ?_
  first | refine DF.vv rfl rfl rfl (by decide) (Val.nilCheck rfl) ?_ | refine DF.vv rfl rfl rfl (by decide) (Val.nilCheckP rfl) ?_
  refine DF.vv rfl rfl rfl (by decide) (Val.fieldAddr0 fld75_0 rfl) ?_
  refine DF.vv rfl rfl rfl (by decide) (Val.fieldAddr fld67_1 rfl (hM.o0.rd) (by simp [lnR])) ?_
  refine DF.vv rfl rfl rfl (by decide) (Val.load flat37 rfl (fun _ h => h.2.o0.rd) (rfl)) ?_
  refine DF.vv rfl rfl rfl (by decide) (Val.move rfl) ?_
  refine DF.vv rfl rfl rfl (by decide) (Val.move rfl) ?_
  first | refine DF.vv rfl rfl rfl (by decide) (Val.nilCheck rfl) ?_ | refine DF.vv rfl rfl rfl (by decide) (Val.nilCheckP rfl) ?_
  refine DF.vv rfl rfl rfl (by decide) (Val.fieldAddr0 fld75_0 rfl) ?_
  refine DF.vv rfl rfl rfl (by decide) (Val.fieldAddr fld67_4 rfl (hM.o0.rd) (by simp [lnR])) ?_
  refine DF.vv rfl rfl rfl (by decide) (Val.load flat3 rfl (fun _ h => h.2.o0.rd) (rfl)) ?_
  refine DF.vv rfl rfl rfl (by decide) (Val.sliceFromToZ Try.underlying37 elem45 rfl rfl rfl (by omega) (by omega)) ?_
  refine DF.vv rfl rfl rfl (by decide) (Val.len Try.underlying37 rfl) ?_
  refine DF.vv rfl rfl rfl (by decide) (Val.cast (v := .int .i64 ((0 : Nat) : Int)) (Val.move rfl) rfl) ?_
  refine DF.nil ?_
  refine W.block ?_
  refine W.loop (α := Nat × List Tx) (fun g => [(19, .int .i64 (g.1 : Int))]) [(0, _), (17, _), (18, _)] (fun g w => (g.1 ≤ s.l.put - a ∧ dT g.2 = pputs d s.t1 (WL.take g.1) s.D1 ∧ g.2.length = d) ∧ Mz w B (pO q s pw cw :: wO s.l pw cw :: arrO q.g0 q.po0 T0.length q.co0 s.t0 :: outO q.po0 q.co0 T0 :: arrO q.g1 q.po1 g.2.length q.co1 s.t1 :: outO q.po1 q.co1 g.2 :: (tz 5 T0 ++ (tz 5 g.2 ++ S))) ∧ Below B w0 w) (fun g => s.l.put - a - g.1) ((0, T1)) (Sub.cons rfl (Sub.nil _)) (Sub.cons rfl (Sub.cons rfl (Sub.cons rfl (Sub.nil _)))) ?_ ?_
  · exact ⟨⟨Nat.zero_le _, hD1, hT1⟩, hM, hB⟩
  rintro ⟨k, Tk⟩ w1 ⟨⟨hkk, hDk, hTk⟩, hM, hB⟩
  try simp only at hM
  simp only [List.cons_append, List.nil_append]
  simp only at hkk hDk hTk
  refine W.seqR ?_
  refine LS.vv rfl rfl (by decide) (Val.lss rfl rfl) ?_
  refine LS.nil ?_
  refine W.seq ?_
  first | refine W.condD rfl (fun hc1 => ?_) (fun hc1 => ?_) | refine W.cond rfl (fun hc1 => ?_) (fun hc1 => ?_)
  ·
    obtain ⟨hg1, hg2⟩ := wsl_gS (s := s.l) (a := a) (k := k) (by omega) (by omega)
    rw [hWL] at hg1 hg2
    obtain ⟨hk1, hk2, hk3⟩ := hk.kept _ hg2
    have hblk : ([.int .i64 (gS WL k).kind, .int .i64 (gS WL k).site, .int .i64 (gS WL k).block, .int .u8 ((gS WL k).val : Int)] : List Value)[2]? = some (.int .i64 (((gS WL k).block.toNat : Nat) : Int)) := by { simp; omega }
    refine W.skip ?_
    refine thenP_normal ?_
    refine W.seq ?_
    refine W.block ?_
    refine W.seqR ?_
    refine LS.vv rfl rfl (by decide) (Val.indexAddr Try.underlying37 elem45 rfl rfl (by omega) ((wrCut hM.o1)) (by rw [sv_len, List.length_drop]; omega)) ?_
    refine LS.m rfl (Step.loadAgg (vs := [.int .i64 (gS WL k).kind, .int .i64 (gS WL k).site, .int .i64 (gS WL k).block, .int .u8 ((gS WL k).val : Int)]) rfl rfl (by decide) agg45 rfl ((wrCut hM.o1)) (by rw [← hg1]; exact (sv_at (by rw [List.length_drop]; omega)).1) rfl (by decide) ?_)
    refine LS.m rfl (Step.allocZ rfl rfl (by decide) elem45 rfl (by decide) ?_)
    rintro w2 hO2 hg2 hbl2 hsz2
    replace hM := hM.add (Nat.le_trans hB0 hB.size) hbl2 hO2
    try simp only [List.length_cons, List.length_nil, Nat.zero_add, Nat.reduceAdd, Value.cells, List.toList_toArray, List.append_nil, List.set_cons_zero, List.set_cons_succ] at hM
    replace hB := hB.trans (hbl2.mono (Nat.le_trans hB0 hB.size))
    generalize w1.heap.size = gg2 at *
    refine LS.m rfl (Step.storeAgg0 (B := B) rfl rfl agg45 rfl rfl rfl (by decide) (by first | exact one_map _ (fun _ => rfl) _ | simp [Value.oneCell']) (hM.o0) rfl (Nat.le_trans hB0 hB.size) ?_)
    rintro w3 hO3 hg3 hbl3 hsz3
    replace hM := hM.s0 (e := _) hg3 hO3 inl_block
    try simp only [List.set_cons_zero, List.set_cons_succ] at hM
    replace hB := hB.trans hbl3
    refine LS.nil ?_
    refine W.regFz 9 [(0, true), (1, true), (2, true), (3, true), (4, true), (5, true), (6, true), (7, true), (8, true), (9, false)] mixed (by kernel_rfl) hB hM ?_
    replace hB := hB.drew
    replace hM := hM.drew
    refine DF.vv rfl rfl rfl (by decide) (Val.move rfl) ?_
    first | refine DF.vv rfl rfl rfl (by decide) (Val.nilCheck rfl) ?_ | refine DF.vv rfl rfl rfl (by decide) (Val.nilCheckP rfl) ?_
    refine DF.vv rfl rfl rfl (by decide) (Val.fieldAddr0 fld75_1 rfl) ?_
    refine DF.vv rfl rfl rfl (by decide) (Val.indexArrZ (j := 1) (q := 6) Try.underlying73 elem59 rfl rfl hM.o1.rd (by simp [lnR]) (by decide)) ?_
    refine DF.vv rfl rfl rfl (by decide) (Val.load flat59 rfl (fun _ h => h.2.o1.rd) (rfl)) ?_
    refine DF.vv rfl rfl rfl (by decide) (Val.fieldAddr0 fld45_2 rfl) ?_
    refine DF.vv rfl rfl rfl (by decide) (Val.load flat3 rfl (fun _ h => h.2.o0.rd) (hblk)) ?_
    refine DF.vv rfl rfl rfl (by decide) (Val.fieldAddr0 fld45_3 rfl) ?_
    refine DF.vv rfl rfl rfl (by decide) (Val.load flat5 rfl (fun _ h => h.2.o0.rd) (rfl)) ?_
    refine DF.m rfl rfl (Step.call body30 rfl rfl (by decide) rfl (CallsV.mono (Write_any Tk s.t1 q.po1 q.g1 q.co1 d B _ _ (to1_5 hM) (Nat.le_trans hB0 hB.size) hTk (by rw [hDk]; exact pputs_shape hd3 hd6 _ _ (fun x hx => hk.kept x (by rw [← hWL] at hx; exact wsl_mem (List.mem_of_mem_take hx))) hk.sh1) hd3 hd6 (gS WL k).block.toNat (gS WL k).val (by omega) (by omega)) ?_))
    rintro _ w4 ⟨T2, hM4, hT2, hl2, hb4⟩
    replace hM := (from1_5 hM4).tail
    replace hB := hB.trans hb4
    refine ⟨fun h => absurd rfl h, ?_⟩
    refine DF.nil ?_
    refine inBlk_normal ?_
    refine thenP_normal ?_
    refine W.reg ?_
    first | refine LS.vv rfl rfl (by decide) (Val.addN (j := 1) rfl rfl (by omega)) ?_ | refine LS.vv rfl rfl (by decide) (Val.add64 rfl rfl (by omega)) ?_
    refine LS.vv rfl rfl (by decide) (Val.move rfl) ?_
    refine LS.nil ?_
    refine thenP_normal ?_
    refine ⟨(k + 1, T2), ?_, ?_, ⟨⟨by simp only; omega, by simp only; rw [hT2, hDk, pputs_take (by omega)], hl2⟩, hM, hB⟩, by simp only; omega⟩
    · exact (Sub.cons rfl (Sub.nil _))
    · repeat (first | exact Sub.nil _ | refine Sub.cons rfl ?_)
  ·
    refine W.exit ?_
    refine thenP_exit ?_
    refine thenP_exit ?_
    refine inBlk_exit ?_
    refine ret0 (by first | exact .inl rfl | exact .inr rfl) ?_
    obtain rfl : k = s.l.put - a := by omega
    rw [← hwl, List.take_length] at hDk
    exact ⟨⟨T0, Tk, pw, cw, hM, hD0, hT0, hDk, hTk⟩, hB⟩

end Go.Proofs.Ytldcpihjoakigaa
