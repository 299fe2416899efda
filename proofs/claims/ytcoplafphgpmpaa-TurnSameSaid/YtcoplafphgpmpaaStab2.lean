/-
  Stable sorting: insertion.
-/
import Derived.Test.YtcoplafphgpmpaaStab1
namespace Go.Proofs.Ytcoplafphgpmpaa
open Go Go.RowKit V
set_option linter.unusedVariables false
set_option linter.unusedSimpArgs false

theorem insertion_any (key : Nat → Nat) (P A S : List Nat) (a b : Nat) (f : FuncId) (cap : Array Value) (p : Option Addr) (n c B : Nat) (Z : List Ob) (wb w0 : World) (hM0 : Mem w0 B (⟨3, p, n, c, nv (P ++ (A ++ S))⟩ :: Z)) (hB0 : B ≤ w0.heap.size) (hC : CmpOk key f cap p n c B Z wb) (hwb : Below B wb w0) (ha : P.length = a) (hb : a + A.length = b) (hn : P.length + (A.length + S.length) = n) (hn2 : n ≤ 64) (hA : A.Pairwise (· < ·)) (hAn : ∀ x ∈ A, x < n) :
    CallsV Try.prog 59 #[.slice p n c, .int .i64 (a : Int), .int .i64 (b : Int), .func (.func f) #[] cap] w0 (fun v w => ∃ X : List Nat, v = .tuple #[] ∧ Mem w B (⟨3, p, n, c, nv (P ++ (X ++ S))⟩ :: Z) ∧ X.Perm A ∧ Srt (KK key) X ∧ Below B w0 w) := by
  refine enter0 Try.func59 rfl Try.ntmps59 (by simp) rfl ?_
  have hB := Below.refl B w0
  simp only [argLoc, Nat.zero_add, Nat.reduceAdd]
  have hM := hM0
  subst ha
  refine W.seqR ?_
  refine LS.vv rfl rfl (by decide) (Val.move rfl) ?_
  first | refine LS.vv rfl rfl (by decide) (Val.addN (j := 1) rfl rfl (by first | omega | (simp only [List.length_set]; omega))) ?_ | refine LS.vv rfl rfl (by decide) (Val.add64 rfl rfl (by first | omega | (simp only [List.length_set]; omega))) ?_
  refine LS.vv rfl rfl (by decide) (Val.assign rfl) ?_
  refine LS.nil ?_
  refine W.block ?_
  rw [show A ++ S = A.take 1 ++ (A.drop 1 ++ S) from by rw [← List.append_assoc, List.take_append_drop]] at hM
  refine W.loop (α := Nat × List Nat) (fun g => [(8, .int .i64 ((P.length + g.1 : Nat) : Int))]) [(0, _), (1, _), (2, _), (3, _)] (fun g w => (1 ≤ g.1 ∧ (g.1 ≤ A.length ∨ g.1 = 1) ∧ g.2.Perm (A.take g.1) ∧ Srt (KK key) g.2) ∧ Mem w B (⟨3, p, n, c, nv (P ++ (g.2 ++ (A.drop g.1 ++ S)))⟩ :: Z) ∧ Below B w0 w) (fun g => A.length - g.1) ((1, A.take 1)) (Sub.cons rfl (Sub.nil _)) (Sub.cons rfl (Sub.cons rfl (Sub.cons rfl (Sub.cons rfl (Sub.nil _))))) ?_ ?_
  · exact ⟨⟨Nat.le_refl _, .inr rfl, List.Perm.refl _, srt_take1 _ _⟩, hM, hB⟩
  rintro ⟨t, X⟩ w1 ⟨⟨ht1, ht, hX, hXs⟩, hM, hB⟩
  try simp only at hM
  simp only [List.cons_append, List.nil_append]
  simp only at ht1 ht hX hXs
  have hXl := hX.length_eq
  rw [List.length_take] at hXl
  refine W.seq ?_
  refine W.seqR ?_
  refine LS.vv rfl rfl (by decide) (Val.move rfl) ?_
  refine LS.vv rfl rfl (by decide) (Val.move rfl) ?_
  refine LS.vv rfl rfl (by decide) (Val.lss rfl rfl) ?_
  refine LS.nil ?_
  first | refine W.condD rfl (fun hc1 => ?_) (fun hc1 => ?_) | refine W.cond rfl (fun hc1 => ?_) (fun hc1 => ?_)
  ·
    refine W.skip ?_
    refine thenP_normal ?_
    refine W.seq ?_
    refine W.block ?_
    refine W.seqR ?_
    refine LS.vv rfl rfl (by decide) (Val.move rfl) ?_
    refine LS.vv rfl rfl (by decide) (Val.assign rfl) ?_
    refine LS.nil ?_
    refine W.block ?_
    rw [drop_at A (k := t) (by omega)] at hM
    simp only [List.cons_append] at hM
    have hXt : X.length = t := by omega
    refine W.loop (α := Nat × List Nat × List Nat) (fun g => [(9, .int .i64 (g.1 : Int))]) [(0, _), (1, _), (2, _), (3, _), (8, _)] (fun g w => (g.2.1 ++ g.2.2 = X ∧ (∀ y ∈ g.2.2, KK key (gn A t) < KK key y) ∧ g.1 = P.length + g.2.1.length) ∧ Mem w B (⟨3, p, n, c, nv (P ++ (g.2.1 ++ (gn A t :: (g.2.2 ++ (A.drop (t + 1) ++ S)))))⟩ :: Z) ∧ Below B w0 w) (fun g => g.1) ((P.length + t, X, [])) (Sub.cons rfl (Sub.nil _)) (Sub.cons rfl (Sub.cons rfl (Sub.cons rfl (Sub.cons rfl (Sub.cons rfl (Sub.nil _)))))) ?_ ?_
    · exact ⟨⟨List.append_nil _, by simp, by simp only; omega⟩, hM, hB⟩
    rintro ⟨j, X1, X2⟩ w2 ⟨⟨h12, hy2, hj⟩, hM, hB⟩
    try simp only at hM
    simp only [List.cons_append, List.nil_append]
    simp only at h12 hy2 hj
    have hl12 := congrArg List.length h12
    rw [List.length_append] at hl12
    have hLl : (P ++ (X1 ++ (gn A t :: (X2 ++ (A.drop (t + 1) ++ S))))).length = n := by simp only [List.length_append, List.length_cons, List.length_drop]; omega
    refine W.seq ?_
    refine W.seqF 17 [(0, true), (1, true), (2, true), (3, true), (4, true), (5, true), (6, true), (7, true), (8, true), (9, true), (10, true), (11, true), (12, true), (13, true), (14, false), (15, true), (16, true)] mixed (by kernel_rfl) hB hM ?_
    replace hB := hB.drew
    replace hM := hM.drew
    refine DF.vv rfl rfl rfl (by decide) (Val.move rfl) ?_
    refine DF.vv rfl rfl rfl (by decide) (Val.move rfl) ?_
    refine DF.vv rfl rfl rfl (by decide) (Val.gtr rfl rfl) ?_
    refine DF.vv rfl rfl rfl (by decide) (Val.move rfl) ?_
    refine DF.split 3 rfl (fun hg2 => ?_) (fun hg2 => ?_)
    ·
      first | (have hg2p := of_decide_eq_true hg2) | skip
      refine DF.vg rfl rfl rfl rfl hg2 (by decide) (Val.move rfl) ?_
      refine DF.vg rfl rfl rfl rfl hg2 (by decide) (Val.move rfl) ?_
      refine DF.vg rfl rfl rfl rfl hg2 (by decide) (Val.move rfl) ?_
      refine DF.vg rfl rfl rfl rfl hg2 (by decide) (Val.index1 Try.underlying33 elem3 rfl rfl (by first | omega | (simp only [List.length_set]; omega)) (hM.o0.rd) (nv_lt (by first | omega | (simp only [List.length_set]; omega)))) ?_
      refine DF.vg rfl rfl rfl rfl hg2 (by decide) (Val.load flat3 rfl (fun _ h => h.2.o0.rd) (nv_at (by first | omega | (simp only [List.length_set]; omega)))) ?_
      refine DF.vg rfl rfl rfl rfl hg2 (by decide) (Val.move rfl) ?_
      refine DF.vg rfl rfl rfl rfl hg2 (by decide) (Val.move rfl) ?_
      first | refine DF.vg rfl rfl rfl rfl hg2 (by decide) (Val.subN (j := 1) rfl rfl (by first | omega | (simp only [List.length_set]; omega)) (by first | omega | (simp only [List.length_set]; omega))) ?_ | refine DF.vg rfl rfl rfl rfl hg2 (by decide) (Val.sub64 rfl rfl (by first | omega | (simp only [List.length_set]; omega))) ?_
      refine DF.vg rfl rfl rfl rfl hg2 (by decide) (Val.index1 Try.underlying33 elem3 rfl rfl (by first | omega | (simp only [List.length_set]; omega)) (hM.o0.rd) (nv_lt (by first | omega | (simp only [List.length_set]; omega)))) ?_
      refine DF.vg rfl rfl rfl rfl hg2 (by decide) (Val.load flat3 rfl (fun _ h => h.2.o0.rd) (nv_at (by first | omega | (simp only [List.length_set]; omega)))) ?_
      have hX1 : 0 < X1.length := by omega
      have hgx : gn (P ++ (X1 ++ (gn A t :: (X2 ++ (A.drop (t + 1) ++ S))))) j = gn A t := by rw [hj, gl_r, gl_r0, gl_c]
      have hgy : gn (P ++ (X1 ++ (gn A t :: (X2 ++ (A.drop (t + 1) ++ S))))) (j - 1) = gn X1 (X1.length - 1) := by rw [show j - 1 = P.length + (X1.length - 1) by omega, gl_r, gl_l (by omega)]
      have hym : gn X1 (X1.length - 1) ∈ A.take t := hX.mem_iff.1 (by rw [← h12]; exact List.mem_append_left _ (gn_mem' (by omega)))
      have hylt := lt_take hA (by omega) hym
      have hxn : gn (P ++ (X1 ++ (gn A t :: (X2 ++ (A.drop (t + 1) ++ S))))) j < n := by rw [hgx]; exact hAn _ (gn_mem' (by omega))
      have hyn : gn (P ++ (X1 ++ (gn A t :: (X2 ++ (A.drop (t + 1) ++ S))))) (j - 1) < n := by rw [hgy]; exact hAn _ (List.mem_of_mem_take hym)
      have hk9 := kk_less (key := key) hylt (by rw [hgx] at hxn; omega)
      refine DF.mg rfl rfl rfl hg2 (Step.callV hC.body rfl rfl rfl (by decide) rfl (CallsV.mono (hC.call _ _ _ hxn hyn ⟨_, hM⟩ (hwb.trans hB)) ?_))
      rintro _ w3 ⟨zc, rfl, hzc, hb3⟩
      replace hM := hM.below hb3
      replace hB := hB.trans (hb3.mono (Nat.le_trans hB0 hB.size))
      rw [hgx, hgy] at hzc
      refine ⟨fun _ => ⟨hB, hM⟩, ?_⟩
      refine DF.vg rfl rfl rfl rfl hg2 (by decide) (Val.lss rfl rfl) ?_
      refine DF.vv rfl rfl rfl (by decide) (Val.pickT rfl hg2 rfl) ?_
      refine DF.nil ?_
      first | refine W.condD rfl (fun hc3 => ?_) (fun hc3 => ?_) | refine W.cond rfl (fun hc3 => ?_) (fun hc3 => ?_)
      ·
        refine W.skip ?_
        refine thenP_normal ?_
        refine W.seq ?_
        refine W.block ?_
        refine W.regT (S := fun w => Below B w0 w) (.val 0 (.val 1 (.val 2 (.val 3 (.val 4 (.val 5 (.val 6 (.val 7 (.val 8 (.val 10 (.val 11 (.val 12 (.two (.mem 9 (.mem 13 (.val 14 (.mem 15 (.val 16 (.mem 17 (.done))))))) (.mem 13 (.mem 9 (.val 14 (.mem 15 (.val 16 (.mem 17 (.done)))))))))))))))))))) mixed (by kernel_rfl) hB.drew ?_
        replace hB := hB.drew
        replace hM := hM.drew
        refine DT.vv rfl rfl rfl (by decide) (Val.move rfl) ?_
        refine DT.vv rfl rfl rfl (by decide) (Val.move rfl) ?_
        refine DT.vv rfl rfl rfl (by decide) (Val.move rfl) ?_
        refine DT.vv rfl rfl rfl (by decide) (Val.move rfl) ?_
        first | refine DT.vv rfl rfl rfl (by decide) (Val.subN (j := 1) rfl rfl (by first | omega | (simp only [List.length_set]; omega)) (by first | omega | (simp only [List.length_set]; omega))) ?_ | refine DT.vv rfl rfl rfl (by decide) (Val.sub64 rfl rfl (by first | omega | (simp only [List.length_set]; omega))) ?_
        refine DT.vv rfl rfl rfl (by decide) (Val.move rfl) ?_
        refine DT.vv rfl rfl rfl (by decide) (Val.move rfl) ?_
        first | refine DT.vv rfl rfl rfl (by decide) (Val.subN (j := 1) rfl rfl (by first | omega | (simp only [List.length_set]; omega)) (by first | omega | (simp only [List.length_set]; omega))) ?_ | refine DT.vv rfl rfl rfl (by decide) (Val.sub64 rfl rfl (by first | omega | (simp only [List.length_set]; omega))) ?_
        refine DT.vv rfl rfl rfl (by decide) (Val.index1 Try.underlying33 elem3 rfl rfl (by first | omega | (simp only [List.length_set]; omega)) (hM.o0.rd) (nv_lt (by first | omega | (simp only [List.length_set]; omega)))) ?_
        refine DT.vv rfl rfl rfl (by decide) (Val.move rfl) ?_
        refine DT.vv rfl rfl rfl (by decide) (Val.move rfl) ?_
        refine DT.vv rfl rfl rfl (by decide) (Val.index1 Try.underlying33 elem3 rfl rfl (by first | omega | (simp only [List.length_set]; omega)) (hM.o0.rd) (nv_lt (by first | omega | (simp only [List.length_set]; omega)))) ?_
        refine DT.two ?_ ?_
        ·
          refine DT.m rfl rfl (Step.load rfl rfl (by decide) flat3 rfl (hM.o0.rd) (nv_at (by first | omega | (simp only [List.length_set]; omega))) ?_)
          refine ⟨hB, ?_⟩
          refine DT.m rfl rfl (Step.load rfl rfl (by decide) flat3 rfl (hM.o0.rd) (nv_at (by first | omega | (simp only [List.length_set]; omega))) ?_)
          refine ⟨hB, ?_⟩
          refine DT.vv rfl rfl rfl (by decide) (Val.index1 Try.underlying33 elem3 rfl rfl (by first | omega | (simp only [List.length_set]; omega)) (hM.o0.rd) (nv_lt (by first | omega | (simp only [List.length_set]; omega)))) ?_
          refine DT.m rfl rfl (Step.store (B := B) rfl rfl flat3 elem3 rfl rfl rfl (hM.o0) (by first | omega | (simp only [List.length_set]; omega)) (Nat.le_trans hB0 hB.size) ?_)
          rintro w4 hO4 hg4 hbl4 hsz4
          replace hM := hM.s0 hg4 hO4 inl_block
          try simp only [nv_app1, nv_app, nv_set, nv_rep, nv_one, nv_cons, nv_take, nv_drop, List.nil_append] at hM
          replace hB := hB.trans hbl4
          refine ⟨hB, ?_⟩
          refine DT.vv rfl rfl rfl (by decide) (Val.index1 Try.underlying33 elem3 rfl rfl (by first | omega | (simp only [List.length_set]; omega)) (hM.o0.rd) (nv_lt (by first | omega | (simp only [List.length_set]; omega)))) ?_
          refine DT.m rfl rfl (Step.store (B := B) rfl rfl flat3 elem3 rfl rfl rfl (hM.o0) (by first | omega | (simp only [List.length_set]; omega)) (Nat.le_trans hB0 hB.size) ?_)
          rintro w5 hO5 hg5 hbl5 hsz5
          replace hM := hM.s0 hg5 hO5 inl_block
          try simp only [nv_app1, nv_app, nv_set, nv_rep, nv_one, nv_cons, nv_take, nv_drop, List.nil_append] at hM
          replace hB := hB.trans hbl5
          refine ⟨hB, ?_⟩
          refine DT.nil ?_
          refine inBlk_normal ?_
          refine thenP_normal ?_
          refine W.reg ?_
          refine LS.vv rfl rfl (by decide) (Val.move rfl) ?_
          first | refine LS.vv rfl rfl (by decide) (Val.subN (j := 1) rfl rfl (by first | omega | (simp only [List.length_set]; omega)) (by first | omega | (simp only [List.length_set]; omega))) ?_ | refine LS.vv rfl rfl (by decide) (Val.sub64 rfl rfl (by first | omega | (simp only [List.length_set]; omega))) ?_
          refine LS.vv rfl rfl (by decide) (Val.assign rfl) ?_
          refine LS.nil ?_
          refine thenP_normal ?_
          rw [ins_step P X1 X2 (A.drop (t + 1) ++ S) (gn A t) (by omega) hj] at hM
          refine ⟨(j - 1, X1.dropLast, gn X1 (X1.length - 1) :: X2), (Sub.cons rfl (Sub.nil _)), (by repeat (first | exact Sub.nil _ | refine Sub.cons rfl ?_)), ⟨⟨?_, ?_, by simp only [List.length_dropLast]; omega⟩, hM, hB⟩, by simp only; omega⟩
          · rw [← h12]
            conv => rhs; rw [← dl_eq (show 0 < X1.length by omega)]
            simp
          · intro y hy
            rcases List.mem_cons.1 hy with e9 | hy
            · rw [e9]; exact hk9.1 (hzc.1 (by omega))
            · exact hy2 y hy
        ·
          refine DT.m rfl rfl (Step.load rfl rfl (by decide) flat3 rfl (hM.o0.rd) (nv_at (by first | omega | (simp only [List.length_set]; omega))) ?_)
          refine ⟨hB, ?_⟩
          refine DT.m rfl rfl (Step.load rfl rfl (by decide) flat3 rfl (hM.o0.rd) (nv_at (by first | omega | (simp only [List.length_set]; omega))) ?_)
          refine ⟨hB, ?_⟩
          refine DT.vv rfl rfl rfl (by decide) (Val.index1 Try.underlying33 elem3 rfl rfl (by first | omega | (simp only [List.length_set]; omega)) (hM.o0.rd) (nv_lt (by first | omega | (simp only [List.length_set]; omega)))) ?_
          refine DT.m rfl rfl (Step.store (B := B) rfl rfl flat3 elem3 rfl rfl rfl (hM.o0) (by first | omega | (simp only [List.length_set]; omega)) (Nat.le_trans hB0 hB.size) ?_)
          rintro w6 hO6 hg6 hbl6 hsz6
          replace hM := hM.s0 hg6 hO6 inl_block
          try simp only [nv_app1, nv_app, nv_set, nv_rep, nv_one, nv_cons, nv_take, nv_drop, List.nil_append] at hM
          replace hB := hB.trans hbl6
          refine ⟨hB, ?_⟩
          refine DT.vv rfl rfl rfl (by decide) (Val.index1 Try.underlying33 elem3 rfl rfl (by first | omega | (simp only [List.length_set]; omega)) (hM.o0.rd) (nv_lt (by first | omega | (simp only [List.length_set]; omega)))) ?_
          refine DT.m rfl rfl (Step.store (B := B) rfl rfl flat3 elem3 rfl rfl rfl (hM.o0) (by first | omega | (simp only [List.length_set]; omega)) (Nat.le_trans hB0 hB.size) ?_)
          rintro w7 hO7 hg7 hbl7 hsz7
          replace hM := hM.s0 hg7 hO7 inl_block
          try simp only [nv_app1, nv_app, nv_set, nv_rep, nv_one, nv_cons, nv_take, nv_drop, List.nil_append] at hM
          replace hB := hB.trans hbl7
          refine ⟨hB, ?_⟩
          refine DT.nil ?_
          refine inBlk_normal ?_
          refine thenP_normal ?_
          refine W.reg ?_
          refine LS.vv rfl rfl (by decide) (Val.move rfl) ?_
          first | refine LS.vv rfl rfl (by decide) (Val.subN (j := 1) rfl rfl (by first | omega | (simp only [List.length_set]; omega)) (by first | omega | (simp only [List.length_set]; omega))) ?_ | refine LS.vv rfl rfl (by decide) (Val.sub64 rfl rfl (by first | omega | (simp only [List.length_set]; omega))) ?_
          refine LS.vv rfl rfl (by decide) (Val.assign rfl) ?_
          refine LS.nil ?_
          refine thenP_normal ?_
          rw [ins_step P X1 X2 (A.drop (t + 1) ++ S) (gn A t) (by omega) hj] at hM
          refine ⟨(j - 1, X1.dropLast, gn X1 (X1.length - 1) :: X2), (Sub.cons rfl (Sub.nil _)), (by repeat (first | exact Sub.nil _ | refine Sub.cons rfl ?_)), ⟨⟨?_, ?_, by simp only [List.length_dropLast]; omega⟩, hM, hB⟩, by simp only; omega⟩
          · rw [← h12]
            conv => rhs; rw [← dl_eq (show 0 < X1.length by omega)]
            simp
          · intro y hy
            rcases List.mem_cons.1 hy with e9 | hy
            · rw [e9]; exact hk9.1 (hzc.1 (by omega))
            · exact hy2 y hy
      ·
        refine W.exit ?_
        refine thenP_exit ?_
        refine thenP_exit ?_
        refine inBlk_exit ?_
        refine inBlk_normal ?_
        refine thenP_normal ?_
        refine W.reg ?_
        refine LS.vv rfl rfl (by decide) (Val.move rfl) ?_
        first | refine LS.vv rfl rfl (by decide) (Val.addN (j := 1) rfl rfl (by first | omega | (simp only [List.length_set]; omega))) ?_ | refine LS.vv rfl rfl (by decide) (Val.add64 rfl rfl (by first | omega | (simp only [List.length_set]; omega))) ?_
        refine LS.vv rfl rfl (by decide) (Val.assign rfl) ?_
        refine LS.nil ?_
        refine thenP_normal ?_
        have hkk : X1.length = 0 ∨ KK key (gn X1 (X1.length - 1)) < KK key (gn A t) := by first | exact .inl (by omega) | exact .inr (hk9.2 (fun h => absurd (hzc.2 h) (by omega)))
        refine ⟨(t + 1, X1 ++ gn A t :: X2), (Sub.cons rfl (Sub.nil _)), (by repeat (first | exact Sub.nil _ | refine Sub.cons rfl ?_)), ⟨⟨by simp only; omega, .inl (by simp only; omega), ins_perm (by rw [h12]; exact hX) (by omega), ins_fin (by rw [h12]; exact hXs) hy2 hkk⟩, by simp only [List.append_assoc, List.cons_append]; exact hM, hB⟩, by simp only; omega⟩
    ·
      first | (have hg2p := of_decide_eq_false hg2) | skip
      refine DF.s rfl rfl rfl rfl hg2 (by decide) ?_
      refine DF.s rfl rfl rfl rfl hg2 (by decide) ?_
      refine DF.s rfl rfl rfl rfl hg2 (by decide) ?_
      refine DF.s rfl rfl rfl rfl hg2 (by decide) ?_
      refine DF.s rfl rfl rfl rfl hg2 (by decide) ?_
      refine DF.s rfl rfl rfl rfl hg2 (by decide) ?_
      refine DF.s rfl rfl rfl rfl hg2 (by decide) ?_
      refine DF.s rfl rfl rfl rfl hg2 (by decide) ?_
      refine DF.s rfl rfl rfl rfl hg2 (by decide) ?_
      refine DF.s rfl rfl rfl rfl hg2 (by decide) ?_
      refine DF.s rfl rfl rfl rfl hg2 (by decide) ?_
      refine DF.s rfl rfl rfl rfl hg2 (by decide) ?_
      refine DF.vv rfl rfl rfl (by decide) (Val.pickF rfl hg2 rfl) ?_
      refine DF.nil ?_
      refine W.condF rfl ?_
      refine W.exit ?_
      refine thenP_exit ?_
      refine thenP_exit ?_
      refine inBlk_exit ?_
      refine inBlk_normal ?_
      refine thenP_normal ?_
      refine W.reg ?_
      refine LS.vv rfl rfl (by decide) (Val.move rfl) ?_
      first | refine LS.vv rfl rfl (by decide) (Val.addN (j := 1) rfl rfl (by first | omega | (simp only [List.length_set]; omega))) ?_ | refine LS.vv rfl rfl (by decide) (Val.add64 rfl rfl (by first | omega | (simp only [List.length_set]; omega))) ?_
      refine LS.vv rfl rfl (by decide) (Val.assign rfl) ?_
      refine LS.nil ?_
      refine thenP_normal ?_
      have hkk : X1.length = 0 ∨ KK key (gn X1 (X1.length - 1)) < KK key (gn A t) := by first | exact .inl (by omega) | exact .inr (hk9.2 (fun h => absurd (hzc.2 h) (by omega)))
      refine ⟨(t + 1, X1 ++ gn A t :: X2), (Sub.cons rfl (Sub.nil _)), (by repeat (first | exact Sub.nil _ | refine Sub.cons rfl ?_)), ⟨⟨by simp only; omega, .inl (by simp only; omega), ins_perm (by rw [h12]; exact hX) (by omega), ins_fin (by rw [h12]; exact hXs) hy2 hkk⟩, by simp only [List.append_assoc, List.cons_append]; exact hM, hB⟩, by simp only; omega⟩
  ·
    refine W.exit ?_
    refine thenP_exit ?_
    refine thenP_exit ?_
    refine inBlk_exit ?_
    refine ret0 (by first | exact .inl rfl | exact .inr rfl) ?_
    rw [List.drop_of_length_le (by omega), List.nil_append] at hM
    rw [List.take_of_length_le (by omega)] at hX
    exact ⟨X, rfl, hM, hX, hXs, hB⟩

end Go.Proofs.Ytcoplafphgpmpaa
