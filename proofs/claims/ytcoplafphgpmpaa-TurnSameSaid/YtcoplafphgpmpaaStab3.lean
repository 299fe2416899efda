/-
  Stable sorting: a merge in place.
-/
import Derived.Test.YtcoplafphgpmpaaStab1
namespace Go.Proofs.Ytcoplafphgpmpaa
open Go Go.RowKit V
set_option linter.unusedVariables false
set_option linter.unusedSimpArgs false

/-- a merge of two neighbours of so many things -/
def SymOk (key : Nat → Nat) (f : FuncId) (cap : Array Value) (p : Option Addr) (n c B : Nat) (Z : List Ob) (wb : World) (N : Nat) : Prop :=
  ∀ (P A E S : List Nat) (a m b : Nat) (w0 : World), A.length + E.length ≤ N → Mem w0 B (⟨3, p, n, c, nv (P ++ (A ++ (E ++ S)))⟩ :: Z) → B ≤ w0.heap.size → Below B wb w0 → P.length = a → a + A.length = m → m + E.length = b → 0 < A.length → 0 < E.length → P.length + (A.length + (E.length + S.length)) = n → Srt (KK key) A → Srt (KK key) E → (∀ x ∈ A, x < n) → (∀ y ∈ E, y < n) → (∀ x ∈ A, ∀ y ∈ E, x < y) →
    CallsV Try.prog 60 #[.slice p n c, .int .i64 (a : Int), .int .i64 (m : Int), .int .i64 (b : Int), .func (.func f) #[] cap] w0 (fun v w => ∃ X : List Nat, v = .tuple #[] ∧ Mem w B (⟨3, p, n, c, nv (P ++ (X ++ S))⟩ :: Z) ∧ X.Perm (A ++ E) ∧ Srt (KK key) X ∧ Below B w0 w)

set_option maxHeartbeats 1000000 in
theorem sym_step (key : Nat → Nat) (P A E S : List Nat) (a m b : Nat) (f : FuncId) (cap : Array Value) (p : Option Addr) (n c B : Nat) (Z : List Ob) (wb w0 : World) (hM0 : Mem w0 B (⟨3, p, n, c, nv (P ++ (A ++ (E ++ S)))⟩ :: Z)) (hB0 : B ≤ w0.heap.size) (hC : CmpOk key f cap p n c B Z wb) (hwb : Below B wb w0) (ha : P.length = a) (hm : a + A.length = m) (hb : m + E.length = b) (hA0 : 0 < A.length) (hE0 : 0 < E.length) (hn : P.length + (A.length + (E.length + S.length)) = n) (sA : Srt (KK key) A) (sE : Srt (KK key) E) (hAn : ∀ x ∈ A, x < n) (hEn : ∀ y ∈ E, y < n) (hAE : ∀ x ∈ A, ∀ y ∈ E, x < y) (hn2 : n ≤ 64) (N : Nat) (hN : A.length + E.length ≤ N) (ih : ∀ N2, N2 < N → SymOk key f cap p n c B Z wb N2) :
    CallsV Try.prog 60 #[.slice p n c, .int .i64 (a : Int), .int .i64 (m : Int), .int .i64 (b : Int), .func (.func f) #[] cap] w0 (fun v w => ∃ X : List Nat, v = .tuple #[] ∧ Mem w B (⟨3, p, n, c, nv (P ++ (X ++ S))⟩ :: Z) ∧ X.Perm (A ++ E) ∧ Srt (KK key) X ∧ Below B w0 w) := by
  refine enter0 Try.func60 rfl Try.ntmps60 (by simp) rfl ?_
  have hB := Below.refl B w0
  simp only [argLoc, Nat.zero_add, Nat.reduceAdd]
  have hM := hM0
  obtain ⟨L, hL⟩ : ∃ L, L = P ++ (A ++ (E ++ S)) := ⟨_, rfl⟩
  rw [← hL] at hM
  have hLl : L.length = n := by rw [hL]; simp only [List.length_append]; omega
  have hgA : ∀ i, a ≤ i → i < m → gn L i = gn A (i - a) := fun i h1 h2 => by rw [hL, show i = P.length + (i - a) by omega, gl_r, gl_l (by omega), show P.length + (i - a) - a = i - a by omega]
  have hgE : ∀ i, m ≤ i → i < b → gn L i = gn E (i - m) := fun i h1 h2 => by rw [hL, show i = P.length + (A.length + (i - m)) by omega, gl_r, gl_r, gl_l (by omega), show P.length + (A.length + (i - m)) - m = i - m by omega]
  have hnA : ∀ i, a ≤ i → i < m → gn L i < n := fun i h1 h2 => by rw [hgA i h1 h2]; exact hAn _ (gn_mem' (by omega))
  have hnE : ∀ i, m ≤ i → i < b → gn L i < n := fun i h1 h2 => by rw [hgE i h1 h2]; exact hEn _ (gn_mem' (by omega))
  have hlt : ∀ i j, a ≤ i → i < m → m ≤ j → j < b → gn L i < gn L j := fun i j h1 h2 h3 h4 => by rw [hgA i h1 h2, hgE j h3 h4]; exact hAE _ (gn_mem' (by omega)) _ (gn_mem' (by omega))
  refine W.seq ?_
  refine W.seqR ?_
  refine LS.vv rfl rfl (by decide) (Val.move rfl) ?_
  refine LS.vv rfl rfl (by decide) (Val.move rfl) ?_
  first | refine LS.vv rfl rfl (by decide) (Val.subN rfl rfl (by first | omega | (simp only [List.length_set]; omega)) (by first | omega | (simp only [List.length_set]; omega))) ?_ | refine LS.vv rfl rfl (by decide) (Val.sub64 rfl rfl (by first | omega | (simp only [List.length_set]; omega))) ?_
  refine LS.vv rfl rfl (by decide) (Val.eql rfl rfl) ?_
  refine LS.nil ?_
  first | refine W.condD rfl (fun hc1 => ?_) (fun hc1 => ?_) | refine W.cond rfl (fun hc1 => ?_) (fun hc1 => ?_)
  ·
    obtain ⟨x, rfl⟩ : ∃ x, A = [x] := List.length_eq_one_iff.1 (by omega)
    have hx1 : ([x] : List Nat).length = 1 := rfl
    refine W.seqR ?_
    refine LS.vv rfl rfl (by decide) (Val.move rfl) ?_
    refine LS.vv rfl rfl (by decide) (Val.assign rfl) ?_
    refine LS.nil ?_
    refine W.seqR ?_
    refine LS.vv rfl rfl (by decide) (Val.move rfl) ?_
    refine LS.vv rfl rfl (by decide) (Val.assign rfl) ?_
    refine LS.nil ?_
    refine W.seq ?_
    refine W.block ?_
    refine W.loop (α := Nat × Nat) (fun g => [(10, .int .i64 (g.1 : Int)), (11, .int .i64 (g.2 : Int))]) [(0, _), (1, _), (4, _)] (fun g w => (m ≤ g.1 ∧ g.1 ≤ g.2 ∧ g.2 ≤ b ∧ (g.1 = m ∨ KK key (gn L (g.1 - 1)) < KK key (gn L a)) ∧ (g.2 = b ∨ KK key (gn L a) < KK key (gn L g.2))) ∧ Mem w B (⟨3, p, n, c, nv L⟩ :: Z) ∧ Below B w0 w) (fun g => g.2 - g.1) ((m, b)) (Sub.cons rfl (Sub.cons rfl (Sub.nil _))) (Sub.cons rfl (Sub.cons rfl (Sub.cons rfl (Sub.nil _)))) ?_ ?_
    · exact ⟨⟨Nat.le_refl _, by simp only; omega, Nat.le_refl _, .inl rfl, .inl rfl⟩, hM, hB⟩
    rintro ⟨i, j⟩ w1 ⟨⟨hi1, hij, hj1, hs1, hs2⟩, hM, hB⟩
    try simp only at hM
    simp only [List.cons_append, List.nil_append]
    simp only at hi1 hij hj1 hs1 hs2
    refine W.seq ?_
    refine W.seqR ?_
    refine LS.vv rfl rfl (by decide) (Val.move rfl) ?_
    refine LS.vv rfl rfl (by decide) (Val.move rfl) ?_
    refine LS.vv rfl rfl (by decide) (Val.lss rfl rfl) ?_
    refine LS.nil ?_
    first | refine W.condD rfl (fun hc2 => ?_) (fun hc2 => ?_) | refine W.cond rfl (fun hc2 => ?_) (fun hc2 => ?_)
    ·
      refine W.skip ?_
      refine thenP_normal ?_
      refine W.block ?_
      refine W.seqR ?_
      refine LS.vv rfl rfl (by decide) (Val.move rfl) ?_
      refine LS.vv rfl rfl (by decide) (Val.move rfl) ?_
      first | refine LS.vv rfl rfl (by decide) (Val.addN rfl rfl (by first | omega | (simp only [List.length_set]; omega))) ?_ | refine LS.vv rfl rfl (by decide) (Val.add64 rfl rfl (by first | omega | (simp only [List.length_set]; omega))) ?_
      refine LS.vv rfl rfl (by decide) (Val.conv rfl Try.underlying3 Try.underlying76 (IntWalk.u64_in _ (by first | omega | (simp only [List.length_set]; omega)))) ?_
      refine LS.vv rfl rfl (by decide) (Val.cast (v := .int .u64 (((i + j) / 2 : Nat) : Int)) (Val.shr (j := 1) rfl rfl (by simp only [IntKind.bits]; first | omega | (simp only [List.length_set]; omega))) (by first | rfl | simp [Nat.shiftRight_eq_div_pow])) ?_
      refine LS.vv rfl rfl (by decide) (Val.conv rfl Try.underlying76 Try.underlying3 (IntWalk.i64_in _ (by first | omega | (simp only [List.length_set]; omega)))) ?_
      refine LS.vv rfl rfl (by decide) (Val.assign rfl) ?_
      refine LS.nil ?_
      refine W.seqF 11 [(0, true), (1, true), (2, true), (3, true), (4, true), (5, true), (6, true), (7, true), (8, true), (9, false), (10, true)] mixed (by kernel_rfl) hB hM ?_
      replace hB := hB.drew
      replace hM := hM.drew
      refine DF.vv rfl rfl rfl (by decide) (Val.move rfl) ?_
      refine DF.vv rfl rfl rfl (by decide) (Val.move rfl) ?_
      refine DF.vv rfl rfl rfl (by decide) (Val.move rfl) ?_
      refine DF.vv rfl rfl rfl (by decide) (Val.index1 Try.underlying33 elem3 rfl rfl (by first | omega | (simp only [List.length_set]; omega)) (hM.o0.rd) (nv_lt (by first | omega | (simp only [List.length_set]; omega)))) ?_
      refine DF.vv rfl rfl rfl (by decide) (Val.load flat3 rfl (fun _ h => h.2.o0.rd) (nv_at (by first | omega | (simp only [List.length_set]; omega)))) ?_
      refine DF.vv rfl rfl rfl (by decide) (Val.move rfl) ?_
      refine DF.vv rfl rfl rfl (by decide) (Val.move rfl) ?_
      refine DF.vv rfl rfl rfl (by decide) (Val.index1 Try.underlying33 elem3 rfl rfl (by first | omega | (simp only [List.length_set]; omega)) (hM.o0.rd) (nv_lt (by first | omega | (simp only [List.length_set]; omega)))) ?_
      refine DF.vv rfl rfl rfl (by decide) (Val.load flat3 rfl (fun _ h => h.2.o0.rd) (nv_at (by first | omega | (simp only [List.length_set]; omega)))) ?_
      have hk9 := kk_less (key := key) (hlt a ((i + j) / 2) (by omega) (by omega) (by omega) (by omega)) (by have := hnE ((i + j) / 2) (by omega) (by omega); omega)
      refine DF.m rfl rfl (Step.callV hC.body rfl rfl rfl (by decide) rfl (CallsV.mono (hC.call _ _ _ (hnE ((i + j) / 2) (by omega) (by omega)) (hnA a (by omega) (by omega)) ⟨_, hM⟩ (hwb.trans hB)) ?_))
      rintro _ w2 ⟨zc, rfl, hzc, hb2⟩
      replace hM := hM.below hb2
      replace hB := hB.trans (hb2.mono (Nat.le_trans hB0 hB.size))
      refine ⟨fun _ => ⟨hB, hM⟩, ?_⟩
      refine DF.vv rfl rfl rfl (by decide) (Val.lss rfl rfl) ?_
      refine DF.nil ?_
      first | refine W.condD rfl (fun hc3 => ?_) (fun hc3 => ?_) | refine W.cond rfl (fun hc3 => ?_) (fun hc3 => ?_)
      ·
        refine W.reg ?_
        refine LS.vv rfl rfl (by decide) (Val.move rfl) ?_
        first | refine LS.vv rfl rfl (by decide) (Val.addN (j := 1) rfl rfl (by first | omega | (simp only [List.length_set]; omega))) ?_ | refine LS.vv rfl rfl (by decide) (Val.add64 rfl rfl (by first | omega | (simp only [List.length_set]; omega))) ?_
        refine LS.vv rfl rfl (by decide) (Val.assign rfl) ?_
        refine LS.nil ?_
        refine inBlk_normal ?_
        refine thenP_normal ?_
        first
          | (refine ⟨((i + j) / 2 + 1, j), (Sub.cons rfl (Sub.cons rfl (Sub.nil _))), (by repeat (first | exact Sub.nil _ | refine Sub.cons rfl ?_)), ⟨⟨by simp only; omega, by simp only; omega, hj1, .inr (hk9.1 (hzc.1 (by omega))), hs2⟩, hM, hB⟩, by simp only; omega⟩)
          | (refine ⟨(i, (i + j) / 2), (Sub.cons rfl (Sub.cons rfl (Sub.nil _))), (by repeat (first | exact Sub.nil _ | refine Sub.cons rfl ?_)), ⟨⟨hi1, by simp only; omega, by simp only; omega, hs1, .inr (hk9.2 (fun h => absurd (hzc.2 h) (by omega)))⟩, hM, hB⟩, by simp only; omega⟩)
      ·
        refine W.reg ?_
        refine LS.vv rfl rfl (by decide) (Val.move rfl) ?_
        refine LS.vv rfl rfl (by decide) (Val.assign rfl) ?_
        refine LS.nil ?_
        refine inBlk_normal ?_
        refine thenP_normal ?_
        first
          | (refine ⟨((i + j) / 2 + 1, j), (Sub.cons rfl (Sub.cons rfl (Sub.nil _))), (by repeat (first | exact Sub.nil _ | refine Sub.cons rfl ?_)), ⟨⟨by simp only; omega, by simp only; omega, hj1, .inr (hk9.1 (hzc.1 (by omega))), hs2⟩, hM, hB⟩, by simp only; omega⟩)
          | (refine ⟨(i, (i + j) / 2), (Sub.cons rfl (Sub.cons rfl (Sub.nil _))), (by repeat (first | exact Sub.nil _ | refine Sub.cons rfl ?_)), ⟨⟨hi1, by simp only; omega, by simp only; omega, hs1, .inr (hk9.2 (fun h => absurd (hzc.2 h) (by omega)))⟩, hM, hB⟩, by simp only; omega⟩)
    ·
      refine W.exit ?_
      refine thenP_exit ?_
      refine thenP_exit ?_
      refine inBlk_exit ?_
      refine thenP_normal ?_
      refine W.seq ?_
      refine W.seqR ?_
      refine LS.vv rfl rfl (by decide) (Val.move rfl) ?_
      refine LS.vv rfl rfl (by decide) (Val.assign rfl) ?_
      refine LS.nil ?_
      refine W.block ?_
      rw [hL, List.cons_append, List.nil_append, ← upT_zero] at hM
      have hxg := hgA a (by omega) (by omega)
      rw [Nat.sub_self, gl_c] at hxg
      refine W.loop (α := Nat) (fun k => [(13, .int .i64 (k : Int))]) [(0, _), (10, _)] (fun k w => (a ≤ k ∧ k ≤ i - 1) ∧ Mem w B (⟨3, p, n, c, nv (upT P x E S (k - a))⟩ :: Z) ∧ Below B w0 w) (fun k => i - 1 - k) (a) (Sub.cons rfl (Sub.nil _)) (Sub.cons rfl (Sub.cons rfl (Sub.nil _))) ?_ ?_
      · exact ⟨⟨Nat.le_refl _, by omega⟩, (by rw [Nat.sub_self]; exact hM), hB⟩
      rintro k w3 ⟨⟨hk1, hk2⟩, hM, hB⟩
      try simp only at hM
      simp only [List.cons_append, List.nil_append]
      have hul := upT_len P x E S (k - a)
      refine W.seq ?_
      refine W.seqR ?_
      refine LS.vv rfl rfl (by decide) (Val.move rfl) ?_
      refine LS.vv rfl rfl (by decide) (Val.move rfl) ?_
      first | refine LS.vv rfl rfl (by decide) (Val.subN (j := 1) rfl rfl (by first | omega | (simp only [List.length_set]; omega)) (by first | omega | (simp only [List.length_set]; omega))) ?_ | refine LS.vv rfl rfl (by decide) (Val.sub64 rfl rfl (by first | omega | (simp only [List.length_set]; omega))) ?_
      refine LS.vv rfl rfl (by decide) (Val.lss rfl rfl) ?_
      refine LS.nil ?_
      first | refine W.condD rfl (fun hc4 => ?_) (fun hc4 => ?_) | refine W.cond rfl (fun hc4 => ?_) (fun hc4 => ?_)
      ·
        refine W.skip ?_
        refine thenP_normal ?_
        refine W.seq ?_
        refine W.block ?_
        refine W.regT (S := fun w => Below B w0 w) (.val 0 (.val 1 (.val 2 (.val 3 (.val 4 (.val 5 (.val 6 (.val 7 (.val 8 (.val 10 (.val 11 (.val 12 (.two (.mem 9 (.mem 13 (.val 14 (.mem 15 (.val 16 (.mem 17 (.done))))))) (.mem 13 (.mem 9 (.val 14 (.mem 15 (.val 16 (.mem 17 (.done)))))))))))))))))))) mixed (by kernel_rfl) hB.drew ?_
        replace hB := hB.drew
        replace hM := hM.drew
        refine DT.vv rfl rfl rfl (by decide) (Val.move rfl) ?_
        refine DT.vv rfl rfl rfl (by decide) (Val.move rfl) ?_
        refine DT.vv rfl rfl rfl (by decide) (Val.move rfl) ?_
        refine DT.vv rfl rfl rfl (by decide) (Val.move rfl) ?_
        first | refine DT.vv rfl rfl rfl (by decide) (Val.addN (j := 1) rfl rfl (by first | omega | (simp only [List.length_set]; omega))) ?_ | refine DT.vv rfl rfl rfl (by decide) (Val.add64 rfl rfl (by first | omega | (simp only [List.length_set]; omega))) ?_
        refine DT.vv rfl rfl rfl (by decide) (Val.move rfl) ?_
        refine DT.vv rfl rfl rfl (by decide) (Val.move rfl) ?_
        first | refine DT.vv rfl rfl rfl (by decide) (Val.addN (j := 1) rfl rfl (by first | omega | (simp only [List.length_set]; omega))) ?_ | refine DT.vv rfl rfl rfl (by decide) (Val.add64 rfl rfl (by first | omega | (simp only [List.length_set]; omega))) ?_
        refine DT.vv rfl rfl rfl (by decide) (Val.index1 Try.underlying33 elem3 rfl rfl (by first | omega | (simp only [List.length_set]; omega)) (hM.o0.rd) (nv_lt (by first | omega | (simp only [List.length_set]; omega)))) ?_
        refine DT.vv rfl rfl rfl (by decide) (Val.move rfl) ?_
        refine DT.vv rfl rfl rfl (by decide) (Val.move rfl) ?_
        refine DT.vv rfl rfl rfl (by decide) (Val.index1 Try.underlying33 elem3 rfl rfl (by first | omega | (simp only [List.length_set]; omega)) (hM.o0.rd) (nv_lt (by first | omega | (simp only [List.length_set]; omega)))) ?_
        refine DT.two ?_ ?_
        ·
          refine DT.m rfl rfl (Step.load rfl rfl (by decide) flat3 rfl (hM.o0.rd) (nv_at (by first | omega | (simp only [List.length_set]; omega))) ?_)
          refine ⟨hB, ?_⟩
          refine DT.m rfl rfl (Step.load rfl rfl (by decide) flat3 rfl (hM.o0.rd) (nv_at (by first | omega | (simp only [List.length_set]; omega))) ?_)
          refine ⟨hB, ?_⟩
          refine DT.vv rfl rfl rfl (by decide) (Val.index1 Try.underlying33 elem3 rfl rfl (by first | omega | (simp only [List.length_set]; omega)) (hM.o0.rd) (nv_lt (by first | omega | (simp only [List.length_set]; omega)))) ?_
          refine DT.m rfl rfl (Step.store (B := B) rfl rfl flat3 elem3 rfl rfl rfl (hM.o0) (by first | omega | (simp only [List.length_set]; omega)) (Nat.le_trans hB0 hB.size) ?_)
          rintro w4 hO4 hg4 hbl4 hsz4
          replace hM := hM.s0 hg4 hO4 inl_block
          try simp only [nv_app1, nv_app, nv_set, nv_rep, nv_one, nv_cons, nv_take, nv_drop, List.nil_append] at hM
          replace hB := hB.trans hbl4
          refine ⟨hB, ?_⟩
          refine DT.vv rfl rfl rfl (by decide) (Val.index1 Try.underlying33 elem3 rfl rfl (by first | omega | (simp only [List.length_set]; omega)) (hM.o0.rd) (nv_lt (by first | omega | (simp only [List.length_set]; omega)))) ?_
          refine DT.m rfl rfl (Step.store (B := B) rfl rfl flat3 elem3 rfl rfl rfl (hM.o0) (by first | omega | (simp only [List.length_set]; omega)) (Nat.le_trans hB0 hB.size) ?_)
          rintro w5 hO5 hg5 hbl5 hsz5
          replace hM := hM.s0 hg5 hO5 inl_block
          try simp only [nv_app1, nv_app, nv_set, nv_rep, nv_one, nv_cons, nv_take, nv_drop, List.nil_append] at hM
          replace hB := hB.trans hbl5
          refine ⟨hB, ?_⟩
          refine DT.nil ?_
          refine inBlk_normal ?_
          refine thenP_normal ?_
          refine W.reg ?_
          refine LS.vv rfl rfl (by decide) (Val.move rfl) ?_
          first | refine LS.vv rfl rfl (by decide) (Val.addN (j := 1) rfl rfl (by first | omega | (simp only [List.length_set]; omega))) ?_ | refine LS.vv rfl rfl (by decide) (Val.add64 rfl rfl (by first | omega | (simp only [List.length_set]; omega))) ?_
          refine LS.vv rfl rfl (by decide) (Val.assign rfl) ?_
          refine LS.nil ?_
          refine thenP_normal ?_
          rw [upT_step P x E S (by omega) (by omega)] at hM
          refine ⟨k + 1, (Sub.cons rfl (Sub.nil _)), (by repeat (first | exact Sub.nil _ | refine Sub.cons rfl ?_)), ⟨⟨by omega, by omega⟩, (by rw [show k + 1 - a = k - a + 1 by omega]; exact hM), hB⟩, by omega⟩
        ·
          refine DT.m rfl rfl (Step.load rfl rfl (by decide) flat3 rfl (hM.o0.rd) (nv_at (by first | omega | (simp only [List.length_set]; omega))) ?_)
          refine ⟨hB, ?_⟩
          refine DT.m rfl rfl (Step.load rfl rfl (by decide) flat3 rfl (hM.o0.rd) (nv_at (by first | omega | (simp only [List.length_set]; omega))) ?_)
          refine ⟨hB, ?_⟩
          refine DT.vv rfl rfl rfl (by decide) (Val.index1 Try.underlying33 elem3 rfl rfl (by first | omega | (simp only [List.length_set]; omega)) (hM.o0.rd) (nv_lt (by first | omega | (simp only [List.length_set]; omega)))) ?_
          refine DT.m rfl rfl (Step.store (B := B) rfl rfl flat3 elem3 rfl rfl rfl (hM.o0) (by first | omega | (simp only [List.length_set]; omega)) (Nat.le_trans hB0 hB.size) ?_)
          rintro w6 hO6 hg6 hbl6 hsz6
          replace hM := hM.s0 hg6 hO6 inl_block
          try simp only [nv_app1, nv_app, nv_set, nv_rep, nv_one, nv_cons, nv_take, nv_drop, List.nil_append] at hM
          replace hB := hB.trans hbl6
          refine ⟨hB, ?_⟩
          refine DT.vv rfl rfl rfl (by decide) (Val.index1 Try.underlying33 elem3 rfl rfl (by first | omega | (simp only [List.length_set]; omega)) (hM.o0.rd) (nv_lt (by first | omega | (simp only [List.length_set]; omega)))) ?_
          refine DT.m rfl rfl (Step.store (B := B) rfl rfl flat3 elem3 rfl rfl rfl (hM.o0) (by first | omega | (simp only [List.length_set]; omega)) (Nat.le_trans hB0 hB.size) ?_)
          rintro w7 hO7 hg7 hbl7 hsz7
          replace hM := hM.s0 hg7 hO7 inl_block
          try simp only [nv_app1, nv_app, nv_set, nv_rep, nv_one, nv_cons, nv_take, nv_drop, List.nil_append] at hM
          replace hB := hB.trans hbl7
          refine ⟨hB, ?_⟩
          refine DT.nil ?_
          refine inBlk_normal ?_
          refine thenP_normal ?_
          refine W.reg ?_
          refine LS.vv rfl rfl (by decide) (Val.move rfl) ?_
          first | refine LS.vv rfl rfl (by decide) (Val.addN (j := 1) rfl rfl (by first | omega | (simp only [List.length_set]; omega))) ?_ | refine LS.vv rfl rfl (by decide) (Val.add64 rfl rfl (by first | omega | (simp only [List.length_set]; omega))) ?_
          refine LS.vv rfl rfl (by decide) (Val.assign rfl) ?_
          refine LS.nil ?_
          refine thenP_normal ?_
          rw [upT_step P x E S (by omega) (by omega)] at hM
          refine ⟨k + 1, (Sub.cons rfl (Sub.nil _)), (by repeat (first | exact Sub.nil _ | refine Sub.cons rfl ?_)), ⟨⟨by omega, by omega⟩, (by rw [show k + 1 - a = k - a + 1 by omega]; exact hM), hB⟩, by omega⟩
      ·
        refine W.exit ?_
        refine thenP_exit ?_
        refine thenP_exit ?_
        refine inBlk_exit ?_
        refine thenP_normal ?_
        refine W.ret ?_
        refine thenP_ret ?_
        refine ret0 (by first | exact .inl rfl | exact .inr rfl) ?_
        first
          | (obtain rfl : k = i - 1 := by omega
             rw [upT_eq] at hM
             refine ⟨_, rfl, hM, ins1_perm, ins1 sE (by omega) ?_ ?_, hB⟩
             · rcases hs1 with h9 | h9
               · exact .inl (by omega)
               · rw [hxg] at h9
                 by_cases h8 : i = m
                 · exact .inl (by omega)
                 · rw [hgE _ (by omega) (by omega)] at h9; rw [show i - 1 - a - 1 = i - 1 - m by omega]; exact .inr h9
             · rcases hs2 with h9 | h9
               · exact .inl (by omega)
               · rw [hxg] at h9
                 by_cases h8 : j = b
                 · exact .inl (by omega)
                 · rw [hgE _ (by omega) (by omega)] at h9; rw [show i - 1 - a = j - m by omega]; exact .inr h9)
          | (obtain rfl : k = i := by omega
             rw [upT_eq] at hM
             refine ⟨_, rfl, hM, ins1_perm2, ins1 sA (by omega) ?_ ?_, hB⟩
             · rcases hs1 with h9 | h9
               · exact .inl (by omega)
               · rw [hxg] at h9
                 by_cases h8 : k = a
                 · exact .inl (by omega)
                 · rw [hgA _ (by omega) (by omega)] at h9; rw [show k - a - 1 = k - 1 - a by omega]; exact .inr h9
             · rcases hs2 with h9 | h9
               · exact .inl (by omega)
               · rw [hxg] at h9
                 by_cases h8 : j = m
                 · exact .inl (by omega)
                 · rw [hgA _ (by omega) (by omega)] at h9; rw [show k - a = j - a by omega]; exact .inr h9)
          | (refine ⟨X1 ++ Y, rfl, (by simp only [List.append_assoc]; exact hM), mrg_perm hX1 hY1, mrg_srt hX1 hY1 hX1s hY2 sA sE hab hba, hB⟩; done)
          | (have h9 : A2.length = 0 ∨ E2.length = 0 := by omega
             have hs9 : Srt (KK key) (A2 ++ E2) := by rcases h9 with h9 | h9; (rw [nil_of h9]; exact hEp.2.1); (rw [nil_of h9, List.append_nil]; exact hAp.2.1)
             exact ⟨X1 ++ (A2 ++ E2), rfl, (by simp only [List.append_assoc]; exact hM), mrg_perm hX1 (List.Perm.refl _), mrg_srt hX1 (List.Perm.refl _) hX1s hs9 sA sE hab hba, hB⟩)
  ·
    refine W.skip ?_
    refine thenP_normal ?_
    refine W.seq ?_
    refine W.seqR ?_
    refine LS.vv rfl rfl (by decide) (Val.move rfl) ?_
    refine LS.vv rfl rfl (by decide) (Val.move rfl) ?_
    first | refine LS.vv rfl rfl (by decide) (Val.subN rfl rfl (by first | omega | (simp only [List.length_set]; omega)) (by first | omega | (simp only [List.length_set]; omega))) ?_ | refine LS.vv rfl rfl (by decide) (Val.sub64 rfl rfl (by first | omega | (simp only [List.length_set]; omega))) ?_
    refine LS.vv rfl rfl (by decide) (Val.eql rfl rfl) ?_
    refine LS.nil ?_
    first | refine W.condD rfl (fun hc5 => ?_) (fun hc5 => ?_) | refine W.cond rfl (fun hc5 => ?_) (fun hc5 => ?_)
    ·
      obtain ⟨x, rfl⟩ : ∃ x, E = [x] := List.length_eq_one_iff.1 (by omega)
      have hx1 : ([x] : List Nat).length = 1 := rfl
      refine W.seqR ?_
      refine LS.vv rfl rfl (by decide) (Val.move rfl) ?_
      refine LS.vv rfl rfl (by decide) (Val.assign rfl) ?_
      refine LS.nil ?_
      refine W.seqR ?_
      refine LS.vv rfl rfl (by decide) (Val.move rfl) ?_
      refine LS.vv rfl rfl (by decide) (Val.assign rfl) ?_
      refine LS.nil ?_
      refine W.seq ?_
      refine W.block ?_
      refine W.loop (α := Nat × Nat) (fun g => [(14, .int .i64 (g.1 : Int)), (15, .int .i64 (g.2 : Int))]) [(0, _), (2, _), (4, _)] (fun g w => (a ≤ g.1 ∧ g.1 ≤ g.2 ∧ g.2 ≤ m ∧ (g.1 = a ∨ KK key (gn L (g.1 - 1)) < KK key (gn L m)) ∧ (g.2 = m ∨ KK key (gn L m) < KK key (gn L g.2))) ∧ Mem w B (⟨3, p, n, c, nv L⟩ :: Z) ∧ Below B w0 w) (fun g => g.2 - g.1) ((a, m)) (Sub.cons rfl (Sub.cons rfl (Sub.nil _))) (Sub.cons rfl (Sub.cons rfl (Sub.cons rfl (Sub.nil _)))) ?_ ?_
      · exact ⟨⟨Nat.le_refl _, by simp only; omega, Nat.le_refl _, .inl rfl, .inl rfl⟩, hM, hB⟩
      rintro ⟨i, j⟩ w8 ⟨⟨hi1, hij, hj1, hs1, hs2⟩, hM, hB⟩
      try simp only at hM
      simp only [List.cons_append, List.nil_append]
      simp only at hi1 hij hj1 hs1 hs2
      refine W.seq ?_
      refine W.seqR ?_
      refine LS.vv rfl rfl (by decide) (Val.move rfl) ?_
      refine LS.vv rfl rfl (by decide) (Val.move rfl) ?_
      refine LS.vv rfl rfl (by decide) (Val.lss rfl rfl) ?_
      refine LS.nil ?_
      first | refine W.condD rfl (fun hc6 => ?_) (fun hc6 => ?_) | refine W.cond rfl (fun hc6 => ?_) (fun hc6 => ?_)
      ·
        refine W.skip ?_
        refine thenP_normal ?_
        refine W.block ?_
        refine W.seqR ?_
        refine LS.vv rfl rfl (by decide) (Val.move rfl) ?_
        refine LS.vv rfl rfl (by decide) (Val.move rfl) ?_
        first | refine LS.vv rfl rfl (by decide) (Val.addN rfl rfl (by first | omega | (simp only [List.length_set]; omega))) ?_ | refine LS.vv rfl rfl (by decide) (Val.add64 rfl rfl (by first | omega | (simp only [List.length_set]; omega))) ?_
        refine LS.vv rfl rfl (by decide) (Val.conv rfl Try.underlying3 Try.underlying76 (IntWalk.u64_in _ (by first | omega | (simp only [List.length_set]; omega)))) ?_
        refine LS.vv rfl rfl (by decide) (Val.cast (v := .int .u64 (((i + j) / 2 : Nat) : Int)) (Val.shr (j := 1) rfl rfl (by simp only [IntKind.bits]; first | omega | (simp only [List.length_set]; omega))) (by first | rfl | simp [Nat.shiftRight_eq_div_pow])) ?_
        refine LS.vv rfl rfl (by decide) (Val.conv rfl Try.underlying76 Try.underlying3 (IntWalk.i64_in _ (by first | omega | (simp only [List.length_set]; omega)))) ?_
        refine LS.vv rfl rfl (by decide) (Val.assign rfl) ?_
        refine LS.nil ?_
        refine W.seqF 12 [(0, true), (1, true), (2, true), (3, true), (4, true), (5, true), (6, true), (7, true), (8, true), (9, false), (10, true), (11, true)] mixed (by kernel_rfl) hB hM ?_
        replace hB := hB.drew
        replace hM := hM.drew
        refine DF.vv rfl rfl rfl (by decide) (Val.move rfl) ?_
        refine DF.vv rfl rfl rfl (by decide) (Val.move rfl) ?_
        refine DF.vv rfl rfl rfl (by decide) (Val.move rfl) ?_
        refine DF.vv rfl rfl rfl (by decide) (Val.index1 Try.underlying33 elem3 rfl rfl (by first | omega | (simp only [List.length_set]; omega)) (hM.o0.rd) (nv_lt (by first | omega | (simp only [List.length_set]; omega)))) ?_
        refine DF.vv rfl rfl rfl (by decide) (Val.load flat3 rfl (fun _ h => h.2.o0.rd) (nv_at (by first | omega | (simp only [List.length_set]; omega)))) ?_
        refine DF.vv rfl rfl rfl (by decide) (Val.move rfl) ?_
        refine DF.vv rfl rfl rfl (by decide) (Val.move rfl) ?_
        refine DF.vv rfl rfl rfl (by decide) (Val.index1 Try.underlying33 elem3 rfl rfl (by first | omega | (simp only [List.length_set]; omega)) (hM.o0.rd) (nv_lt (by first | omega | (simp only [List.length_set]; omega)))) ?_
        refine DF.vv rfl rfl rfl (by decide) (Val.load flat3 rfl (fun _ h => h.2.o0.rd) (nv_at (by first | omega | (simp only [List.length_set]; omega)))) ?_
        have hk9 := kk_less (key := key) (hlt ((i + j) / 2) m (by omega) (by omega) (by omega) (by omega)) (by have := hnE m (by omega) (by omega); omega)
        refine DF.m rfl rfl (Step.callV hC.body rfl rfl rfl (by decide) rfl (CallsV.mono (hC.call _ _ _ (hnE m (by omega) (by omega)) (hnA ((i + j) / 2) (by omega) (by omega)) ⟨_, hM⟩ (hwb.trans hB)) ?_))
        rintro _ w9 ⟨zc, rfl, hzc, hb9⟩
        replace hM := hM.below hb9
        replace hB := hB.trans (hb9.mono (Nat.le_trans hB0 hB.size))
        refine ⟨fun _ => ⟨hB, hM⟩, ?_⟩
        refine DF.vv rfl rfl rfl (by decide) (Val.lss rfl rfl) ?_
        refine DF.vv rfl rfl rfl (by decide) (Val.not rfl) ?_
        refine DF.nil ?_
        first | refine W.condD rfl (fun hc7 => ?_) (fun hc7 => ?_) | refine W.cond rfl (fun hc7 => ?_) (fun hc7 => ?_)
        ·
          have hz9 : ¬ zc < 0 := by simpa using (by assumption : (!decide (zc < 0)) = true)
          refine W.reg ?_
          refine LS.vv rfl rfl (by decide) (Val.move rfl) ?_
          first | refine LS.vv rfl rfl (by decide) (Val.addN (j := 1) rfl rfl (by first | omega | (simp only [List.length_set]; omega))) ?_ | refine LS.vv rfl rfl (by decide) (Val.add64 rfl rfl (by first | omega | (simp only [List.length_set]; omega))) ?_
          refine LS.vv rfl rfl (by decide) (Val.assign rfl) ?_
          refine LS.nil ?_
          refine inBlk_normal ?_
          refine thenP_normal ?_
          first
            | (refine ⟨((i + j) / 2 + 1, j), (Sub.cons rfl (Sub.cons rfl (Sub.nil _))), (by repeat (first | exact Sub.nil _ | refine Sub.cons rfl ?_)), ⟨⟨by simp only; omega, by simp only; omega, hj1, .inr (hk9.2 (fun h => absurd (hzc.2 h) (by omega))), hs2⟩, hM, hB⟩, by simp only; omega⟩)
            | (refine ⟨(i, (i + j) / 2), (Sub.cons rfl (Sub.cons rfl (Sub.nil _))), (by repeat (first | exact Sub.nil _ | refine Sub.cons rfl ?_)), ⟨⟨hi1, by simp only; omega, by simp only; omega, hs1, .inr (hk9.1 (hzc.1 (by omega)))⟩, hM, hB⟩, by simp only; omega⟩)
        ·
          have hz9 : zc < 0 := by simpa using (by assumption : (!decide (zc < 0)) = false)
          refine W.reg ?_
          refine LS.vv rfl rfl (by decide) (Val.move rfl) ?_
          refine LS.vv rfl rfl (by decide) (Val.assign rfl) ?_
          refine LS.nil ?_
          refine inBlk_normal ?_
          refine thenP_normal ?_
          first
            | (refine ⟨((i + j) / 2 + 1, j), (Sub.cons rfl (Sub.cons rfl (Sub.nil _))), (by repeat (first | exact Sub.nil _ | refine Sub.cons rfl ?_)), ⟨⟨by simp only; omega, by simp only; omega, hj1, .inr (hk9.2 (fun h => absurd (hzc.2 h) (by omega))), hs2⟩, hM, hB⟩, by simp only; omega⟩)
            | (refine ⟨(i, (i + j) / 2), (Sub.cons rfl (Sub.cons rfl (Sub.nil _))), (by repeat (first | exact Sub.nil _ | refine Sub.cons rfl ?_)), ⟨⟨hi1, by simp only; omega, by simp only; omega, hs1, .inr (hk9.1 (hzc.1 (by omega)))⟩, hM, hB⟩, by simp only; omega⟩)
      ·
        refine W.exit ?_
        refine thenP_exit ?_
        refine thenP_exit ?_
        refine inBlk_exit ?_
        refine thenP_normal ?_
        refine W.seq ?_
        refine W.seqR ?_
        refine LS.vv rfl rfl (by decide) (Val.move rfl) ?_
        refine LS.vv rfl rfl (by decide) (Val.assign rfl) ?_
        refine LS.nil ?_
        refine W.block ?_
        rw [hL, List.cons_append, List.nil_append, ← upT_all, show A.length = m - a by omega] at hM
        have hxg := hgE m (by omega) (by omega)
        rw [Nat.sub_self, gl_c] at hxg
        refine W.loop (α := Nat) (fun k => [(17, .int .i64 (k : Int))]) [(0, _), (14, _)] (fun k w => (i ≤ k ∧ k ≤ m) ∧ Mem w B (⟨3, p, n, c, nv (upT P x A S (k - a))⟩ :: Z) ∧ Below B w0 w) (fun k => k) (m) (Sub.cons rfl (Sub.nil _)) (Sub.cons rfl (Sub.cons rfl (Sub.nil _))) ?_ ?_
        · exact ⟨⟨by omega, Nat.le_refl _⟩, hM, hB⟩
        rintro k w10 ⟨⟨hk1, hk2⟩, hM, hB⟩
        try simp only at hM
        simp only [List.cons_append, List.nil_append]
        have hul := upT_len P x A S (k - a)
        refine W.seq ?_
        refine W.seqR ?_
        refine LS.vv rfl rfl (by decide) (Val.move rfl) ?_
        refine LS.vv rfl rfl (by decide) (Val.move rfl) ?_
        refine LS.vv rfl rfl (by decide) (Val.gtr rfl rfl) ?_
        refine LS.nil ?_
        first | refine W.condD rfl (fun hc8 => ?_) (fun hc8 => ?_) | refine W.cond rfl (fun hc8 => ?_) (fun hc8 => ?_)
        ·
          refine W.skip ?_
          refine thenP_normal ?_
          refine W.seq ?_
          refine W.block ?_
          refine W.regT (S := fun w => Below B w0 w) (.val 0 (.val 1 (.val 2 (.val 3 (.val 4 (.val 5 (.val 6 (.val 7 (.val 8 (.val 10 (.val 11 (.val 12 (.two (.mem 9 (.mem 13 (.val 14 (.mem 15 (.val 16 (.mem 17 (.done))))))) (.mem 13 (.mem 9 (.val 14 (.mem 15 (.val 16 (.mem 17 (.done)))))))))))))))))))) mixed (by kernel_rfl) hB.drew ?_
          replace hB := hB.drew
          replace hM := hM.drew
          refine DT.vv rfl rfl rfl (by decide) (Val.move rfl) ?_
          refine DT.vv rfl rfl rfl (by decide) (Val.move rfl) ?_
          refine DT.vv rfl rfl rfl (by decide) (Val.move rfl) ?_
          refine DT.vv rfl rfl rfl (by decide) (Val.move rfl) ?_
          first | refine DT.vv rfl rfl rfl (by decide) (Val.subN (j := 1) rfl rfl (by first | omega | (simp only [List.length_set]; omega)) (by first | omega | (simp only [List.length_set]; omega))) ?_ | refine DT.vv rfl rfl rfl (by decide) (Val.sub64 rfl rfl (by first | omega | (simp only [List.length_set]; omega))) ?_
          refine DT.vv rfl rfl rfl (by decide) (Val.move rfl) ?_
          refine DT.vv rfl rfl rfl (by decide) (Val.move rfl) ?_
          first | refine DT.vv rfl rfl rfl (by decide) (Val.subN (j := 1) rfl rfl (by first | omega | (simp only [List.length_set]; omega)) (by first | omega | (simp only [List.length_set]; omega))) ?_ | refine DT.vv rfl rfl rfl (by decide) (Val.sub64 rfl rfl (by first | omega | (simp only [List.length_set]; omega))) ?_
          refine DT.vv rfl rfl rfl (by decide) (Val.index1 Try.underlying33 elem3 rfl rfl (by first | omega | (simp only [List.length_set]; omega)) (hM.o0.rd) (nv_lt (by first | omega | (simp only [List.length_set]; omega)))) ?_
          refine DT.vv rfl rfl rfl (by decide) (Val.move rfl) ?_
          refine DT.vv rfl rfl rfl (by decide) (Val.move rfl) ?_
          refine DT.vv rfl rfl rfl (by decide) (Val.index1 Try.underlying33 elem3 rfl rfl (by first | omega | (simp only [List.length_set]; omega)) (hM.o0.rd) (nv_lt (by first | omega | (simp only [List.length_set]; omega)))) ?_
          refine DT.two ?_ ?_
          ·
            refine DT.m rfl rfl (Step.load rfl rfl (by decide) flat3 rfl (hM.o0.rd) (nv_at (by first | omega | (simp only [List.length_set]; omega))) ?_)
            refine ⟨hB, ?_⟩
            refine DT.m rfl rfl (Step.load rfl rfl (by decide) flat3 rfl (hM.o0.rd) (nv_at (by first | omega | (simp only [List.length_set]; omega))) ?_)
            refine ⟨hB, ?_⟩
            refine DT.vv rfl rfl rfl (by decide) (Val.index1 Try.underlying33 elem3 rfl rfl (by first | omega | (simp only [List.length_set]; omega)) (hM.o0.rd) (nv_lt (by first | omega | (simp only [List.length_set]; omega)))) ?_
            refine DT.m rfl rfl (Step.store (B := B) rfl rfl flat3 elem3 rfl rfl rfl (hM.o0) (by first | omega | (simp only [List.length_set]; omega)) (Nat.le_trans hB0 hB.size) ?_)
            rintro w11 hO11 hg11 hbl11 hsz11
            replace hM := hM.s0 hg11 hO11 inl_block
            try simp only [nv_app1, nv_app, nv_set, nv_rep, nv_one, nv_cons, nv_take, nv_drop, List.nil_append] at hM
            replace hB := hB.trans hbl11
            refine ⟨hB, ?_⟩
            refine DT.vv rfl rfl rfl (by decide) (Val.index1 Try.underlying33 elem3 rfl rfl (by first | omega | (simp only [List.length_set]; omega)) (hM.o0.rd) (nv_lt (by first | omega | (simp only [List.length_set]; omega)))) ?_
            refine DT.m rfl rfl (Step.store (B := B) rfl rfl flat3 elem3 rfl rfl rfl (hM.o0) (by first | omega | (simp only [List.length_set]; omega)) (Nat.le_trans hB0 hB.size) ?_)
            rintro w12 hO12 hg12 hbl12 hsz12
            replace hM := hM.s0 hg12 hO12 inl_block
            try simp only [nv_app1, nv_app, nv_set, nv_rep, nv_one, nv_cons, nv_take, nv_drop, List.nil_append] at hM
            replace hB := hB.trans hbl12
            refine ⟨hB, ?_⟩
            refine DT.nil ?_
            refine inBlk_normal ?_
            refine thenP_normal ?_
            refine W.reg ?_
            refine LS.vv rfl rfl (by decide) (Val.move rfl) ?_
            first | refine LS.vv rfl rfl (by decide) (Val.subN (j := 1) rfl rfl (by first | omega | (simp only [List.length_set]; omega)) (by first | omega | (simp only [List.length_set]; omega))) ?_ | refine LS.vv rfl rfl (by decide) (Val.sub64 rfl rfl (by first | omega | (simp only [List.length_set]; omega))) ?_
            refine LS.vv rfl rfl (by decide) (Val.assign rfl) ?_
            refine LS.nil ?_
            refine thenP_normal ?_
            obtain ⟨q, rfl⟩ : ∃ q, k = q + 1 := ⟨k - 1, by omega⟩
            rw [Nat.add_sub_cancel, show q + 1 - a = q - a + 1 by omega, upT_step2 P x A S (by omega) (by omega)] at hM
            refine ⟨q, (Sub.cons' rfl (by congr 1) (Sub.nil _)), (by repeat (first | exact Sub.nil _ | refine Sub.cons rfl ?_)), ⟨⟨by omega, by omega⟩, hM, hB⟩, by omega⟩
          ·
            refine DT.m rfl rfl (Step.load rfl rfl (by decide) flat3 rfl (hM.o0.rd) (nv_at (by first | omega | (simp only [List.length_set]; omega))) ?_)
            refine ⟨hB, ?_⟩
            refine DT.m rfl rfl (Step.load rfl rfl (by decide) flat3 rfl (hM.o0.rd) (nv_at (by first | omega | (simp only [List.length_set]; omega))) ?_)
            refine ⟨hB, ?_⟩
            refine DT.vv rfl rfl rfl (by decide) (Val.index1 Try.underlying33 elem3 rfl rfl (by first | omega | (simp only [List.length_set]; omega)) (hM.o0.rd) (nv_lt (by first | omega | (simp only [List.length_set]; omega)))) ?_
            refine DT.m rfl rfl (Step.store (B := B) rfl rfl flat3 elem3 rfl rfl rfl (hM.o0) (by first | omega | (simp only [List.length_set]; omega)) (Nat.le_trans hB0 hB.size) ?_)
            rintro w13 hO13 hg13 hbl13 hsz13
            replace hM := hM.s0 hg13 hO13 inl_block
            try simp only [nv_app1, nv_app, nv_set, nv_rep, nv_one, nv_cons, nv_take, nv_drop, List.nil_append] at hM
            replace hB := hB.trans hbl13
            refine ⟨hB, ?_⟩
            refine DT.vv rfl rfl rfl (by decide) (Val.index1 Try.underlying33 elem3 rfl rfl (by first | omega | (simp only [List.length_set]; omega)) (hM.o0.rd) (nv_lt (by first | omega | (simp only [List.length_set]; omega)))) ?_
            refine DT.m rfl rfl (Step.store (B := B) rfl rfl flat3 elem3 rfl rfl rfl (hM.o0) (by first | omega | (simp only [List.length_set]; omega)) (Nat.le_trans hB0 hB.size) ?_)
            rintro w14 hO14 hg14 hbl14 hsz14
            replace hM := hM.s0 hg14 hO14 inl_block
            try simp only [nv_app1, nv_app, nv_set, nv_rep, nv_one, nv_cons, nv_take, nv_drop, List.nil_append] at hM
            replace hB := hB.trans hbl14
            refine ⟨hB, ?_⟩
            refine DT.nil ?_
            refine inBlk_normal ?_
            refine thenP_normal ?_
            refine W.reg ?_
            refine LS.vv rfl rfl (by decide) (Val.move rfl) ?_
            first | refine LS.vv rfl rfl (by decide) (Val.subN (j := 1) rfl rfl (by first | omega | (simp only [List.length_set]; omega)) (by first | omega | (simp only [List.length_set]; omega))) ?_ | refine LS.vv rfl rfl (by decide) (Val.sub64 rfl rfl (by first | omega | (simp only [List.length_set]; omega))) ?_
            refine LS.vv rfl rfl (by decide) (Val.assign rfl) ?_
            refine LS.nil ?_
            refine thenP_normal ?_
            obtain ⟨q, rfl⟩ : ∃ q, k = q + 1 := ⟨k - 1, by omega⟩
            rw [Nat.add_sub_cancel, show q + 1 - a = q - a + 1 by omega, upT_step2 P x A S (by omega) (by omega)] at hM
            refine ⟨q, (Sub.cons' rfl (by congr 1) (Sub.nil _)), (by repeat (first | exact Sub.nil _ | refine Sub.cons rfl ?_)), ⟨⟨by omega, by omega⟩, hM, hB⟩, by omega⟩
        ·
          refine W.exit ?_
          refine thenP_exit ?_
          refine thenP_exit ?_
          refine inBlk_exit ?_
          refine thenP_normal ?_
          refine W.ret ?_
          refine thenP_ret ?_
          refine ret0 (by first | exact .inl rfl | exact .inr rfl) ?_
          first
            | (obtain rfl : k = i - 1 := by omega
               rw [upT_eq] at hM
               refine ⟨_, rfl, hM, ins1_perm, ins1 sE (by omega) ?_ ?_, hB⟩
               · rcases hs1 with h9 | h9
                 · exact .inl (by omega)
                 · rw [hxg] at h9
                   by_cases h8 : i = m
                   · exact .inl (by omega)
                   · rw [hgE _ (by omega) (by omega)] at h9; rw [show i - 1 - a - 1 = i - 1 - m by omega]; exact .inr h9
               · rcases hs2 with h9 | h9
                 · exact .inl (by omega)
                 · rw [hxg] at h9
                   by_cases h8 : j = b
                   · exact .inl (by omega)
                   · rw [hgE _ (by omega) (by omega)] at h9; rw [show i - 1 - a = j - m by omega]; exact .inr h9)
            | (obtain rfl : k = i := by omega
               rw [upT_eq] at hM
               refine ⟨_, rfl, hM, ins1_perm2, ins1 sA (by omega) ?_ ?_, hB⟩
               · rcases hs1 with h9 | h9
                 · exact .inl (by omega)
                 · rw [hxg] at h9
                   by_cases h8 : k = a
                   · exact .inl (by omega)
                   · rw [hgA _ (by omega) (by omega)] at h9; rw [show k - a - 1 = k - 1 - a by omega]; exact .inr h9
               · rcases hs2 with h9 | h9
                 · exact .inl (by omega)
                 · rw [hxg] at h9
                   by_cases h8 : j = m
                   · exact .inl (by omega)
                   · rw [hgA _ (by omega) (by omega)] at h9; rw [show k - a = j - a by omega]; exact .inr h9)
            | (refine ⟨X1 ++ Y, rfl, (by simp only [List.append_assoc]; exact hM), mrg_perm hX1 hY1, mrg_srt hX1 hY1 hX1s hY2 sA sE hab hba, hB⟩; done)
            | (have h9 : A2.length = 0 ∨ E2.length = 0 := by omega
               have hs9 : Srt (KK key) (A2 ++ E2) := by rcases h9 with h9 | h9; (rw [nil_of h9]; exact hEp.2.1); (rw [nil_of h9, List.append_nil]; exact hAp.2.1)
               exact ⟨X1 ++ (A2 ++ E2), rfl, (by simp only [List.append_assoc]; exact hM), mrg_perm hX1 (List.Perm.refl _), mrg_srt hX1 (List.Perm.refl _) hX1s hs9 sA sE hab hba, hB⟩)
    ·
      refine W.skip ?_
      refine thenP_normal ?_
      refine W.seqR ?_
      refine LS.vv rfl rfl (by decide) (Val.move rfl) ?_
      refine LS.vv rfl rfl (by decide) (Val.move rfl) ?_
      first | refine LS.vv rfl rfl (by decide) (Val.addN rfl rfl (by first | omega | (simp only [List.length_set]; omega))) ?_ | refine LS.vv rfl rfl (by decide) (Val.add64 rfl rfl (by first | omega | (simp only [List.length_set]; omega))) ?_
      refine LS.vv rfl rfl (by decide) (Val.conv rfl Try.underlying3 Try.underlying76 (IntWalk.u64_in _ (by first | omega | (simp only [List.length_set]; omega)))) ?_
      refine LS.vv rfl rfl (by decide) (Val.cast (v := .int .u64 (((a + b) / 2 : Nat) : Int)) (Val.shr (j := 1) rfl rfl (by simp only [IntKind.bits]; first | omega | (simp only [List.length_set]; omega))) (by first | rfl | simp [Nat.shiftRight_eq_div_pow])) ?_
      refine LS.vv rfl rfl (by decide) (Val.conv rfl Try.underlying76 Try.underlying3 (IntWalk.i64_in _ (by first | omega | (simp only [List.length_set]; omega)))) ?_
      generalize hmid : (a + b) / 2 = mid at *
      refine LS.vv rfl rfl (by decide) (Val.assign rfl) ?_
      refine LS.nil ?_
      refine W.seqR ?_
      refine LS.vv rfl rfl (by decide) (Val.move rfl) ?_
      refine LS.vv rfl rfl (by decide) (Val.move rfl) ?_
      first | refine LS.vv rfl rfl (by decide) (Val.addN rfl rfl (by first | omega | (simp only [List.length_set]; omega))) ?_ | refine LS.vv rfl rfl (by decide) (Val.add64 rfl rfl (by first | omega | (simp only [List.length_set]; omega))) ?_
      refine LS.vv rfl rfl (by decide) (Val.assign rfl) ?_
      refine LS.nil ?_
      refine W.seqR ?_
      refine LS.vv rfl rfl (by decide) (Val.cast (v := .int .i64 ((0 : Nat) : Int)) (Val.assign rfl) rfl) ?_
      refine LS.vv rfl rfl (by decide) (Val.cast (v := .int .i64 ((0 : Nat) : Int)) (Val.assign rfl) rfl) ?_
      refine LS.nil ?_
      refine W.mid (α := Nat × Nat) (fun g => [(20, .int .i64 (g.1 : Int)), (21, .int .i64 (g.2 : Int))]) [(0, _), (1, _), (2, _), (3, _), (4, _), (18, _), (19, _)] (fun g w => ((g.1 = a ∧ g.2 = m ∧ m ≤ mid) ∨ (g.1 = mid + m - b ∧ g.2 = mid ∧ mid < m)) ∧ Mem w B (⟨3, p, n, c, nv L⟩ :: Z) ∧ Below B w0 w) (Sub.cons rfl (Sub.cons rfl (Sub.cons rfl (Sub.cons rfl (Sub.cons rfl (Sub.cons rfl (Sub.cons rfl (Sub.nil _)))))))) ?_ ?_
      ·
        refine W.seqR ?_
        refine LS.vv rfl rfl (by decide) (Val.move rfl) ?_
        refine LS.vv rfl rfl (by decide) (Val.move rfl) ?_
        refine LS.vv rfl rfl (by decide) (Val.gtr rfl rfl) ?_
        refine LS.nil ?_
        first | refine W.condD rfl (fun hc9 => ?_) (fun hc9 => ?_) | refine W.cond rfl (fun hc9 => ?_) (fun hc9 => ?_)
        ·
          refine W.seqR ?_
          refine LS.vv rfl rfl (by decide) (Val.move rfl) ?_
          refine LS.vv rfl rfl (by decide) (Val.move rfl) ?_
          first | refine LS.vv rfl rfl (by decide) (Val.subN rfl rfl (by first | omega | (simp only [List.length_set]; omega)) (by first | omega | (simp only [List.length_set]; omega))) ?_ | refine LS.vv rfl rfl (by decide) (Val.sub64 rfl rfl (by first | omega | (simp only [List.length_set]; omega))) ?_
          refine LS.vv rfl rfl (by decide) (Val.assign rfl) ?_
          refine LS.nil ?_
          refine W.reg ?_
          refine LS.vv rfl rfl (by decide) (Val.move rfl) ?_
          refine LS.vv rfl rfl (by decide) (Val.assign rfl) ?_
          refine LS.nil ?_
          refine thenP_normal ?_
          first
            | (refine ⟨(mid + m - b, mid), (Sub.cons rfl (Sub.cons rfl (Sub.nil _))), (by repeat (first | exact Sub.nil _ | refine Sub.cons rfl ?_)), ⟨.inr ⟨rfl, rfl, by omega⟩, hM, hB⟩⟩)
            | (refine ⟨(a, m), (Sub.cons rfl (Sub.cons rfl (Sub.nil _))), (by repeat (first | exact Sub.nil _ | refine Sub.cons rfl ?_)), ⟨.inl ⟨rfl, rfl, by omega⟩, hM, hB⟩⟩)
        ·
          refine W.seqR ?_
          refine LS.vv rfl rfl (by decide) (Val.move rfl) ?_
          refine LS.vv rfl rfl (by decide) (Val.assign rfl) ?_
          refine LS.nil ?_
          refine W.reg ?_
          refine LS.vv rfl rfl (by decide) (Val.move rfl) ?_
          refine LS.vv rfl rfl (by decide) (Val.assign rfl) ?_
          refine LS.nil ?_
          refine thenP_normal ?_
          first
            | (refine ⟨(mid + m - b, mid), (Sub.cons rfl (Sub.cons rfl (Sub.nil _))), (by repeat (first | exact Sub.nil _ | refine Sub.cons rfl ?_)), ⟨.inr ⟨rfl, rfl, by omega⟩, hM, hB⟩⟩)
            | (refine ⟨(a, m), (Sub.cons rfl (Sub.cons rfl (Sub.nil _))), (by repeat (first | exact Sub.nil _ | refine Sub.cons rfl ?_)), ⟨.inl ⟨rfl, rfl, by omega⟩, hM, hB⟩⟩)
      ·
        rintro ⟨s0, r0⟩ w15 ⟨hs0, hM, hB⟩
        simp only [List.cons_append, List.nil_append]
        try simp only at hM
        simp only at hs0
        refine W.seqR ?_
        refine LS.vv rfl rfl (by decide) (Val.move rfl) ?_
        first | refine LS.vv rfl rfl (by decide) (Val.subN (j := 1) rfl rfl (by first | omega | (simp only [List.length_set]; omega)) (by first | omega | (simp only [List.length_set]; omega))) ?_ | refine LS.vv rfl rfl (by decide) (Val.sub64 rfl rfl (by first | omega | (simp only [List.length_set]; omega))) ?_
        refine LS.vv rfl rfl (by decide) (Val.assign rfl) ?_
        refine LS.nil ?_
        refine W.seq ?_
        refine W.block ?_
        refine W.loop (α := Nat × Nat) (fun g => [(20, .int .i64 (g.1 : Int)), (21, .int .i64 (g.2 : Int))]) [(0, _), (1, _), (2, _), (3, _), (4, _), (18, _), (19, _), (22, _)] (fun g w => (s0 ≤ g.1 ∧ g.1 ≤ g.2 ∧ g.2 ≤ r0 ∧ (g.1 = s0 ∨ KK key (gn L (g.1 - 1)) < KK key (gn L (mid + m - 1 - (g.1 - 1)))) ∧ (g.2 = r0 ∨ KK key (gn L (mid + m - 1 - g.2)) < KK key (gn L g.2))) ∧ Mem w B (⟨3, p, n, c, nv L⟩ :: Z) ∧ Below B w0 w) (fun g => g.2 - g.1) ((s0, r0)) (Sub.cons rfl (Sub.cons rfl (Sub.nil _))) (Sub.cons rfl (Sub.cons rfl (Sub.cons rfl (Sub.cons rfl (Sub.cons rfl (Sub.cons rfl (Sub.cons rfl (Sub.cons rfl (Sub.nil _))))))))) ?_ ?_
        · exact ⟨⟨Nat.le_refl _, by simp only; omega, Nat.le_refl _, .inl rfl, .inl rfl⟩, hM, hB⟩
        rintro ⟨st, r⟩ w16 ⟨⟨hi1, hij, hj1, hs1, hs2⟩, hM, hB⟩
        try simp only at hM
        simp only [List.cons_append, List.nil_append]
        simp only at hi1 hij hj1 hs1 hs2
        refine W.seq ?_
        refine W.seqR ?_
        refine LS.vv rfl rfl (by decide) (Val.move rfl) ?_
        refine LS.vv rfl rfl (by decide) (Val.move rfl) ?_
        refine LS.vv rfl rfl (by decide) (Val.lss rfl rfl) ?_
        refine LS.nil ?_
        first | refine W.condD rfl (fun hc10 => ?_) (fun hc10 => ?_) | refine W.cond rfl (fun hc10 => ?_) (fun hc10 => ?_)
        ·
          refine W.skip ?_
          refine thenP_normal ?_
          refine W.block ?_
          refine W.seqR ?_
          refine LS.vv rfl rfl (by decide) (Val.move rfl) ?_
          refine LS.vv rfl rfl (by decide) (Val.move rfl) ?_
          first | refine LS.vv rfl rfl (by decide) (Val.addN rfl rfl (by first | omega | (simp only [List.length_set]; omega))) ?_ | refine LS.vv rfl rfl (by decide) (Val.add64 rfl rfl (by first | omega | (simp only [List.length_set]; omega))) ?_
          refine LS.vv rfl rfl (by decide) (Val.conv rfl Try.underlying3 Try.underlying76 (IntWalk.u64_in _ (by first | omega | (simp only [List.length_set]; omega)))) ?_
          refine LS.vv rfl rfl (by decide) (Val.cast (v := .int .u64 (((st + r) / 2 : Nat) : Int)) (Val.shr (j := 1) rfl rfl (by simp only [IntKind.bits]; first | omega | (simp only [List.length_set]; omega))) (by first | rfl | simp [Nat.shiftRight_eq_div_pow])) ?_
          refine LS.vv rfl rfl (by decide) (Val.conv rfl Try.underlying76 Try.underlying3 (IntWalk.i64_in _ (by first | omega | (simp only [List.length_set]; omega)))) ?_
          refine LS.vv rfl rfl (by decide) (Val.assign rfl) ?_
          refine LS.nil ?_
          refine W.seqF 14 [(0, true), (1, true), (2, true), (3, true), (4, true), (5, true), (6, true), (7, true), (8, true), (9, true), (10, true), (11, false), (12, true), (13, true)] mixed (by kernel_rfl) hB hM ?_
          replace hB := hB.drew
          replace hM := hM.drew
          refine DF.vv rfl rfl rfl (by decide) (Val.move rfl) ?_
          refine DF.vv rfl rfl rfl (by decide) (Val.move rfl) ?_
          refine DF.vv rfl rfl rfl (by decide) (Val.move rfl) ?_
          refine DF.vv rfl rfl rfl (by decide) (Val.move rfl) ?_
          first | refine DF.vv rfl rfl rfl (by decide) (Val.subN rfl rfl (by first | omega | (simp only [List.length_set]; omega)) (by first | omega | (simp only [List.length_set]; omega))) ?_ | refine DF.vv rfl rfl rfl (by decide) (Val.sub64 rfl rfl (by first | omega | (simp only [List.length_set]; omega))) ?_
          refine DF.vv rfl rfl rfl (by decide) (Val.index1 Try.underlying33 elem3 rfl rfl (by first | omega | (simp only [List.length_set]; omega)) (hM.o0.rd) (nv_lt (by first | omega | (simp only [List.length_set]; omega)))) ?_
          refine DF.vv rfl rfl rfl (by decide) (Val.load flat3 rfl (fun _ h => h.2.o0.rd) (nv_at (by first | omega | (simp only [List.length_set]; omega)))) ?_
          refine DF.vv rfl rfl rfl (by decide) (Val.move rfl) ?_
          refine DF.vv rfl rfl rfl (by decide) (Val.move rfl) ?_
          refine DF.vv rfl rfl rfl (by decide) (Val.index1 Try.underlying33 elem3 rfl rfl (by first | omega | (simp only [List.length_set]; omega)) (hM.o0.rd) (nv_lt (by first | omega | (simp only [List.length_set]; omega)))) ?_
          refine DF.vv rfl rfl rfl (by decide) (Val.load flat3 rfl (fun _ h => h.2.o0.rd) (nv_at (by first | omega | (simp only [List.length_set]; omega)))) ?_
          have hk9 := kk_less (key := key) (hlt ((st + r) / 2) (mid + m - 1 - (st + r) / 2) (by omega) (by omega) (by omega) (by omega)) (by have := hnE (mid + m - 1 - (st + r) / 2) (by omega) (by omega); omega)
          refine DF.m rfl rfl (Step.callV hC.body rfl rfl rfl (by decide) rfl (CallsV.mono (hC.call _ _ _ (hnE (mid + m - 1 - (st + r) / 2) (by omega) (by omega)) (hnA ((st + r) / 2) (by omega) (by omega)) ⟨_, hM⟩ (hwb.trans hB)) ?_))
          rintro _ w17 ⟨zc, rfl, hzc, hb17⟩
          replace hM := hM.below hb17
          replace hB := hB.trans (hb17.mono (Nat.le_trans hB0 hB.size))
          refine ⟨fun _ => ⟨hB, hM⟩, ?_⟩
          refine DF.vv rfl rfl rfl (by decide) (Val.lss rfl rfl) ?_
          refine DF.vv rfl rfl rfl (by decide) (Val.not rfl) ?_
          refine DF.nil ?_
          first | refine W.condD rfl (fun hc11 => ?_) (fun hc11 => ?_) | refine W.cond rfl (fun hc11 => ?_) (fun hc11 => ?_)
          ·
            have hz9 : ¬ zc < 0 := by simpa using (by assumption : (!decide (zc < 0)) = true)
            refine W.reg ?_
            refine LS.vv rfl rfl (by decide) (Val.move rfl) ?_
            first | refine LS.vv rfl rfl (by decide) (Val.addN (j := 1) rfl rfl (by first | omega | (simp only [List.length_set]; omega))) ?_ | refine LS.vv rfl rfl (by decide) (Val.add64 rfl rfl (by first | omega | (simp only [List.length_set]; omega))) ?_
            refine LS.vv rfl rfl (by decide) (Val.assign rfl) ?_
            refine LS.nil ?_
            refine inBlk_normal ?_
            refine thenP_normal ?_
            first
              | (refine ⟨((st + r) / 2 + 1, r), (Sub.cons rfl (Sub.cons rfl (Sub.nil _))), (by repeat (first | exact Sub.nil _ | refine Sub.cons rfl ?_)), ⟨⟨by simp only; omega, by simp only; omega, hj1, .inr (by rw [show (st + r) / 2 + 1 - 1 = (st + r) / 2 by omega]; exact hk9.2 (fun h => absurd (hzc.2 h) (by omega))), hs2⟩, hM, hB⟩, by simp only; omega⟩)
              | (refine ⟨(st, (st + r) / 2), (Sub.cons rfl (Sub.cons rfl (Sub.nil _))), (by repeat (first | exact Sub.nil _ | refine Sub.cons rfl ?_)), ⟨⟨hi1, by simp only; omega, by simp only; omega, hs1, .inr (hk9.1 (hzc.1 (by omega)))⟩, hM, hB⟩, by simp only; omega⟩)
          ·
            have hz9 : zc < 0 := by simpa using (by assumption : (!decide (zc < 0)) = false)
            refine W.reg ?_
            refine LS.vv rfl rfl (by decide) (Val.move rfl) ?_
            refine LS.vv rfl rfl (by decide) (Val.assign rfl) ?_
            refine LS.nil ?_
            refine inBlk_normal ?_
            refine thenP_normal ?_
            first
              | (refine ⟨((st + r) / 2 + 1, r), (Sub.cons rfl (Sub.cons rfl (Sub.nil _))), (by repeat (first | exact Sub.nil _ | refine Sub.cons rfl ?_)), ⟨⟨by simp only; omega, by simp only; omega, hj1, .inr (by rw [show (st + r) / 2 + 1 - 1 = (st + r) / 2 by omega]; exact hk9.2 (fun h => absurd (hzc.2 h) (by omega))), hs2⟩, hM, hB⟩, by simp only; omega⟩)
              | (refine ⟨(st, (st + r) / 2), (Sub.cons rfl (Sub.cons rfl (Sub.nil _))), (by repeat (first | exact Sub.nil _ | refine Sub.cons rfl ?_)), ⟨⟨hi1, by simp only; omega, by simp only; omega, hs1, .inr (hk9.1 (hzc.1 (by omega)))⟩, hM, hB⟩, by simp only; omega⟩)
        ·
          have hsr : st = r := by omega
          subst hsr
          obtain ⟨A1, A2, E1, E2, rfl, rfl, hA1, hE1, hab, hba⟩ := sym_cut (i := st - a) (j := mid + m - st - m) sA sE (by omega) (by omega) (by
            rcases hs1 with h9 | h9
            · omega
            · by_cases h8 : st = s0
              · omega
              · rw [hgA _ (by omega) (by omega), hgE _ (by omega) (by omega), show st - 1 - a = st - a - 1 by omega, show mid + m - 1 - (st - 1) - m = mid + m - st - m by omega] at h9; exact .inr (.inr h9)) (by
            rcases hs2 with h9 | h9
            · omega
            · by_cases h8 : st = r0
              · omega
              · rw [hgE _ (by omega) (by omega), hgA _ (by omega) (by omega), show mid + m - 1 - st - m = mid + m - st - m - 1 by omega] at h9; exact .inr (.inr h9))
          rw [List.length_append] at hm hb hA0 hE0
          rw [List.length_append, List.length_append] at hn hN
          rw [hL] at hM
          simp only [List.append_assoc] at hM
          have hAp := List.pairwise_append.1 sA
          have hEp := List.pairwise_append.1 sE
          refine W.exit ?_
          refine thenP_exit ?_
          refine thenP_exit ?_
          refine inBlk_exit ?_
          refine thenP_normal ?_
          refine W.seqR ?_
          refine LS.vv rfl rfl (by decide) (Val.move rfl) ?_
          refine LS.vv rfl rfl (by decide) (Val.move rfl) ?_
          first | refine LS.vv rfl rfl (by decide) (Val.subN rfl rfl (by first | omega | (simp only [List.length_set]; omega)) (by first | omega | (simp only [List.length_set]; omega))) ?_ | refine LS.vv rfl rfl (by decide) (Val.sub64 rfl rfl (by first | omega | (simp only [List.length_set]; omega))) ?_
          generalize hen : mid + m - st = en at *
          refine LS.vv rfl rfl (by decide) (Val.assign rfl) ?_
          refine LS.nil ?_
          refine W.mid (α := Unit) (fun _ => []) [(0, _), (1, _), (3, _), (4, _), (18, _), (20, _), (24, _)] (fun _ w => (True) ∧ Mem w B (⟨3, p, n, c, nv (P ++ (A1 ++ (E1 ++ (A2 ++ (E2 ++ S)))))⟩ :: Z) ∧ Below B w0 w) (Sub.cons rfl (Sub.cons rfl (Sub.cons rfl (Sub.cons rfl (Sub.cons rfl (Sub.cons rfl (Sub.cons rfl (Sub.nil _)))))))) ?_ ?_
          ·
            refine W.mid (α := Unit) (fun _ => [(185, .bool (decide (st < m ∧ m < en)))]) [(0, _), (1, _), (2, _), (3, _), (4, _), (18, _), (20, _), (24, _)] (fun _ w => (True) ∧ Mem w B (⟨3, p, n, c, nv (P ++ (A1 ++ (A2 ++ (E1 ++ (E2 ++ S)))))⟩ :: Z) ∧ Below B w0 w) (Sub.cons rfl (Sub.cons rfl (Sub.cons rfl (Sub.cons rfl (Sub.cons rfl (Sub.cons rfl (Sub.cons rfl (Sub.cons rfl (Sub.nil _))))))))) ?_ ?_
            ·
              refine W.reg ?_
              refine LS.vv rfl rfl (by decide) (Val.move rfl) ?_
              refine LS.vv rfl rfl (by decide) (Val.move rfl) ?_
              refine LS.vv rfl rfl (by decide) (Val.lss rfl rfl) ?_
              refine LS.vv rfl rfl (by decide) (Val.move rfl) ?_
              refine LS.split 3 rfl (fun hg12 => ?_) (fun hg12 => ?_)
              ·
                first | (have hg12p := of_decide_eq_true hg12) | skip
                refine LS.vg rfl rfl rfl hg12 (by decide) (Val.move rfl) ?_
                refine LS.vg rfl rfl rfl hg12 (by decide) (Val.move rfl) ?_
                refine LS.vg rfl rfl rfl hg12 (by decide) (Val.lss rfl rfl) ?_
                refine LS.vv rfl rfl (by decide) (Val.pickT rfl hg12 rfl) ?_
                refine LS.nil ?_
                refine thenP_normal ?_
                refine ⟨(), ?_, ?_, ⟨trivial, hM, hB⟩⟩
                · exact Sub.cons' rfl (congrArg Value.bool (by first | exact decide_eq_decide.2 (by omega) | exact (decide_eq_false (by omega)).symm | exact (decide_eq_true (by omega)).symm)) (Sub.nil _)
                · repeat (first | exact Sub.nil _ | refine Sub.cons rfl ?_)
              ·
                first | (have hg12p := of_decide_eq_false hg12) | skip
                refine LS.s rfl rfl rfl hg12 (by decide) ?_
                refine LS.s rfl rfl rfl hg12 (by decide) ?_
                refine LS.s rfl rfl rfl hg12 (by decide) ?_
                refine LS.vv rfl rfl (by decide) (Val.pickF rfl hg12 rfl) ?_
                refine LS.nil ?_
                refine thenP_normal ?_
                refine ⟨(), ?_, ?_, ⟨trivial, hM, hB⟩⟩
                · exact Sub.cons' rfl (congrArg Value.bool (by first | exact decide_eq_decide.2 (by omega) | exact (decide_eq_false (by omega)).symm | exact (decide_eq_true (by omega)).symm)) (Sub.nil _)
                · repeat (first | exact Sub.nil _ | refine Sub.cons rfl ?_)
            ·
              rintro _ w18 ⟨_, hM, hB⟩
              simp only [List.cons_append, List.nil_append]
              try simp only at hM
              first | refine W.condD rfl (fun hc13 => ?_) (fun hc13 => ?_) | refine W.cond rfl (fun hc13 => ?_) (fun hc13 => ?_)
              ·
                refine W.reg ?_
                refine LS.vv rfl rfl (by decide) (Val.move rfl) ?_
                refine LS.vv rfl rfl (by decide) (Val.move rfl) ?_
                refine LS.vv rfl rfl (by decide) (Val.move rfl) ?_
                refine LS.vv rfl rfl (by decide) (Val.move rfl) ?_
                refine LS.vv rfl rfl (by decide) (Val.move rfl) ?_
                rw [← List.append_assoc P A1] at hM
                refine LS.m rfl (Step.call body61 rfl rfl (by decide) rfl (CallsV.mono (rotate_any (P ++ A1) A2 E1 (E2 ++ S) _ _ _ f cap p n c B Z _ hM (Nat.le_trans hB0 hB.size) (by rw [List.length_append]; omega) (by omega) (by omega) (by omega) (by omega) (by rw [List.length_append, List.length_append]; omega) (by omega)) ?_))
                rintro _ w19 ⟨rfl, hM19, hb19⟩
                replace hM := hM19
                replace hB := hB.trans hb19
                rw [List.append_assoc P A1] at hM
                refine LS.nil ?_
                refine thenP_normal ?_
                refine ⟨(), Sub.nil _, (by repeat (first | exact Sub.nil _ | refine Sub.cons rfl ?_)), ⟨trivial, ?_, hB⟩⟩
                first
                  | exact hM
                  | (have h9 : A2.length = 0 ∨ E1.length = 0 := by omega
                     rcases h9 with h9 | h9 <;> (rw [nil_of h9] at hM ⊢; simpa using hM))
              ·
                refine W.skip ?_
                refine thenP_normal ?_
                refine ⟨(), Sub.nil _, (by repeat (first | exact Sub.nil _ | refine Sub.cons rfl ?_)), ⟨trivial, ?_, hB⟩⟩
                first
                  | exact hM
                  | (have h9 : A2.length = 0 ∨ E1.length = 0 := by omega
                     rcases h9 with h9 | h9 <;> (rw [nil_of h9] at hM ⊢; simpa using hM))
          ·
            rintro _ w20 ⟨_, hM, hB⟩
            simp only [List.cons_append, List.nil_append]
            try simp only at hM
            refine W.mid (α := List Nat) (fun X1 => []) [(0, _), (3, _), (4, _), (18, _), (24, _)] (fun X1 w => (X1.Perm (A1 ++ E1) ∧ Srt (KK key) X1) ∧ Mem w B (⟨3, p, n, c, nv (P ++ (X1 ++ (A2 ++ (E2 ++ S))))⟩ :: Z) ∧ Below B w0 w) (Sub.cons rfl (Sub.cons rfl (Sub.cons rfl (Sub.cons rfl (Sub.cons rfl (Sub.nil _)))))) ?_ ?_
            ·
              refine W.mid (α := Unit) (fun _ => [(199, .bool (decide (a < st ∧ st < mid)))]) [(0, _), (1, _), (3, _), (4, _), (18, _), (20, _), (24, _)] (fun _ w => (True) ∧ Mem w B (⟨3, p, n, c, nv (P ++ (A1 ++ (E1 ++ (A2 ++ (E2 ++ S)))))⟩ :: Z) ∧ Below B w0 w) (Sub.cons rfl (Sub.cons rfl (Sub.cons rfl (Sub.cons rfl (Sub.cons rfl (Sub.cons rfl (Sub.cons rfl (Sub.nil _)))))))) ?_ ?_
              ·
                refine W.reg ?_
                refine LS.vv rfl rfl (by decide) (Val.move rfl) ?_
                refine LS.vv rfl rfl (by decide) (Val.move rfl) ?_
                refine LS.vv rfl rfl (by decide) (Val.lss rfl rfl) ?_
                refine LS.vv rfl rfl (by decide) (Val.move rfl) ?_
                refine LS.split 3 rfl (fun hg14 => ?_) (fun hg14 => ?_)
                ·
                  first | (have hg14p := of_decide_eq_true hg14) | skip
                  refine LS.vg rfl rfl rfl hg14 (by decide) (Val.move rfl) ?_
                  refine LS.vg rfl rfl rfl hg14 (by decide) (Val.move rfl) ?_
                  refine LS.vg rfl rfl rfl hg14 (by decide) (Val.lss rfl rfl) ?_
                  refine LS.vv rfl rfl (by decide) (Val.pickT rfl hg14 rfl) ?_
                  refine LS.nil ?_
                  refine thenP_normal ?_
                  refine ⟨(), ?_, ?_, ⟨trivial, hM, hB⟩⟩
                  · exact Sub.cons' rfl (congrArg Value.bool (by first | exact decide_eq_decide.2 (by omega) | exact (decide_eq_false (by omega)).symm | exact (decide_eq_true (by omega)).symm)) (Sub.nil _)
                  · repeat (first | exact Sub.nil _ | refine Sub.cons rfl ?_)
                ·
                  first | (have hg14p := of_decide_eq_false hg14) | skip
                  refine LS.s rfl rfl rfl hg14 (by decide) ?_
                  refine LS.s rfl rfl rfl hg14 (by decide) ?_
                  refine LS.s rfl rfl rfl hg14 (by decide) ?_
                  refine LS.vv rfl rfl (by decide) (Val.pickF rfl hg14 rfl) ?_
                  refine LS.nil ?_
                  refine thenP_normal ?_
                  refine ⟨(), ?_, ?_, ⟨trivial, hM, hB⟩⟩
                  · exact Sub.cons' rfl (congrArg Value.bool (by first | exact decide_eq_decide.2 (by omega) | exact (decide_eq_false (by omega)).symm | exact (decide_eq_true (by omega)).symm)) (Sub.nil _)
                  · repeat (first | exact Sub.nil _ | refine Sub.cons rfl ?_)
              ·
                rintro _ w21 ⟨_, hM, hB⟩
                simp only [List.cons_append, List.nil_append]
                try simp only at hM
                first | refine W.condD rfl (fun hc15 => ?_) (fun hc15 => ?_) | refine W.cond rfl (fun hc15 => ?_) (fun hc15 => ?_)
                ·
                  refine W.reg ?_
                  refine LS.vv rfl rfl (by decide) (Val.move rfl) ?_
                  refine LS.vv rfl rfl (by decide) (Val.move rfl) ?_
                  refine LS.vv rfl rfl (by decide) (Val.move rfl) ?_
                  refine LS.vv rfl rfl (by decide) (Val.move rfl) ?_
                  refine LS.vv rfl rfl (by decide) (Val.move rfl) ?_
                  refine LS.m rfl (Step.call body60 rfl rfl (by decide) rfl (CallsV.mono (ih (A1.length + E1.length) (by omega) P A1 E1 (A2 ++ (E2 ++ S)) _ _ _ _ (Nat.le_refl _) hM (Nat.le_trans hB0 hB.size) (hwb.trans hB) ha (by omega) (by omega) (by omega) (by omega) (by rw [List.length_append, List.length_append]; omega) hAp.1 hEp.1 (fun x h => hAn x (List.mem_append_left _ h)) (fun x h => hEn x (List.mem_append_left _ h)) (fun x hx y hy => hAE x (List.mem_append_left _ hx) y (List.mem_append_left _ hy))) ?_))
                  rintro _ w22 ⟨Y, rfl, hM22, hY1, hY2, hb22⟩
                  replace hM := hM22
                  replace hB := hB.trans hb22
                  refine LS.nil ?_
                  refine thenP_normal ?_
                  first
                    | (refine ⟨Y, Sub.nil _, (by repeat (first | exact Sub.nil _ | refine Sub.cons rfl ?_)), ⟨⟨hY1, hY2⟩, hM, hB⟩⟩; done)
                    | (refine ⟨A1 ++ E1, Sub.nil _, (by repeat (first | exact Sub.nil _ | refine Sub.cons rfl ?_)), ⟨⟨List.Perm.refl _, ?_⟩, by simp only [List.append_assoc]; exact hM, hB⟩⟩
                       have h9 : A1.length = 0 ∨ E1.length = 0 := by omega
                       rcases h9 with h9 | h9
                       · rw [nil_of h9]; exact hEp.1
                       · rw [nil_of h9, List.append_nil]; exact hAp.1)
                ·
                  refine W.skip ?_
                  refine thenP_normal ?_
                  first
                    | (refine ⟨Y, Sub.nil _, (by repeat (first | exact Sub.nil _ | refine Sub.cons rfl ?_)), ⟨⟨hY1, hY2⟩, hM, hB⟩⟩; done)
                    | (refine ⟨A1 ++ E1, Sub.nil _, (by repeat (first | exact Sub.nil _ | refine Sub.cons rfl ?_)), ⟨⟨List.Perm.refl _, ?_⟩, by simp only [List.append_assoc]; exact hM, hB⟩⟩
                       have h9 : A1.length = 0 ∨ E1.length = 0 := by omega
                       rcases h9 with h9 | h9
                       · rw [nil_of h9]; exact hEp.1
                       · rw [nil_of h9, List.append_nil]; exact hAp.1)
            ·
              rintro X1 w23 ⟨⟨hX1, hX1s⟩, hM, hB⟩
              simp only [List.cons_append, List.nil_append]
              try simp only at hM
              have hX1l := hX1.length_eq
              rw [List.length_append] at hX1l
              refine W.mid (α := Unit) (fun _ => [(213, .bool (decide (mid < en ∧ en < b)))]) [(0, _), (3, _), (4, _), (18, _), (24, _)] (fun _ w => (True) ∧ Mem w B (⟨3, p, n, c, nv (P ++ (X1 ++ (A2 ++ (E2 ++ S))))⟩ :: Z) ∧ Below B w0 w) (Sub.cons rfl (Sub.cons rfl (Sub.cons rfl (Sub.cons rfl (Sub.cons rfl (Sub.nil _)))))) ?_ ?_
              ·
                refine W.reg ?_
                refine LS.vv rfl rfl (by decide) (Val.move rfl) ?_
                refine LS.vv rfl rfl (by decide) (Val.move rfl) ?_
                refine LS.vv rfl rfl (by decide) (Val.lss rfl rfl) ?_
                refine LS.vv rfl rfl (by decide) (Val.move rfl) ?_
                refine LS.split 3 rfl (fun hg16 => ?_) (fun hg16 => ?_)
                ·
                  first | (have hg16p := of_decide_eq_true hg16) | skip
                  refine LS.vg rfl rfl rfl hg16 (by decide) (Val.move rfl) ?_
                  refine LS.vg rfl rfl rfl hg16 (by decide) (Val.move rfl) ?_
                  refine LS.vg rfl rfl rfl hg16 (by decide) (Val.lss rfl rfl) ?_
                  refine LS.vv rfl rfl (by decide) (Val.pickT rfl hg16 rfl) ?_
                  refine LS.nil ?_
                  refine thenP_normal ?_
                  refine ⟨(), ?_, ?_, ⟨trivial, hM, hB⟩⟩
                  · exact Sub.cons' rfl (congrArg Value.bool (by first | exact decide_eq_decide.2 (by omega) | exact (decide_eq_false (by omega)).symm | exact (decide_eq_true (by omega)).symm)) (Sub.nil _)
                  · repeat (first | exact Sub.nil _ | refine Sub.cons rfl ?_)
                ·
                  first | (have hg16p := of_decide_eq_false hg16) | skip
                  refine LS.s rfl rfl rfl hg16 (by decide) ?_
                  refine LS.s rfl rfl rfl hg16 (by decide) ?_
                  refine LS.s rfl rfl rfl hg16 (by decide) ?_
                  refine LS.vv rfl rfl (by decide) (Val.pickF rfl hg16 rfl) ?_
                  refine LS.nil ?_
                  refine thenP_normal ?_
                  refine ⟨(), ?_, ?_, ⟨trivial, hM, hB⟩⟩
                  · exact Sub.cons' rfl (congrArg Value.bool (by first | exact decide_eq_decide.2 (by omega) | exact (decide_eq_false (by omega)).symm | exact (decide_eq_true (by omega)).symm)) (Sub.nil _)
                  · repeat (first | exact Sub.nil _ | refine Sub.cons rfl ?_)
              ·
                rintro _ w24 ⟨_, hM, hB⟩
                simp only [List.cons_append, List.nil_append]
                try simp only at hM
                first | refine W.condD rfl (fun hc17 => ?_) (fun hc17 => ?_) | refine W.cond rfl (fun hc17 => ?_) (fun hc17 => ?_)
                ·
                  refine W.reg ?_
                  refine LS.vv rfl rfl (by decide) (Val.move rfl) ?_
                  refine LS.vv rfl rfl (by decide) (Val.move rfl) ?_
                  refine LS.vv rfl rfl (by decide) (Val.move rfl) ?_
                  refine LS.vv rfl rfl (by decide) (Val.move rfl) ?_
                  refine LS.vv rfl rfl (by decide) (Val.move rfl) ?_
                  rw [← List.append_assoc P X1] at hM
                  refine LS.m rfl (Step.call body60 rfl rfl (by decide) rfl (CallsV.mono (ih (A2.length + E2.length) (by omega) (P ++ X1) A2 E2 S _ _ _ _ (Nat.le_refl _) hM (Nat.le_trans hB0 hB.size) (hwb.trans hB) (by rw [List.length_append]; omega) (by omega) (by omega) (by omega) (by omega) (by rw [List.length_append]; omega) hAp.2.1 hEp.2.1 (fun x h => hAn x (List.mem_append_right _ h)) (fun x h => hEn x (List.mem_append_right _ h)) (fun x hx y hy => hAE x (List.mem_append_right _ hx) y (List.mem_append_right _ hy))) ?_))
                  rintro _ w25 ⟨Y, rfl, hM25, hY1, hY2, hb25⟩
                  replace hM := hM25
                  replace hB := hB.trans hb25
                  rw [List.append_assoc P X1] at hM
                  refine LS.nil ?_
                  refine ret0 (by first | exact .inl rfl | exact .inr rfl) ?_
                  first
                    | (obtain rfl : k = i - 1 := by omega
                       rw [upT_eq] at hM
                       refine ⟨_, rfl, hM, ins1_perm, ins1 sE (by omega) ?_ ?_, hB⟩
                       · rcases hs1 with h9 | h9
                         · exact .inl (by omega)
                         · rw [hxg] at h9
                           by_cases h8 : i = m
                           · exact .inl (by omega)
                           · rw [hgE _ (by omega) (by omega)] at h9; rw [show i - 1 - a - 1 = i - 1 - m by omega]; exact .inr h9
                       · rcases hs2 with h9 | h9
                         · exact .inl (by omega)
                         · rw [hxg] at h9
                           by_cases h8 : j = b
                           · exact .inl (by omega)
                           · rw [hgE _ (by omega) (by omega)] at h9; rw [show i - 1 - a = j - m by omega]; exact .inr h9)
                    | (obtain rfl : k = i := by omega
                       rw [upT_eq] at hM
                       refine ⟨_, rfl, hM, ins1_perm2, ins1 sA (by omega) ?_ ?_, hB⟩
                       · rcases hs1 with h9 | h9
                         · exact .inl (by omega)
                         · rw [hxg] at h9
                           by_cases h8 : k = a
                           · exact .inl (by omega)
                           · rw [hgA _ (by omega) (by omega)] at h9; rw [show k - a - 1 = k - 1 - a by omega]; exact .inr h9
                       · rcases hs2 with h9 | h9
                         · exact .inl (by omega)
                         · rw [hxg] at h9
                           by_cases h8 : j = m
                           · exact .inl (by omega)
                           · rw [hgA _ (by omega) (by omega)] at h9; rw [show k - a = j - a by omega]; exact .inr h9)
                    | (refine ⟨X1 ++ Y, rfl, (by simp only [List.append_assoc]; exact hM), mrg_perm hX1 hY1, mrg_srt hX1 hY1 hX1s hY2 sA sE hab hba, hB⟩; done)
                    | (have h9 : A2.length = 0 ∨ E2.length = 0 := by omega
                       have hs9 : Srt (KK key) (A2 ++ E2) := by rcases h9 with h9 | h9; (rw [nil_of h9]; exact hEp.2.1); (rw [nil_of h9, List.append_nil]; exact hAp.2.1)
                       exact ⟨X1 ++ (A2 ++ E2), rfl, (by simp only [List.append_assoc]; exact hM), mrg_perm hX1 (List.Perm.refl _), mrg_srt hX1 (List.Perm.refl _) hX1s hs9 sA sE hab hba, hB⟩)
                ·
                  refine W.skip ?_
                  refine ret0 (by first | exact .inl rfl | exact .inr rfl) ?_
                  first
                    | (obtain rfl : k = i - 1 := by omega
                       rw [upT_eq] at hM
                       refine ⟨_, rfl, hM, ins1_perm, ins1 sE (by omega) ?_ ?_, hB⟩
                       · rcases hs1 with h9 | h9
                         · exact .inl (by omega)
                         · rw [hxg] at h9
                           by_cases h8 : i = m
                           · exact .inl (by omega)
                           · rw [hgE _ (by omega) (by omega)] at h9; rw [show i - 1 - a - 1 = i - 1 - m by omega]; exact .inr h9
                       · rcases hs2 with h9 | h9
                         · exact .inl (by omega)
                         · rw [hxg] at h9
                           by_cases h8 : j = b
                           · exact .inl (by omega)
                           · rw [hgE _ (by omega) (by omega)] at h9; rw [show i - 1 - a = j - m by omega]; exact .inr h9)
                    | (obtain rfl : k = i := by omega
                       rw [upT_eq] at hM
                       refine ⟨_, rfl, hM, ins1_perm2, ins1 sA (by omega) ?_ ?_, hB⟩
                       · rcases hs1 with h9 | h9
                         · exact .inl (by omega)
                         · rw [hxg] at h9
                           by_cases h8 : k = a
                           · exact .inl (by omega)
                           · rw [hgA _ (by omega) (by omega)] at h9; rw [show k - a - 1 = k - 1 - a by omega]; exact .inr h9
                       · rcases hs2 with h9 | h9
                         · exact .inl (by omega)
                         · rw [hxg] at h9
                           by_cases h8 : j = m
                           · exact .inl (by omega)
                           · rw [hgA _ (by omega) (by omega)] at h9; rw [show k - a = j - a by omega]; exact .inr h9)
                    | (refine ⟨X1 ++ Y, rfl, (by simp only [List.append_assoc]; exact hM), mrg_perm hX1 hY1, mrg_srt hX1 hY1 hX1s hY2 sA sE hab hba, hB⟩; done)
                    | (have h9 : A2.length = 0 ∨ E2.length = 0 := by omega
                       have hs9 : Srt (KK key) (A2 ++ E2) := by rcases h9 with h9 | h9; (rw [nil_of h9]; exact hEp.2.1); (rw [nil_of h9, List.append_nil]; exact hAp.2.1)
                       exact ⟨X1 ++ (A2 ++ E2), rfl, (by simp only [List.append_assoc]; exact hM), mrg_perm hX1 (List.Perm.refl _), mrg_srt hX1 (List.Perm.refl _) hX1s hs9 sA sE hab hba, hB⟩)

theorem sym_any (key : Nat → Nat) (f : FuncId) (cap : Array Value) (p : Option Addr) (n c B : Nat) (Z : List Ob) (wb : World) (hC : CmpOk key f cap p n c B Z wb) (hn2 : n ≤ 64) : ∀ N, SymOk key f cap p n c B Z wb N := by
  intro N
  induction N using Nat.strongRecOn with
  | ind N ih => exact fun P A E S a m b w0 h1 h2 h3 h4 h5 h6 h7 h8 h9 h10 h11 h12 h13 h14 h15 => sym_step key P A E S a m b f cap p n c B Z wb w0 h2 h3 hC h4 h5 h6 h7 h8 h9 h10 h11 h12 h13 h14 h15 hn2 N h1 ih

end Go.Proofs.Ytcoplafphgpmpaa
