/-
  Stable sorting: stretches change places.
-/
import Derived.Test.YtcoplafphgpmpaaStabPlain
import Derived.Test.YtcoplafphgpmpaaVheap
import Derived.Test.YtcoplafphgpmpaaVfin
import Derived.Test.YtcoplafphgpmpaaVtree
import Derived.Test.YtcoplafphgpmpaaVfacts2
namespace Go.Proofs.Ytcoplafphgpmpaa
open Go Go.RowKit V
set_option linter.unusedVariables false
set_option linter.unusedSimpArgs false

/-- what the sort asks of the comparison that it is given -/
structure CmpOk (key : Nat → Nat) (f : FuncId) (cap : Array Value) (p : Option Addr) (n c B : Nat) (Z : List Ob) (wb : World) : Prop where
  body : Body Try.prog f
  call : ∀ (x y : Nat) (w : World), x < n → y < n → (∃ L, Mem w B (⟨3, p, n, c, nv L⟩ :: Z)) → Below B wb w → CallsV Try.prog f (#[.int .i64 (x : Int), .int .i64 (y : Int)] ++ cap) w (fun v w2 => ∃ z : Int, v = .int .i64 z ∧ (z < 0 ↔ key x < key y) ∧ Below w.heap.size w w2)

theorem swapRange_any (P U M V S : List Nat) (a b k : Nat) (f : FuncId) (cap : Array Value) (p : Option Addr) (n c B : Nat) (Z : List Ob) (w0 : World) (hM0 : Mem w0 B (⟨3, p, n, c, nv (P ++ (U ++ (M ++ (V ++ S))))⟩ :: Z)) (hB0 : B ≤ w0.heap.size) (ha : P.length = a) (hb : a + U.length + M.length = b) (hU : U.length = k) (hV : V.length = k) (hn : P.length + (V.length + (U.length + (M.length + S.length))) = n) (hn2 : n ≤ 1000) :
    CallsV Try.prog 62 #[.slice p n c, .int .i64 (a : Int), .int .i64 (b : Int), .int .i64 (k : Int), .func (.func f) #[] cap] w0 (fun v w => v = .tuple #[] ∧ Mem w B (⟨3, p, n, c, nv (P ++ (V ++ (M ++ (U ++ S))))⟩ :: Z) ∧ Below B w0 w) := by
  refine enter0 Try.func62 rfl Try.ntmps62 (by simp) rfl ?_
  have hB := Below.refl B w0
  simp only [argLoc, Nat.zero_add, Nat.reduceAdd]
  have hM := hM0
  refine W.seqR ?_
  refine LS.vv rfl rfl (by decide) (Val.cast (v := .int .i64 ((0 : Nat) : Int)) (Val.assign rfl) rfl) ?_
  refine LS.nil ?_
  refine W.block ?_
  rw [← swR_zero] at hM
  refine W.loop (α := Nat) (fun i => [(10, .int .i64 (i : Int))]) [(0, _), (1, _), (2, _), (3, _)] (fun i w => (i ≤ k) ∧ Mem w B (⟨3, p, n, c, nv (swR P U M V S i)⟩ :: Z) ∧ Below B w0 w) (fun i => k - i) (0) (Sub.cons rfl (Sub.nil _)) (Sub.cons rfl (Sub.cons rfl (Sub.cons rfl (Sub.cons rfl (Sub.nil _))))) ?_ ?_
  · exact ⟨Nat.zero_le _, hM, hB⟩
  rintro i w1 ⟨hi, hM, hB⟩
  try simp only at hM
  simp only [List.cons_append, List.nil_append]
  have hlen := swR_len P U M V S i
  refine W.seq ?_
  refine W.seqR ?_
  refine LS.vv rfl rfl (by decide) (Val.move rfl) ?_
  refine LS.vv rfl rfl (by decide) (Val.move rfl) ?_
  refine LS.vv rfl rfl (by decide) (Val.lss rfl rfl) ?_
  refine LS.nil ?_
  first | refine W.condD rfl (fun hc1 => ?_) (fun hc1 => ?_) | refine W.cond rfl (fun hc1 => ?_) (fun hc1 => ?_)
  ·
    refine W.skip ?_
    refine thenP_normal ?_
    refine W.seq ?_
    refine W.block ?_
    refine W.regT (S := fun w => Below B w0 w) (.val 0 (.val 1 (.val 2 (.val 3 (.val 4 (.val 5 (.val 6 (.val 7 (.val 8 (.val 9 (.val 10 (.val 11 (.val 12 (.val 14 (.val 15 (.val 16 (.val 17 (.val 18 (.two (.mem 13 (.mem 19 (.val 20 (.mem 21 (.val 22 (.mem 23 (.done))))))) (.mem 19 (.mem 13 (.val 20 (.mem 21 (.val 22 (.mem 23 (.done)))))))))))))))))))))))))) mixed (by kernel_rfl) hB.drew ?_
    replace hB := hB.drew
    replace hM := hM.drew
    refine DT.vv rfl rfl rfl (by decide) (Val.move rfl) ?_
    refine DT.vv rfl rfl rfl (by decide) (Val.move rfl) ?_
    refine DT.vv rfl rfl rfl (by decide) (Val.move rfl) ?_
    first | refine DT.vv rfl rfl rfl (by decide) (Val.addN rfl rfl (by first | omega | (simp only [List.length_set]; omega))) ?_ | refine DT.vv rfl rfl rfl (by decide) (Val.add64 rfl rfl (by first | omega | (simp only [List.length_set]; omega))) ?_
    refine DT.vv rfl rfl rfl (by decide) (Val.move rfl) ?_
    refine DT.vv rfl rfl rfl (by decide) (Val.move rfl) ?_
    refine DT.vv rfl rfl rfl (by decide) (Val.move rfl) ?_
    first | refine DT.vv rfl rfl rfl (by decide) (Val.addN rfl rfl (by first | omega | (simp only [List.length_set]; omega))) ?_ | refine DT.vv rfl rfl rfl (by decide) (Val.add64 rfl rfl (by first | omega | (simp only [List.length_set]; omega))) ?_
    refine DT.vv rfl rfl rfl (by decide) (Val.move rfl) ?_
    refine DT.vv rfl rfl rfl (by decide) (Val.move rfl) ?_
    refine DT.vv rfl rfl rfl (by decide) (Val.move rfl) ?_
    first | refine DT.vv rfl rfl rfl (by decide) (Val.addN rfl rfl (by first | omega | (simp only [List.length_set]; omega))) ?_ | refine DT.vv rfl rfl rfl (by decide) (Val.add64 rfl rfl (by first | omega | (simp only [List.length_set]; omega))) ?_
    refine DT.vv rfl rfl rfl (by decide) (Val.index1 Try.underlying33 elem3 rfl rfl (by first | omega | (simp only [List.length_set]; omega)) (hM.o0.rd) (nv_lt (by first | omega | (simp only [List.length_set]; omega)))) ?_
    refine DT.vv rfl rfl rfl (by decide) (Val.move rfl) ?_
    refine DT.vv rfl rfl rfl (by decide) (Val.move rfl) ?_
    refine DT.vv rfl rfl rfl (by decide) (Val.move rfl) ?_
    first | refine DT.vv rfl rfl rfl (by decide) (Val.addN rfl rfl (by first | omega | (simp only [List.length_set]; omega))) ?_ | refine DT.vv rfl rfl rfl (by decide) (Val.add64 rfl rfl (by first | omega | (simp only [List.length_set]; omega))) ?_
    refine DT.vv rfl rfl rfl (by decide) (Val.index1 Try.underlying33 elem3 rfl rfl (by first | omega | (simp only [List.length_set]; omega)) (hM.o0.rd) (nv_lt (by first | omega | (simp only [List.length_set]; omega)))) ?_
    refine DT.two ?_ ?_
    ·
      refine DT.m rfl rfl (Step.load rfl rfl (by decide) flat3 rfl (hM.o0.rd) (nv_at (by first | omega | (simp only [List.length_set]; omega))) ?_)
      refine ⟨hB, ?_⟩
      refine DT.m rfl rfl (Step.load rfl rfl (by decide) flat3 rfl (hM.o0.rd) (nv_at (by first | omega | (simp only [List.length_set]; omega))) ?_)
      refine ⟨hB, ?_⟩
      refine DT.vv rfl rfl rfl (by decide) (Val.index1 Try.underlying33 elem3 rfl rfl (by first | omega | (simp only [List.length_set]; omega)) (hM.o0.rd) (nv_lt (by first | omega | (simp only [List.length_set]; omega)))) ?_
      refine DT.m rfl rfl (Step.store (B := B) rfl rfl flat3 elem3 rfl rfl rfl (hM.o0) (by first | omega | (simp only [List.length_set]; omega)) (Nat.le_trans hB0 hB.size) ?_)
      rintro w2 hO2 hg2 hbl2 hsz2
      replace hM := hM.s0 hg2 hO2 inl_block
      try simp only [nv_app1, nv_app, nv_set, nv_rep, nv_one, nv_cons, nv_take, nv_drop, List.nil_append] at hM
      replace hB := hB.trans hbl2
      refine ⟨hB, ?_⟩
      refine DT.vv rfl rfl rfl (by decide) (Val.index1 Try.underlying33 elem3 rfl rfl (by first | omega | (simp only [List.length_set]; omega)) (hM.o0.rd) (nv_lt (by first | omega | (simp only [List.length_set]; omega)))) ?_
      refine DT.m rfl rfl (Step.store (B := B) rfl rfl flat3 elem3 rfl rfl rfl (hM.o0) (by first | omega | (simp only [List.length_set]; omega)) (Nat.le_trans hB0 hB.size) ?_)
      rintro w3 hO3 hg3 hbl3 hsz3
      replace hM := hM.s0 hg3 hO3 inl_block
      try simp only [nv_app1, nv_app, nv_set, nv_rep, nv_one, nv_cons, nv_take, nv_drop, List.nil_append] at hM
      replace hB := hB.trans hbl3
      refine ⟨hB, ?_⟩
      refine DT.nil ?_
      refine inBlk_normal ?_
      refine thenP_normal ?_
      refine W.reg ?_
      refine LS.vv rfl rfl (by decide) (Val.move rfl) ?_
      first | refine LS.vv rfl rfl (by decide) (Val.addN (j := 1) rfl rfl (by first | omega | (simp only [List.length_set]; omega))) ?_ | refine LS.vv rfl rfl (by decide) (Val.add64 rfl rfl (by first | omega | (simp only [List.length_set]; omega))) ?_
      refine LS.vv rfl rfl (by decide) (Val.assign rfl) ?_
      refine LS.nil ?_
      refine thenP_normal ?_
      rw [swR_step P U M V S hU hV (by omega) (by omega) (by omega)] at hM
      refine ⟨i + 1, (Sub.cons rfl (Sub.nil _)), (by repeat (first | exact Sub.nil _ | refine Sub.cons rfl ?_)), ⟨by omega, hM, hB⟩, by omega⟩
    ·
      refine DT.m rfl rfl (Step.load rfl rfl (by decide) flat3 rfl (hM.o0.rd) (nv_at (by first | omega | (simp only [List.length_set]; omega))) ?_)
      refine ⟨hB, ?_⟩
      refine DT.m rfl rfl (Step.load rfl rfl (by decide) flat3 rfl (hM.o0.rd) (nv_at (by first | omega | (simp only [List.length_set]; omega))) ?_)
      refine ⟨hB, ?_⟩
      refine DT.vv rfl rfl rfl (by decide) (Val.index1 Try.underlying33 elem3 rfl rfl (by first | omega | (simp only [List.length_set]; omega)) (hM.o0.rd) (nv_lt (by first | omega | (simp only [List.length_set]; omega)))) ?_
      refine DT.m rfl rfl (Step.store (B := B) rfl rfl flat3 elem3 rfl rfl rfl (hM.o0) (by first | omega | (simp only [List.length_set]; omega)) (Nat.le_trans hB0 hB.size) ?_)
      rintro w4 hO4 hg4 hbl4 hsz4
      replace hM := hM.s0 hg4 hO4 inl_block
      try simp only [nv_app1, nv_app, nv_set, nv_rep, nv_one, nv_cons, nv_take, nv_drop, List.nil_append] at hM
      replace hB := hB.trans hbl4
      refine ⟨hB, ?_⟩
      refine DT.vv rfl rfl rfl (by decide) (Val.index1 Try.underlying33 elem3 rfl rfl (by first | omega | (simp only [List.length_set]; omega)) (hM.o0.rd) (nv_lt (by first | omega | (simp only [List.length_set]; omega)))) ?_
      refine DT.m rfl rfl (Step.store (B := B) rfl rfl flat3 elem3 rfl rfl rfl (hM.o0) (by first | omega | (simp only [List.length_set]; omega)) (Nat.le_trans hB0 hB.size) ?_)
      rintro w5 hO5 hg5 hbl5 hsz5
      replace hM := hM.s0 hg5 hO5 inl_block
      try simp only [nv_app1, nv_app, nv_set, nv_rep, nv_one, nv_cons, nv_take, nv_drop, List.nil_append] at hM
      replace hB := hB.trans hbl5
      refine ⟨hB, ?_⟩
      refine DT.nil ?_
      refine inBlk_normal ?_
      refine thenP_normal ?_
      refine W.reg ?_
      refine LS.vv rfl rfl (by decide) (Val.move rfl) ?_
      first | refine LS.vv rfl rfl (by decide) (Val.addN (j := 1) rfl rfl (by first | omega | (simp only [List.length_set]; omega))) ?_ | refine LS.vv rfl rfl (by decide) (Val.add64 rfl rfl (by first | omega | (simp only [List.length_set]; omega))) ?_
      refine LS.vv rfl rfl (by decide) (Val.assign rfl) ?_
      refine LS.nil ?_
      refine thenP_normal ?_
      rw [swR_step P U M V S hU hV (by omega) (by omega) (by omega)] at hM
      refine ⟨i + 1, (Sub.cons rfl (Sub.nil _)), (by repeat (first | exact Sub.nil _ | refine Sub.cons rfl ?_)), ⟨by omega, hM, hB⟩, by omega⟩
  ·
    refine W.exit ?_
    refine thenP_exit ?_
    refine thenP_exit ?_
    refine inBlk_exit ?_
    refine ret0 (by first | exact .inl rfl | exact .inr rfl) ?_
    obtain rfl : i = k := by omega
    rw [swR_all P U M V S hU hV] at hM
    exact ⟨rfl, hM, hB⟩

theorem rotate_any (P U V S : List Nat) (a m b : Nat) (f : FuncId) (cap : Array Value) (p : Option Addr) (n c B : Nat) (Z : List Ob) (w0 : World) (hM0 : Mem w0 B (⟨3, p, n, c, nv (P ++ (U ++ (V ++ S)))⟩ :: Z)) (hB0 : B ≤ w0.heap.size) (ha : P.length = a) (hm : a + U.length = m) (hb : m + V.length = b) (hU0 : 0 < U.length) (hV0 : 0 < V.length) (hn : P.length + (U.length + (V.length + S.length)) = n) (hn2 : n ≤ 1000) :
    CallsV Try.prog 61 #[.slice p n c, .int .i64 (a : Int), .int .i64 (m : Int), .int .i64 (b : Int), .func (.func f) #[] cap] w0 (fun v w => v = .tuple #[] ∧ Mem w B (⟨3, p, n, c, nv (P ++ (V ++ (U ++ S)))⟩ :: Z) ∧ Below B w0 w) := by
  refine enter0 Try.func61 rfl Try.ntmps61 (by simp) rfl ?_
  have hB := Below.refl B w0
  simp only [argLoc, Nat.zero_add, Nat.reduceAdd]
  have hM := hM0
  refine W.seqR ?_
  refine LS.vv rfl rfl (by decide) (Val.move rfl) ?_
  refine LS.vv rfl rfl (by decide) (Val.move rfl) ?_
  first | refine LS.vv rfl rfl (by decide) (Val.cast (v := .int .i64 (U.length : Int)) (Val.subN rfl rfl (by first | omega | (simp only [List.length_set]; omega)) (by first | omega | (simp only [List.length_set]; omega))) (by congr 1; omega)) ?_ | refine LS.vv rfl rfl (by decide) (Val.cast (v := .int .i64 (U.length : Int)) (Val.sub64 rfl rfl (by first | omega | (simp only [List.length_set]; omega))) (by congr 1; omega)) ?_
  refine LS.vv rfl rfl (by decide) (Val.assign rfl) ?_
  refine LS.nil ?_
  refine W.seqR ?_
  refine LS.vv rfl rfl (by decide) (Val.move rfl) ?_
  refine LS.vv rfl rfl (by decide) (Val.move rfl) ?_
  first | refine LS.vv rfl rfl (by decide) (Val.cast (v := .int .i64 (V.length : Int)) (Val.subN rfl rfl (by first | omega | (simp only [List.length_set]; omega)) (by first | omega | (simp only [List.length_set]; omega))) (by congr 1; omega)) ?_ | refine LS.vv rfl rfl (by decide) (Val.cast (v := .int .i64 (V.length : Int)) (Val.sub64 rfl rfl (by first | omega | (simp only [List.length_set]; omega))) (by congr 1; omega)) ?_
  refine LS.vv rfl rfl (by decide) (Val.assign rfl) ?_
  refine LS.nil ?_
  refine W.seq ?_
  refine W.block ?_
  refine W.loop (α := List Nat × List Nat × List Nat × List Nat) (fun g => [(10, .int .i64 (g.2.1.length : Int)), (11, .int .i64 (g.2.2.1.length : Int))]) [(0, _), (2, _), (4, _)] (fun g w => (g.1.length + g.2.1.length = m ∧ 0 < g.2.1.length ∧ 0 < g.2.2.1.length ∧ g.1.length + (g.2.1.length + (g.2.2.1.length + g.2.2.2.length)) = n ∧ g.1 ++ (g.2.2.1 ++ (g.2.1 ++ g.2.2.2)) = P ++ (V ++ (U ++ S))) ∧ Mem w B (⟨3, p, n, c, nv (g.1 ++ (g.2.1 ++ (g.2.2.1 ++ g.2.2.2)))⟩ :: Z) ∧ Below B w0 w) (fun g => g.2.1.length + g.2.2.1.length) ((P, U, V, S)) (Sub.cons rfl (Sub.cons rfl (Sub.nil _))) (Sub.cons rfl (Sub.cons rfl (Sub.cons rfl (Sub.nil _)))) ?_ ?_
  · exact ⟨⟨by simp only; omega, hU0, hV0, hn, rfl⟩, hM, hB⟩
  rintro ⟨P1, U1, V1, S1⟩ w1 ⟨⟨h1, h2, h3, h4, h5⟩, hM, hB⟩
  try simp only at hM
  simp only [List.cons_append, List.nil_append]
  simp only at h1 h2 h3 h4 h5
  refine W.seq ?_
  refine W.seqR ?_
  refine LS.vv rfl rfl (by decide) (Val.move rfl) ?_
  refine LS.vv rfl rfl (by decide) (Val.move rfl) ?_
  refine LS.vv rfl rfl (by decide) (Val.neq rfl rfl) ?_
  refine LS.nil ?_
  first | refine W.condD rfl (fun hc1 => ?_) (fun hc1 => ?_) | refine W.cond rfl (fun hc1 => ?_) (fun hc1 => ?_)
  ·
    refine W.skip ?_
    refine thenP_normal ?_
    refine W.block ?_
    refine W.seqR ?_
    refine LS.vv rfl rfl (by decide) (Val.move rfl) ?_
    refine LS.vv rfl rfl (by decide) (Val.move rfl) ?_
    refine LS.vv rfl rfl (by decide) (Val.gtr rfl rfl) ?_
    refine LS.nil ?_
    first | refine W.condD rfl (fun hc2 => ?_) (fun hc2 => ?_) | refine W.cond rfl (fun hc2 => ?_) (fun hc2 => ?_)
    ·
      refine W.seqR ?_
      refine LS.vv rfl rfl (by decide) (Val.move rfl) ?_
      refine LS.vv rfl rfl (by decide) (Val.move rfl) ?_
      refine LS.vv rfl rfl (by decide) (Val.move rfl) ?_
      first | refine LS.vv rfl rfl (by decide) (Val.subN rfl rfl (by first | omega | (simp only [List.length_set]; omega)) (by first | omega | (simp only [List.length_set]; omega))) ?_ | refine LS.vv rfl rfl (by decide) (Val.sub64 rfl rfl (by first | omega | (simp only [List.length_set]; omega))) ?_
      refine LS.vv rfl rfl (by decide) (Val.move rfl) ?_
      refine LS.vv rfl rfl (by decide) (Val.move rfl) ?_
      refine LS.vv rfl rfl (by decide) (Val.move rfl) ?_
      rw [show U1 ++ (V1 ++ S1) = U1.take V1.length ++ (U1.drop V1.length ++ (V1 ++ S1)) from by rw [← List.append_assoc (U1.take _), List.take_append_drop]] at hM
      have hlt : (U1.take V1.length).length = V1.length := by rw [List.length_take]; omega
      have hld : (U1.drop V1.length).length = U1.length - V1.length := by rw [List.length_drop]
      refine LS.m rfl (Step.call body62 rfl rfl (by decide) rfl (CallsV.mono (swapRange_any P1 (U1.take V1.length) (U1.drop V1.length) V1 S1 _ _ _ f cap p n c B Z _ hM (Nat.le_trans hB0 hB.size) (by omega) (by omega) hlt rfl (by omega) hn2) ?_))
      rintro _ w2 ⟨rfl, hM2, hb2⟩
      replace hM := hM2
      replace hB := hB.trans hb2
      refine LS.nil ?_
      refine W.reg ?_
      refine LS.vv rfl rfl (by decide) (Val.move rfl) ?_
      refine LS.vv rfl rfl (by decide) (Val.move rfl) ?_
      first | refine LS.vv rfl rfl (by decide) (Val.subN rfl rfl (by first | omega | (simp only [List.length_set]; omega)) (by first | omega | (simp only [List.length_set]; omega))) ?_ | refine LS.vv rfl rfl (by decide) (Val.sub64 rfl rfl (by first | omega | (simp only [List.length_set]; omega))) ?_
      refine LS.vv rfl rfl (by decide) (Val.assign rfl) ?_
      refine LS.nil ?_
      refine inBlk_normal ?_
      refine thenP_normal ?_
      first
        | (refine ⟨(P1 ++ V1, U1.drop V1.length, U1.take V1.length, S1), (Sub.cons' rfl (by simp only; congr 1; omega) (Sub.cons' rfl (by simp only; congr 1; omega) (Sub.nil _))), (by repeat (first | exact Sub.nil _ | refine Sub.cons rfl ?_)), ⟨⟨by simp only [List.length_append]; omega, by simp only; omega, by simp only; omega, by simp only [List.length_append]; omega, ?_⟩, by simp only [List.append_assoc]; exact hM, hB⟩, by simp only; omega⟩
           simp only
           rw [← h5]
           conv => rhs; rw [← List.take_append_drop V1.length U1]
           simp only [List.append_assoc])
        | (refine ⟨(P1, V1.drop (V1.length - U1.length), V1.take (V1.length - U1.length), U1 ++ S1), (Sub.cons' rfl (by simp only; congr 1; omega) (Sub.cons' rfl (by simp only; congr 1; omega) (Sub.nil _))), (by repeat (first | exact Sub.nil _ | refine Sub.cons rfl ?_)), ⟨⟨by simp only; omega, by simp only; omega, by simp only; omega, by simp only [List.length_append]; omega, ?_⟩, by simp only [List.append_assoc] at hM ⊢; exact hM, hB⟩, by simp only; omega⟩
           simp only
           rw [← h5]
           conv => rhs; rw [← List.take_append_drop (V1.length - U1.length) V1]
           simp only [List.append_assoc])
    ·
      refine W.seqR ?_
      refine LS.vv rfl rfl (by decide) (Val.move rfl) ?_
      refine LS.vv rfl rfl (by decide) (Val.move rfl) ?_
      refine LS.vv rfl rfl (by decide) (Val.move rfl) ?_
      first | refine LS.vv rfl rfl (by decide) (Val.subN rfl rfl (by first | omega | (simp only [List.length_set]; omega)) (by first | omega | (simp only [List.length_set]; omega))) ?_ | refine LS.vv rfl rfl (by decide) (Val.sub64 rfl rfl (by first | omega | (simp only [List.length_set]; omega))) ?_
      refine LS.vv rfl rfl (by decide) (Val.move rfl) ?_
      refine LS.vv rfl rfl (by decide) (Val.move rfl) ?_
      first | refine LS.vv rfl rfl (by decide) (Val.addN rfl rfl (by first | omega | (simp only [List.length_set]; omega))) ?_ | refine LS.vv rfl rfl (by decide) (Val.add64 rfl rfl (by first | omega | (simp only [List.length_set]; omega))) ?_
      refine LS.vv rfl rfl (by decide) (Val.move rfl) ?_
      first | refine LS.vv rfl rfl (by decide) (Val.subN rfl rfl (by first | omega | (simp only [List.length_set]; omega)) (by first | omega | (simp only [List.length_set]; omega))) ?_ | refine LS.vv rfl rfl (by decide) (Val.sub64 rfl rfl (by first | omega | (simp only [List.length_set]; omega))) ?_
      refine LS.vv rfl rfl (by decide) (Val.move rfl) ?_
      refine LS.vv rfl rfl (by decide) (Val.move rfl) ?_
      rw [show P1 ++ (U1 ++ (V1 ++ S1)) = P1 ++ (U1 ++ (V1.take (V1.length - U1.length) ++ (V1.drop (V1.length - U1.length) ++ S1))) from by rw [← List.append_assoc (V1.take _), List.take_append_drop]] at hM
      have hlt : (V1.take (V1.length - U1.length)).length = V1.length - U1.length := by rw [List.length_take]; omega
      have hld : (V1.drop (V1.length - U1.length)).length = U1.length := by rw [List.length_drop]; omega
      refine LS.m rfl (Step.call body62 rfl rfl (by decide) rfl (CallsV.mono (swapRange_any P1 U1 (V1.take (V1.length - U1.length)) (V1.drop (V1.length - U1.length)) S1 _ _ _ f cap p n c B Z _ hM (Nat.le_trans hB0 hB.size) (by omega) (by omega) rfl hld (by omega) hn2) ?_))
      rintro _ w3 ⟨rfl, hM3, hb3⟩
      replace hM := hM3
      replace hB := hB.trans hb3
      refine LS.nil ?_
      refine W.reg ?_
      refine LS.vv rfl rfl (by decide) (Val.move rfl) ?_
      refine LS.vv rfl rfl (by decide) (Val.move rfl) ?_
      first | refine LS.vv rfl rfl (by decide) (Val.subN rfl rfl (by first | omega | (simp only [List.length_set]; omega)) (by first | omega | (simp only [List.length_set]; omega))) ?_ | refine LS.vv rfl rfl (by decide) (Val.sub64 rfl rfl (by first | omega | (simp only [List.length_set]; omega))) ?_
      refine LS.vv rfl rfl (by decide) (Val.assign rfl) ?_
      refine LS.nil ?_
      refine inBlk_normal ?_
      refine thenP_normal ?_
      first
        | (refine ⟨(P1 ++ V1, U1.drop V1.length, U1.take V1.length, S1), (Sub.cons' rfl (by simp only; congr 1; omega) (Sub.cons' rfl (by simp only; congr 1; omega) (Sub.nil _))), (by repeat (first | exact Sub.nil _ | refine Sub.cons rfl ?_)), ⟨⟨by simp only [List.length_append]; omega, by simp only; omega, by simp only; omega, by simp only [List.length_append]; omega, ?_⟩, by simp only [List.append_assoc]; exact hM, hB⟩, by simp only; omega⟩
           simp only
           rw [← h5]
           conv => rhs; rw [← List.take_append_drop V1.length U1]
           simp only [List.append_assoc])
        | (refine ⟨(P1, V1.drop (V1.length - U1.length), V1.take (V1.length - U1.length), U1 ++ S1), (Sub.cons' rfl (by simp only; congr 1; omega) (Sub.cons' rfl (by simp only; congr 1; omega) (Sub.nil _))), (by repeat (first | exact Sub.nil _ | refine Sub.cons rfl ?_)), ⟨⟨by simp only; omega, by simp only; omega, by simp only; omega, by simp only [List.length_append]; omega, ?_⟩, by simp only [List.append_assoc] at hM ⊢; exact hM, hB⟩, by simp only; omega⟩
           simp only
           rw [← h5]
           conv => rhs; rw [← List.take_append_drop (V1.length - U1.length) V1]
           simp only [List.append_assoc])
  ·
    refine W.exit ?_
    refine thenP_exit ?_
    refine thenP_exit ?_
    refine inBlk_exit ?_
    refine thenP_normal ?_
    refine W.reg ?_
    refine LS.vv rfl rfl (by decide) (Val.move rfl) ?_
    refine LS.vv rfl rfl (by decide) (Val.move rfl) ?_
    refine LS.vv rfl rfl (by decide) (Val.move rfl) ?_
    first | refine LS.vv rfl rfl (by decide) (Val.subN rfl rfl (by first | omega | (simp only [List.length_set]; omega)) (by first | omega | (simp only [List.length_set]; omega))) ?_ | refine LS.vv rfl rfl (by decide) (Val.sub64 rfl rfl (by first | omega | (simp only [List.length_set]; omega))) ?_
    refine LS.vv rfl rfl (by decide) (Val.move rfl) ?_
    refine LS.vv rfl rfl (by decide) (Val.move rfl) ?_
    refine LS.vv rfl rfl (by decide) (Val.move rfl) ?_
    have hUV : U1.length = V1.length := by omega
    refine LS.m rfl (Step.call body62 rfl rfl (by decide) rfl (CallsV.mono (swapRange_any P1 U1 [] V1 S1 _ _ _ f cap p n c B Z _ hM (Nat.le_trans hB0 hB.size) (by omega) (by simp only [List.length_nil]; omega) rfl (by omega) (by simp only [List.length_nil]; omega) hn2) ?_))
    rintro _ w4 ⟨rfl, hM4, hb4⟩
    replace hM := hM4
    replace hB := hB.trans hb4
    refine LS.nil ?_
    refine ret0 (by first | exact .inl rfl | exact .inr rfl) ?_
    simp only [List.nil_append] at hM
    rw [h5] at hM
    exact ⟨rfl, hM, hB⟩

end Go.Proofs.Ytcoplafphgpmpaa
