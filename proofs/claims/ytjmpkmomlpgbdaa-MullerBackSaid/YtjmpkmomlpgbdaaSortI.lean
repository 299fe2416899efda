/-
  Stable sorting of few numbers.
-/
import Derived.Test.YtjmpkmomlpgbdaaSortPlain
import Derived.Test.YtjmpkmomlpgbdaaVheap
import Derived.Test.YtjmpkmomlpgbdaaVfin
import Derived.Test.YtjmpkmomlpgbdaaVtree
import Derived.Test.YtjmpkmomlpgbdaaVfacts2
namespace Go.Proofs.Ytjmpkmomlpgbdaa
open Go Go.RowKit V
set_option linter.unusedVariables false
set_option linter.unusedSimpArgs false

def cmpI (x y : Int) : Int := if x < y then -1 else if y < x then 1 else 0
theorem cmpI_neg (x y : Int) : cmpI x y < 0 ↔ x < y := by unfold cmpI; split; (simp; omega); split <;> simp <;> omega

theorem isNaN_int (x : Int) (w0 : World) :
    CallsV Try.prog 53 #[.int .i64 x] w0 (fun v w => v = .bool false ∧ Below w0.heap.size w0 w) := by
  refine enter1 Try.func53 rfl Try.ntmps53 (by simp) rfl ?_
  have hB := Below.refl w0.heap.size w0
  simp only [argLoc]
  refine W.seqR ?_
  refine LS.vv rfl rfl (by decide) (Val.assign rfl) ?_
  refine LS.nil ?_
  refine W.seqR ?_
  refine LS.vv rfl rfl (by decide) (Val.move rfl) ?_
  refine LS.vv rfl rfl (by decide) (Val.move rfl) ?_
  refine LS.vv rfl rfl (by decide) (Val.cast (v := .bool false) (Val.neq rfl rfl) (by simp)) ?_
  refine LS.vv rfl rfl (by decide) (Val.assign rfl) ?_
  refine LS.nil ?_
  refine W.ret ?_
  refine ret1 (by first | exact .inl rfl | exact .inr rfl) rfl ?_
  exact ⟨rfl, hB⟩

theorem compare_int (x y : Int) (w0 : World) :
    CallsV Try.prog 43 #[.int .i64 x, .int .i64 y] w0 (fun v w => v = .int .i64 (cmpI x y) ∧ Below w0.heap.size w0 w) := by
  refine enter1 Try.func43 rfl Try.ntmps43 (by simp) rfl ?_
  have hB := Below.refl w0.heap.size w0
  simp only [argLoc, Nat.zero_add]
  refine W.seqR ?_
  refine LS.vv rfl rfl (by decide) (Val.cast (v := .int .i64 ((0 : Nat) : Int)) (Val.assign rfl) rfl) ?_
  refine LS.nil ?_
  refine W.seqR ?_
  refine LS.vv rfl rfl (by decide) (Val.move rfl) ?_
  refine LS.m rfl (Step.call body53 rfl rfl (by decide) rfl (CallsV.mono (isNaN_int x _) ?_))
  rintro _ w1 ⟨rfl, hb1⟩
  replace hB := hB.trans (hb1.mono hB.size)
  refine LS.vv rfl rfl (by decide) (Val.assign rfl) ?_
  refine LS.nil ?_
  refine W.seqR ?_
  refine LS.vv rfl rfl (by decide) (Val.move rfl) ?_
  refine LS.m rfl (Step.call body53 rfl rfl (by decide) rfl (CallsV.mono (isNaN_int y _) ?_))
  rintro _ w2 ⟨rfl, hb2⟩
  replace hB := hB.trans (hb2.mono hB.size)
  refine LS.vv rfl rfl (by decide) (Val.assign rfl) ?_
  refine LS.nil ?_
  refine W.seq ?_
  refine W.seqR ?_
  refine LS.vv rfl rfl (by decide) (Val.move rfl) ?_
  refine LS.nil ?_
  refine W.condF rfl ?_
  refine W.skip ?_
  refine thenP_normal ?_
  refine W.seq ?_
  refine W.seqR ?_
  refine LS.vv rfl rfl (by decide) (Val.move rfl) ?_
  refine LS.nil ?_
  refine W.condF rfl ?_
  refine W.skip ?_
  refine thenP_normal ?_
  refine W.seq ?_
  refine W.seqR ?_
  refine LS.vv rfl rfl (by decide) (Val.move rfl) ?_
  refine LS.vv rfl rfl (by decide) (Val.move rfl) ?_
  refine LS.vv rfl rfl (by decide) (Val.lss rfl rfl) ?_
  refine LS.nil ?_
  first | refine W.condD rfl (fun hc1 => ?_) (fun hc1 => ?_) | refine W.cond rfl (fun hc1 => ?_) (fun hc1 => ?_)
  ·
    refine W.seqR ?_
    refine LS.vv rfl rfl (by decide) (Val.assign rfl) ?_
    refine LS.nil ?_
    refine W.ret ?_
    refine thenP_ret ?_
    refine ret1 (by first | exact .inl rfl | exact .inr rfl) rfl ?_
    refine ⟨congrArg (Value.int .i64) ?_, hB⟩
    unfold cmpI
    repeat' split
    all_goals first | rfl | (exfalso; omega)
  ·
    refine W.skip ?_
    refine thenP_normal ?_
    refine W.seq ?_
    refine W.seqR ?_
    refine LS.vv rfl rfl (by decide) (Val.move rfl) ?_
    refine LS.vv rfl rfl (by decide) (Val.move rfl) ?_
    refine LS.vv rfl rfl (by decide) (Val.gtr rfl rfl) ?_
    refine LS.nil ?_
    first | refine W.condD rfl (fun hc2 => ?_) (fun hc2 => ?_) | refine W.cond rfl (fun hc2 => ?_) (fun hc2 => ?_)
    ·
      refine W.seqR ?_
      refine LS.vv rfl rfl (by decide) (Val.cast (v := .int .i64 ((1 : Nat) : Int)) (Val.assign rfl) rfl) ?_
      refine LS.nil ?_
      refine W.ret ?_
      refine thenP_ret ?_
      refine ret1 (by first | exact .inl rfl | exact .inr rfl) rfl ?_
      refine ⟨congrArg (Value.int .i64) ?_, hB⟩
      unfold cmpI
      repeat' split
      all_goals first | rfl | (exfalso; omega)
    ·
      refine W.skip ?_
      refine thenP_normal ?_
      refine W.seqR ?_
      refine LS.vv rfl rfl (by decide) (Val.cast (v := .int .i64 ((0 : Nat) : Int)) (Val.assign rfl) rfl) ?_
      refine LS.nil ?_
      refine W.ret ?_
      refine ret1 (by first | exact .inl rfl | exact .inr rfl) rfl ?_
      refine ⟨congrArg (Value.int .i64) ?_, hB⟩
      unfold cmpI
      repeat' split
      all_goals first | rfl | (exfalso; omega)

theorem mem_set_gn {L : List Nat} {Q : Nat → Prop} (h : ∀ x ∈ L, Q x) {i j : Nat} (hj : j < L.length) : ∀ x ∈ L.set i (gn L j), Q x := fun x hx => by
  rcases List.mem_or_eq_of_mem_set hx with h1 | h1
  · exact h x h1
  · subst h1; rw [gn_lt hj]; exact h _ (List.getElem_mem hj)
theorem set_set_comm {L : List Nat} {i j : Nat} {a b : Nat} (h : i ≠ j) : (L.set i a).set j b = (L.set j b).set i a := List.set_comm _ _ h
theorem swap_mem {L : List Nat} {Q : Nat → Prop} (h : ∀ x ∈ L, Q x) {j : Nat} (hj : j + 1 < L.length) : ∀ x ∈ (L.set (j + 1) (gn L j)).set j (gn L (j + 1)), Q x := fun x hx => by
  rcases List.mem_or_eq_of_mem_set hx with h1 | h1
  · exact mem_set_gn h (by omega) x h1
  · subst h1; rw [gn_lt hj]; exact h _ (List.getElem_mem hj)
theorem isortTo_Q {lt : Nat → Nat → Bool} {l : List Nat} {Q : Nat → Prop} (h : ∀ x ∈ l, Q x) : ∀ x ∈ isort lt l, Q x := fun x hx => h x ((isort_perm lt l).mem_iff.1 hx)

theorem insertion_nat (l : List Nat) (lt : Nat → Nat → Bool) (Q : Nat → Prop) (f : FuncId) (cap : Array Value) (p : Option Addr) (n c B : Nat) (S : List Ob) (w0 : World) (hM0 : Mem w0 B (⟨3, p, n, c, nv l⟩ :: S)) (hB0 : B ≤ w0.heap.size) (hn : l.length = n) (hn19 : n ≤ 19) (hbody : Body Try.prog f) (hQ : ∀ x ∈ l, Q x)
    (hf : ∀ x y w, Q x → Q y → Below B w0 w → CallsV Try.prog f (#[.int .i64 (x : Int), .int .i64 (y : Int)] ++ cap) w (fun v w2 => ∃ z : Int, v = .int .i64 z ∧ decide (z < 0) = lt x y ∧ Below w.heap.size w w2)) :
    CallsV Try.prog 58 #[.slice p n c, .int .i64 ((0 : Nat) : Int), .int .i64 (n : Int), .func (.func f) #[] cap] w0 (fun v w => v = .tuple #[] ∧ Mem w B (⟨3, p, n, c, nv (isort lt l)⟩ :: S) ∧ Below B w0 w) := by
  refine enter0 Try.func58 rfl Try.ntmps58 (by simp) rfl ?_
  have hB := Below.refl B w0
  simp only [argLoc, Nat.zero_add, Nat.reduceAdd]
  have hM := hM0
  subst hn
  refine W.seqR ?_
  refine LS.vv rfl rfl (by decide) (Val.move rfl) ?_
  first | refine LS.vv rfl rfl (by decide) (Val.addN (j := 1) rfl rfl (by first | omega | (rw [List.length_set]; omega))) ?_ | refine LS.vv rfl rfl (by decide) (Val.add64 rfl rfl (by first | omega | (rw [List.length_set]; omega))) ?_
  refine LS.vv rfl rfl (by decide) (Val.assign rfl) ?_
  refine LS.nil ?_
  refine W.block ?_
  refine W.loop (α := Nat) (fun i => [(8, .int .i64 (i : Int))]) [(0, _), (1, _), (2, _), (3, _)] (fun i w => (1 ≤ i ∧ (i ≤ l.length ∨ i = 1) ∧ ∀ x ∈ (isortTo lt 0 l i), Q x) ∧ Mem w B (⟨3, p, l.length, c, nv (isortTo lt 0 l i)⟩ :: S) ∧ Below B w0 w) (fun i => l.length - i) (1) (Sub.cons rfl (Sub.nil _)) (Sub.cons rfl (Sub.cons rfl (Sub.cons rfl (Sub.cons rfl (Sub.nil _))))) ?_ ?_
  · exact ⟨⟨Nat.le_refl _, .inr rfl, hQ⟩, hM, hB⟩
  rintro i w1 ⟨⟨hi1, hi, hQi⟩, hM, hB⟩
  try simp only at hM
  simp only [List.cons_append, List.nil_append]
  have hil := isortTo_len lt 0 l i
  refine W.seq ?_
  refine W.seqR ?_
  refine LS.vv rfl rfl (by decide) (Val.move rfl) ?_
  refine LS.vv rfl rfl (by decide) (Val.move rfl) ?_
  refine LS.vv rfl rfl (by decide) (Val.lss rfl rfl) ?_
  refine LS.nil ?_
  first | refine W.condD rfl (fun hc1 => ?_) (fun hc1 => ?_) | refine W.cond rfl (fun hc1 => ?_) (fun hc1 => ?_)
  ·
    refine W.skip ?_
    refine thenP_normal ?_
    refine W.seq ?_
    refine W.block ?_
    refine W.seqR ?_
    refine LS.vv rfl rfl (by decide) (Val.move rfl) ?_
    refine LS.vv rfl rfl (by decide) (Val.assign rfl) ?_
    refine LS.nil ?_
    refine W.block ?_
    refine W.loop (α := List Nat × Nat) (fun g => [(9, .int .i64 (g.2 : Int))]) [(0, _), (1, _), (2, _), (3, _), (8, _)] (fun g w => (bub lt 0 g.1 g.2 = bub lt 0 (isortTo lt 0 l i) i ∧ g.2 ≤ i ∧ g.1.length = l.length ∧ ∀ x ∈ g.1, Q x) ∧ Mem w B (⟨3, p, l.length, c, nv g.1⟩ :: S) ∧ Below B w0 w) (fun g => g.2) (((isortTo lt 0 l i), i)) (Sub.cons rfl (Sub.nil _)) (Sub.cons rfl (Sub.cons rfl (Sub.cons rfl (Sub.cons rfl (Sub.cons rfl (Sub.nil _)))))) ?_ ?_
    · exact ⟨⟨rfl, Nat.le_refl _, hil, hQi⟩, hM, hB⟩
    rintro ⟨L, j⟩ w2 ⟨⟨hb, hj, hL, hQL⟩, hM, hB⟩
    try simp only at hM
    simp only [List.cons_append, List.nil_append]
    simp only at hb hj hL hQL
    refine W.seq ?_
    refine W.seqF 17 [(0, true), (1, true), (2, true), (3, true), (4, true), (5, true), (6, true), (7, true), (8, true), (9, true), (10, true), (11, true), (12, true), (13, true), (14, false), (15, true), (16, true)] mixed (by kernel_rfl) hB hM ?_
    replace hB := hB.drew
    replace hM := hM.drew
    refine DF.vv rfl rfl rfl (by decide) (Val.move rfl) ?_
    refine DF.vv rfl rfl rfl (by decide) (Val.move rfl) ?_
    refine DF.vv rfl rfl rfl (by decide) (Val.gtr rfl rfl) ?_
    refine DF.vv rfl rfl rfl (by decide) (Val.move rfl) ?_
    refine DF.split 3 rfl (fun hg2 => ?_) (fun hg2 => ?_)
    ·
      first | (have hg2p := of_decide_eq_true hg2) | skip
      refine DF.vg rfl rfl rfl rfl hg2 (by decide) (Val.move rfl) ?_
      refine DF.vg rfl rfl rfl rfl hg2 (by decide) (Val.move rfl) ?_
      refine DF.vg rfl rfl rfl rfl hg2 (by decide) (Val.move rfl) ?_
      refine DF.vg rfl rfl rfl rfl hg2 (by decide) (Val.index1 Try.underlying54 elem3 rfl rfl (by first | omega | (rw [List.length_set]; omega)) (hM.o0.rd) (nv_lt (by first | omega | (rw [List.length_set]; omega)))) ?_
      refine DF.vg rfl rfl rfl rfl hg2 (by decide) (Val.load flat3 rfl (fun _ h => h.2.o0.rd) (nv_at (by first | omega | (rw [List.length_set]; omega)))) ?_
      refine DF.vg rfl rfl rfl rfl hg2 (by decide) (Val.move rfl) ?_
      refine DF.vg rfl rfl rfl rfl hg2 (by decide) (Val.move rfl) ?_
      first | refine DF.vg rfl rfl rfl rfl hg2 (by decide) (Val.subN (j := 1) rfl rfl (by first | omega | (rw [List.length_set]; omega)) (by first | omega | (rw [List.length_set]; omega))) ?_ | refine DF.vg rfl rfl rfl rfl hg2 (by decide) (Val.sub64 rfl rfl (by first | omega | (rw [List.length_set]; omega))) ?_
      refine DF.vg rfl rfl rfl rfl hg2 (by decide) (Val.index1 Try.underlying54 elem3 rfl rfl (by first | omega | (rw [List.length_set]; omega)) (hM.o0.rd) (nv_lt (by first | omega | (rw [List.length_set]; omega)))) ?_
      refine DF.vg rfl rfl rfl rfl hg2 (by decide) (Val.load flat3 rfl (fun _ h => h.2.o0.rd) (nv_at (by first | omega | (rw [List.length_set]; omega)))) ?_
      have hQa : Q (gn L j) := by rw [gn_lt (show j < L.length by omega)]; exact hQL _ (List.getElem_mem _)
      have hQb : Q (gn L (j - 1)) := by rw [gn_lt (show j - 1 < L.length by omega)]; exact hQL _ (List.getElem_mem _)
      refine DF.mg rfl rfl rfl hg2 (Step.callV hbody rfl rfl rfl (by decide) rfl (CallsV.mono (hf (gn L j) (gn L (j - 1)) _ hQa hQb hB) ?_))
      rintro _ w3 ⟨zc, rfl, hzc, hb3⟩
      replace hM := hM.below hb3
      replace hB := hB.trans (hb3.mono (Nat.le_trans hB0 hB.size))
      refine ⟨fun _ => ⟨hB, hM⟩, ?_⟩
      refine DF.vg rfl rfl rfl rfl hg2 (by decide) (Val.lss rfl rfl) ?_
      refine DF.vv rfl rfl rfl (by decide) (Val.pickT rfl hg2 rfl) ?_
      refine DF.nil ?_
      first | refine W.condD rfl (fun hc3 => ?_) (fun hc3 => ?_) | refine W.cond rfl (fun hc3 => ?_) (fun hc3 => ?_)
      ·
        refine W.skip ?_
        refine thenP_normal ?_
        refine W.seq ?_
        refine W.block ?_
        refine W.regT (S := fun w => Below B w0 w) (.val 0 (.val 1 (.val 2 (.val 3 (.val 4 (.val 5 (.val 6 (.val 7 (.val 8 (.val 10 (.val 11 (.val 12 (.two (.mem 9 (.mem 13 (.val 14 (.mem 15 (.val 16 (.mem 17 (.done))))))) (.mem 13 (.mem 9 (.val 14 (.mem 15 (.val 16 (.mem 17 (.done)))))))))))))))))))) mixed (by kernel_rfl) hB.drew ?_
        replace hB := hB.drew
        replace hM := hM.drew
        refine DT.vv rfl rfl rfl (by decide) (Val.move rfl) ?_
        refine DT.vv rfl rfl rfl (by decide) (Val.move rfl) ?_
        refine DT.vv rfl rfl rfl (by decide) (Val.move rfl) ?_
        refine DT.vv rfl rfl rfl (by decide) (Val.move rfl) ?_
        first | refine DT.vv rfl rfl rfl (by decide) (Val.subN (j := 1) rfl rfl (by first | omega | (rw [List.length_set]; omega)) (by first | omega | (rw [List.length_set]; omega))) ?_ | refine DT.vv rfl rfl rfl (by decide) (Val.sub64 rfl rfl (by first | omega | (rw [List.length_set]; omega))) ?_
        refine DT.vv rfl rfl rfl (by decide) (Val.move rfl) ?_
        refine DT.vv rfl rfl rfl (by decide) (Val.move rfl) ?_
        first | refine DT.vv rfl rfl rfl (by decide) (Val.subN (j := 1) rfl rfl (by first | omega | (rw [List.length_set]; omega)) (by first | omega | (rw [List.length_set]; omega))) ?_ | refine DT.vv rfl rfl rfl (by decide) (Val.sub64 rfl rfl (by first | omega | (rw [List.length_set]; omega))) ?_
        refine DT.vv rfl rfl rfl (by decide) (Val.index1 Try.underlying54 elem3 rfl rfl (by first | omega | (rw [List.length_set]; omega)) (hM.o0.rd) (nv_lt (by first | omega | (rw [List.length_set]; omega)))) ?_
        refine DT.vv rfl rfl rfl (by decide) (Val.move rfl) ?_
        refine DT.vv rfl rfl rfl (by decide) (Val.move rfl) ?_
        refine DT.vv rfl rfl rfl (by decide) (Val.index1 Try.underlying54 elem3 rfl rfl (by first | omega | (rw [List.length_set]; omega)) (hM.o0.rd) (nv_lt (by first | omega | (rw [List.length_set]; omega)))) ?_
        refine DT.two ?_ ?_
        ·
          refine DT.m rfl rfl (Step.load rfl rfl (by decide) flat3 rfl (hM.o0.rd) (nv_at (by first | omega | (rw [List.length_set]; omega))) ?_)
          refine ⟨hB, ?_⟩
          refine DT.m rfl rfl (Step.load rfl rfl (by decide) flat3 rfl (hM.o0.rd) (nv_at (by first | omega | (rw [List.length_set]; omega))) ?_)
          refine ⟨hB, ?_⟩
          refine DT.vv rfl rfl rfl (by decide) (Val.index1 Try.underlying54 elem3 rfl rfl (by first | omega | (rw [List.length_set]; omega)) (hM.o0.rd) (nv_lt (by first | omega | (rw [List.length_set]; omega)))) ?_
          refine DT.m rfl rfl (Step.store (B := B) rfl rfl flat3 elem3 rfl rfl rfl (hM.o0) (by first | omega | (rw [List.length_set]; omega)) (Nat.le_trans hB0 hB.size) ?_)
          rintro w4 hO4 hg4 hbl4 hsz4
          replace hM := hM.s0 hg4 hO4 inl_block
          try simp only [nv_app1, nv_app, nv_set, nv_rep, nv_one, nv_cons, nv_take, nv_drop, List.nil_append] at hM
          replace hB := hB.trans hbl4
          refine ⟨hB, ?_⟩
          refine DT.vv rfl rfl rfl (by decide) (Val.index1 Try.underlying54 elem3 rfl rfl (by first | omega | (rw [List.length_set]; omega)) (hM.o0.rd) (nv_lt (by first | omega | (rw [List.length_set]; omega)))) ?_
          refine DT.m rfl rfl (Step.store (B := B) rfl rfl flat3 elem3 rfl rfl rfl (hM.o0) (by first | omega | (rw [List.length_set]; omega)) (Nat.le_trans hB0 hB.size) ?_)
          rintro w5 hO5 hg5 hbl5 hsz5
          replace hM := hM.s0 hg5 hO5 inl_block
          try simp only [nv_app1, nv_app, nv_set, nv_rep, nv_one, nv_cons, nv_take, nv_drop, List.nil_append] at hM
          replace hB := hB.trans hbl5
          refine ⟨hB, ?_⟩
          refine DT.nil ?_
          refine inBlk_normal ?_
          refine thenP_normal ?_
          refine W.reg ?_
          refine LS.vv rfl rfl (by decide) (Val.move rfl) ?_
          first | refine LS.vv rfl rfl (by decide) (Val.subN (j := 1) rfl rfl (by first | omega | (rw [List.length_set]; omega)) (by first | omega | (rw [List.length_set]; omega))) ?_ | refine LS.vv rfl rfl (by decide) (Val.sub64 rfl rfl (by first | omega | (rw [List.length_set]; omega))) ?_
          refine LS.vv rfl rfl (by decide) (Val.assign rfl) ?_
          refine LS.nil ?_
          refine thenP_normal ?_
          obtain ⟨j0, rfl⟩ := Nat.exists_eq_succ_of_ne_zero (show j ≠ 0 by omega)
          have hlt2 : lt (L.getD (j0 + 1) 0) (L.getD j0 0) = true := by simp_all [gn]
          have hbb : bub lt 0 ((L.set (j0 + 1) (gn L j0)).set j0 (gn L (j0 + 1))) j0 = bub lt 0 (isortTo lt 0 l i) i := by rw [← hb, Nat.succ_eq_add_one, bub, if_pos hlt2]; rfl
          simp only [Nat.succ_eq_add_one, Nat.add_sub_cancel] at hM
          try rw [set_set_comm (i := j0) (j := j0 + 1) (by omega)] at hM
          refine ⟨((L.set (j0 + 1) (gn L j0)).set j0 (gn L (j0 + 1)), j0), ?_, ?_, ⟨⟨hbb, by simp only; omega, by simp only [List.length_set]; omega, swap_mem hQL (by omega)⟩, hM, hB⟩, by simp only; omega⟩
          · exact (Sub.cons rfl (Sub.nil _))
          · repeat (first | exact Sub.nil _ | refine Sub.cons rfl ?_)
        ·
          refine DT.m rfl rfl (Step.load rfl rfl (by decide) flat3 rfl (hM.o0.rd) (nv_at (by first | omega | (rw [List.length_set]; omega))) ?_)
          refine ⟨hB, ?_⟩
          refine DT.m rfl rfl (Step.load rfl rfl (by decide) flat3 rfl (hM.o0.rd) (nv_at (by first | omega | (rw [List.length_set]; omega))) ?_)
          refine ⟨hB, ?_⟩
          refine DT.vv rfl rfl rfl (by decide) (Val.index1 Try.underlying54 elem3 rfl rfl (by first | omega | (rw [List.length_set]; omega)) (hM.o0.rd) (nv_lt (by first | omega | (rw [List.length_set]; omega)))) ?_
          refine DT.m rfl rfl (Step.store (B := B) rfl rfl flat3 elem3 rfl rfl rfl (hM.o0) (by first | omega | (rw [List.length_set]; omega)) (Nat.le_trans hB0 hB.size) ?_)
          rintro w6 hO6 hg6 hbl6 hsz6
          replace hM := hM.s0 hg6 hO6 inl_block
          try simp only [nv_app1, nv_app, nv_set, nv_rep, nv_one, nv_cons, nv_take, nv_drop, List.nil_append] at hM
          replace hB := hB.trans hbl6
          refine ⟨hB, ?_⟩
          refine DT.vv rfl rfl rfl (by decide) (Val.index1 Try.underlying54 elem3 rfl rfl (by first | omega | (rw [List.length_set]; omega)) (hM.o0.rd) (nv_lt (by first | omega | (rw [List.length_set]; omega)))) ?_
          refine DT.m rfl rfl (Step.store (B := B) rfl rfl flat3 elem3 rfl rfl rfl (hM.o0) (by first | omega | (rw [List.length_set]; omega)) (Nat.le_trans hB0 hB.size) ?_)
          rintro w7 hO7 hg7 hbl7 hsz7
          replace hM := hM.s0 hg7 hO7 inl_block
          try simp only [nv_app1, nv_app, nv_set, nv_rep, nv_one, nv_cons, nv_take, nv_drop, List.nil_append] at hM
          replace hB := hB.trans hbl7
          refine ⟨hB, ?_⟩
          refine DT.nil ?_
          refine inBlk_normal ?_
          refine thenP_normal ?_
          refine W.reg ?_
          refine LS.vv rfl rfl (by decide) (Val.move rfl) ?_
          first | refine LS.vv rfl rfl (by decide) (Val.subN (j := 1) rfl rfl (by first | omega | (rw [List.length_set]; omega)) (by first | omega | (rw [List.length_set]; omega))) ?_ | refine LS.vv rfl rfl (by decide) (Val.sub64 rfl rfl (by first | omega | (rw [List.length_set]; omega))) ?_
          refine LS.vv rfl rfl (by decide) (Val.assign rfl) ?_
          refine LS.nil ?_
          refine thenP_normal ?_
          obtain ⟨j0, rfl⟩ := Nat.exists_eq_succ_of_ne_zero (show j ≠ 0 by omega)
          have hlt2 : lt (L.getD (j0 + 1) 0) (L.getD j0 0) = true := by simp_all [gn]
          have hbb : bub lt 0 ((L.set (j0 + 1) (gn L j0)).set j0 (gn L (j0 + 1))) j0 = bub lt 0 (isortTo lt 0 l i) i := by rw [← hb, Nat.succ_eq_add_one, bub, if_pos hlt2]; rfl
          simp only [Nat.succ_eq_add_one, Nat.add_sub_cancel] at hM
          try rw [set_set_comm (i := j0) (j := j0 + 1) (by omega)] at hM
          refine ⟨((L.set (j0 + 1) (gn L j0)).set j0 (gn L (j0 + 1)), j0), ?_, ?_, ⟨⟨hbb, by simp only; omega, by simp only [List.length_set]; omega, swap_mem hQL (by omega)⟩, hM, hB⟩, by simp only; omega⟩
          · exact (Sub.cons rfl (Sub.nil _))
          · repeat (first | exact Sub.nil _ | refine Sub.cons rfl ?_)
      ·
        refine W.exit ?_
        refine thenP_exit ?_
        refine thenP_exit ?_
        refine inBlk_exit ?_
        refine inBlk_normal ?_
        refine thenP_normal ?_
        refine W.reg ?_
        refine LS.vv rfl rfl (by decide) (Val.move rfl) ?_
        first | refine LS.vv rfl rfl (by decide) (Val.addN (j := 1) rfl rfl (by first | omega | (rw [List.length_set]; omega))) ?_ | refine LS.vv rfl rfl (by decide) (Val.add64 rfl rfl (by first | omega | (rw [List.length_set]; omega))) ?_
        refine LS.vv rfl rfl (by decide) (Val.assign rfl) ?_
        refine LS.nil ?_
        refine thenP_normal ?_
        have hfin : L = isortTo lt 0 l (i + 1) := by first | (rw [isortTo, ← hb, show j = 0 by omega]; rfl) | (rw [isortTo, ← hb]; obtain ⟨j0, rfl⟩ := Nat.exists_eq_succ_of_ne_zero (show j ≠ 0 by omega); rw [Nat.succ_eq_add_one, bub, if_neg]; intro hlt; have h9 : decide (zc < 0) = true := hzc.trans hlt; have h8 := of_decide_eq_true h9; omega)
        rw [hfin] at hM
        refine ⟨i + 1, ?_, ?_, ⟨⟨by omega, .inl (by omega), by rw [← hfin]; exact hQL⟩, hM, hB⟩, by omega⟩
        · exact (Sub.cons rfl (Sub.nil _))
        · repeat (first | exact Sub.nil _ | refine Sub.cons rfl ?_)
    ·
      first | (have hg2p := of_decide_eq_false hg2) | skip
      refine DF.s rfl rfl rfl rfl hg2 (by decide) ?_
      refine DF.s rfl rfl rfl rfl hg2 (by decide) ?_
      refine DF.s rfl rfl rfl rfl hg2 (by decide) ?_
      refine DF.s rfl rfl rfl rfl hg2 (by decide) ?_
      refine DF.s rfl rfl rfl rfl hg2 (by decide) ?_
      refine DF.s rfl rfl rfl rfl hg2 (by decide) ?_
      refine DF.s rfl rfl rfl rfl hg2 (by decide) ?_
      refine DF.s rfl rfl rfl rfl hg2 (by decide) ?_
      refine DF.s rfl rfl rfl rfl hg2 (by decide) ?_
      refine DF.s rfl rfl rfl rfl hg2 (by decide) ?_
      refine DF.s rfl rfl rfl rfl hg2 (by decide) ?_
      refine DF.s rfl rfl rfl rfl hg2 (by decide) ?_
      refine DF.vv rfl rfl rfl (by decide) (Val.pickF rfl hg2 rfl) ?_
      refine DF.nil ?_
      refine W.condF rfl ?_
      refine W.exit ?_
      refine thenP_exit ?_
      refine thenP_exit ?_
      refine inBlk_exit ?_
      refine inBlk_normal ?_
      refine thenP_normal ?_
      refine W.reg ?_
      refine LS.vv rfl rfl (by decide) (Val.move rfl) ?_
      first | refine LS.vv rfl rfl (by decide) (Val.addN (j := 1) rfl rfl (by first | omega | (rw [List.length_set]; omega))) ?_ | refine LS.vv rfl rfl (by decide) (Val.add64 rfl rfl (by first | omega | (rw [List.length_set]; omega))) ?_
      refine LS.vv rfl rfl (by decide) (Val.assign rfl) ?_
      refine LS.nil ?_
      refine thenP_normal ?_
      have hfin : L = isortTo lt 0 l (i + 1) := by first | (rw [isortTo, ← hb, show j = 0 by omega]; rfl) | (rw [isortTo, ← hb]; obtain ⟨j0, rfl⟩ := Nat.exists_eq_succ_of_ne_zero (show j ≠ 0 by omega); rw [Nat.succ_eq_add_one, bub, if_neg]; intro hlt; have h9 : decide (zc < 0) = true := hzc.trans hlt; have h8 := of_decide_eq_true h9; omega)
      rw [hfin] at hM
      refine ⟨i + 1, ?_, ?_, ⟨⟨by omega, .inl (by omega), by rw [← hfin]; exact hQL⟩, hM, hB⟩, by omega⟩
      · exact (Sub.cons rfl (Sub.nil _))
      · repeat (first | exact Sub.nil _ | refine Sub.cons rfl ?_)
  ·
    refine W.exit ?_
    refine thenP_exit ?_
    refine thenP_exit ?_
    refine inBlk_exit ?_
    refine ret0 (by first | exact .inl rfl | exact .inr rfl) ?_
    rw [isortTo_end lt 0 l (by omega) hi] at hM
    exact ⟨rfl, hM, hB⟩

theorem stable_nat (l : List Nat) (lt : Nat → Nat → Bool) (Q : Nat → Prop) (f : FuncId) (cap : Array Value) (p : Option Addr) (n c B : Nat) (S : List Ob) (w0 : World) (hM0 : Mem w0 B (⟨3, p, n, c, nv l⟩ :: S)) (hB0 : B ≤ w0.heap.size) (hn : l.length = n) (hn19 : n ≤ 19) (hbody : Body Try.prog f) (hQ : ∀ x ∈ l, Q x)
    (hf : ∀ x y w, Q x → Q y → Below B w0 w → CallsV Try.prog f (#[.int .i64 (x : Int), .int .i64 (y : Int)] ++ cap) w (fun v w2 => ∃ z : Int, v = .int .i64 z ∧ decide (z < 0) = lt x y ∧ Below w.heap.size w w2)) :
    CallsV Try.prog 52 #[.slice p n c, .int .i64 (n : Int), .func (.func f) #[] cap] w0 (fun v w => v = .tuple #[] ∧ Mem w B (⟨3, p, n, c, nv (isort lt l)⟩ :: S) ∧ Below B w0 w) := by
  refine enter0 Try.func52 rfl Try.ntmps52 (by simp) rfl ?_
  have hB := Below.refl B w0
  simp only [argLoc, Nat.zero_add, Nat.reduceAdd]
  have hM := hM0
  refine W.seqR ?_
  refine LS.vv rfl rfl (by decide) (Val.cast (v := .int .i64 ((20 : Nat) : Int)) (Val.assign rfl) rfl) ?_
  refine LS.nil ?_
  refine W.seqR ?_
  refine LS.vv rfl rfl (by decide) (Val.move rfl) ?_
  refine LS.vv rfl rfl (by decide) (Val.cast (v := .int .i64 ((0 : Nat) : Int)) (Val.assign rfl) rfl) ?_
  refine LS.vv rfl rfl (by decide) (Val.assign rfl) ?_
  refine LS.nil ?_
  refine W.seq ?_
  refine W.block ?_
  refine W.loop (α := Unit) (fun _u => [(7, .int .i64 ((0 : Nat) : Int)), (8, .int .i64 ((20 : Nat) : Int))]) [(0, _), (1, _), (2, _), (6, _)] (fun _u w => (True) ∧ Mem w B (⟨3, p, n, c, nv l⟩ :: S) ∧ Below B w0 w) (fun _u => 0) (()) (Sub.cons rfl (Sub.cons rfl (Sub.nil _))) (Sub.cons rfl (Sub.cons rfl (Sub.cons rfl (Sub.cons rfl (Sub.nil _))))) ?_ ?_
  · exact ⟨trivial, hM, hB⟩
  rintro _u w1 ⟨-, hM, hB⟩
  try simp only at hM
  simp only [List.cons_append, List.nil_append]
  refine W.seq ?_
  refine W.seqR ?_
  refine LS.vv rfl rfl (by decide) (Val.move rfl) ?_
  refine LS.vv rfl rfl (by decide) (Val.move rfl) ?_
  refine LS.vv rfl rfl (by decide) (Val.leq rfl rfl) ?_
  refine LS.nil ?_
  first | refine W.condD rfl (fun hc1 => ?_) (fun hc1 => ?_) | refine W.cond rfl (fun hc1 => ?_) (fun hc1 => ?_)
  ·
    exfalso; omega
  ·
    refine W.exit ?_
    refine thenP_exit ?_
    refine thenP_exit ?_
    refine inBlk_exit ?_
    refine thenP_normal ?_
    refine W.seqR ?_
    refine LS.vv rfl rfl (by decide) (Val.move rfl) ?_
    refine LS.vv rfl rfl (by decide) (Val.move rfl) ?_
    refine LS.vv rfl rfl (by decide) (Val.move rfl) ?_
    refine LS.vv rfl rfl (by decide) (Val.move rfl) ?_
    refine LS.m rfl (Step.call body58 rfl rfl (by decide) rfl (CallsV.mono (insertion_nat l lt Q f cap p n c B S _ hM (Nat.le_trans hB0 hB.size) hn hn19 hbody hQ (fun x y w h1 h2 h3 => hf x y w h1 h2 (hB.trans h3))) ?_))
    rintro _ w2 ⟨rfl, hM2, hb2⟩
    replace hM := hM2
    replace hB := hB.trans hb2
    refine LS.nil ?_
    refine W.block ?_
    refine W.loop (α := Unit) (fun _u => [(6, .int .i64 ((20 : Nat) : Int))]) [(0, _), (1, _), (2, _)] (fun _u w => (True) ∧ Mem w B (⟨3, p, n, c, nv (isort lt l)⟩ :: S) ∧ Below B w0 w) (fun _u => 0) (()) (Sub.cons rfl (Sub.nil _)) (Sub.cons rfl (Sub.cons rfl (Sub.cons rfl (Sub.nil _)))) ?_ ?_
    · exact ⟨trivial, hM, hB⟩
    rintro _u w3 ⟨-, hM, hB⟩
    try simp only at hM
    simp only [List.cons_append, List.nil_append]
    refine W.seq ?_
    refine W.seqR ?_
    refine LS.vv rfl rfl (by decide) (Val.move rfl) ?_
    refine LS.vv rfl rfl (by decide) (Val.move rfl) ?_
    refine LS.vv rfl rfl (by decide) (Val.lss rfl rfl) ?_
    refine LS.nil ?_
    first | refine W.condD rfl (fun hc2 => ?_) (fun hc2 => ?_) | refine W.cond rfl (fun hc2 => ?_) (fun hc2 => ?_)
    ·
      exfalso; omega
    ·
      refine W.exit ?_
      refine thenP_exit ?_
      refine thenP_exit ?_
      refine inBlk_exit ?_
      refine ret0 (by first | exact .inl rfl | exact .inr rfl) ?_
      exact ⟨rfl, hM, hB⟩

theorem sortStable_nat (l : List Nat) (lt : Nat → Nat → Bool) (Q : Nat → Prop) (f : FuncId) (cap : Array Value) (p : Option Addr) (n c B : Nat) (S : List Ob) (w0 : World) (hM0 : Mem w0 B (⟨3, p, n, c, nv l⟩ :: S)) (hB0 : B ≤ w0.heap.size) (hn : l.length = n) (hn19 : n ≤ 19) (hbody : Body Try.prog f) (hQ : ∀ x ∈ l, Q x)
    (hf : ∀ x y w, Q x → Q y → Below B w0 w → CallsV Try.prog f (#[.int .i64 (x : Int), .int .i64 (y : Int)] ++ cap) w (fun v w2 => ∃ z : Int, v = .int .i64 z ∧ decide (z < 0) = lt x y ∧ Below w.heap.size w w2)) :
    CallsV Try.prog 41 #[.slice p n c, .func (.func f) #[] cap] w0 (fun v w => v = .tuple #[] ∧ Mem w B (⟨3, p, n, c, nv (isort lt l)⟩ :: S) ∧ Below B w0 w) := by
  refine enter0 Try.func41 rfl Try.ntmps41 (by simp) rfl ?_
  have hB := Below.refl B w0
  simp only [argLoc, Nat.zero_add]
  have hM := hM0
  refine W.reg ?_
  refine LS.vv rfl rfl (by decide) (Val.move rfl) ?_
  refine LS.vv rfl rfl (by decide) (Val.move rfl) ?_
  refine LS.vv rfl rfl (by decide) (Val.len Try.underlying54 rfl) ?_
  refine LS.vv rfl rfl (by decide) (Val.move rfl) ?_
  refine LS.m rfl (Step.call body52 rfl rfl (by decide) rfl (CallsV.mono (stable_nat l lt Q f cap p n c B S _ hM (Nat.le_trans hB0 hB.size) hn hn19 hbody hQ (fun x y w h1 h2 h3 => hf x y w h1 h2 (hB.trans h3))) ?_))
  rintro _ w1 ⟨rfl, hM1, hb1⟩
  replace hM := hM1
  replace hB := hB.trans hb1
  refine LS.nil ?_
  refine ret0 (by first | exact .inl rfl | exact .inr rfl) ?_
  exact ⟨rfl, hM, hB⟩

end Go.Proofs.Ytjmpkmomlpgbdaa
