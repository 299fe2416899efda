/-
  Stable sorting of few trees.
-/
import Derived.Test.YtohflgcbpmoinaaHuffMem
import Derived.Test.YtohflgcbpmoinaaVfin
import Derived.Test.YtohflgcbpmoinaaVtree
import Derived.Test.YtohflgcbpmoinaaVfacts3
namespace Go.Proofs.Ytohflgcbpmoinaa
open Go Go.RowKit V
set_option linter.unusedVariables false
set_option linter.unusedSimpArgs false

def cmpI (x y : Int) : Int := if x < y then -1 else if y < x then 1 else 0
theorem cmpI_neg (x y : Int) : cmpI x y < 0 ↔ x < y := by unfold cmpI; split; (simp; omega); split <;> simp <;> omega

theorem isNaN_int64 (x : Int) (w0 : World) :
    CallsV Try.prog 42 #[.int .i64 x] w0 (fun v w => v = .bool false ∧ Below w0.heap.size w0 w) := by
  refine enter1 Try.func42 rfl Try.ntmps42 (by simp) rfl ?_
  have hB := Below.refl w0.heap.size w0
  simp only [argLoc]
  refine W.seqR ?_
  refine LS.vv rfl rfl (by decide) (Val.assign rfl) ?_
  refine LS.nil ?_
  refine W.seqR ?_
  refine LS.vv rfl rfl (by decide) (Val.move rfl) ?_
  refine LS.vv rfl rfl (by decide) (Val.move rfl) ?_
  refine LS.vv rfl rfl (by decide) (Val.cast (v := .bool false) (Val.neq rfl rfl) (by simp)) ?_
  refine LS.vv rfl rfl (by decide) (Val.assign rfl) ?_
  refine LS.nil ?_
  refine W.ret ?_
  refine ret1 (by first | exact .inl rfl | exact .inr rfl) rfl ?_
  exact ⟨rfl, hB⟩

theorem compare_int64 (x y : Int) (w0 : World) :
    CallsV Try.prog 37 #[.int .i64 x, .int .i64 y] w0 (fun v w => v = .int .i64 (cmpI x y) ∧ Below w0.heap.size w0 w) := by
  refine enter1 Try.func37 rfl Try.ntmps37 (by simp) rfl ?_
  have hB := Below.refl w0.heap.size w0
  simp only [argLoc, Nat.zero_add]
  refine W.seqR ?_
  refine LS.vv rfl rfl (by decide) (Val.cast (v := .int .i64 ((0 : Nat) : Int)) (Val.assign rfl) rfl) ?_
  refine LS.nil ?_
  refine W.seqR ?_
  refine LS.vv rfl rfl (by decide) (Val.move rfl) ?_
  refine LS.m rfl (Step.call body42 rfl rfl (by decide) rfl (CallsV.mono (isNaN_int64 x _) ?_))
  rintro _ w1 ⟨rfl, hb1⟩
  replace hB := hB.trans (hb1.mono hB.size)
  refine LS.vv rfl rfl (by decide) (Val.assign rfl) ?_
  refine LS.nil ?_
  refine W.seqR ?_
  refine LS.vv rfl rfl (by decide) (Val.move rfl) ?_
  refine LS.m rfl (Step.call body42 rfl rfl (by decide) rfl (CallsV.mono (isNaN_int64 y _) ?_))
  rintro _ w2 ⟨rfl, hb2⟩
  replace hB := hB.trans (hb2.mono hB.size)
  refine LS.vv rfl rfl (by decide) (Val.assign rfl) ?_
  refine LS.nil ?_
  refine W.seq ?_
  refine W.seqR ?_
  refine LS.vv rfl rfl (by decide) (Val.move rfl) ?_
  refine LS.nil ?_
  refine W.condF rfl ?_
  refine W.skip ?_
  refine thenP_normal ?_
  refine W.seq ?_
  refine W.seqR ?_
  refine LS.vv rfl rfl (by decide) (Val.move rfl) ?_
  refine LS.nil ?_
  refine W.condF rfl ?_
  refine W.skip ?_
  refine thenP_normal ?_
  refine W.seq ?_
  refine W.seqR ?_
  refine LS.vv rfl rfl (by decide) (Val.move rfl) ?_
  refine LS.vv rfl rfl (by decide) (Val.move rfl) ?_
  refine LS.vv rfl rfl (by decide) (Val.lss rfl rfl) ?_
  refine LS.nil ?_
  first | refine W.condD rfl (fun hc1 => ?_) (fun hc1 => ?_) | refine W.cond rfl (fun hc1 => ?_) (fun hc1 => ?_)
  ·
    refine W.seqR ?_
    refine LS.vv rfl rfl (by decide) (Val.assign rfl) ?_
    refine LS.nil ?_
    refine W.ret ?_
    refine thenP_ret ?_
    refine ret1 (by first | exact .inl rfl | exact .inr rfl) rfl ?_
    refine ⟨congrArg (Value.int .i64) ?_, hB⟩
    unfold cmpI
    repeat' split
    all_goals first | rfl | (exfalso; omega)
  ·
    refine W.skip ?_
    refine thenP_normal ?_
    refine W.seq ?_
    refine W.seqR ?_
    refine LS.vv rfl rfl (by decide) (Val.move rfl) ?_
    refine LS.vv rfl rfl (by decide) (Val.move rfl) ?_
    refine LS.vv rfl rfl (by decide) (Val.gtr rfl rfl) ?_
    refine LS.nil ?_
    first | refine W.condD rfl (fun hc2 => ?_) (fun hc2 => ?_) | refine W.cond rfl (fun hc2 => ?_) (fun hc2 => ?_)
    ·
      refine W.seqR ?_
      refine LS.vv rfl rfl (by decide) (Val.cast (v := .int .i64 ((1 : Nat) : Int)) (Val.assign rfl) rfl) ?_
      refine LS.nil ?_
      refine W.ret ?_
      refine thenP_ret ?_
      refine ret1 (by first | exact .inl rfl | exact .inr rfl) rfl ?_
      refine ⟨congrArg (Value.int .i64) ?_, hB⟩
      unfold cmpI
      repeat' split
      all_goals first | rfl | (exfalso; omega)
    ·
      refine W.skip ?_
      refine thenP_normal ?_
      refine W.seqR ?_
      refine LS.vv rfl rfl (by decide) (Val.cast (v := .int .i64 ((0 : Nat) : Int)) (Val.assign rfl) rfl) ?_
      refine LS.nil ?_
      refine W.ret ?_
      refine ret1 (by first | exact .inl rfl | exact .inr rfl) rfl ?_
      refine ⟨congrArg (Value.int .i64) ?_, hB⟩
      unfold cmpI
      repeat' split
      all_goals first | rfl | (exfalso; omega)



theorem lessT_any (a b : TV) (w0 : World) :
    CallsV Try.prog 36 #[.agg #[.int .i64 (a.w : Int), .slice a.p a.s.length a.c], .agg #[.int .i64 (b.w : Int), .slice b.p b.s.length b.c]] w0 (fun v w => ∃ z : Int, v = .int .i64 z ∧ decide (z < 0) = ltV a b ∧ Below w0.heap.size w0 w) := by
  refine enter1 Try.func36 rfl Try.ntmps36 (by simp) rfl ?_
  have hB := Below.refl w0.heap.size w0
  simp only [argLoc, Nat.zero_add]
  have hM := Mz.nil w0 w0.heap.size
  refine W.seqR ?_
  refine LS.m rfl (Step.boxZ rfl rfl (by decide) rfl rfl ?_)
  rintro w1 hO1 hg1 hbl1 hsz1
  replace hM := hM.add hB.size hbl1 hO1
  try simp only [List.length_cons, List.length_nil, Nat.zero_add, Nat.reduceAdd, Value.cells, List.toList_toArray, List.append_nil, List.set_cons_zero, List.set_cons_succ] at hM
  replace hB := hB.trans (hbl1.mono hB.size)
  skip
  refine LS.m rfl (Step.boxZ rfl rfl (by decide) rfl rfl ?_)
  rintro w2 hO2 hg2 hbl2 hsz2
  replace hM := hM.add hB.size hbl2 hO2
  try simp only [List.length_cons, List.length_nil, Nat.zero_add, Nat.reduceAdd, Value.cells, List.toList_toArray, List.append_nil, List.set_cons_zero, List.set_cons_succ] at hM
  replace hB := hB.trans (hbl2.mono hB.size)
  generalize w1.heap.size = gg2 at *
  refine LS.vv rfl rfl (by decide) (Val.cast (v := .int .i64 ((0 : Nat) : Int)) (Val.assign rfl) rfl) ?_
  refine LS.nil ?_
  refine W.seqR ?_
  refine LS.vv rfl rfl (by decide) (Val.fieldAddr0 fld56_0 rfl) ?_
  refine LS.m rfl (Step.load rfl rfl (by decide) flat2 rfl (hM.o1.rd) (rfl) ?_)
  refine LS.vv rfl rfl (by decide) (Val.fieldAddr0 fld56_0 rfl) ?_
  refine LS.m rfl (Step.load rfl rfl (by decide) flat2 rfl (hM.o0.rd) (rfl) ?_)
  refine LS.m rfl (Step.call body37 rfl rfl (by decide) rfl (CallsV.mono (compare_int64 _ _ _) ?_))
  rintro _ w3 ⟨rfl, hb3⟩
  replace hM := hM.below hb3
  replace hB := hB.trans (hb3.mono hB.size)
  refine LS.vv rfl rfl (by decide) (Val.assign rfl) ?_
  refine LS.nil ?_
  refine W.ret ?_
  refine ret1 (by first | exact .inl rfl | exact .inr rfl) rfl ?_
  refine ⟨_, rfl, ?_, hB⟩
  unfold ltV
  rw [decide_eq_decide, cmpI_neg]
  omega

theorem swapV_len {L : List TV} {j : Nat} {a b : TV} : ((L.set (j + 1) a).set j b).length = L.length := by simp
theorem setV_comm {L : List TV} {i j : Nat} {a b : TV} (h : i ≠ j) : (L.set i a).set j b = (L.set j b).set i a := List.set_comm _ _ h
theorem bubV_len (L : List TV) (i : Nat) : (isortTo ltV d0V L i).length = L.length := isortTo_len ltV d0V L i

theorem Mz.castV {w : World} {B : Nat} {S : List Oz} {e : TypeId} {z m c : Nat} {p : Option Addr} {xs ys : List Value} (h : xs = ys) (hM : Mz w B (⟨e, z, p, m, c, xs⟩ :: S)) : Mz w B (⟨e, z, p, m, c, ys⟩ :: S) := h ▸ hM

theorem insertionT (F : List TV) (J : List Value) (p : Option Addr) (n k c B : Nat) (S : List Oz) (w0 : World) (hM0 : Mz w0 B (⟨56, 2, p, k + n, c, J ++ tcs F⟩ :: S)) (hB0 : B ≤ w0.heap.size) (hn : F.length = n) (hn19 : n ≤ 19) (hJ : J.length = k * 2) :
    CallsV Try.prog 44 #[.slice (cutZ p c k 2) n (c - k), .int .i64 ((0 : Nat) : Int), .int .i64 (n : Int), .func (.func 36) #[] #[]] w0 (fun v w => v = .tuple #[] ∧ Mz w B (⟨56, 2, p, k + n, c, J ++ tcs (isort ltV F)⟩ :: S) ∧ Below B w0 w) := by
  refine enter0 Try.func44 rfl Try.ntmps44 (by simp) rfl ?_
  have hB := Below.refl B w0
  simp only [argLoc, Nat.zero_add, Nat.reduceAdd]
  have hM := hM0
  subst hn
  refine W.seqR ?_
  refine LS.vv rfl rfl (by decide) (Val.move rfl) ?_
  first | refine LS.vv rfl rfl (by decide) (Val.addN (j := 1) rfl rfl (by omega)) ?_ | refine LS.vv rfl rfl (by decide) (Val.add64 rfl rfl (by omega)) ?_
  refine LS.vv rfl rfl (by decide) (Val.assign rfl) ?_
  refine LS.nil ?_
  refine W.block ?_
  refine W.loop (α := Nat) (fun i => [(8, .int .i64 (i : Int))]) [(0, _), (1, _), (2, _), (3, _)] (fun i w => (1 ≤ i ∧ (i ≤ F.length ∨ i = 1)) ∧ Mz w B (⟨56, 2, p, k + F.length, c, J ++ tcs (isortTo ltV d0V F i)⟩ :: S) ∧ Below B w0 w) (fun i => F.length - i) (1) (Sub.cons rfl (Sub.nil _)) (Sub.cons rfl (Sub.cons rfl (Sub.cons rfl (Sub.cons rfl (Sub.nil _))))) ?_ ?_
  · exact ⟨⟨Nat.le_refl _, .inr rfl⟩, hM, hB⟩
  rintro i w1 ⟨⟨hi1, hi⟩, hM, hB⟩
  try simp only at hM
  simp only [List.cons_append, List.nil_append]
  have hil := isortTo_len ltV d0V F i
  have hcap := hM.o0.le_cap
  refine W.seq ?_
  refine W.seqR ?_
  refine LS.vv rfl rfl (by decide) (Val.move rfl) ?_
  refine LS.vv rfl rfl (by decide) (Val.move rfl) ?_
  refine LS.vv rfl rfl (by decide) (Val.lss rfl rfl) ?_
  refine LS.nil ?_
  first | refine W.condD rfl (fun hc1 => ?_) (fun hc1 => ?_) | refine W.cond rfl (fun hc1 => ?_) (fun hc1 => ?_)
  ·
    refine W.skip ?_
    refine thenP_normal ?_
    refine W.seq ?_
    refine W.block ?_
    refine W.seqR ?_
    refine LS.vv rfl rfl (by decide) (Val.move rfl) ?_
    refine LS.vv rfl rfl (by decide) (Val.assign rfl) ?_
    refine LS.nil ?_
    refine W.block ?_
    refine W.loop (α := List TV × Nat) (fun g => [(9, .int .i64 (g.2 : Int))]) [(0, _), (1, _), (2, _), (3, _), (8, _)] (fun g w => (bub ltV d0V g.1 g.2 = bub ltV d0V (isortTo ltV d0V F i) i ∧ g.2 ≤ i ∧ g.1.length = F.length) ∧ Mz w B (⟨56, 2, p, k + F.length, c, J ++ tcs g.1⟩ :: S) ∧ Below B w0 w) (fun g => g.2) (((isortTo ltV d0V F i), i)) (Sub.cons rfl (Sub.nil _)) (Sub.cons rfl (Sub.cons rfl (Sub.cons rfl (Sub.cons rfl (Sub.cons rfl (Sub.nil _)))))) ?_ ?_
    · exact ⟨⟨rfl, Nat.le_refl _, hil⟩, hM, hB⟩
    rintro ⟨L, j⟩ w2 ⟨⟨hb, hj, hL⟩, hM, hB⟩
    try simp only at hM
    simp only [List.cons_append, List.nil_append]
    simp only at hb hj hL
    refine W.seq ?_
    refine W.seqFz 17 [(0, true), (1, true), (2, true), (3, true), (4, true), (5, true), (6, true), (7, true), (8, true), (9, true), (10, true), (11, true), (12, true), (13, true), (14, false), (15, true), (16, true)] mixed (by kernel_rfl) hB hM ?_
    replace hB := hB.drew
    replace hM := hM.drew
    refine DF.vv rfl rfl rfl (by decide) (Val.move rfl) ?_
    refine DF.vv rfl rfl rfl (by decide) (Val.move rfl) ?_
    refine DF.vv rfl rfl rfl (by decide) (Val.gtr rfl rfl) ?_
    refine DF.vv rfl rfl rfl (by decide) (Val.move rfl) ?_
    refine DF.split 3 rfl (fun hg2 => ?_) (fun hg2 => ?_)
    ·
      first | (have hg2p := of_decide_eq_true hg2) | skip
      refine DF.vg rfl rfl rfl rfl hg2 (by decide) (Val.move rfl) ?_
      refine DF.vg rfl rfl rfl rfl hg2 (by decide) (Val.move rfl) ?_
      refine DF.vg rfl rfl rfl rfl hg2 (by decide) (Val.move rfl) ?_
      refine DF.vg rfl rfl rfl rfl hg2 (by decide) (Val.indexAddr Try.underlying54 elem56 rfl rfl (by omega) ((cutF hM.o0 hJ)) (by rw [tcs_len]; omega)) ?_
      refine DF.vg rfl rfl rfl rfl hg2 (by decide) (Val.loadAgg (vs := [.int .i64 ((gV L j).w : Int), .slice (gV L j).p (gV L j).s.length (gV L j).c]) agg56 rfl (fun _ h => (cutF h.2.o0 hJ)) ((tcs_ag (by omega))) rfl (by decide)) ?_
      refine DF.vg rfl rfl rfl rfl hg2 (by decide) (Val.move rfl) ?_
      refine DF.vg rfl rfl rfl rfl hg2 (by decide) (Val.move rfl) ?_
      first | refine DF.vg rfl rfl rfl rfl hg2 (by decide) (Val.subN (j := 1) rfl rfl (by omega) (by omega)) ?_ | refine DF.vg rfl rfl rfl rfl hg2 (by decide) (Val.sub64 rfl rfl (by omega)) ?_
      refine DF.vg rfl rfl rfl rfl hg2 (by decide) (Val.indexAddr Try.underlying54 elem56 rfl rfl (by omega) ((cutF hM.o0 hJ)) (by rw [tcs_len]; omega)) ?_
      refine DF.vg rfl rfl rfl rfl hg2 (by decide) (Val.loadAgg (vs := [.int .i64 ((gV L (j - 1)).w : Int), .slice (gV L (j - 1)).p (gV L (j - 1)).s.length (gV L (j - 1)).c]) agg56 rfl (fun _ h => (cutF h.2.o0 hJ)) ((tcs_ag (by omega))) rfl (by decide)) ?_
      refine DF.mg rfl rfl rfl hg2 (Step.callV body36 rfl rfl rfl (by decide) rfl (CallsV.mono (lessT_any (gV L j) (gV L (j - 1)) _) ?_))
      rintro _ w3 ⟨zc, rfl, hzc, hb3⟩
      replace hM := hM.below hb3
      replace hB := hB.trans (hb3.mono (Nat.le_trans hB0 hB.size))
      refine ⟨fun _ => ⟨hB, hM⟩, ?_⟩
      refine DF.vg rfl rfl rfl rfl hg2 (by decide) (Val.lss rfl rfl) ?_
      refine DF.vv rfl rfl rfl (by decide) (Val.pickT rfl hg2 rfl) ?_
      refine DF.nil ?_
      first | refine W.condD rfl (fun hc3 => ?_) (fun hc3 => ?_) | refine W.cond rfl (fun hc3 => ?_) (fun hc3 => ?_)
      ·
        refine W.skip ?_
        refine thenP_normal ?_
        refine W.seq ?_
        refine W.block ?_
        refine W.regT (S := fun w => Below B w0 w) (.val 0 (.val 1 (.val 2 (.val 3 (.val 4 (.val 5 (.val 6 (.val 7 (.val 8 (.val 10 (.val 11 (.val 12 (.two (.mem 9 (.mem 13 (.val 14 (.mem 15 (.val 16 (.mem 17 (.done))))))) (.mem 13 (.mem 9 (.val 14 (.mem 15 (.val 16 (.mem 17 (.done)))))))))))))))))))) mixed (by kernel_rfl) hB.drew ?_
        replace hB := hB.drew
        replace hM := hM.drew
        refine DT.vv rfl rfl rfl (by decide) (Val.move rfl) ?_
        refine DT.vv rfl rfl rfl (by decide) (Val.move rfl) ?_
        refine DT.vv rfl rfl rfl (by decide) (Val.move rfl) ?_
        refine DT.vv rfl rfl rfl (by decide) (Val.move rfl) ?_
        first | refine DT.vv rfl rfl rfl (by decide) (Val.subN (j := 1) rfl rfl (by omega) (by omega)) ?_ | refine DT.vv rfl rfl rfl (by decide) (Val.sub64 rfl rfl (by omega)) ?_
        refine DT.vv rfl rfl rfl (by decide) (Val.move rfl) ?_
        refine DT.vv rfl rfl rfl (by decide) (Val.move rfl) ?_
        first | refine DT.vv rfl rfl rfl (by decide) (Val.subN (j := 1) rfl rfl (by omega) (by omega)) ?_ | refine DT.vv rfl rfl rfl (by decide) (Val.sub64 rfl rfl (by omega)) ?_
        refine DT.vv rfl rfl rfl (by decide) (Val.indexAddr Try.underlying54 elem56 rfl rfl (by omega) ((cutF hM.o0 hJ)) (by rw [tcs_len]; omega)) ?_
        refine DT.vv rfl rfl rfl (by decide) (Val.move rfl) ?_
        refine DT.vv rfl rfl rfl (by decide) (Val.move rfl) ?_
        refine DT.vv rfl rfl rfl (by decide) (Val.indexAddr Try.underlying54 elem56 rfl rfl (by omega) ((cutF hM.o0 hJ)) (by rw [tcs_len]; omega)) ?_
        refine DT.two ?_ ?_
        ·
          refine DT.m rfl rfl (Step.loadAgg (vs := [.int .i64 ((gV L (j - 1)).w : Int), .slice (gV L (j - 1)).p (gV L (j - 1)).s.length (gV L (j - 1)).c]) rfl rfl (by decide) agg56 rfl ((cutF hM.o0 hJ)) ((tcs_ag (by omega))) rfl (by decide) ?_)
          refine ⟨hB, ?_⟩
          refine DT.m rfl rfl (Step.loadAgg (vs := [.int .i64 ((gV L j).w : Int), .slice (gV L j).p (gV L j).s.length (gV L j).c]) rfl rfl (by decide) agg56 rfl ((cutF hM.o0 hJ)) ((tcs_ag (by omega))) rfl (by decide) ?_)
          refine ⟨hB, ?_⟩
          refine DT.vv rfl rfl rfl (by decide) (Val.cast (v := .pointer (p.map (·.add ((k + j) * 2)))) (Val.indexAddr (j := j) Try.underlying54 elem56 rfl rfl (by omega) (cutF hM.o0 hJ) (by rw [tcs_len]; (try simp only [List.length_set]); omega)) (cut_ptr (by omega))) ?_
          refine DT.m rfl rfl (Step.storeAgg (B := B) rfl rfl agg56 rfl rfl rfl (by decide) (by first | exact one_map _ (fun _ => rfl) _ | simp [Value.oneCell']) (hM.o0) (by rw [List.length_append, hJ, tcs_len]; (try simp only [List.length_set]); omega) (Nat.le_trans hB0 hB.size) ?_)
          rintro w4 hO4 hg4 hbl4 hsz4
          replace hM := hM.s0 (e := _) hg4 hO4 inl_block
          try simp only [List.set_cons_zero, List.set_cons_succ] at hM
          replace hB := hB.trans hbl4
          refine ⟨hB, ?_⟩
          first | (replace hM := Mz.castV (by exact tcs_setR (j := j) (gV L (j - 1)) hJ (by (try simp only [List.length_set]); omega)) hM) | (replace hM := Mz.castV (by exact tcs_setR (j := j - 1) (gV L j) hJ (by (try simp only [List.length_set]); omega)) hM)
          refine DT.vv rfl rfl rfl (by decide) (Val.cast (v := .pointer (p.map (·.add ((k + (j - 1)) * 2)))) (Val.indexAddr (j := (j - 1)) Try.underlying54 elem56 rfl rfl (by omega) (cutF hM.o0 hJ) (by rw [tcs_len]; (try simp only [List.length_set]); omega)) (cut_ptr (by omega))) ?_
          refine DT.m rfl rfl (Step.storeAgg (B := B) rfl rfl agg56 rfl rfl rfl (by decide) (by first | exact one_map _ (fun _ => rfl) _ | simp [Value.oneCell']) (hM.o0) (by rw [List.length_append, hJ, tcs_len]; (try simp only [List.length_set]); omega) (Nat.le_trans hB0 hB.size) ?_)
          rintro w5 hO5 hg5 hbl5 hsz5
          replace hM := hM.s0 (e := _) hg5 hO5 inl_block
          try simp only [List.set_cons_zero, List.set_cons_succ] at hM
          replace hB := hB.trans hbl5
          refine ⟨hB, ?_⟩
          first | (replace hM := Mz.castV (by exact tcs_setR (j := j) (gV L (j - 1)) hJ (by (try simp only [List.length_set]); omega)) hM) | (replace hM := Mz.castV (by exact tcs_setR (j := j - 1) (gV L j) hJ (by (try simp only [List.length_set]); omega)) hM)
          refine DT.nil ?_
          refine inBlk_normal ?_
          refine thenP_normal ?_
          refine W.reg ?_
          refine LS.vv rfl rfl (by decide) (Val.move rfl) ?_
          first | refine LS.vv rfl rfl (by decide) (Val.subN (j := 1) rfl rfl (by omega) (by omega)) ?_ | refine LS.vv rfl rfl (by decide) (Val.sub64 rfl rfl (by omega)) ?_
          refine LS.vv rfl rfl (by decide) (Val.assign rfl) ?_
          refine LS.nil ?_
          refine thenP_normal ?_
          obtain ⟨j0, rfl⟩ := Nat.exists_eq_succ_of_ne_zero (show j ≠ 0 by omega)
          have hlt2 : ltV (L.getD (j0 + 1) d0V) (L.getD j0 d0V) = true := by { rw [← show gV L (j0 + 1) = L.getD (j0 + 1) d0V from rfl, ← show gV L j0 = L.getD j0 d0V from rfl]; have h9 := hzc; rw [show j0.succ - 1 = j0 from rfl] at h9; rw [← h9]; exact decide_eq_true (by omega) }
          have hbb : bub ltV d0V ((L.set (j0 + 1) (gV L j0)).set j0 (gV L (j0 + 1))) j0 = bub ltV d0V (isortTo ltV d0V F i) i := by rw [← hb, Nat.succ_eq_add_one, bub, if_pos hlt2]; rfl
          simp only [Nat.succ_eq_add_one, Nat.add_sub_cancel] at hM
          try rw [setV_comm (i := j0) (j := j0 + 1) (by omega)] at hM
          refine ⟨((L.set (j0 + 1) (gV L j0)).set j0 (gV L (j0 + 1)), j0), ?_, ?_, ⟨⟨hbb, by simp only; omega, by simp only [List.length_set]; omega⟩, hM, hB⟩, by simp only; omega⟩
          · exact (Sub.cons rfl (Sub.nil _))
          · repeat (first | exact Sub.nil _ | refine Sub.cons rfl ?_)
        ·
          refine DT.m rfl rfl (Step.loadAgg (vs := [.int .i64 ((gV L j).w : Int), .slice (gV L j).p (gV L j).s.length (gV L j).c]) rfl rfl (by decide) agg56 rfl ((cutF hM.o0 hJ)) ((tcs_ag (by omega))) rfl (by decide) ?_)
          refine ⟨hB, ?_⟩
          refine DT.m rfl rfl (Step.loadAgg (vs := [.int .i64 ((gV L (j - 1)).w : Int), .slice (gV L (j - 1)).p (gV L (j - 1)).s.length (gV L (j - 1)).c]) rfl rfl (by decide) agg56 rfl ((cutF hM.o0 hJ)) ((tcs_ag (by omega))) rfl (by decide) ?_)
          refine ⟨hB, ?_⟩
          refine DT.vv rfl rfl rfl (by decide) (Val.cast (v := .pointer (p.map (·.add ((k + j) * 2)))) (Val.indexAddr (j := j) Try.underlying54 elem56 rfl rfl (by omega) (cutF hM.o0 hJ) (by rw [tcs_len]; (try simp only [List.length_set]); omega)) (cut_ptr (by omega))) ?_
          refine DT.m rfl rfl (Step.storeAgg (B := B) rfl rfl agg56 rfl rfl rfl (by decide) (by first | exact one_map _ (fun _ => rfl) _ | simp [Value.oneCell']) (hM.o0) (by rw [List.length_append, hJ, tcs_len]; (try simp only [List.length_set]); omega) (Nat.le_trans hB0 hB.size) ?_)
          rintro w6 hO6 hg6 hbl6 hsz6
          replace hM := hM.s0 (e := _) hg6 hO6 inl_block
          try simp only [List.set_cons_zero, List.set_cons_succ] at hM
          replace hB := hB.trans hbl6
          refine ⟨hB, ?_⟩
          first | (replace hM := Mz.castV (by exact tcs_setR (j := j) (gV L (j - 1)) hJ (by (try simp only [List.length_set]); omega)) hM) | (replace hM := Mz.castV (by exact tcs_setR (j := j - 1) (gV L j) hJ (by (try simp only [List.length_set]); omega)) hM)
          refine DT.vv rfl rfl rfl (by decide) (Val.cast (v := .pointer (p.map (·.add ((k + (j - 1)) * 2)))) (Val.indexAddr (j := (j - 1)) Try.underlying54 elem56 rfl rfl (by omega) (cutF hM.o0 hJ) (by rw [tcs_len]; (try simp only [List.length_set]); omega)) (cut_ptr (by omega))) ?_
          refine DT.m rfl rfl (Step.storeAgg (B := B) rfl rfl agg56 rfl rfl rfl (by decide) (by first | exact one_map _ (fun _ => rfl) _ | simp [Value.oneCell']) (hM.o0) (by rw [List.length_append, hJ, tcs_len]; (try simp only [List.length_set]); omega) (Nat.le_trans hB0 hB.size) ?_)
          rintro w7 hO7 hg7 hbl7 hsz7
          replace hM := hM.s0 (e := _) hg7 hO7 inl_block
          try simp only [List.set_cons_zero, List.set_cons_succ] at hM
          replace hB := hB.trans hbl7
          refine ⟨hB, ?_⟩
          first | (replace hM := Mz.castV (by exact tcs_setR (j := j) (gV L (j - 1)) hJ (by (try simp only [List.length_set]); omega)) hM) | (replace hM := Mz.castV (by exact tcs_setR (j := j - 1) (gV L j) hJ (by (try simp only [List.length_set]); omega)) hM)
          refine DT.nil ?_
          refine inBlk_normal ?_
          refine thenP_normal ?_
          refine W.reg ?_
          refine LS.vv rfl rfl (by decide) (Val.move rfl) ?_
          first | refine LS.vv rfl rfl (by decide) (Val.subN (j := 1) rfl rfl (by omega) (by omega)) ?_ | refine LS.vv rfl rfl (by decide) (Val.sub64 rfl rfl (by omega)) ?_
          refine LS.vv rfl rfl (by decide) (Val.assign rfl) ?_
          refine LS.nil ?_
          refine thenP_normal ?_
          obtain ⟨j0, rfl⟩ := Nat.exists_eq_succ_of_ne_zero (show j ≠ 0 by omega)
          have hlt2 : ltV (L.getD (j0 + 1) d0V) (L.getD j0 d0V) = true := by { rw [← show gV L (j0 + 1) = L.getD (j0 + 1) d0V from rfl, ← show gV L j0 = L.getD j0 d0V from rfl]; have h9 := hzc; rw [show j0.succ - 1 = j0 from rfl] at h9; rw [← h9]; exact decide_eq_true (by omega) }
          have hbb : bub ltV d0V ((L.set (j0 + 1) (gV L j0)).set j0 (gV L (j0 + 1))) j0 = bub ltV d0V (isortTo ltV d0V F i) i := by rw [← hb, Nat.succ_eq_add_one, bub, if_pos hlt2]; rfl
          simp only [Nat.succ_eq_add_one, Nat.add_sub_cancel] at hM
          try rw [setV_comm (i := j0) (j := j0 + 1) (by omega)] at hM
          refine ⟨((L.set (j0 + 1) (gV L j0)).set j0 (gV L (j0 + 1)), j0), ?_, ?_, ⟨⟨hbb, by simp only; omega, by simp only [List.length_set]; omega⟩, hM, hB⟩, by simp only; omega⟩
          · exact (Sub.cons rfl (Sub.nil _))
          · repeat (first | exact Sub.nil _ | refine Sub.cons rfl ?_)
      ·
        refine W.exit ?_
        refine thenP_exit ?_
        refine thenP_exit ?_
        refine inBlk_exit ?_
        refine inBlk_normal ?_
        refine thenP_normal ?_
        refine W.reg ?_
        refine LS.vv rfl rfl (by decide) (Val.move rfl) ?_
        first | refine LS.vv rfl rfl (by decide) (Val.addN (j := 1) rfl rfl (by omega)) ?_ | refine LS.vv rfl rfl (by decide) (Val.add64 rfl rfl (by omega)) ?_
        refine LS.vv rfl rfl (by decide) (Val.assign rfl) ?_
        refine LS.nil ?_
        refine thenP_normal ?_
        have hfin : L = isortTo ltV d0V F (i + 1) := by first | (rw [isortTo, ← hb, show j = 0 by omega]; rfl) | (rw [isortTo, ← hb]; obtain ⟨j0, rfl⟩ := Nat.exists_eq_succ_of_ne_zero (show j ≠ 0 by omega); rw [Nat.succ_eq_add_one, bub, if_neg]; intro hlt; have h9 : decide (zc < 0) = true := hzc.trans hlt; have h8 := of_decide_eq_true h9; omega)
        rw [hfin] at hM
        refine ⟨i + 1, ?_, ?_, ⟨⟨by omega, .inl (by omega)⟩, hM, hB⟩, by omega⟩
        · exact (Sub.cons rfl (Sub.nil _))
        · repeat (first | exact Sub.nil _ | refine Sub.cons rfl ?_)
    ·
      first | (have hg2p := of_decide_eq_false hg2) | skip
      refine DF.s rfl rfl rfl rfl hg2 (by decide) ?_
      refine DF.s rfl rfl rfl rfl hg2 (by decide) ?_
      refine DF.s rfl rfl rfl rfl hg2 (by decide) ?_
      refine DF.s rfl rfl rfl rfl hg2 (by decide) ?_
      refine DF.s rfl rfl rfl rfl hg2 (by decide) ?_
      refine DF.s rfl rfl rfl rfl hg2 (by decide) ?_
      refine DF.s rfl rfl rfl rfl hg2 (by decide) ?_
      refine DF.s rfl rfl rfl rfl hg2 (by decide) ?_
      refine DF.s rfl rfl rfl rfl hg2 (by decide) ?_
      refine DF.s rfl rfl rfl rfl hg2 (by decide) ?_
      refine DF.s rfl rfl rfl rfl hg2 (by decide) ?_
      refine DF.s rfl rfl rfl rfl hg2 (by decide) ?_
      refine DF.vv rfl rfl rfl (by decide) (Val.pickF rfl hg2 rfl) ?_
      refine DF.nil ?_
      refine W.condF rfl ?_
      refine W.exit ?_
      refine thenP_exit ?_
      refine thenP_exit ?_
      refine inBlk_exit ?_
      refine inBlk_normal ?_
      refine thenP_normal ?_
      refine W.reg ?_
      refine LS.vv rfl rfl (by decide) (Val.move rfl) ?_
      first | refine LS.vv rfl rfl (by decide) (Val.addN (j := 1) rfl rfl (by omega)) ?_ | refine LS.vv rfl rfl (by decide) (Val.add64 rfl rfl (by omega)) ?_
      refine LS.vv rfl rfl (by decide) (Val.assign rfl) ?_
      refine LS.nil ?_
      refine thenP_normal ?_
      have hfin : L = isortTo ltV d0V F (i + 1) := by first | (rw [isortTo, ← hb, show j = 0 by omega]; rfl) | (rw [isortTo, ← hb]; obtain ⟨j0, rfl⟩ := Nat.exists_eq_succ_of_ne_zero (show j ≠ 0 by omega); rw [Nat.succ_eq_add_one, bub, if_neg]; intro hlt; have h9 : decide (zc < 0) = true := hzc.trans hlt; have h8 := of_decide_eq_true h9; omega)
      rw [hfin] at hM
      refine ⟨i + 1, ?_, ?_, ⟨⟨by omega, .inl (by omega)⟩, hM, hB⟩, by omega⟩
      · exact (Sub.cons rfl (Sub.nil _))
      · repeat (first | exact Sub.nil _ | refine Sub.cons rfl ?_)
  ·
    refine W.exit ?_
    refine thenP_exit ?_
    refine thenP_exit ?_
    refine inBlk_exit ?_
    refine ret0 (by first | exact .inl rfl | exact .inr rfl) ?_
    rw [isortTo_end ltV d0V F (by omega) hi] at hM
    exact ⟨rfl, hM, hB⟩

theorem stableT (F : List TV) (J : List Value) (p : Option Addr) (n k c B : Nat) (S : List Oz) (w0 : World) (hM0 : Mz w0 B (⟨56, 2, p, k + n, c, J ++ tcs F⟩ :: S)) (hB0 : B ≤ w0.heap.size) (hn : F.length = n) (hn19 : n ≤ 19) (hJ : J.length = k * 2) :
    CallsV Try.prog 41 #[.slice (cutZ p c k 2) n (c - k), .int .i64 (n : Int), .func (.func 36) #[] #[]] w0 (fun v w => v = .tuple #[] ∧ Mz w B (⟨56, 2, p, k + n, c, J ++ tcs (isort ltV F)⟩ :: S) ∧ Below B w0 w) := by
  refine enter0 Try.func41 rfl Try.ntmps41 (by simp) rfl ?_
  have hB := Below.refl B w0
  simp only [argLoc, Nat.zero_add, Nat.reduceAdd]
  have hM := hM0
  refine W.seqR ?_
  refine LS.vv rfl rfl (by decide) (Val.cast (v := .int .i64 ((20 : Nat) : Int)) (Val.assign rfl) rfl) ?_
  refine LS.nil ?_
  refine W.seqR ?_
  refine LS.vv rfl rfl (by decide) (Val.move rfl) ?_
  refine LS.vv rfl rfl (by decide) (Val.cast (v := .int .i64 ((0 : Nat) : Int)) (Val.assign rfl) rfl) ?_
  refine LS.vv rfl rfl (by decide) (Val.assign rfl) ?_
  refine LS.nil ?_
  refine W.seq ?_
  refine W.block ?_
  refine W.loop (α := Unit) (fun _u => [(7, .int .i64 ((0 : Nat) : Int)), (8, .int .i64 ((20 : Nat) : Int))]) [(0, _), (1, _), (2, _), (6, _)] (fun _u w => (True) ∧ Mz w B (⟨56, 2, p, k + n, c, J ++ tcs F⟩ :: S) ∧ Below B w0 w) (fun _u => 0) (()) (Sub.cons rfl (Sub.cons rfl (Sub.nil _))) (Sub.cons rfl (Sub.cons rfl (Sub.cons rfl (Sub.cons rfl (Sub.nil _))))) ?_ ?_
  · exact ⟨trivial, hM, hB⟩
  rintro _u w1 ⟨-, hM, hB⟩
  try simp only at hM
  simp only [List.cons_append, List.nil_append]
  refine W.seq ?_
  refine W.seqR ?_
  refine LS.vv rfl rfl (by decide) (Val.move rfl) ?_
  refine LS.vv rfl rfl (by decide) (Val.move rfl) ?_
  refine LS.vv rfl rfl (by decide) (Val.leq rfl rfl) ?_
  refine LS.nil ?_
  first | refine W.condD rfl (fun hc1 => ?_) (fun hc1 => ?_) | refine W.cond rfl (fun hc1 => ?_) (fun hc1 => ?_)
  ·
    exfalso; omega
  ·
    refine W.exit ?_
    refine thenP_exit ?_
    refine thenP_exit ?_
    refine inBlk_exit ?_
    refine thenP_normal ?_
    refine W.seqR ?_
    refine LS.vv rfl rfl (by decide) (Val.move rfl) ?_
    refine LS.vv rfl rfl (by decide) (Val.move rfl) ?_
    refine LS.vv rfl rfl (by decide) (Val.move rfl) ?_
    refine LS.vv rfl rfl (by decide) (Val.move rfl) ?_
    refine LS.m rfl (Step.call body44 rfl rfl (by decide) rfl (CallsV.mono (insertionT F J p n k c B S _ hM (Nat.le_trans hB0 hB.size) hn hn19 hJ) ?_))
    rintro _ w2 ⟨rfl, hM2, hb2⟩
    replace hM := hM2
    replace hB := hB.trans hb2
    refine LS.nil ?_
    refine W.block ?_
    refine W.loop (α := Unit) (fun _u => [(6, .int .i64 ((20 : Nat) : Int))]) [(0, _), (1, _), (2, _)] (fun _u w => (True) ∧ Mz w B (⟨56, 2, p, k + n, c, J ++ tcs (isort ltV F)⟩ :: S) ∧ Below B w0 w) (fun _u => 0) (()) (Sub.cons rfl (Sub.nil _)) (Sub.cons rfl (Sub.cons rfl (Sub.cons rfl (Sub.nil _)))) ?_ ?_
    · exact ⟨trivial, hM, hB⟩
    rintro _u w3 ⟨-, hM, hB⟩
    try simp only at hM
    simp only [List.cons_append, List.nil_append]
    refine W.seq ?_
    refine W.seqR ?_
    refine LS.vv rfl rfl (by decide) (Val.move rfl) ?_
    refine LS.vv rfl rfl (by decide) (Val.move rfl) ?_
    refine LS.vv rfl rfl (by decide) (Val.lss rfl rfl) ?_
    refine LS.nil ?_
    first | refine W.condD rfl (fun hc2 => ?_) (fun hc2 => ?_) | refine W.cond rfl (fun hc2 => ?_) (fun hc2 => ?_)
    ·
      exfalso; omega
    ·
      refine W.exit ?_
      refine thenP_exit ?_
      refine thenP_exit ?_
      refine inBlk_exit ?_
      refine ret0 (by first | exact .inl rfl | exact .inr rfl) ?_
      exact ⟨rfl, hM, hB⟩

theorem sortT (F : List TV) (J : List Value) (p : Option Addr) (n k c B : Nat) (S : List Oz) (w0 : World) (hM0 : Mz w0 B (⟨56, 2, p, k + n, c, J ++ tcs F⟩ :: S)) (hB0 : B ≤ w0.heap.size) (hn : F.length = n) (hn19 : n ≤ 19) (hJ : J.length = k * 2) :
    CallsV Try.prog 35 #[.slice (cutZ p c k 2) n (c - k), .func (.func 36) #[] #[]] w0 (fun v w => v = .tuple #[] ∧ Mz w B (⟨56, 2, p, k + n, c, J ++ tcs (isort ltV F)⟩ :: S) ∧ Below B w0 w) := by
  refine enter0 Try.func35 rfl Try.ntmps35 (by simp) rfl ?_
  have hB := Below.refl B w0
  simp only [argLoc, Nat.zero_add]
  have hM := hM0
  refine W.reg ?_
  refine LS.vv rfl rfl (by decide) (Val.move rfl) ?_
  refine LS.vv rfl rfl (by decide) (Val.move rfl) ?_
  refine LS.vv rfl rfl (by decide) (Val.len Try.underlying54 rfl) ?_
  refine LS.vv rfl rfl (by decide) (Val.move rfl) ?_
  refine LS.m rfl (Step.call body41 rfl rfl (by decide) rfl (CallsV.mono (stableT F J p n k c B S _ hM (Nat.le_trans hB0 hB.size) hn hn19 hJ) ?_))
  rintro _ w1 ⟨rfl, hM1, hb1⟩
  replace hM := hM1
  replace hB := hB.trans hb1
  refine LS.nil ?_
  refine ret0 (by first | exact .inl rfl | exact .inr rfl) ?_
  exact ⟨rfl, hM, hB⟩

end Go.Proofs.Ytohflgcbpmoinaa
