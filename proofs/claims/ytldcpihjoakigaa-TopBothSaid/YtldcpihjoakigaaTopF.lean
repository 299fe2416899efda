/-
  The statement TopFront.
-/
import Derived.Test.YtldcpihjoakigaaPairPl
namespace Go.Proofs.Ytldcpihjoakigaa
open Go Go.RowKit V
set_option linter.unusedVariables false
set_option linter.unusedSimpArgs false

theorem sv_take (l : List St) : ∀ a, (sv l).take (a * 4) = sv (l.take a) := by
  induction l with
  | nil => intro a; simp [sv]
  | cons x l ih =>
    intro a
    cases a with
    | zero => simp [sv]
    | succ a =>
      have h1 : sv (x :: l) = stc x ++ sv l := by simp [sv]
      have h2 : (stc x).length = 4 := rfl
      have h3 : sv (x :: l.take a) = stc x ++ sv (l.take a) := by simp [sv]
      rw [h1, List.take_succ_cons, h3, ← ih a, show (a + 1) * 4 = (stc x).length + a * 4 by omega, List.take_length_add_append]
theorem pc2_take (l : List (Nat × Nat)) : ∀ a, (pc2 l).take (a * 2) = pc2 (l.take a) := by
  induction l with
  | nil => intro a; simp [pc2]
  | cons x l ih =>
    intro a
    cases a with
    | zero => simp [pc2]
    | succ a =>
      have h1 : pc2 (x :: l) = [.int .i64 (x.1 : Int), .int .u8 (x.2 : Int)] ++ pc2 l := by simp [pc2]
      have h3 : pc2 (x :: l.take a) = [.int .i64 (x.1 : Int), .int .u8 (x.2 : Int)] ++ pc2 (l.take a) := by simp [pc2]
      rw [h1, List.take_succ_cons, h3, ← ih a, show (a + 1) * 2 = ([.int .i64 (x.1 : Int), .int .u8 (x.2 : Int)] : List Value).length + a * 2 by simp; omega, List.take_length_add_append]
theorem pc2_ag {l : List (Nat × Nat)} : ∀ {k : Nat}, k < l.length → ((pc2 l).drop (k * 2)).take 2 = [.int .i64 ((gp l k).1 : Int), .int .u8 ((gp l k).2 : Int)] := by
  induction l with
  | nil => intro k h; simp at h
  | cons x l ih =>
    intro k h
    cases k with
    | zero => simp [pc2, gp]
    | succ k =>
      have h1 : pc2 (x :: l) = .int .i64 (x.1 : Int) :: .int .u8 (x.2 : Int) :: pc2 l := by simp [pc2]
      rw [h1, show (k + 1) * 2 = k * 2 + 2 by omega, List.drop_succ_cons, List.drop_succ_cons, ih (by simpa using h)]
      simp [gp]
theorem gp_ext {A B : List (Nat × Nat)} (h : A.length = B.length) (ha : ∀ j, j < A.length → gp A j = gp B j) : A = B := by
  refine List.ext_getElem h fun i h1 h2 => ?_
  have := ha i h1
  simpa [gp, h1, h2] using this

theorem dones_any (A C : List (Nat × Nat)) (p q : Option Addr) (c d m n : Nat) (w0 : World) (hr : Rd w0 p (pc2 A)) (hr2 : Rd w0 q (pc2 C)) (hm : A.length = m) (hn : C.length = n) (hl : m ≤ 1000) :
    CallsV Try.prog 17 #[.slice p m c, .slice q n d] w0 (fun v w => v = .bool (decide (A = C)) ∧ Below w0.heap.size w0 w) := by
  refine enter1 Try.func17 rfl Try.ntmps17 (by simp) rfl ?_
  have hB := Below.refl w0.heap.size w0
  simp only [argLoc, Nat.zero_add]
  have hM := Mz.nil w0 w0.heap.size
  subst hm
  subst hn
  refine W.seqR ?_
  refine LS.vv rfl rfl (by decide) (Val.assign rfl) ?_
  refine LS.nil ?_
  refine W.seq ?_
  refine W.seqR ?_
  refine LS.vv rfl rfl (by decide) (Val.move rfl) ?_
  refine LS.vv rfl rfl (by decide) (Val.len Try.underlying27 rfl) ?_
  refine LS.vv rfl rfl (by decide) (Val.move rfl) ?_
  refine LS.vv rfl rfl (by decide) (Val.len Try.underlying27 rfl) ?_
  refine LS.vv rfl rfl (by decide) (Val.neq rfl rfl) ?_
  refine LS.nil ?_
  first | refine W.condD rfl (fun hc1 => ?_) (fun hc1 => ?_) | refine W.cond rfl (fun hc1 => ?_) (fun hc1 => ?_)
  ·
    refine W.seqR ?_
    refine LS.vv rfl rfl (by decide) (Val.assign rfl) ?_
    refine LS.nil ?_
    refine W.ret ?_
    refine thenP_ret ?_
    refine ret1 (by first | exact .inl rfl | exact .inr rfl) rfl ?_
    first
      | (refine ⟨congrArg Value.bool (decide_eq_false fun h => ?_).symm, hB⟩
         have := congrArg List.length h
         exfalso; omega)
      | (refine ⟨congrArg Value.bool (decide_eq_false fun h => ?_).symm, hB⟩
         have hx := (by assumption : ¬ (((gp A i).1 : Int) = ((gp C i).1 : Int) ∧ ((gp A i).2 : Int) = ((gp C i).2 : Int)))
         subst h; exact hx ⟨rfl, rfl⟩)
      | exact ⟨congrArg Value.bool (decide_eq_true (gp_ext hlen fun j hj => hall j (by omega))).symm, hB⟩
  ·
    refine W.skip ?_
    refine thenP_normal ?_
    refine W.seq ?_
    refine W.seqR ?_
    refine LS.vv rfl rfl (by decide) (Val.cast (v := .int .i64 ((0 : Nat) : Int)) (Val.assign rfl) rfl) ?_
    refine LS.nil ?_
    refine W.block ?_
    refine W.loop (α := Nat) (fun i => [(5, .int .i64 (i : Int))]) [(0, _), (1, _)] (fun i w => (i ≤ A.length ∧ ∀ j, j < i → gp A j = gp C j) ∧ Mz w w0.heap.size [] ∧ Below w0.heap.size w0 w) (fun i => A.length - i) (0) (Sub.cons rfl (Sub.nil _)) (Sub.cons rfl (Sub.cons rfl (Sub.nil _))) ?_ ?_
    · exact ⟨⟨Nat.zero_le _, fun j h => absurd h (by omega)⟩, hM, hB⟩
    rintro i w1 ⟨⟨hi, hall⟩, hM, hB⟩
    try simp only at hM
    simp only [List.cons_append, List.nil_append]
    have hlen : A.length = C.length := by omega
    refine W.seq ?_
    refine W.seqR ?_
    refine LS.vv rfl rfl (by decide) (Val.move rfl) ?_
    refine LS.vv rfl rfl (by decide) (Val.move rfl) ?_
    refine LS.vv rfl rfl (by decide) (Val.len Try.underlying27 rfl) ?_
    refine LS.vv rfl rfl (by decide) (Val.lss rfl rfl) ?_
    refine LS.nil ?_
    first | refine W.condD rfl (fun hc2 => ?_) (fun hc2 => ?_) | refine W.cond rfl (fun hc2 => ?_) (fun hc2 => ?_)
    ·
      refine W.skip ?_
      refine thenP_normal ?_
      refine W.seq ?_
      refine W.block ?_
      refine W.seqFz 9 [(0, true), (1, true), (2, true), (3, true), (4, true), (5, true), (6, true), (7, true), (8, true)] mixed (by kernel_rfl) hB hM ?_
      replace hB := hB.drew
      replace hM := hM.drew
      refine DF.vv rfl rfl rfl (by decide) (Val.move rfl) ?_
      refine DF.vv rfl rfl rfl (by decide) (Val.move rfl) ?_
      refine DF.vv rfl rfl rfl (by decide) (Val.indexAddr Try.underlying27 elem35 rfl rfl (by omega) ((hr.below hB)) (by rw [pc2_len]; omega)) ?_
      refine DF.vv rfl rfl rfl (by decide) (Val.loadAgg (vs := [.int .i64 ((gp A i).1 : Int), .int .u8 ((gp A i).2 : Int)]) agg35 rfl (fun _ h => (hr.below h.1)) ((pc2_ag (by omega))) rfl (by decide)) ?_
      refine DF.vv rfl rfl rfl (by decide) (Val.move rfl) ?_
      refine DF.vv rfl rfl rfl (by decide) (Val.move rfl) ?_
      refine DF.vv rfl rfl rfl (by decide) (Val.indexAddr Try.underlying27 elem35 rfl rfl (by omega) ((hr2.below hB)) (by rw [pc2_len]; omega)) ?_
      refine DF.vv rfl rfl rfl (by decide) (Val.loadAgg (vs := [.int .i64 ((gp C i).1 : Int), .int .u8 ((gp C i).2 : Int)]) agg35 rfl (fun _ h => (hr2.below h.1)) ((pc2_ag (by omega))) rfl (by decide)) ?_
      refine DF.vv rfl rfl rfl (by decide) (Val.neq2 int2_35 rfl rfl) ?_
      refine DF.nil ?_
      first | refine W.condD rfl (fun hc3 => ?_) (fun hc3 => ?_) | refine W.cond rfl (fun hc3 => ?_) (fun hc3 => ?_)
      ·
        refine W.seqR ?_
        refine LS.vv rfl rfl (by decide) (Val.assign rfl) ?_
        refine LS.nil ?_
        refine W.ret ?_
        refine inBlk_ret ?_
        refine thenP_ret ?_
        refine thenP_ret ?_
        refine inBlk_ret ?_
        refine thenP_ret ?_
        refine ret1 (by first | exact .inl rfl | exact .inr rfl) rfl ?_
        first
          | (refine ⟨congrArg Value.bool (decide_eq_false fun h => ?_).symm, hB⟩
             have := congrArg List.length h
             exfalso; omega)
          | (refine ⟨congrArg Value.bool (decide_eq_false fun h => ?_).symm, hB⟩
             have hx := (by assumption : ¬ (((gp A i).1 : Int) = ((gp C i).1 : Int) ∧ ((gp A i).2 : Int) = ((gp C i).2 : Int)))
             subst h; exact hx ⟨rfl, rfl⟩)
          | exact ⟨congrArg Value.bool (decide_eq_true (gp_ext hlen fun j hj => hall j (by omega))).symm, hB⟩
      ·
        refine W.skip ?_
        refine inBlk_normal ?_
        refine thenP_normal ?_
        refine W.reg ?_
        refine LS.vv rfl rfl (by decide) (Val.move rfl) ?_
        first | refine LS.vv rfl rfl (by decide) (Val.addN (j := 1) rfl rfl (by omega)) ?_ | refine LS.vv rfl rfl (by decide) (Val.add64 rfl rfl (by omega)) ?_
        refine LS.vv rfl rfl (by decide) (Val.assign rfl) ?_
        refine LS.nil ?_
        refine thenP_normal ?_
        have hii : gp A i = gp C i := by { have h9 := Classical.not_not.1 (by assumption : ¬ ¬ (((gp A i).1 : Int) = ((gp C i).1 : Int) ∧ ((gp A i).2 : Int) = ((gp C i).2 : Int))); exact Prod.ext (by omega) (by omega) }
        refine ⟨i + 1, ?_, ?_, ⟨⟨by omega, fun j hj => ?_⟩, hM, hB⟩, by omega⟩
        · exact (Sub.cons rfl (Sub.nil _))
        · repeat (first | exact Sub.nil _ | refine Sub.cons rfl ?_)
        · by_cases e : j = i
          · subst e; exact hii
          · exact hall j (by omega)
    ·
      refine W.exit ?_
      refine thenP_exit ?_
      refine thenP_exit ?_
      refine inBlk_exit ?_
      refine thenP_normal ?_
      refine W.seqR ?_
      refine LS.vv rfl rfl (by decide) (Val.assign rfl) ?_
      refine LS.nil ?_
      refine W.ret ?_
      refine ret1 (by first | exact .inl rfl | exact .inr rfl) rfl ?_
      first
        | (refine ⟨congrArg Value.bool (decide_eq_false fun h => ?_).symm, hB⟩
           have := congrArg List.length h
           exfalso; omega)
        | (refine ⟨congrArg Value.bool (decide_eq_false fun h => ?_).symm, hB⟩
           have hx := (by assumption : ¬ (((gp A i).1 : Int) = ((gp C i).1 : Int) ∧ ((gp A i).2 : Int) = ((gp C i).2 : Int)))
           subst h; exact hx ⟨rfl, rfl⟩)
        | exact ⟨congrArg Value.bool (decide_eq_true (gp_ext hlen fun j hj => hall j (by omega))).symm, hB⟩

theorem topFront_any (mode d : Int) (l : List St) (p : Option Addr) (c m k : Nat) (w0 : World) (hr : Rd w0 p (sv l)) (hm : l.length = m) (hl : m ≤ 9223372036854775806) (hc : m ≤ c) (hk : k < 256) (hv : ∀ x ∈ l, x.val < 256) :
    CallsV Try.prog 9 #[.int .i64 mode, .int .i64 d, .slice p m c, .int .u8 (k : Int)] w0 (fun v w => v = .bool true ∧ Below w0.heap.size w0 w) := by
  refine enter1 Try.func9 rfl Try.ntmps9 (by simp) rfl ?_
  have hB := Below.refl w0.heap.size w0
  simp only [argLoc, Nat.zero_add, Nat.reduceAdd]
  have hM := Mz.nil w0 w0.heap.size
  subst hm
  have hat : (k % (l.length + 1)) ≤ l.length := by have := Nat.mod_lt k (show 0 < l.length + 1 by omega); omega
  refine W.seqR ?_
  refine LS.vv rfl rfl (by decide) (Val.assign rfl) ?_
  refine LS.nil ?_
  refine W.seqR ?_
  refine LS.vv rfl rfl (by decide) (Val.move rfl) ?_
  refine LS.vv rfl rfl (by decide) (Val.move rfl) ?_
  refine LS.vv rfl rfl (by decide) (Val.move rfl) ?_
  refine LS.m rfl (Step.call body16 rfl rfl (by decide) rfl (CallsV.mono (Play_any2 mode d l _ _ _ _ (hr.below hB) rfl (by omega) hv) ?_))
  rintro _ w1 ⟨pl1, cl1, nl1, told1, main1, e1, O1, rfl, he1, hMn1, h11, h21, hb1⟩
  replace hM := hM.adds hB.size hb1 hMn1
  replace hB := hB.trans (hb1.mono hB.size)
  simp only [List.cons_append, List.nil_append] at hM
  refine LS.vv rfl rfl (by decide) (Val.move rfl) ?_
  refine LS.vv rfl rfl (by decide) (Val.extract rfl rfl) ?_
  refine LS.vv rfl rfl (by decide) (Val.extract rfl rfl) ?_
  refine LS.m rfl (Step.allocZ rfl rfl (by decide) elem50 rfl (by decide) ?_)
  rintro w2 hO2 hg2 hbl2 hsz2
  replace hM := hM.add hB.size hbl2 hO2
  try simp only [List.length_cons, List.length_nil, Nat.zero_add, Nat.reduceAdd, Value.cells, List.toList_toArray, List.append_nil, List.set_cons_zero, List.set_cons_succ] at hM
  replace hB := hB.trans (hbl2.mono hB.size)
  generalize w1.heap.size = gg2 at *
  refine LS.m rfl (Step.storeAgg0 (B := w0.heap.size) rfl rfl agg50 rfl rfl rfl (by decide) (by first | exact one_map _ (fun _ => rfl) _ | simp [Value.oneCell']) (hM.o0) rfl hB.size ?_)
  rintro w3 hO3 hg3 hbl3 hsz3
  replace hM := hM.s0 (e := _) hg3 hO3 inl_block
  try simp only [List.set_cons_zero, List.set_cons_succ] at hM
  replace hB := hB.trans hbl3
  refine LS.vv rfl rfl (by decide) (Val.assign rfl) ?_
  refine LS.nil ?_
  refine W.seqR ?_
  refine LS.vv rfl rfl (by decide) (Val.move rfl) ?_
  refine LS.vv rfl rfl (by decide) (Val.conv rfl Try.underlying5 Try.underlying3 (IntWalk.i64_in _ (by omega))) ?_
  refine LS.vv rfl rfl (by decide) (Val.move rfl) ?_
  refine LS.vv rfl rfl (by decide) (Val.len Try.underlying37 rfl) ?_
  first | refine LS.vv rfl rfl (by decide) (Val.addN (j := 1) rfl rfl (by omega)) ?_ | refine LS.vv rfl rfl (by decide) (Val.add64 rfl rfl (by omega)) ?_
  first | refine LS.vv rfl rfl (by decide) (Val.remN rfl rfl (by omega)) ?_ | refine LS.vv rfl rfl (by decide) (Val.rem rfl rfl (by omega) (by omega)) ?_ | refine LS.vv rfl rfl (by decide) (Val.remT rfl rfl (by omega)) ?_
  refine LS.vv rfl rfl (by decide) (Val.assign rfl) ?_
  refine LS.nil ?_
  refine W.seqR ?_
  refine LS.vv rfl rfl (by decide) (Val.move rfl) ?_
  refine LS.vv rfl rfl (by decide) (Val.move rfl) ?_
  refine LS.vv rfl rfl (by decide) (Val.move rfl) ?_
  refine LS.vv rfl rfl (by decide) (Val.move rfl) ?_
  refine LS.vv rfl rfl (by decide) (Val.sliceToZ Try.underlying37 elem45 rfl rfl (by omega)) ?_
  refine LS.m rfl (Step.call body16 rfl rfl (by decide) rfl (CallsV.mono (Play_any2 mode d (l.take (k % (l.length + 1))) _ _ _ _ (by rw [← sv_take]; exact (hr.below hB).take _) (by rw [List.length_take]; omega) (by omega) (fun x hx => hv x (List.mem_of_mem_take hx))) ?_))
  rintro _ w4 ⟨pl2, cl2, nl2, told2, main2, e2, O2, rfl, he2, hMn2, h12, h22, hb4⟩
  replace hM := hM.adds hB.size hb4 hMn2
  replace hB := hB.trans (hb4.mono hB.size)
  simp only [List.cons_append, List.nil_append] at hM
  refine LS.vv rfl rfl (by decide) (Val.move rfl) ?_
  refine LS.vv rfl rfl (by decide) (Val.extract rfl rfl) ?_
  refine LS.vv rfl rfl (by decide) (Val.extract rfl rfl) ?_
  refine LS.m rfl (Step.allocZ rfl rfl (by decide) elem50 rfl (by decide) ?_)
  rintro w5 hO5 hg5 hbl5 hsz5
  replace hM := hM.add hB.size hbl5 hO5
  try simp only [List.length_cons, List.length_nil, Nat.zero_add, Nat.reduceAdd, Value.cells, List.toList_toArray, List.append_nil, List.set_cons_zero, List.set_cons_succ] at hM
  replace hB := hB.trans (hbl5.mono hB.size)
  generalize w4.heap.size = gg5 at *
  refine LS.m rfl (Step.storeAgg0 (B := w0.heap.size) rfl rfl agg50 rfl rfl rfl (by decide) (by first | exact one_map _ (fun _ => rfl) _ | simp [Value.oneCell']) (hM.o0) rfl hB.size ?_)
  rintro w6 hO6 hg6 hbl6 hsz6
  replace hM := hM.s0 (e := _) hg6 hO6 inl_block
  try simp only [List.set_cons_zero, List.set_cons_succ] at hM
  replace hB := hB.trans hbl6
  refine LS.vv rfl rfl (by decide) (Val.assign rfl) ?_
  refine LS.nil ?_
  refine W.seq ?_
  refine W.seqR ?_
  refine LS.vv rfl rfl (by decide) (Val.move rfl) ?_
  refine LS.vv rfl rfl (by decide) (Val.neq rfl rfl) ?_
  refine LS.nil ?_
  first | refine W.condD rfl (fun hc1 => ?_) (fun hc1 => ?_) | refine W.cond rfl (fun hc1 => ?_) (fun hc1 => ?_)
  ·
    refine W.seqR ?_
    refine LS.vv rfl rfl (by decide) (Val.fieldAddr0 fld50_0 rfl) ?_
    refine LS.m rfl (Step.load rfl rfl (by decide) flat27 rfl (hM.o2.rd) (rfl) ?_)
    refine LS.vv rfl rfl (by decide) (Val.len Try.underlying27 rfl) ?_
    have hn0 := (h21 (by omega)).1
    refine LS.vv rfl rfl (by decide) (Val.cast (v := .bool true) (Val.eql rfl rfl) (by refine congrArg Value.bool (decide_eq_true ?_); omega)) ?_
    refine LS.vv rfl rfl (by decide) (Val.assign rfl) ?_
    refine LS.nil ?_
    refine W.ret ?_
    refine thenP_ret ?_
    refine ret1 (by first | exact .inl rfl | exact .inr rfl) rfl ?_
    first | exact ⟨rfl, hB⟩ | contradiction | (exfalso; omega)
  ·
    refine W.skip ?_
    refine thenP_normal ?_
    refine W.seqFz 34 [(0, true), (1, true), (2, true), (3, true), (4, true), (5, true), (6, true), (7, true), (8, true), (9, true), (10, true), (11, true), (12, true), (13, true), (14, true), (15, true), (16, true), (17, false), (18, true), (19, true), (20, true), (21, true), (22, true), (23, true), (24, true), (25, true), (26, true), (27, true), (28, true), (29, true), (30, true), (31, true), (32, true), (33, true)] mixed (by kernel_rfl) hB hM ?_
    replace hB := hB.drew
    replace hM := hM.drew
    refine DF.vv rfl rfl rfl (by decide) (Val.move rfl) ?_
    have he1z : e1 = 0 := by omega
    have hcond := he1.1 he1z
    have he2z : e2 = 0 := he2.2 ⟨hcond.1, hcond.2.1, by omega⟩
    obtain ⟨a1, a2, a3, a4⟩ := h11 he1z
    obtain ⟨b1, b2, b3, b4⟩ := h12 he2z
    have htf := top_front (d := d.toNat) (mode := mode.toNat) (by omega) (by omega) l hv (k % (l.length + 1))
    refine DF.vv rfl rfl rfl (by decide) (Val.cast (v := .bool true) (Val.eql rfl rfl) (by refine congrArg Value.bool (decide_eq_true ?_); omega)) ?_
    refine DF.vv rfl rfl rfl (by decide) (Val.move rfl) ?_
    refine DF.vg rfl rfl rfl rfl rfl (by decide) (Val.fieldAddr0 fld50_0 rfl) ?_
    refine DF.vg rfl rfl rfl rfl rfl (by decide) (Val.load flat27 rfl (fun _ h => h.2.o2.rd) (rfl)) ?_
    refine DF.vg rfl rfl rfl rfl rfl (by decide) (Val.len Try.underlying27 rfl) ?_
    refine DF.vg rfl rfl rfl rfl rfl (by decide) (Val.move rfl) ?_
    refine DF.vg rfl rfl rfl rfl rfl (by decide) (Val.len Try.underlying37 rfl) ?_
    refine DF.vg rfl rfl rfl rfl rfl (by decide) (Val.cast (v := .bool true) (Val.eql rfl rfl) (by refine congrArg Value.bool (decide_eq_true ?_); omega)) ?_
    refine DF.vv rfl rfl rfl (by decide) (Val.pickT rfl rfl rfl) ?_
    refine DF.vv rfl rfl rfl (by decide) (Val.move rfl) ?_
    refine DF.vg rfl rfl rfl rfl rfl (by decide) (Val.fieldAddr0 fld50_0 rfl) ?_
    refine DF.vg rfl rfl rfl rfl rfl (by decide) (Val.load flat27 rfl (fun _ h => h.2.o0.rd) (rfl)) ?_
    refine DF.vg rfl rfl rfl rfl rfl (by decide) (Val.fieldAddr0 fld50_0 rfl) ?_
    refine DF.vg rfl rfl rfl rfl rfl (by decide) (Val.load flat27 rfl (fun _ h => h.2.o2.rd) (rfl)) ?_
    have hcl := hM.o3.le_cap
    refine DF.vg rfl rfl rfl rfl rfl (by decide) (Val.move rfl) ?_
    refine DF.vg rfl rfl rfl rfl rfl (by decide) (Val.sliceToZ Try.underlying27 elem35 rfl rfl (by omega)) ?_
    refine DF.mg rfl rfl rfl rfl (Step.call body17 rfl rfl (by decide) rfl (CallsV.mono (dones_any O2 (O1.take (k % (l.length + 1))) _ _ _ _ _ _ _ hM.o1.rd (by rw [← pc2_take]; exact (hM.o3.rd).take _) (by rw [b2, pouts_len, b1]) (by rw [List.length_take, a2, pouts_len]; omega) (by omega)) ?_))
    rintro _ w7 ⟨rfl, hb7⟩
    replace hM := hM.below hb7
    replace hB := hB.trans (hb7.mono hB.size)
    rw [show decide (O2 = O1.take (k % (l.length + 1))) = true from decide_eq_true (by rw [b2, a2, pouts_prefix _ _ _ _ _ hat, pouts_take _ _ _ _ hat _ (Nat.le_refl _)])]
    refine ⟨fun _ => ⟨hB, hM⟩, ?_⟩
    refine DF.vv rfl rfl rfl (by decide) (Val.pickT rfl rfl rfl) ?_
    refine DF.vv rfl rfl rfl (by decide) (Val.move rfl) ?_
    refine DF.vg rfl rfl rfl rfl rfl (by decide) (Val.fieldAddr0 fld50_1 rfl) ?_
    refine DF.vg rfl rfl rfl rfl rfl (by decide) (Val.load flat3 rfl (fun _ h => h.2.o0.rd) (rfl)) ?_
    refine DF.vg rfl rfl rfl rfl rfl (by decide) (Val.fieldAddr0 fld50_1 rfl) ?_
    refine DF.vg rfl rfl rfl rfl rfl (by decide) (Val.load flat3 rfl (fun _ h => h.2.o2.rd) (rfl)) ?_
    refine DF.vg rfl rfl rfl rfl rfl (by decide) (Val.cast (v := .bool true) (Val.leq rfl rfl) (by refine congrArg Value.bool (decide_eq_true ?_); omega)) ?_
    refine DF.vv rfl rfl rfl (by decide) (Val.pickT rfl rfl rfl) ?_
    refine DF.vv rfl rfl rfl (by decide) (Val.move rfl) ?_
    refine DF.vg rfl rfl rfl rfl rfl (by decide) (Val.fieldAddr0 fld50_2 rfl) ?_
    refine DF.vg rfl rfl rfl rfl rfl (by decide) (Val.load flat3 rfl (fun _ h => h.2.o0.rd) (rfl)) ?_
    refine DF.vg rfl rfl rfl rfl rfl (by decide) (Val.fieldAddr0 fld50_2 rfl) ?_
    refine DF.vg rfl rfl rfl rfl rfl (by decide) (Val.load flat3 rfl (fun _ h => h.2.o2.rd) (rfl)) ?_
    refine DF.vg rfl rfl rfl rfl rfl (by decide) (Val.cast (v := .bool true) (Val.leq rfl rfl) (by refine congrArg Value.bool (decide_eq_true ?_); omega)) ?_
    refine DF.vv rfl rfl rfl (by decide) (Val.pickT rfl rfl rfl) ?_
    refine DF.vv rfl rfl rfl (by decide) (Val.assign rfl) ?_
    refine DF.nil ?_
    refine W.ret ?_
    refine ret1 (by first | exact .inl rfl | exact .inr rfl) rfl ?_
    first | exact ⟨rfl, hB⟩ | contradiction | (exfalso; omega)

end Go.Proofs.Ytldcpihjoakigaa
