/-
  The statement TopBoth.
-/
import Derived.Test.YtldcpihjoakigaaTopF
namespace Go.Proofs.Ytldcpihjoakigaa
open Go Go.RowKit V
set_option linter.unusedVariables false
set_option linter.unusedSimpArgs false

def fl (l : List St) (k : Nat) : List St := (l.take k).filter fun x => decide (x.kind ≠ 10)
theorem fl_succ {l : List St} {k : Nat} (h : k < l.length) : fl l (k + 1) = if (gS l k).kind ≠ 10 then fl l k ++ [gS l k] else fl l k := by
  unfold fl
  rw [take_gS h, List.filter_append]
  by_cases e : (gS l k).kind ≠ 10
  · rw [if_pos e]; simp [e]
  · rw [if_neg e]; simp [Classical.not_not.1 e]
theorem fl_len (l : List St) (k : Nat) : (fl l k).length ≤ k := by
  unfold fl
  have := List.length_filter_le (fun x : St => decide (x.kind ≠ 10)) (l.take k)
  rw [List.length_take] at this; omega
theorem fl_val {l : List St} (h : ∀ x ∈ l, x.val < 256) (k : Nat) : ∀ x ∈ fl l k, x.val < 256 := fun x hx => h x (List.mem_of_mem_take (List.mem_filter.1 hx).1)
theorem fl_kind (l : List St) (k : Nat) : ∀ x ∈ fl l k, x.kind ≠ 10 := fun x hx => by simpa using (List.mem_filter.1 hx).2
theorem sv_topL (l : List St) (b : Int) : sv (allp l 3) ++ ([.int .i64 9, .int .i64 0, .int .i64 b, .int .u8 0] ++ [.int .i64 9, .int .i64 1, .int .i64 b, .int .u8 0]) = sv (topL l b) := by simp [sv, topL, stc, rdS]

theorem may_any (mode d : Int) (p : Option Addr) (c m : Nat) (w0 : World) :
    CallsV Try.prog 18 #[.int .i64 mode, .int .i64 d, .slice p m c] w0 (fun v w => ∃ b : Bool, v = .bool b ∧ (b = true ↔ (1 ≤ mode ∧ mode ≤ 3) ∧ (3 ≤ d ∧ d ≤ 6) ∧ m ≤ 100) ∧ Below w0.heap.size w0 w) := by
  refine enter1 Try.func18 rfl Try.ntmps18 (by simp) rfl ?_
  have hB := Below.refl w0.heap.size w0
  simp only [argLoc, Nat.zero_add, Nat.reduceAdd]
  refine W.seqR ?_
  refine LS.vv rfl rfl (by decide) (Val.assign rfl) ?_
  refine LS.nil ?_
  refine W.seqR ?_
  refine LS.vv rfl rfl (by decide) (Val.move rfl) ?_
  refine LS.vv rfl rfl (by decide) (Val.geq rfl rfl) ?_
  refine LS.vv rfl rfl (by decide) (Val.move rfl) ?_
  refine LS.split 2 rfl (fun hg1 => ?_) (fun hg1 => ?_)
  ·
    first | (have hg1p := of_decide_eq_true hg1) | skip
    refine LS.vg rfl rfl rfl hg1 (by decide) (Val.move rfl) ?_
    refine LS.vg rfl rfl rfl hg1 (by decide) (Val.leq rfl rfl) ?_
    refine LS.vv rfl rfl (by decide) (Val.pickT rfl hg1 rfl) ?_
    refine LS.vv rfl rfl (by decide) (Val.move rfl) ?_
    refine LS.split 6 rfl (fun hg2 => ?_) (fun hg2 => ?_)
    ·
      first | (have hg2p := of_decide_eq_true hg2) | skip
      refine LS.vg rfl rfl rfl hg2 (by decide) (Val.move rfl) ?_
      refine LS.vg rfl rfl rfl hg2 (by decide) (Val.geq rfl rfl) ?_
      refine LS.vv rfl rfl (by decide) (Val.pickT rfl hg2 rfl) ?_
      refine LS.vv rfl rfl (by decide) (Val.move rfl) ?_
      refine LS.split 10 rfl (fun hg3 => ?_) (fun hg3 => ?_)
      ·
        first | (have hg3p := of_decide_eq_true hg3) | skip
        refine LS.vg rfl rfl rfl hg3 (by decide) (Val.move rfl) ?_
        refine LS.vg rfl rfl rfl hg3 (by decide) (Val.leq rfl rfl) ?_
        refine LS.vv rfl rfl (by decide) (Val.pickT rfl hg3 rfl) ?_
        refine LS.vv rfl rfl (by decide) (Val.move rfl) ?_
        refine LS.split 14 rfl (fun hg4 => ?_) (fun hg4 => ?_)
        ·
          first | (have hg4p := of_decide_eq_true hg4) | skip
          refine LS.vg rfl rfl rfl hg4 (by decide) (Val.move rfl) ?_
          refine LS.vg rfl rfl rfl hg4 (by decide) (Val.len Try.underlying37 rfl) ?_
          refine LS.vg rfl rfl rfl hg4 (by decide) (Val.leq rfl rfl) ?_
          refine LS.vv rfl rfl (by decide) (Val.pickT rfl hg4 rfl) ?_
          refine LS.vv rfl rfl (by decide) (Val.assign rfl) ?_
          refine LS.nil ?_
          refine W.ret ?_
          refine ret1 (by first | exact .inl rfl | exact .inr rfl) rfl ?_
          first | (refine ⟨_, rfl, ?_, hB⟩; rw [decide_eq_true_iff]; omega) | (refine ⟨_, rfl, ?_, hB⟩; simp; omega)
        ·
          first | (have hg4p := of_decide_eq_false hg4) | skip
          refine LS.s rfl rfl rfl hg4 (by decide) ?_
          refine LS.s rfl rfl rfl hg4 (by decide) ?_
          refine LS.s rfl rfl rfl hg4 (by decide) ?_
          refine LS.vv rfl rfl (by decide) (Val.pickF rfl hg4 rfl) ?_
          refine LS.vv rfl rfl (by decide) (Val.assign rfl) ?_
          refine LS.nil ?_
          refine W.ret ?_
          refine ret1 (by first | exact .inl rfl | exact .inr rfl) rfl ?_
          first | (refine ⟨_, rfl, ?_, hB⟩; rw [decide_eq_true_iff]; omega) | (refine ⟨_, rfl, ?_, hB⟩; simp; omega)
      ·
        first | (have hg3p := of_decide_eq_false hg3) | skip
        refine LS.s rfl rfl rfl hg3 (by decide) ?_
        refine LS.s rfl rfl rfl hg3 (by decide) ?_
        refine LS.vv rfl rfl (by decide) (Val.pickF rfl hg3 rfl) ?_
        refine LS.vv rfl rfl (by decide) (Val.move rfl) ?_
        refine LS.s rfl rfl rfl rfl (by decide) ?_
        refine LS.s rfl rfl rfl rfl (by decide) ?_
        refine LS.s rfl rfl rfl rfl (by decide) ?_
        refine LS.vv rfl rfl (by decide) (Val.pickF rfl rfl rfl) ?_
        refine LS.vv rfl rfl (by decide) (Val.assign rfl) ?_
        refine LS.nil ?_
        refine W.ret ?_
        refine ret1 (by first | exact .inl rfl | exact .inr rfl) rfl ?_
        first | (refine ⟨_, rfl, ?_, hB⟩; rw [decide_eq_true_iff]; omega) | (refine ⟨_, rfl, ?_, hB⟩; simp; omega)
    ·
      first | (have hg2p := of_decide_eq_false hg2) | skip
      refine LS.s rfl rfl rfl hg2 (by decide) ?_
      refine LS.s rfl rfl rfl hg2 (by decide) ?_
      refine LS.vv rfl rfl (by decide) (Val.pickF rfl hg2 rfl) ?_
      refine LS.vv rfl rfl (by decide) (Val.move rfl) ?_
      refine LS.s rfl rfl rfl rfl (by decide) ?_
      refine LS.s rfl rfl rfl rfl (by decide) ?_
      refine LS.vv rfl rfl (by decide) (Val.pickF rfl rfl rfl) ?_
      refine LS.vv rfl rfl (by decide) (Val.move rfl) ?_
      refine LS.s rfl rfl rfl rfl (by decide) ?_
      refine LS.s rfl rfl rfl rfl (by decide) ?_
      refine LS.s rfl rfl rfl rfl (by decide) ?_
      refine LS.vv rfl rfl (by decide) (Val.pickF rfl rfl rfl) ?_
      refine LS.vv rfl rfl (by decide) (Val.assign rfl) ?_
      refine LS.nil ?_
      refine W.ret ?_
      refine ret1 (by first | exact .inl rfl | exact .inr rfl) rfl ?_
      first | (refine ⟨_, rfl, ?_, hB⟩; rw [decide_eq_true_iff]; omega) | (refine ⟨_, rfl, ?_, hB⟩; simp; omega)
  ·
    first | (have hg1p := of_decide_eq_false hg1) | skip
    refine LS.s rfl rfl rfl hg1 (by decide) ?_
    refine LS.s rfl rfl rfl hg1 (by decide) ?_
    refine LS.vv rfl rfl (by decide) (Val.pickF rfl hg1 rfl) ?_
    refine LS.vv rfl rfl (by decide) (Val.move rfl) ?_
    refine LS.s rfl rfl rfl rfl (by decide) ?_
    refine LS.s rfl rfl rfl rfl (by decide) ?_
    refine LS.vv rfl rfl (by decide) (Val.pickF rfl rfl rfl) ?_
    refine LS.vv rfl rfl (by decide) (Val.move rfl) ?_
    refine LS.s rfl rfl rfl rfl (by decide) ?_
    refine LS.s rfl rfl rfl rfl (by decide) ?_
    refine LS.vv rfl rfl (by decide) (Val.pickF rfl rfl rfl) ?_
    refine LS.vv rfl rfl (by decide) (Val.move rfl) ?_
    refine LS.s rfl rfl rfl rfl (by decide) ?_
    refine LS.s rfl rfl rfl rfl (by decide) ?_
    refine LS.s rfl rfl rfl rfl (by decide) ?_
    refine LS.vv rfl rfl (by decide) (Val.pickF rfl rfl rfl) ?_
    refine LS.vv rfl rfl (by decide) (Val.assign rfl) ?_
    refine LS.nil ?_
    refine W.ret ?_
    refine ret1 (by first | exact .inl rfl | exact .inr rfl) rfl ?_
    first | (refine ⟨_, rfl, ?_, hB⟩; rw [decide_eq_true_iff]; omega) | (refine ⟨_, rfl, ?_, hB⟩; simp; omega)

theorem topBoth_any (mode d b : Int) (l : List St) (p : Option Addr) (c m : Nat) (w0 : World) (hr : Rd w0 p (sv l)) (hm : l.length = m) (hl : m ≤ 9223372036854775807) (hv : ∀ x ∈ l, x.val < 256) :
    CallsV Try.prog 10 #[.int .i64 mode, .int .i64 d, .slice p m c, .int .i64 b] w0 (fun v w => v = .bool true ∧ Below w0.heap.size w0 w) := by
  refine enter1 Try.func10 rfl Try.ntmps10 (by simp) rfl ?_
  have hB := Below.refl w0.heap.size w0
  simp only [argLoc, Nat.zero_add, Nat.reduceAdd]
  have hM := Mz.nil w0 w0.heap.size
  subst hm
  refine W.seqR ?_
  refine LS.vv rfl rfl (by decide) (Val.assign rfl) ?_
  refine LS.nil ?_
  refine W.seq ?_
  refine W.seqR ?_
  refine LS.vv rfl rfl (by decide) (Val.move rfl) ?_
  refine LS.vv rfl rfl (by decide) (Val.len Try.underlying37 rfl) ?_
  refine LS.vv rfl rfl (by decide) (Val.gtr rfl rfl) ?_
  refine LS.nil ?_
  first | refine W.condD rfl (fun hc1 => ?_) (fun hc1 => ?_) | refine W.cond rfl (fun hc1 => ?_) (fun hc1 => ?_)
  ·
    refine W.seqR ?_
    refine LS.vv rfl rfl (by decide) (Val.assign rfl) ?_
    refine LS.nil ?_
    refine W.ret ?_
    refine thenP_ret ?_
    refine ret1 (by first | exact .inl rfl | exact .inr rfl) rfl ?_
    first | exact ⟨rfl, hB⟩ | contradiction | (exfalso; omega)
  ·
    refine W.skip ?_
    refine thenP_normal ?_
    refine W.seqR ?_
    refine LS.vv rfl rfl (by decide) (Val.assign rfl) ?_
    refine LS.nil ?_
    refine W.seq ?_
    refine W.seqR ?_
    refine LS.vv rfl rfl (by decide) (Val.move rfl) ?_
    refine LS.vv rfl rfl (by decide) (Val.len Try.underlying37 rfl) ?_
    refine LS.vv rfl rfl (by decide) (Val.cast (v := .int .i64 ((0 : Nat) : Int)) (Val.move rfl) rfl) ?_
    refine LS.nil ?_
    refine W.block ?_
    replace hM := hM.addNil 45 4
    refine W.loop (α := Nat × Option Addr × Nat) (fun g => [(9, .slice g.2.1 (fl l g.1).length g.2.2), (25, .int .i64 (g.1 : Int))]) [(0, _), (1, _), (3, _), (23, _), (24, _)] (fun g w => (g.1 ≤ l.length) ∧ Mz w w0.heap.size [⟨45, 4, g.2.1, (fl l g.1).length, g.2.2, sv (fl l g.1)⟩] ∧ Below w0.heap.size w0 w) (fun g => l.length - g.1) ((0, none, 0)) (Sub.cons rfl (Sub.cons rfl (Sub.nil _))) (Sub.cons rfl (Sub.cons rfl (Sub.cons rfl (Sub.cons rfl (Sub.cons rfl (Sub.nil _)))))) ?_ ?_
    · exact ⟨Nat.zero_le _, hM, hB⟩
    rintro ⟨k, pl, cl⟩ w1 ⟨hk, hM, hB⟩
    try simp only at hM
    simp only [List.cons_append, List.nil_append]
    simp only at hk
    have hfl := fl_len l k
    refine W.seqR ?_
    refine LS.vv rfl rfl (by decide) (Val.lss rfl rfl) ?_
    refine LS.nil ?_
    refine W.seq ?_
    first | refine W.condD rfl (fun hc2 => ?_) (fun hc2 => ?_) | refine W.cond rfl (fun hc2 => ?_) (fun hc2 => ?_)
    ·
      refine W.skip ?_
      refine thenP_normal ?_
      refine W.seq ?_
      refine W.block ?_
      refine W.seqR ?_
      refine LS.vv rfl rfl (by decide) (Val.indexAddr Try.underlying37 elem45 rfl rfl (by omega) ((hr.below hB)) (by rw [sv_len]; omega)) ?_
      refine LS.m rfl (Step.loadAgg (vs := [.int .i64 (gS l k).kind, .int .i64 (gS l k).site, .int .i64 (gS l k).block, .int .u8 ((gS l k).val : Int)]) rfl rfl (by decide) agg45 rfl ((hr.below hB)) ((sv_at (by omega)).1) rfl (by decide) ?_)
      refine LS.m rfl (Step.allocZ rfl rfl (by decide) elem45 rfl (by decide) ?_)
      rintro w2 hO2 hg2 hbl2 hsz2
      replace hM := hM.add hB.size hbl2 hO2
      try simp only [List.length_cons, List.length_nil, Nat.zero_add, Nat.reduceAdd, Value.cells, List.toList_toArray, List.append_nil, List.set_cons_zero, List.set_cons_succ] at hM
      replace hB := hB.trans (hbl2.mono hB.size)
      generalize w1.heap.size = gg2 at *
      refine LS.m rfl (Step.storeAgg0 (B := w0.heap.size) rfl rfl agg45 rfl rfl rfl (by decide) (by first | exact one_map _ (fun _ => rfl) _ | simp [Value.oneCell']) (hM.o0) rfl hB.size ?_)
      rintro w3 hO3 hg3 hbl3 hsz3
      replace hM := hM.s0 (e := _) hg3 hO3 inl_block
      try simp only [List.set_cons_zero, List.set_cons_succ] at hM
      replace hB := hB.trans hbl3
      refine LS.nil ?_
      refine W.seqR ?_
      refine LS.vv rfl rfl (by decide) (Val.fieldAddr0 fld45_0 rfl) ?_
      refine LS.m rfl (Step.load rfl rfl (by decide) flat3 rfl (hM.o0.rd) (rfl) ?_)
      refine LS.vv rfl rfl (by decide) (Val.neq rfl rfl) ?_
      refine LS.nil ?_
      first | refine W.condD rfl (fun hc3 => ?_) (fun hc3 => ?_) | refine W.cond rfl (fun hc3 => ?_) (fun hc3 => ?_)
      ·
        refine W.reg ?_
        refine LS.vv rfl rfl (by decide) (Val.move rfl) ?_
        refine LS.m rfl (Step.loadAgg0 rfl rfl (by decide) agg45 rfl (hM.o0.rd) rfl (by decide) ?_)
        refine LS.m rfl (Step.litZ rfl rfl (by decide) Try.underlying37 elem45 rfl (by decide) rfl rfl (by decide) ?_)
        rintro w4 hO4 hg4 hbl4 hsz4
        replace hM := hM.add hB.size hbl4 hO4
        try simp only [List.length_cons, List.length_nil, Nat.zero_add, Nat.reduceAdd, Value.cells, List.toList_toArray, List.append_nil, List.set_cons_zero, List.set_cons_succ] at hM
        replace hB := hB.trans (hbl4.mono hB.size)
        generalize w3.heap.size = gg4 at *
        refine LS.m rfl (Step.appendZ (B := w0.heap.size) rfl rfl (by decide) Try.underlying37 elem45 rfl (by decide) rfl rfl (hM.o2) (hM.o0.rd) (by first | rfl | (simp; done) | (simp; omega)) (by first | exact one_map _ (fun _ => rfl) _ | simp [Value.oneCell']) (by omega) (by omega) hB.size ?_)
        rintro p5 c5 w5 hO5 hg5 hbl5 hbk5
        replace hM := hM.s2 (e := _) hg5 hO5 hbk5
        replace hM := hM.tail
        replace hB := hB.trans hbl5
        refine LS.vv rfl rfl (by decide) (Val.assign rfl) ?_
        refine LS.nil ?_
        refine inBlk_normal ?_
        refine thenP_normal ?_
        refine W.reg ?_
        first | refine LS.vv rfl rfl (by decide) (Val.addN (j := 1) rfl rfl (by omega)) ?_ | refine LS.vv rfl rfl (by decide) (Val.add64 rfl rfl (by omega)) ?_
        refine LS.vv rfl rfl (by decide) (Val.move rfl) ?_
        refine LS.nil ?_
        refine thenP_normal ?_
        replace hM := hM.er0
        have hst : fl l (k + 1) = fl l k ++ [gS l k] := by rw [fl_succ (by omega), if_pos (by omega)]
        rw [sv_app1, ← hst] at hM
        have hsl : (fl l (k + 1)).length = (fl l k).length + 1 := by rw [hst, List.length_append]; rfl
        refine ⟨(k + 1, p5, c5), ?_, ?_, ⟨by simp only; omega, by simp only [hsl]; exact hM, hB⟩, by simp only; omega⟩
        · exact (Sub.cons' rfl (by simp only [hsl]) (Sub.cons rfl (Sub.nil _)))
        · repeat (first | exact Sub.nil _ | refine Sub.cons rfl ?_)
      ·
        refine W.skip ?_
        refine inBlk_normal ?_
        refine thenP_normal ?_
        refine W.reg ?_
        first | refine LS.vv rfl rfl (by decide) (Val.addN (j := 1) rfl rfl (by omega)) ?_ | refine LS.vv rfl rfl (by decide) (Val.add64 rfl rfl (by omega)) ?_
        refine LS.vv rfl rfl (by decide) (Val.move rfl) ?_
        refine LS.nil ?_
        refine thenP_normal ?_
        replace hM := hM.er0
        have hst : fl l (k + 1) = fl l k := by rw [fl_succ (by omega), if_neg (by omega)]
        refine ⟨(k + 1, pl, cl), ?_, ?_, ⟨by simp only; omega, by simp only [hst]; exact hM, hB⟩, by simp only; omega⟩
        · exact (Sub.cons' rfl (by simp only [hst]) (Sub.cons rfl (Sub.nil _)))
        · repeat (first | exact Sub.nil _ | refine Sub.cons rfl ?_)
    ·
      refine W.exit ?_
      refine thenP_exit ?_
      refine thenP_exit ?_
      refine inBlk_exit ?_
      refine thenP_normal ?_
      refine W.seqR ?_
      refine LS.vv rfl rfl (by decide) (Val.move rfl) ?_
      refine LS.vv rfl rfl (by decide) (Val.len Try.underlying37 rfl) ?_
      refine LS.vv rfl rfl (by decide) (Val.assign rfl) ?_
      refine LS.nil ?_
      refine W.seqR ?_
      refine LS.vv rfl rfl (by decide) (Val.move rfl) ?_
      obtain rfl : k = l.length := by omega
      have hLl := fl_len l l.length
      have hLv := fl_val hv l.length
      have hLk := fl_kind l l.length
      generalize fl l l.length = L at *
      refine LS.vv rfl rfl (by decide) (Val.build str45 elem45 rfl rfl rfl) ?_
      refine LS.m rfl (Step.litZ rfl rfl (by decide) Try.underlying37 elem45 rfl (by decide) rfl rfl (by decide) ?_)
      rintro w6 hO6 hg6 hbl6 hsz6
      replace hM := hM.add hB.size hbl6 hO6
      try simp only [List.length_cons, List.length_nil, Nat.zero_add, Nat.reduceAdd, Value.cells, List.toList_toArray, List.append_nil, List.set_cons_zero, List.set_cons_succ] at hM
      replace hB := hB.trans (hbl6.mono hB.size)
      generalize w1.heap.size = gg6 at *
      refine LS.m rfl (Step.appendZ (B := w0.heap.size) rfl rfl (by decide) Try.underlying37 elem45 rfl (by decide) rfl rfl (hM.o1) (hM.o0.rd) (by first | rfl | (simp; done) | (simp; omega)) (by first | exact one_map _ (fun _ => rfl) _ | simp [Value.oneCell']) (by omega) (by omega) hB.size ?_)
      rintro p7 c7 w7 hO7 hg7 hbl7 hbk7
      replace hM := hM.s1 (e := _) hg7 hO7 hbk7
      replace hM := hM.tail
      replace hB := hB.trans hbl7
      have hal0 := allp_len L 0
      rw [show sv L ++ [Value.int .i64 6, Value.int .i64 0, Value.int .i64 0, Value.int .u8 0] = sv (allp L 0) from sv_app1 L (sK 6)] at hM
      refine LS.vv rfl rfl (by decide) (Val.assign rfl) ?_
      refine LS.nil ?_
      refine W.seq ?_
      refine W.seqR ?_
      have e0 : L.length + 1 = (allp L 0).length := by rw [hal0]; omega
      rw [e0] at hM
      rw [e0]
      refine LS.m rfl (Step.litZ rfl rfl (by decide) Try.underlying48 elem3 rfl (by decide) rfl rfl (by decide) ?_)
      rintro w8 hO8 hg8 hbl8 hsz8
      replace hM := hM.add hB.size hbl8 hO8
      try simp only [nv_app1, nv_app, nv_set, nv_rep, nv_one, nv_cons, nv_take, nv_drop, List.nil_append] at hM
      try simp only [List.length_cons, List.length_nil, Nat.zero_add, Nat.reduceAdd, Value.cells, List.toList_toArray, List.append_nil, List.set_cons_zero, List.set_cons_succ] at hM
      replace hB := hB.trans (hbl8.mono hB.size)
      generalize w7.heap.size = gg8 at *
      replace hM := Mz.cast (S' := [⟨3, 1, _, 3, 3, nv [2, 3, 4]⟩, _]) rfl hM
      refine LS.vv rfl rfl (by decide) (Val.len Try.underlying48 rfl) ?_
      refine LS.vv rfl rfl (by decide) (Val.cast (v := .int .i64 ((0 : Nat) : Int)) (Val.move rfl) rfl) ?_
      refine LS.nil ?_
      refine W.block ?_
      replace hM := hM.sw0
      refine W.loop (α := Nat × Option Addr × Nat) (fun g => [(9, .slice g.2.1 (allp L g.1).length g.2.2), (45, .int .i64 (g.1 : Int))]) [(0, _), (1, _), (3, _), (12, _), (43, _), (44, _)] (fun g w => (g.1 ≤ 3) ∧ Mz w w0.heap.size [⟨45, 4, g.2.1, (allp L g.1).length, g.2.2, sv (allp L g.1)⟩, ⟨3, 1, some ⟨gg8, 0, none⟩, 3, 3, nv [2, 3, 4]⟩] ∧ Below w0.heap.size w0 w) (fun g => 3 - g.1) ((0, _, _)) (Sub.cons rfl (Sub.cons rfl (Sub.nil _))) (Sub.cons rfl (Sub.cons rfl (Sub.cons rfl (Sub.cons rfl (Sub.cons rfl (Sub.cons rfl (Sub.nil _))))))) ?_ ?_
      · exact ⟨Nat.zero_le _, hM, hB⟩
      rintro ⟨j, pl, cl⟩ w9 ⟨hj, hM, hB⟩
      try simp only at hM
      simp only [List.cons_append, List.nil_append]
      simp only at hj
      have hall := allp_len L j
      have hjl : j * L.length ≤ 3 * 20 := Nat.mul_le_mul hj (by omega)
      have h3 : ([2, 3, 4] : List Nat).length = 3 := rfl
      refine W.seqR ?_
      refine LS.vv rfl rfl (by decide) (Val.lss rfl rfl) ?_
      refine LS.nil ?_
      refine W.seq ?_
      first | refine W.condD rfl (fun hc4 => ?_) (fun hc4 => ?_) | refine W.cond rfl (fun hc4 => ?_) (fun hc4 => ?_)
      ·
        refine W.skip ?_
        refine thenP_normal ?_
        refine W.seq ?_
        refine W.block ?_
        refine W.seqR ?_
        refine LS.vv rfl rfl (by decide) (Val.index1 Try.underlying48 elem3 rfl rfl (by omega) (hM.o1.rd) (nv_lt (by omega))) ?_
        refine LS.m rfl (Step.load rfl rfl (by decide) flat3 rfl (hM.o1.rd) (nv_at (by omega)) ?_)
        refine LS.vv rfl rfl (by decide) (Val.assign rfl) ?_
        refine LS.nil ?_
        refine W.seqR ?_
        refine LS.vv rfl rfl (by decide) (Val.cast (v := .int .i64 ((0 : Nat) : Int)) (Val.assign rfl) rfl) ?_
        refine LS.nil ?_
        refine W.block ?_
        have e5 : allp L j = allp L j ++ List.replicate 0 (sK (gn [2, 3, 4] j : Int)) := by simp
        rw [e5] at hM
        refine W.loop (α := Nat × Option Addr × Nat) (fun g => [(9, .slice g.2.1 (allp L j ++ List.replicate g.1 (sK (gn [2, 3, 4] j : Int))).length g.2.2), (15, .int .i64 (g.1 : Int))]) [(0, _), (1, _), (3, _), (12, _), (14, _), (43, _), (44, _), (45, _)] (fun g w => (g.1 ≤ L.length) ∧ Mz w w0.heap.size [⟨45, 4, g.2.1, (allp L j ++ List.replicate g.1 (sK (gn [2, 3, 4] j : Int))).length, g.2.2, sv (allp L j ++ List.replicate g.1 (sK (gn [2, 3, 4] j : Int)))⟩, ⟨3, 1, some ⟨gg8, 0, none⟩, 3, 3, nv [2, 3, 4]⟩] ∧ Below w0.heap.size w0 w) (fun g => L.length - g.1) ((0, pl, cl)) (Sub.cons' rfl (by simp only [List.replicate_zero, List.append_nil]) (Sub.cons rfl (Sub.nil _))) (Sub.cons rfl (Sub.cons rfl (Sub.cons rfl (Sub.cons rfl (Sub.cons rfl (Sub.cons rfl (Sub.cons rfl (Sub.cons rfl (Sub.nil _))))))))) ?_ ?_
        · exact ⟨Nat.zero_le _, hM, hB⟩
        rintro ⟨i, pl, cl⟩ w10 ⟨hi, hM, hB⟩
        try simp only at hM
        simp only [List.cons_append, List.nil_append]
        simp only at hi
        have hil : (allp L j ++ List.replicate i (sK (gn [2, 3, 4] j : Int))).length = (allp L j).length + i := by rw [List.length_append, List.length_replicate]
        have hil2 : (allp L j ++ List.replicate (i + 1) (sK (gn [2, 3, 4] j : Int))).length = (allp L j ++ List.replicate i (sK (gn [2, 3, 4] j : Int))).length + 1 := by rw [List.length_append, List.length_append, List.length_replicate, List.length_replicate]; omega
        refine W.seq ?_
        refine W.seqR ?_
        refine LS.vv rfl rfl (by decide) (Val.move rfl) ?_
        refine LS.vv rfl rfl (by decide) (Val.move rfl) ?_
        refine LS.vv rfl rfl (by decide) (Val.lss rfl rfl) ?_
        refine LS.nil ?_
        first | refine W.condD rfl (fun hc5 => ?_) (fun hc5 => ?_) | refine W.cond rfl (fun hc5 => ?_) (fun hc5 => ?_)
        ·
          refine W.skip ?_
          refine thenP_normal ?_
          refine W.seq ?_
          refine W.block ?_
          refine W.reg ?_
          refine LS.vv rfl rfl (by decide) (Val.move rfl) ?_
          refine LS.vv rfl rfl (by decide) (Val.move rfl) ?_
          refine LS.vv rfl rfl (by decide) (Val.build str45 elem45 rfl rfl rfl) ?_
          refine LS.m rfl (Step.litZ rfl rfl (by decide) Try.underlying37 elem45 rfl (by decide) rfl rfl (by decide) ?_)
          rintro w11 hO11 hg11 hbl11 hsz11
          replace hM := hM.add hB.size hbl11 hO11
          try simp only [List.length_cons, List.length_nil, Nat.zero_add, Nat.reduceAdd, Value.cells, List.toList_toArray, List.append_nil, List.set_cons_zero, List.set_cons_succ] at hM
          replace hB := hB.trans (hbl11.mono hB.size)
          generalize w10.heap.size = gg11 at *
          refine LS.m rfl (Step.appendZ (B := w0.heap.size) rfl rfl (by decide) Try.underlying37 elem45 rfl (by decide) rfl rfl (hM.o1) (hM.o0.rd) (by first | rfl | (simp; done) | (simp; omega)) (by first | exact one_map _ (fun _ => rfl) _ | simp [Value.oneCell']) (by omega) (by omega) hB.size ?_)
          rintro p12 c12 w12 hO12 hg12 hbl12 hbk12
          replace hM := hM.s1 (e := _) hg12 hO12 hbk12
          replace hM := hM.tail
          replace hB := hB.trans hbl12
          rw [show sv (allp L j ++ List.replicate i (sK (gn [2, 3, 4] j : Int))) ++ [Value.int .i64 (gn [2, 3, 4] j : Int), Value.int .i64 0, Value.int .i64 0, Value.int .u8 0] = sv (allp L j ++ List.replicate (i + 1) (sK (gn [2, 3, 4] j : Int))) from by rw [rep_succ]; exact sv_app1 _ (sK (gn [2, 3, 4] j : Int))] at hM
          refine LS.vv rfl rfl (by decide) (Val.assign rfl) ?_
          refine LS.nil ?_
          refine inBlk_normal ?_
          refine thenP_normal ?_
          refine W.reg ?_
          refine LS.vv rfl rfl (by decide) (Val.move rfl) ?_
          first | refine LS.vv rfl rfl (by decide) (Val.addN (j := 1) rfl rfl (by omega)) ?_ | refine LS.vv rfl rfl (by decide) (Val.add64 rfl rfl (by omega)) ?_
          refine LS.vv rfl rfl (by decide) (Val.assign rfl) ?_
          refine LS.nil ?_
          refine thenP_normal ?_
          refine ⟨(i + 1, p12, c12), ?_, ?_, ⟨by simp only; omega, by simp only [hil2]; exact hM, hB⟩, by simp only; omega⟩
          · exact (Sub.cons' rfl (by simp only [hil2]) (Sub.cons rfl (Sub.nil _)))
          · repeat (first | exact Sub.nil _ | refine Sub.cons rfl ?_)
        ·
          refine W.exit ?_
          refine thenP_exit ?_
          refine thenP_exit ?_
          refine inBlk_exit ?_
          refine inBlk_normal ?_
          refine thenP_normal ?_
          refine W.reg ?_
          first | refine LS.vv rfl rfl (by decide) (Val.addN (j := 1) rfl rfl (by omega)) ?_ | refine LS.vv rfl rfl (by decide) (Val.add64 rfl rfl (by omega)) ?_
          refine LS.vv rfl rfl (by decide) (Val.move rfl) ?_
          refine LS.nil ?_
          refine thenP_normal ?_
          obtain rfl : i = L.length := by omega
          refine ⟨(j + 1, pl, cl), ?_, ?_, ⟨by simp only; omega, hM, hB⟩, by simp only; omega⟩
          · exact (Sub.cons rfl (Sub.cons rfl (Sub.nil _)))
          · repeat (first | exact Sub.nil _ | refine Sub.cons rfl ?_)
      ·
        obtain rfl : j = 3 := by omega
        refine W.exit ?_
        refine thenP_exit ?_
        refine thenP_exit ?_
        refine inBlk_exit ?_
        refine thenP_normal ?_
        refine W.seqR ?_
        refine LS.vv rfl rfl (by decide) (Val.move rfl) ?_
        refine LS.vv rfl rfl (by decide) (Val.move rfl) ?_
        refine LS.vv rfl rfl (by decide) (Val.build str45 elem45 rfl rfl rfl) ?_
        refine LS.vv rfl rfl (by decide) (Val.move rfl) ?_
        refine LS.vv rfl rfl (by decide) (Val.build str45 elem45 rfl rfl rfl) ?_
        refine LS.m rfl (Step.litZ rfl rfl (by decide) Try.underlying37 elem45 rfl (by decide) rfl rfl (by decide) ?_)
        rintro w13 hO13 hg13 hbl13 hsz13
        replace hM := hM.add hB.size hbl13 hO13
        try simp only [List.length_cons, List.length_nil, Nat.zero_add, Nat.reduceAdd, Value.cells, List.toList_toArray, List.append_nil, List.set_cons_zero, List.set_cons_succ] at hM
        replace hB := hB.trans (hbl13.mono hB.size)
        generalize w9.heap.size = gg13 at *
        refine LS.m rfl (Step.appendZ (B := w0.heap.size) rfl rfl (by decide) Try.underlying37 elem45 rfl (by decide) rfl rfl (hM.o1) (hM.o0.rd) (by first | rfl | (simp; done) | (simp; omega)) (by first | exact one_map _ (fun _ => rfl) _ | simp [Value.oneCell']) (by omega) (by omega) hB.size ?_)
        rintro p14 c14 w14 hO14 hg14 hbl14 hbk14
        replace hM := hM.s1 (e := _) hg14 hO14 hbk14
        replace hM := hM.tail
        replace hB := hB.trans hbl14
        have htl := topL_len L b
        have hal3 := allp_len L 3
        have htl2 : (topL L b).length = (allp L 3).length + 2 := by omega
        rw [sv_topL L b] at hM
        refine LS.vv rfl rfl (by decide) (Val.assign rfl) ?_
        refine LS.nil ?_
        refine W.seqR ?_
        refine LS.vv rfl rfl (by decide) (Val.move rfl) ?_
        refine LS.vv rfl rfl (by decide) (Val.move rfl) ?_
        refine LS.vv rfl rfl (by decide) (Val.move rfl) ?_
        refine LS.m rfl (Step.call body16 rfl rfl (by decide) rfl (CallsV.mono (Play_any2 mode d (topL L b) _ _ _ _ hM.o0.rd htl2 (by omega) (topL_val hLv b)) ?_))
        rintro _ w15 ⟨pl1, cl1, nl1, told1, main1, e1, O1, rfl, he1, hMn1, h11, h21, hb15⟩
        replace hM := hM.adds hB.size hb15 hMn1
        replace hB := hB.trans (hb15.mono hB.size)
        simp only [List.cons_append, List.nil_append] at hM
        refine LS.vv rfl rfl (by decide) (Val.move rfl) ?_
        refine LS.vv rfl rfl (by decide) (Val.extract rfl rfl) ?_
        refine LS.vv rfl rfl (by decide) (Val.extract rfl rfl) ?_
        refine LS.m rfl (Step.allocZ rfl rfl (by decide) elem50 rfl (by decide) ?_)
        rintro w16 hO16 hg16 hbl16 hsz16
        replace hM := hM.add hB.size hbl16 hO16
        try simp only [List.length_cons, List.length_nil, Nat.zero_add, Nat.reduceAdd, Value.cells, List.toList_toArray, List.append_nil, List.set_cons_zero, List.set_cons_succ] at hM
        replace hB := hB.trans (hbl16.mono hB.size)
        generalize w15.heap.size = gg16 at *
        refine LS.m rfl (Step.storeAgg0 (B := w0.heap.size) rfl rfl agg50 rfl rfl rfl (by decide) (by first | exact one_map _ (fun _ => rfl) _ | simp [Value.oneCell']) (hM.o0) rfl hB.size ?_)
        rintro w17 hO17 hg17 hbl17 hsz17
        replace hM := hM.s0 (e := _) hg17 hO17 inl_block
        try simp only [List.set_cons_zero, List.set_cons_succ] at hM
        replace hB := hB.trans hbl17
        refine LS.vv rfl rfl (by decide) (Val.assign rfl) ?_
        refine LS.nil ?_
        refine W.seq ?_
        refine W.seqR ?_
        refine LS.vv rfl rfl (by decide) (Val.move rfl) ?_
        refine LS.vv rfl rfl (by decide) (Val.move rfl) ?_
        refine LS.vv rfl rfl (by decide) (Val.move rfl) ?_
        refine LS.m rfl (Step.call body18 rfl rfl (by decide) rfl (CallsV.mono (may_any mode d _ _ _ _) ?_))
        rintro _ w18 ⟨mb, rfl, hmb, hb18⟩
        replace hM := hM.below hb18
        replace hB := hB.trans (hb18.mono hB.size)
        refine LS.vv rfl rfl (by decide) (Val.not rfl) ?_
        refine LS.nil ?_
        first | refine W.condD rfl (fun hc6 => ?_) (fun hc6 => ?_) | refine W.cond rfl (fun hc6 => ?_) (fun hc6 => ?_)
        ·
          refine W.seqR ?_
          refine LS.vv rfl rfl (by decide) (Val.move rfl) ?_
          have hmf : ¬ mb = true := by simpa using (by assumption : (!mb) = true)
          have hen : e1 ≠ 0 := fun h => hmf (hmb.2 (he1.1 h))
          refine LS.vv rfl rfl (by decide) (Val.cast (v := .bool true) (Val.neq rfl rfl) (by refine congrArg Value.bool (decide_eq_true ?_); omega)) ?_
          refine LS.vv rfl rfl (by decide) (Val.assign rfl) ?_
          refine LS.nil ?_
          refine W.ret ?_
          refine thenP_ret ?_
          refine ret1 (by first | exact .inl rfl | exact .inr rfl) rfl ?_
          first | exact ⟨rfl, hB⟩ | contradiction | (exfalso; omega)
        ·
          refine W.skip ?_
          refine thenP_normal ?_
          refine W.seq ?_
          refine W.seqR ?_
          refine LS.vv rfl rfl (by decide) (Val.move rfl) ?_
          have hmt : mb = true := by simpa using (by assumption : (!mb) = false)
          have hcond := hmb.1 hmt
          have he1z : e1 = 0 := he1.2 hcond
          obtain ⟨a1, a2, a3, a4⟩ := h11 he1z
          have htb := top_both (d := d.toNat) (mode := mode.toNat) (by omega) (by omega) hLv hLk b
          rw [htl2] at htb
          rw [← a2] at htb
          have hOl : O1.length = (allp L 3).length + 2 := by rw [a2, pouts_len]
          subst a1
          obtain ⟨tb1, tb2⟩ := htb
          refine LS.vv rfl rfl (by decide) (Val.cast (v := .bool false) (Val.neq rfl rfl) (by refine congrArg Value.bool (decide_eq_false ?_); omega)) ?_
          refine LS.vv rfl rfl (by decide) (Val.move rfl) ?_
          refine LS.vg rfl rfl rfl rfl (by decide) (Val.fieldAddr0 fld50_0 rfl) ?_
          refine LS.mg rfl rfl rfl (Step.load rfl rfl (by decide) flat27 rfl (hM.o0.rd) (rfl) ?_)
          refine LS.vg rfl rfl rfl rfl (by decide) (Val.len Try.underlying27 rfl) ?_
          refine LS.vg rfl rfl rfl rfl (by decide) (Val.move rfl) ?_
          refine LS.vg rfl rfl rfl rfl (by decide) (Val.len Try.underlying37 rfl) ?_
          refine LS.vg rfl rfl rfl rfl (by decide) (Val.cast (v := .bool false) (Val.neq rfl rfl) (by refine congrArg Value.bool (decide_eq_false ?_); omega)) ?_
          refine LS.vv rfl rfl (by decide) (Val.pickF rfl rfl rfl) ?_
          refine LS.nil ?_
          refine W.condF rfl ?_
          refine W.skip ?_
          refine thenP_normal ?_
          refine W.seqR ?_
          refine LS.vv rfl rfl (by decide) (Val.fieldAddr0 fld50_0 rfl) ?_
          refine LS.m rfl (Step.load rfl rfl (by decide) flat27 rfl (hM.o0.rd) (rfl) ?_)
          refine LS.vv rfl rfl (by decide) (Val.move rfl) ?_
          refine LS.vv rfl rfl (by decide) (Val.len Try.underlying37 rfl) ?_
          refine LS.vv rfl rfl (by decide) (Val.subN (j := 2) rfl rfl (by omega) (by omega)) ?_
          refine LS.vv rfl rfl (by decide) (Val.indexAddr Try.underlying27 elem35 rfl rfl (by omega) (hM.o1.rd) (by rw [pc2_len]; omega)) ?_
          refine LS.m rfl (Step.loadAgg (vs := [.int .i64 ((gp O1 ((allp L 3).length + 2 - 2)).1 : Int), .int .u8 ((gp O1 ((allp L 3).length + 2 - 2)).2 : Int)]) rfl rfl (by decide) agg35 rfl (hM.o1.rd) ((pc2_ag (by omega))) rfl (by decide) ?_)
          refine LS.m rfl (Step.allocZ rfl rfl (by decide) elem35 rfl (by decide) ?_)
          rintro w19 hO19 hg19 hbl19 hsz19
          replace hM := hM.add hB.size hbl19 hO19
          try simp only [List.length_cons, List.length_nil, Nat.zero_add, Nat.reduceAdd, Value.cells, List.toList_toArray, List.append_nil, List.set_cons_zero, List.set_cons_succ] at hM
          replace hB := hB.trans (hbl19.mono hB.size)
          generalize w18.heap.size = gg19 at *
          refine LS.m rfl (Step.storeAgg0 (B := w0.heap.size) rfl rfl agg35 rfl rfl rfl (by decide) (by first | exact one_map _ (fun _ => rfl) _ | simp [Value.oneCell']) (hM.o0) rfl hB.size ?_)
          rintro w20 hO20 hg20 hbl20 hsz20
          replace hM := hM.s0 (e := _) hg20 hO20 inl_block
          try simp only [List.set_cons_zero, List.set_cons_succ] at hM
          replace hB := hB.trans hbl20
          refine LS.nil ?_
          refine W.seqR ?_
          refine LS.vv rfl rfl (by decide) (Val.fieldAddr0 fld50_0 rfl) ?_
          refine LS.m rfl (Step.load rfl rfl (by decide) flat27 rfl (hM.o1.rd) (rfl) ?_)
          refine LS.vv rfl rfl (by decide) (Val.move rfl) ?_
          refine LS.vv rfl rfl (by decide) (Val.len Try.underlying37 rfl) ?_
          refine LS.vv rfl rfl (by decide) (Val.subN (j := 1) rfl rfl (by omega) (by omega)) ?_
          refine LS.vv rfl rfl (by decide) (Val.indexAddr Try.underlying27 elem35 rfl rfl (by omega) (hM.o2.rd) (by rw [pc2_len]; omega)) ?_
          refine LS.m rfl (Step.loadAgg (vs := [.int .i64 ((gp O1 ((allp L 3).length + 2 - 1)).1 : Int), .int .u8 ((gp O1 ((allp L 3).length + 2 - 1)).2 : Int)]) rfl rfl (by decide) agg35 rfl (hM.o2.rd) ((pc2_ag (by omega))) rfl (by decide) ?_)
          refine LS.m rfl (Step.allocZ rfl rfl (by decide) elem35 rfl (by decide) ?_)
          rintro w21 hO21 hg21 hbl21 hsz21
          replace hM := hM.add hB.size hbl21 hO21
          try simp only [List.length_cons, List.length_nil, Nat.zero_add, Nat.reduceAdd, Value.cells, List.toList_toArray, List.append_nil, List.set_cons_zero, List.set_cons_succ] at hM
          replace hB := hB.trans (hbl21.mono hB.size)
          generalize w20.heap.size = gg21 at *
          refine LS.m rfl (Step.storeAgg0 (B := w0.heap.size) rfl rfl agg35 rfl rfl rfl (by decide) (by first | exact one_map _ (fun _ => rfl) _ | simp [Value.oneCell']) (hM.o0) rfl hB.size ?_)
          rintro w22 hO22 hg22 hbl22 hsz22
          replace hM := hM.s0 (e := _) hg22 hO22 inl_block
          try simp only [List.set_cons_zero, List.set_cons_succ] at hM
          replace hB := hB.trans hbl22
          refine LS.nil ?_
          refine W.seqR ?_
          refine LS.m rfl (Step.loadAgg0 rfl rfl (by decide) agg35 rfl (hM.o1.rd) rfl (by decide) ?_)
          refine LS.m rfl (Step.loadAgg0 rfl rfl (by decide) agg35 rfl (hM.o0.rd) rfl (by decide) ?_)
          refine LS.vv rfl rfl (by decide) (Val.cast (v := .bool true) (Val.eql2 int2_35 rfl rfl) (by refine congrArg Value.bool (decide_eq_true ?_); rw [tb1]; exact ⟨rfl, rfl⟩)) ?_
          refine LS.vv rfl rfl (by decide) (Val.move rfl) ?_
          refine LS.vg rfl rfl rfl rfl (by decide) (Val.fieldAddr0 fld35_0 rfl) ?_
          refine LS.mg rfl rfl rfl (Step.load rfl rfl (by decide) flat22 rfl (hM.o1.rd) (rfl) ?_)
          refine LS.vg rfl rfl rfl rfl (by decide) (Val.eql rfl rfl) ?_
          refine LS.vg rfl rfl rfl rfl (by decide) (Val.move rfl) ?_
          refine LS.vg rfl rfl rfl rfl (by decide) (Val.geq rfl rfl) ?_
          refine LS.vg rfl rfl rfl rfl (by decide) (Val.move rfl) ?_
          refine LS.split 9 rfl (fun hg7 => ?_) (fun hg7 => ?_)
          ·
            first | (have hg7p := of_decide_eq_true hg7) | skip
            refine LS.vg rfl rfl rfl hg7 (by decide) (Val.move rfl) ?_
            refine LS.vg rfl rfl rfl hg7 (by decide) (Val.lss rfl rfl) ?_
            refine LS.vg rfl rfl rfl rfl (by decide) (Val.pickT rfl hg7 rfl) ?_
            refine LS.vg rfl rfl rfl rfl (by decide) (Val.cast (v := .bool true) (Val.eqlB Try.underlying4 rfl rfl) (by refine congrArg Value.bool (decide_eq_true ?_); first | exact decide_eq_decide.2 (by omega) | exact decide_eq_false (by omega))) ?_
            refine LS.vv rfl rfl (by decide) (Val.pickT rfl rfl rfl) ?_
            refine LS.vv rfl rfl (by decide) (Val.assign rfl) ?_
            refine LS.nil ?_
            refine W.ret ?_
            refine ret1 (by first | exact .inl rfl | exact .inr rfl) rfl ?_
            first | exact ⟨rfl, hB⟩ | contradiction | (exfalso; omega)
          ·
            first | (have hg7p := of_decide_eq_false hg7) | skip
            refine LS.s rfl rfl rfl hg7 (by decide) ?_
            refine LS.s rfl rfl rfl hg7 (by decide) ?_
            refine LS.vg rfl rfl rfl rfl (by decide) (Val.pickF rfl hg7 rfl) ?_
            refine LS.vg rfl rfl rfl rfl (by decide) (Val.cast (v := .bool true) (Val.eqlB Try.underlying4 rfl rfl) (by refine congrArg Value.bool (decide_eq_true ?_); first | exact decide_eq_decide.2 (by omega) | exact decide_eq_false (by omega))) ?_
            refine LS.vv rfl rfl (by decide) (Val.pickT rfl rfl rfl) ?_
            refine LS.vv rfl rfl (by decide) (Val.assign rfl) ?_
            refine LS.nil ?_
            refine W.ret ?_
            refine ret1 (by first | exact .inl rfl | exact .inr rfl) rfl ?_
            first | exact ⟨rfl, hB⟩ | contradiction | (exfalso; omega)

end Go.Proofs.Ytldcpihjoakigaa
