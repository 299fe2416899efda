/-
  Codes: whether they are free; lengths and their sum.
-/
import Derived.Test.YtbfcmfjdjldepaaPrefix
import Derived.Test.YtbfcmfjdjldepaaKraftPlain
namespace Go.Proofs.Ytbfcmfjdjldepaa
open Go Go.RowKit V
set_option linter.unusedVariables false
set_option linter.unusedSimpArgs false

theorem free_any (C : List Wd) (p : Option Addr) (c m : Nat) (w0 : World) (hr : RdW w0 p C) (hm : C.length = m) (h8 : m ≤ 1000) :
    CallsV Try.prog 25 #[.slice p m c] w0 (fun v w => ∃ b : Bool, v = .bool b ∧ (b = true ↔ Free (codeOf C)) ∧ Below w0.heap.size w0 w) := by
  refine enter1 Try.func25 rfl Try.ntmps25 (by simp) rfl ?_
  have hB := Below.refl w0.heap.size w0
  simp only [argLoc]
  have hM := Mem.nil w0 w0.heap.size
  subst hm
  have hh := hr.head
  rw [free_iff]
  refine W.seqR ?_
  refine LS.vv rfl rfl (by decide) (Val.assign rfl) ?_
  refine LS.nil ?_
  refine W.seq ?_
  refine W.seqR ?_
  refine LS.vv rfl rfl (by decide) (Val.move rfl) ?_
  refine LS.vv rfl rfl (by decide) (Val.len Try.underlying22 rfl) ?_
  refine LS.vv rfl rfl (by decide) (Val.cast (v := .int .i64 ((0 : Nat) : Int)) (Val.move rfl) rfl) ?_
  refine LS.nil ?_
  refine W.block ?_
  refine W.loop (α := Nat) (fun i => [(9, .int .i64 (i : Int))]) [(0, _), (7, _), (8, _)] (fun i w => (i ≤ C.length ∧ ∀ a b, a < i → b < C.length → a ≠ b → ¬ (gW C a).l <+: (gW C b).l) ∧ Mem w w0.heap.size [] ∧ Below w0.heap.size w0 w) (fun i => C.length - i) (0) (Sub.cons rfl (Sub.nil _)) (Sub.cons rfl (Sub.cons rfl (Sub.cons rfl (Sub.nil _)))) ?_ ?_
  · exact ⟨⟨Nat.zero_le _, fun a b h => absurd h (by omega)⟩, hM, hB⟩
  rintro i w1 ⟨⟨hi, hall⟩, hM, hB⟩
  try simp only at hM
  simp only [List.cons_append, List.nil_append]
  refine W.seqR ?_
  refine LS.vv rfl rfl (by decide) (Val.lss rfl rfl) ?_
  refine LS.nil ?_
  refine W.seq ?_
  first | refine W.condD rfl (fun hc1 => ?_) (fun hc1 => ?_) | refine W.cond rfl (fun hc1 => ?_) (fun hc1 => ?_)
  ·
    refine W.skip ?_
    refine thenP_normal ?_
    refine W.seq ?_
    refine W.block ?_
    refine W.seqR ?_
    refine LS.vv rfl rfl (by decide) (Val.move rfl) ?_
    refine LS.vv rfl rfl (by decide) (Val.index1 Try.underlying22 elem36 rfl rfl (by omega) ((hh.below hB)) (wv_lt (by omega))) ?_
    refine LS.m rfl (Step.load rfl rfl (by decide) flat36 rfl ((hh.below hB)) (wv_at (by omega)) ?_)
    refine LS.vv rfl rfl (by decide) (Val.assign rfl) ?_
    refine LS.vv rfl rfl (by decide) (Val.assign rfl) ?_
    refine LS.nil ?_
    refine W.seqR ?_
    refine LS.vv rfl rfl (by decide) (Val.move rfl) ?_
    refine LS.vv rfl rfl (by decide) (Val.len Try.underlying22 rfl) ?_
    refine LS.vv rfl rfl (by decide) (Val.cast (v := .int .i64 ((0 : Nat) : Int)) (Val.move rfl) rfl) ?_
    refine LS.nil ?_
    refine W.block ?_
    refine W.loop (α := Nat) (fun j => [(16, .int .i64 (j : Int))]) [(0, _), (3, _), (4, _), (7, _), (8, _), (9, _), (14, _), (15, _)] (fun j w => (j ≤ C.length ∧ ∀ b, b < j → i ≠ b → ¬ (gW C i).l <+: (gW C b).l) ∧ Mem w w0.heap.size [] ∧ Below w0.heap.size w0 w) (fun j => C.length - j) (0) (Sub.cons rfl (Sub.nil _)) (Sub.cons rfl (Sub.cons rfl (Sub.cons rfl (Sub.cons rfl (Sub.cons rfl (Sub.cons rfl (Sub.cons rfl (Sub.cons rfl (Sub.nil _))))))))) ?_ ?_
    · exact ⟨⟨Nat.zero_le _, fun b h => absurd h (by omega)⟩, hM, hB⟩
    rintro j w2 ⟨⟨hj, hin⟩, hM, hB⟩
    try simp only at hM
    simp only [List.cons_append, List.nil_append]
    refine W.seqR ?_
    refine LS.vv rfl rfl (by decide) (Val.lss rfl rfl) ?_
    refine LS.nil ?_
    refine W.seq ?_
    first | refine W.condD rfl (fun hc2 => ?_) (fun hc2 => ?_) | refine W.cond rfl (fun hc2 => ?_) (fun hc2 => ?_)
    ·
      refine W.skip ?_
      refine thenP_normal ?_
      refine W.seq ?_
      refine W.block ?_
      refine W.seqR ?_
      refine LS.vv rfl rfl (by decide) (Val.move rfl) ?_
      refine LS.vv rfl rfl (by decide) (Val.index1 Try.underlying22 elem36 rfl rfl (by omega) ((hh.below hB)) (wv_lt (by omega))) ?_
      refine LS.m rfl (Step.load rfl rfl (by decide) flat36 rfl ((hh.below hB)) (wv_at (by omega)) ?_)
      refine LS.vv rfl rfl (by decide) (Val.assign rfl) ?_
      refine LS.vv rfl rfl (by decide) (Val.assign rfl) ?_
      refine LS.nil ?_
      refine W.seqR ?_
      refine LS.vv rfl rfl (by decide) (Val.move rfl) ?_
      refine LS.vv rfl rfl (by decide) (Val.move rfl) ?_
      refine LS.vv rfl rfl (by decide) (Val.neq rfl rfl) ?_
      refine LS.vv rfl rfl (by decide) (Val.move rfl) ?_
      refine LS.split 3 rfl (fun hg3 => ?_) (fun hg3 => ?_)
      ·
        first | (have hg3p := of_decide_eq_true hg3) | skip
        refine LS.vg rfl rfl rfl hg3 (by decide) (Val.move rfl) ?_
        refine LS.vg rfl rfl rfl hg3 (by decide) (Val.move rfl) ?_
        refine LS.mg rfl rfl hg3 (Step.call body36 rfl rfl (by decide) rfl (CallsV.mono (begins_any (gW C i).l (gW C j).l _ _ _ _ _ _ _ ((hr.at (k := i) (by omega)).below hB) ((hr.at (k := j) (by omega)).below hB) rfl rfl (hr.le (k := j) (by omega)) (hr.max (k := i) (by omega))) ?_))
        rintro _ w3 ⟨rfl, hb3⟩
        replace hM := hM.below hb3
        replace hB := hB.trans (hb3.mono hB.size)
        refine LS.vv rfl rfl (by decide) (Val.pickT rfl hg3 rfl) ?_
        refine LS.nil ?_
        first | refine W.condD rfl (fun hc4 => ?_) (fun hc4 => ?_) | refine W.cond rfl (fun hc4 => ?_) (fun hc4 => ?_)
        ·
          refine W.seqR ?_
          refine LS.vv rfl rfl (by decide) (Val.assign rfl) ?_
          refine LS.nil ?_
          refine W.ret ?_
          refine inBlk_ret ?_
          refine thenP_ret ?_
          refine thenP_ret ?_
          refine inBlk_ret ?_
          refine inBlk_ret ?_
          refine thenP_ret ?_
          refine thenP_ret ?_
          refine inBlk_ret ?_
          refine thenP_ret ?_
          refine ret1 (by first | exact .inl rfl | exact .inr rfl) rfl ?_
          first | exact ⟨false, rfl, ⟨fun h => (by cases h), fun h => absurd (begins_iff.1 (by assumption)) (h i j (by omega) (by omega) (by omega))⟩, hB⟩ | contradiction | exact ⟨true, rfl, ⟨fun _ a b ha hb2 hne => hall a b (by omega) hb2 hne, fun _ => rfl⟩, hB⟩
        ·
          refine W.skip ?_
          refine inBlk_normal ?_
          refine thenP_normal ?_
          refine W.reg ?_
          first | refine LS.vv rfl rfl (by decide) (Val.addN (j := 1) rfl rfl (by omega)) ?_ | refine LS.vv rfl rfl (by decide) (Val.add64 rfl rfl (by omega)) ?_
          refine LS.vv rfl rfl (by decide) (Val.move rfl) ?_
          refine LS.nil ?_
          refine thenP_normal ?_
          refine ⟨j + 1, ?_, ?_, ⟨⟨by omega, fun b hb2 hne => ?_⟩, hM, hB⟩, by omega⟩
          · exact (Sub.cons rfl (Sub.nil _))
          · repeat (first | exact Sub.nil _ | refine Sub.cons rfl ?_)
          · by_cases e : b = j
            · subst e; first | (exact begins_false.1 (by assumption)) | (exfalso; omega)
            · exact hin b (by omega) hne
      ·
        first | (have hg3p := of_decide_eq_false hg3) | skip
        refine LS.s rfl rfl rfl hg3 (by decide) ?_
        refine LS.s rfl rfl rfl hg3 (by decide) ?_
        refine LS.s rfl rfl rfl hg3 (by decide) ?_
        refine LS.vv rfl rfl (by decide) (Val.pickF rfl hg3 rfl) ?_
        refine LS.nil ?_
        refine W.condF rfl ?_
        refine W.skip ?_
        refine inBlk_normal ?_
        refine thenP_normal ?_
        refine W.reg ?_
        first | refine LS.vv rfl rfl (by decide) (Val.addN (j := 1) rfl rfl (by omega)) ?_ | refine LS.vv rfl rfl (by decide) (Val.add64 rfl rfl (by omega)) ?_
        refine LS.vv rfl rfl (by decide) (Val.move rfl) ?_
        refine LS.nil ?_
        refine thenP_normal ?_
        refine ⟨j + 1, ?_, ?_, ⟨⟨by omega, fun b hb2 hne => ?_⟩, hM, hB⟩, by omega⟩
        · exact (Sub.cons rfl (Sub.nil _))
        · repeat (first | exact Sub.nil _ | refine Sub.cons rfl ?_)
        · by_cases e : b = j
          · subst e; first | (exact begins_false.1 (by assumption)) | (exfalso; omega)
          · exact hin b (by omega) hne
    ·
      refine W.exit ?_
      refine thenP_exit ?_
      refine thenP_exit ?_
      refine inBlk_exit ?_
      refine inBlk_normal ?_
      refine thenP_normal ?_
      refine W.reg ?_
      first | refine LS.vv rfl rfl (by decide) (Val.addN (j := 1) rfl rfl (by omega)) ?_ | refine LS.vv rfl rfl (by decide) (Val.add64 rfl rfl (by omega)) ?_
      refine LS.vv rfl rfl (by decide) (Val.move rfl) ?_
      refine LS.nil ?_
      refine thenP_normal ?_
      refine ⟨i + 1, ?_, ?_, ⟨⟨by omega, fun a b ha hb2 hne => ?_⟩, hM, hB⟩, by omega⟩
      · exact (Sub.cons rfl (Sub.nil _))
      · repeat (first | exact Sub.nil _ | refine Sub.cons rfl ?_)
      · by_cases e : a = i
        · subst e; exact hin b (by omega) hne
        · exact hall a b (by omega) hb2 hne
  ·
    refine W.exit ?_
    refine thenP_exit ?_
    refine thenP_exit ?_
    refine inBlk_exit ?_
    refine thenP_normal ?_
    refine W.seqR ?_
    refine LS.vv rfl rfl (by decide) (Val.assign rfl) ?_
    refine LS.nil ?_
    refine W.ret ?_
    refine ret1 (by first | exact .inl rfl | exact .inr rfl) rfl ?_
    first | exact ⟨false, rfl, ⟨fun h => (by cases h), fun h => absurd (begins_iff.1 (by assumption)) (h i j (by omega) (by omega) (by omega))⟩, hB⟩ | contradiction | exact ⟨true, rfl, ⟨fun _ a b ha hb2 hne => hall a b (by omega) hb2 hne, fun _ => rfl⟩, hB⟩

theorem rprefix_any (C : List Wd) (p : Option Addr) (c m : Nat) (w0 : World) (hr : RdW w0 p C) (hm : C.length = m) (h8 : m ≤ 1000) :
    CallsV Try.prog 14 #[.slice p m c] w0 (fun v w => ∃ b : Bool, v = .bool b ∧ (b = true ↔ Free (codeOf C)) ∧ Below w0.heap.size w0 w) := by
  refine enter1 Try.func14 rfl Try.ntmps14 (by simp) rfl ?_
  have hB := Below.refl w0.heap.size w0
  simp only [argLoc]
  have hM := Mem.nil w0 w0.heap.size
  subst hm
  have hh := hr.head
  rw [free_iff]
  refine W.seqR ?_
  refine LS.vv rfl rfl (by decide) (Val.assign rfl) ?_
  refine LS.nil ?_
  refine W.seq ?_
  refine W.seqR ?_
  refine LS.vv rfl rfl (by decide) (Val.cast (v := .int .i64 ((0 : Nat) : Int)) (Val.assign rfl) rfl) ?_
  refine LS.nil ?_
  refine W.block ?_
  refine W.loop (α := Nat) (fun i => [(3, .int .i64 (i : Int))]) [(0, _)] (fun i w => (i ≤ C.length ∧ ∀ a b, a < i → b < C.length → a ≠ b → ¬ (gW C a).l <+: (gW C b).l) ∧ Mem w w0.heap.size [] ∧ Below w0.heap.size w0 w) (fun i => C.length - i) (0) (Sub.cons rfl (Sub.nil _)) (Sub.cons rfl (Sub.nil _)) ?_ ?_
  · exact ⟨⟨Nat.zero_le _, fun a b h => absurd h (by omega)⟩, hM, hB⟩
  rintro i w1 ⟨⟨hi, hall⟩, hM, hB⟩
  try simp only at hM
  simp only [List.cons_append, List.nil_append]
  refine W.seq ?_
  refine W.seqR ?_
  refine LS.vv rfl rfl (by decide) (Val.move rfl) ?_
  refine LS.vv rfl rfl (by decide) (Val.move rfl) ?_
  refine LS.vv rfl rfl (by decide) (Val.len Try.underlying22 rfl) ?_
  refine LS.vv rfl rfl (by decide) (Val.lss rfl rfl) ?_
  refine LS.nil ?_
  first | refine W.condD rfl (fun hc1 => ?_) (fun hc1 => ?_) | refine W.cond rfl (fun hc1 => ?_) (fun hc1 => ?_)
  ·
    refine W.skip ?_
    refine thenP_normal ?_
    refine W.seq ?_
    refine W.block ?_
    refine W.seqR ?_
    refine LS.vv rfl rfl (by decide) (Val.cast (v := .int .i64 ((0 : Nat) : Int)) (Val.assign rfl) rfl) ?_
    refine LS.nil ?_
    refine W.block ?_
    refine W.loop (α := Nat) (fun j => [(4, .int .i64 (j : Int))]) [(0, _), (3, _)] (fun j w => (j ≤ C.length ∧ ∀ b, b < j → i ≠ b → ¬ (gW C i).l <+: (gW C b).l) ∧ Mem w w0.heap.size [] ∧ Below w0.heap.size w0 w) (fun j => C.length - j) (0) (Sub.cons rfl (Sub.nil _)) (Sub.cons rfl (Sub.cons rfl (Sub.nil _))) ?_ ?_
    · exact ⟨⟨Nat.zero_le _, fun b h => absurd h (by omega)⟩, hM, hB⟩
    rintro j w2 ⟨⟨hj, hin⟩, hM, hB⟩
    try simp only at hM
    simp only [List.cons_append, List.nil_append]
    refine W.seq ?_
    refine W.seqR ?_
    refine LS.vv rfl rfl (by decide) (Val.move rfl) ?_
    refine LS.vv rfl rfl (by decide) (Val.move rfl) ?_
    refine LS.vv rfl rfl (by decide) (Val.len Try.underlying22 rfl) ?_
    refine LS.vv rfl rfl (by decide) (Val.lss rfl rfl) ?_
    refine LS.nil ?_
    first | refine W.condD rfl (fun hc2 => ?_) (fun hc2 => ?_) | refine W.cond rfl (fun hc2 => ?_) (fun hc2 => ?_)
    ·
      refine W.skip ?_
      refine thenP_normal ?_
      refine W.seq ?_
      refine W.block ?_
      refine W.seqF 14 [(0, true), (1, true), (2, true), (3, true), (4, true), (5, true), (6, true), (7, true), (8, true), (9, true), (10, true), (11, true), (12, false), (13, true)] mixed (by kernel_rfl) hB hM ?_
      replace hB := hB.drew
      replace hM := hM.drew
      refine DF.vv rfl rfl rfl (by decide) (Val.move rfl) ?_
      refine DF.vv rfl rfl rfl (by decide) (Val.move rfl) ?_
      refine DF.vv rfl rfl rfl (by decide) (Val.neq rfl rfl) ?_
      refine DF.vv rfl rfl rfl (by decide) (Val.move rfl) ?_
      refine DF.split 3 rfl (fun hg3 => ?_) (fun hg3 => ?_)
      ·
        first | (have hg3p := of_decide_eq_true hg3) | skip
        refine DF.vg rfl rfl rfl rfl hg3 (by decide) (Val.move rfl) ?_
        refine DF.vg rfl rfl rfl rfl hg3 (by decide) (Val.move rfl) ?_
        refine DF.vg rfl rfl rfl rfl hg3 (by decide) (Val.index1 Try.underlying22 elem36 rfl rfl (by omega) ((hh.below hB)) (wv_lt (by omega))) ?_
        refine DF.vg rfl rfl rfl rfl hg3 (by decide) (Val.load flat36 rfl (fun _ h => (hh.below h.1)) (wv_at (by omega))) ?_
        refine DF.vg rfl rfl rfl rfl hg3 (by decide) (Val.move rfl) ?_
        refine DF.vg rfl rfl rfl rfl hg3 (by decide) (Val.move rfl) ?_
        refine DF.vg rfl rfl rfl rfl hg3 (by decide) (Val.index1 Try.underlying22 elem36 rfl rfl (by omega) ((hh.below hB)) (wv_lt (by omega))) ?_
        refine DF.vg rfl rfl rfl rfl hg3 (by decide) (Val.load flat36 rfl (fun _ h => (hh.below h.1)) (wv_at (by omega))) ?_
        refine DF.mg rfl rfl rfl hg3 (Step.call body27 rfl rfl (by decide) rfl (CallsV.mono (rbegins_any (gW C i).l (gW C j).l _ _ _ _ _ _ _ ((hr.at (k := i) (by omega)).below hB) ((hr.at (k := j) (by omega)).below hB) rfl rfl (hr.le (k := j) (by omega)) (hr.max (k := i) (by omega))) ?_))
        rintro _ w3 ⟨rfl, hb3⟩
        replace hM := hM.below hb3
        replace hB := hB.trans (hb3.mono hB.size)
        refine ⟨fun _ => ⟨hB, hM⟩, ?_⟩
        refine DF.vv rfl rfl rfl (by decide) (Val.pickT rfl hg3 rfl) ?_
        refine DF.nil ?_
        first | refine W.condD rfl (fun hc4 => ?_) (fun hc4 => ?_) | refine W.cond rfl (fun hc4 => ?_) (fun hc4 => ?_)
        ·
          refine W.seqR ?_
          refine LS.vv rfl rfl (by decide) (Val.assign rfl) ?_
          refine LS.nil ?_
          refine W.ret ?_
          refine inBlk_ret ?_
          refine thenP_ret ?_
          refine thenP_ret ?_
          refine inBlk_ret ?_
          refine inBlk_ret ?_
          refine thenP_ret ?_
          refine thenP_ret ?_
          refine inBlk_ret ?_
          refine thenP_ret ?_
          refine ret1 (by first | exact .inl rfl | exact .inr rfl) rfl ?_
          first | exact ⟨false, rfl, ⟨fun h => (by cases h), fun h => absurd (begins_iff.1 (by assumption)) (h i j (by omega) (by omega) (by omega))⟩, hB⟩ | contradiction | exact ⟨true, rfl, ⟨fun _ a b ha hb2 hne => hall a b (by omega) hb2 hne, fun _ => rfl⟩, hB⟩
        ·
          refine W.skip ?_
          refine inBlk_normal ?_
          refine thenP_normal ?_
          refine W.reg ?_
          refine LS.vv rfl rfl (by decide) (Val.move rfl) ?_
          first | refine LS.vv rfl rfl (by decide) (Val.addN (j := 1) rfl rfl (by omega)) ?_ | refine LS.vv rfl rfl (by decide) (Val.add64 rfl rfl (by omega)) ?_
          refine LS.vv rfl rfl (by decide) (Val.assign rfl) ?_
          refine LS.nil ?_
          refine thenP_normal ?_
          refine ⟨j + 1, ?_, ?_, ⟨⟨by omega, fun b hb2 hne => ?_⟩, hM, hB⟩, by omega⟩
          · exact (Sub.cons rfl (Sub.nil _))
          · repeat (first | exact Sub.nil _ | refine Sub.cons rfl ?_)
          · by_cases e : b = j
            · subst e; first | (exact begins_false.1 (by assumption)) | (exfalso; omega)
            · exact hin b (by omega) hne
      ·
        first | (have hg3p := of_decide_eq_false hg3) | skip
        refine DF.s rfl rfl rfl rfl hg3 (by decide) ?_
        refine DF.s rfl rfl rfl rfl hg3 (by decide) ?_
        refine DF.s rfl rfl rfl rfl hg3 (by decide) ?_
        refine DF.s rfl rfl rfl rfl hg3 (by decide) ?_
        refine DF.s rfl rfl rfl rfl hg3 (by decide) ?_
        refine DF.s rfl rfl rfl rfl hg3 (by decide) ?_
        refine DF.s rfl rfl rfl rfl hg3 (by decide) ?_
        refine DF.s rfl rfl rfl rfl hg3 (by decide) ?_
        refine DF.s rfl rfl rfl rfl hg3 (by decide) ?_
        refine DF.vv rfl rfl rfl (by decide) (Val.pickF rfl hg3 rfl) ?_
        refine DF.nil ?_
        refine W.condF rfl ?_
        refine W.skip ?_
        refine inBlk_normal ?_
        refine thenP_normal ?_
        refine W.reg ?_
        refine LS.vv rfl rfl (by decide) (Val.move rfl) ?_
        first | refine LS.vv rfl rfl (by decide) (Val.addN (j := 1) rfl rfl (by omega)) ?_ | refine LS.vv rfl rfl (by decide) (Val.add64 rfl rfl (by omega)) ?_
        refine LS.vv rfl rfl (by decide) (Val.assign rfl) ?_
        refine LS.nil ?_
        refine thenP_normal ?_
        refine ⟨j + 1, ?_, ?_, ⟨⟨by omega, fun b hb2 hne => ?_⟩, hM, hB⟩, by omega⟩
        · exact (Sub.cons rfl (Sub.nil _))
        · repeat (first | exact Sub.nil _ | refine Sub.cons rfl ?_)
        · by_cases e : b = j
          · subst e; first | (exact begins_false.1 (by assumption)) | (exfalso; omega)
          · exact hin b (by omega) hne
    ·
      refine W.exit ?_
      refine thenP_exit ?_
      refine thenP_exit ?_
      refine inBlk_exit ?_
      refine inBlk_normal ?_
      refine thenP_normal ?_
      refine W.reg ?_
      refine LS.vv rfl rfl (by decide) (Val.move rfl) ?_
      first | refine LS.vv rfl rfl (by decide) (Val.addN (j := 1) rfl rfl (by omega)) ?_ | refine LS.vv rfl rfl (by decide) (Val.add64 rfl rfl (by omega)) ?_
      refine LS.vv rfl rfl (by decide) (Val.assign rfl) ?_
      refine LS.nil ?_
      refine thenP_normal ?_
      refine ⟨i + 1, ?_, ?_, ⟨⟨by omega, fun a b ha hb2 hne => ?_⟩, hM, hB⟩, by omega⟩
      · exact (Sub.cons rfl (Sub.nil _))
      · repeat (first | exact Sub.nil _ | refine Sub.cons rfl ?_)
      · by_cases e : a = i
        · subst e; exact hin b (by omega) hne
        · exact hall a b (by omega) hb2 hne
  ·
    refine W.exit ?_
    refine thenP_exit ?_
    refine thenP_exit ?_
    refine inBlk_exit ?_
    refine thenP_normal ?_
    refine W.seqR ?_
    refine LS.vv rfl rfl (by decide) (Val.assign rfl) ?_
    refine LS.nil ?_
    refine W.ret ?_
    refine ret1 (by first | exact .inl rfl | exact .inr rfl) rfl ?_
    first | exact ⟨false, rfl, ⟨fun h => (by cases h), fun h => absurd (begins_iff.1 (by assumption)) (h i j (by omega) (by omega) (by omega))⟩, hB⟩ | contradiction | exact ⟨true, rfl, ⟨fun _ a b ha hb2 hne => hall a b (by omega) hb2 hne, fun _ => rfl⟩, hB⟩

theorem prefix_any (C : List Wd) (p : Option Addr) (c m : Nat) (w0 : World) (hr : RdW w0 p C) (hm : C.length = m) :
    CallsV Try.prog 10 #[.slice p m c] w0 (fun v w => ∃ (b : Bool) (e : Nat), v = .tuple #[.bool b, .int .i64 (e : Int)] ∧ (e = 0 ↔ Coded (codeOf C)) ∧ (e = 0 → (b = true ↔ Free (codeOf C))) ∧ Below w0.heap.size w0 w) := by
  refine enter2 Try.func10 rfl Try.ntmps10 (by simp) rfl ?_
  have hB := Below.refl w0.heap.size w0
  simp only [argLoc]
  have hM := Mem.nil w0 w0.heap.size
  subst hm
  have hh := hr.head
  refine W.seqR ?_
  refine LS.vv rfl rfl (by decide) (Val.assign rfl) ?_
  refine LS.vv rfl rfl (by decide) (Val.cast (v := .int .i64 ((0 : Nat) : Int)) (Val.assign rfl) rfl) ?_
  refine LS.nil ?_
  refine W.seq ?_
  refine W.seqR ?_
  refine LS.vv rfl rfl (by decide) (Val.move rfl) ?_
  refine LS.m rfl (Step.call body24 rfl rfl (by decide) rfl (CallsV.mono (check_any C _ _ _ _ (hr.below hB) rfl) ?_))
  rintro _ w1 ⟨e, rfl, he, hb1⟩
  replace hM := hM.below hb1
  replace hB := hB.trans (hb1.mono hB.size)
  refine LS.vv rfl rfl (by decide) (Val.assign rfl) ?_
  refine LS.nil ?_
  refine W.seqR ?_
  refine LS.vv rfl rfl (by decide) (Val.move rfl) ?_
  refine LS.vv rfl rfl (by decide) (Val.neq rfl rfl) ?_
  refine LS.nil ?_
  first | refine W.condD rfl (fun hc1 => ?_) (fun hc1 => ?_) | refine W.cond rfl (fun hc1 => ?_) (fun hc1 => ?_)
  ·
    refine W.seqR ?_
    refine LS.vv rfl rfl (by decide) (Val.move rfl) ?_
    refine LS.vv rfl rfl (by decide) (Val.assign rfl) ?_
    refine LS.vv rfl rfl (by decide) (Val.assign rfl) ?_
    refine LS.nil ?_
    refine W.ret ?_
    refine thenP_ret ?_
    refine ret2 (by first | exact .inl rfl | exact .inr rfl) rfl rfl ?_
    first | exact ⟨false, e, rfl, he, fun h => by exfalso; omega, hB⟩ | exact ⟨b, 0, rfl, ⟨fun _ => he.1 (by omega), fun _ => rfl⟩, fun _ => hbf, hB⟩
  ·
    refine W.skip ?_
    refine thenP_normal ?_
    refine W.seqR ?_
    refine LS.vv rfl rfl (by decide) (Val.move rfl) ?_
    have h8 := ((coded_iff C).1 (he.1 (by omega))).1
    refine LS.m rfl (Step.call body25 rfl rfl (by decide) rfl (CallsV.mono (free_any C _ _ _ _ (hr.below hB) rfl (by omega)) ?_))
    rintro _ w2 ⟨b, rfl, hbf, hb2⟩
    replace hM := hM.below hb2
    replace hB := hB.trans (hb2.mono hB.size)
    refine LS.vv rfl rfl (by decide) (Val.assign rfl) ?_
    refine LS.vv rfl rfl (by decide) (Val.cast (v := .int .i64 ((0 : Nat) : Int)) (Val.assign rfl) rfl) ?_
    refine LS.nil ?_
    refine W.ret ?_
    refine ret2 (by first | exact .inl rfl | exact .inr rfl) rfl rfl ?_
    first | exact ⟨false, e, rfl, he, fun h => by exfalso; omega, hB⟩ | exact ⟨b, 0, rfl, ⟨fun _ => he.1 (by omega), fun _ => rfl⟩, fun _ => hbf, hB⟩

theorem codeCheck_any (C : List Wd) (p : Option Addr) (c m : Nat) (w0 : World) (hr : RdW w0 p C) (hm : C.length = m) :
    CallsV Try.prog 26 #[.slice p m c] w0 (fun v w => ∃ e : Nat, v = .int .i64 (e : Int) ∧ (e = 0 ↔ Coded (codeOf C)) ∧ Below w0.heap.size w0 w) := by
  refine enter1 Try.func26 rfl Try.ntmps26 (by simp) rfl ?_
  have hB := Below.refl w0.heap.size w0
  simp only [argLoc]
  have hM := Mem.nil w0 w0.heap.size
  subst hm
  have hh := hr.head
  rw [coded_iff]
  refine W.seqR ?_
  refine LS.vv rfl rfl (by decide) (Val.cast (v := .int .i64 ((0 : Nat) : Int)) (Val.assign rfl) rfl) ?_
  refine LS.nil ?_
  refine W.seq ?_
  refine W.seqR ?_
  refine LS.vv rfl rfl (by decide) (Val.move rfl) ?_
  refine LS.vv rfl rfl (by decide) (Val.len Try.underlying22 rfl) ?_
  refine LS.vv rfl rfl (by decide) (Val.gtr rfl rfl) ?_
  refine LS.nil ?_
  first | refine W.condD rfl (fun hc1 => ?_) (fun hc1 => ?_) | refine W.cond rfl (fun hc1 => ?_) (fun hc1 => ?_)
  ·
    refine W.seqR ?_
    refine LS.vv rfl rfl (by decide) (Val.cast (v := .int .i64 ((1 : Nat) : Int)) (Val.assign rfl) rfl) ?_
    refine LS.nil ?_
    refine W.ret ?_
    refine thenP_ret ?_
    refine ret1 (by first | exact .inl rfl | exact .inr rfl) rfl ?_
    exact ⟨1, rfl, ⟨fun h => (by cases h), fun h => by omega⟩, hB⟩
  ·
    refine W.skip ?_
    refine thenP_normal ?_
    refine W.seq ?_
    refine W.seqR ?_
    refine LS.vv rfl rfl (by decide) (Val.move rfl) ?_
    refine LS.vv rfl rfl (by decide) (Val.len Try.underlying22 rfl) ?_
    refine LS.vv rfl rfl (by decide) (Val.cast (v := .int .i64 ((0 : Nat) : Int)) (Val.move rfl) rfl) ?_
    refine LS.nil ?_
    refine W.block ?_
    refine W.loop (α := Nat) (fun i => [(10, .int .i64 (i : Int))]) [(8, _), (9, _)] (fun i w => (i ≤ C.length ∧ ∀ a, a < i → (gW C a).l.length ≤ 8) ∧ Mem w w0.heap.size [] ∧ Below w0.heap.size w0 w) (fun i => C.length - i) (0) (Sub.cons rfl (Sub.nil _)) (Sub.cons rfl (Sub.cons rfl (Sub.nil _))) ?_ ?_
    · exact ⟨⟨Nat.zero_le _, fun a h => absurd h (by omega)⟩, hM, hB⟩
    rintro i w1 ⟨⟨hi, hall⟩, hM, hB⟩
    try simp only at hM
    simp only [List.cons_append, List.nil_append]
    refine W.seqR ?_
    refine LS.vv rfl rfl (by decide) (Val.lss rfl rfl) ?_
    refine LS.nil ?_
    refine W.seq ?_
    first | refine W.condD rfl (fun hc2 => ?_) (fun hc2 => ?_) | refine W.cond rfl (fun hc2 => ?_) (fun hc2 => ?_)
    ·
      refine W.skip ?_
      refine thenP_normal ?_
      refine W.seq ?_
      refine W.block ?_
      refine W.seqR ?_
      refine LS.vv rfl rfl (by decide) (Val.index1 Try.underlying22 elem36 rfl rfl (by omega) ((hh.below hB)) (wv_lt (by omega))) ?_
      refine LS.m rfl (Step.load rfl rfl (by decide) flat36 rfl ((hh.below hB)) (wv_at (by omega)) ?_)
      refine LS.vv rfl rfl (by decide) (Val.assign rfl) ?_
      refine LS.nil ?_
      refine W.seqR ?_
      refine LS.vv rfl rfl (by decide) (Val.move rfl) ?_
      refine LS.vv rfl rfl (by decide) (Val.len Try.underlying36 rfl) ?_
      refine LS.vv rfl rfl (by decide) (Val.gtr rfl rfl) ?_
      refine LS.nil ?_
      first | refine W.condD rfl (fun hc3 => ?_) (fun hc3 => ?_) | refine W.cond rfl (fun hc3 => ?_) (fun hc3 => ?_)
      ·
        refine W.seqR ?_
        refine LS.vv rfl rfl (by decide) (Val.cast (v := .int .i64 ((1 : Nat) : Int)) (Val.assign rfl) rfl) ?_
        refine LS.nil ?_
        refine W.ret ?_
        refine inBlk_ret ?_
        refine thenP_ret ?_
        refine thenP_ret ?_
        refine inBlk_ret ?_
        refine thenP_ret ?_
        refine ret1 (by first | exact .inl rfl | exact .inr rfl) rfl ?_
        exact ⟨1, rfl, ⟨fun h => (by cases h), fun h => by have := h.2 i (by omega); omega⟩, hB⟩
      ·
        refine W.skip ?_
        refine inBlk_normal ?_
        refine thenP_normal ?_
        refine W.reg ?_
        first | refine LS.vv rfl rfl (by decide) (Val.addN (j := 1) rfl rfl (by omega)) ?_ | refine LS.vv rfl rfl (by decide) (Val.add64 rfl rfl (by omega)) ?_
        refine LS.vv rfl rfl (by decide) (Val.move rfl) ?_
        refine LS.nil ?_
        refine thenP_normal ?_
        refine ⟨i + 1, ?_, ?_, ⟨⟨by omega, fun a ha => ?_⟩, hM, hB⟩, by omega⟩
        · exact (Sub.cons rfl (Sub.nil _))
        · repeat (first | exact Sub.nil _ | refine Sub.cons rfl ?_)
        · by_cases e : a = i
          · subst e; omega
          · exact hall a (by omega)
    ·
      refine W.exit ?_
      refine thenP_exit ?_
      refine thenP_exit ?_
      refine inBlk_exit ?_
      refine thenP_normal ?_
      refine W.seqR ?_
      refine LS.vv rfl rfl (by decide) (Val.cast (v := .int .i64 ((0 : Nat) : Int)) (Val.assign rfl) rfl) ?_
      refine LS.nil ?_
      refine W.ret ?_
      refine ret1 (by first | exact .inl rfl | exact .inr rfl) rfl ?_
      exact ⟨0, rfl, ⟨fun _ => ⟨by omega, fun a ha => hall a (by omega)⟩, fun _ => rfl⟩, hB⟩

theorem codedB_any (C : List Wd) (p : Option Addr) (c m : Nat) (w0 : World) (hr : RdW w0 p C) (hm : C.length = m) :
    CallsV Try.prog 13 #[.slice p m c] w0 (fun v w => ∃ b : Bool, v = .bool b ∧ (b = true ↔ Coded (codeOf C)) ∧ Below w0.heap.size w0 w) := by
  refine enter1 Try.func13 rfl Try.ntmps13 (by simp) rfl ?_
  have hB := Below.refl w0.heap.size w0
  simp only [argLoc]
  have hM := Mem.nil w0 w0.heap.size
  subst hm
  have hh := hr.head
  refine W.seqR ?_
  refine LS.vv rfl rfl (by decide) (Val.assign rfl) ?_
  refine LS.nil ?_
  refine W.seqR ?_
  refine LS.vv rfl rfl (by decide) (Val.move rfl) ?_
  refine LS.m rfl (Step.call body26 rfl rfl (by decide) rfl (CallsV.mono (codeCheck_any C _ _ _ _ (hr.below hB) rfl) ?_))
  rintro _ w1 ⟨e, rfl, he, hb1⟩
  replace hM := hM.below hb1
  replace hB := hB.trans (hb1.mono hB.size)
  refine LS.vv rfl rfl (by decide) (Val.eql rfl rfl) ?_
  refine LS.vv rfl rfl (by decide) (Val.assign rfl) ?_
  refine LS.nil ?_
  refine W.ret ?_
  refine ret1 (by first | exact .inl rfl | exact .inr rfl) rfl ?_
  exact ⟨_, rfl, ⟨fun h => he.1 (by have := of_decide_eq_true h; omega), fun h => decide_eq_true (by have := he.2 h; omega)⟩, hB⟩

theorem bare_any (C : List Wd) (p : Option Addr) (c m : Nat) (w0 : World) (hr : RdW w0 p C) (hm : C.length = m) (hmx : m ≤ 9223372036854775807) :
    CallsV Try.prog 19 #[.slice p m c] w0 (fun v w => ∃ b : Bool, v = .bool b ∧ (b = true ↔ ¬ NoBare (codeOf C)) ∧ Below w0.heap.size w0 w) := by
  refine enter1 Try.func19 rfl Try.ntmps19 (by simp) rfl ?_
  have hB := Below.refl w0.heap.size w0
  simp only [argLoc]
  have hM := Mem.nil w0 w0.heap.size
  subst hm
  have hh := hr.head
  have hcm : C.length ≤ 9223372036854775807 := hmx
  rw [nobare_iff]
  refine W.seqR ?_
  refine LS.vv rfl rfl (by decide) (Val.assign rfl) ?_
  refine LS.nil ?_
  refine W.seq ?_
  refine W.seqR ?_
  refine LS.vv rfl rfl (by decide) (Val.move rfl) ?_
  refine LS.vv rfl rfl (by decide) (Val.len Try.underlying22 rfl) ?_
  refine LS.vv rfl rfl (by decide) (Val.cast (v := .int .i64 ((0 : Nat) : Int)) (Val.move rfl) rfl) ?_
  refine LS.nil ?_
  refine W.block ?_
  refine W.loop (α := Nat) (fun i => [(7, .int .i64 (i : Int))]) [(5, _), (6, _)] (fun i w => (i ≤ C.length ∧ ∀ a, a < i → (gW C a).l.length ≠ 0) ∧ Mem w w0.heap.size [] ∧ Below w0.heap.size w0 w) (fun i => C.length - i) (0) (Sub.cons rfl (Sub.nil _)) (Sub.cons rfl (Sub.cons rfl (Sub.nil _))) ?_ ?_
  · exact ⟨⟨Nat.zero_le _, fun a h => absurd h (by omega)⟩, hM, hB⟩
  rintro i w1 ⟨⟨hi, hall⟩, hM, hB⟩
  try simp only at hM
  simp only [List.cons_append, List.nil_append]
  refine W.seqR ?_
  refine LS.vv rfl rfl (by decide) (Val.lss rfl rfl) ?_
  refine LS.nil ?_
  refine W.seq ?_
  first | refine W.condD rfl (fun hc1 => ?_) (fun hc1 => ?_) | refine W.cond rfl (fun hc1 => ?_) (fun hc1 => ?_)
  ·
    refine W.skip ?_
    refine thenP_normal ?_
    refine W.seq ?_
    refine W.block ?_
    refine W.seqR ?_
    refine LS.vv rfl rfl (by decide) (Val.index1 Try.underlying22 elem36 rfl rfl (by omega) ((hh.below hB)) (wv_lt (by omega))) ?_
    refine LS.m rfl (Step.load rfl rfl (by decide) flat36 rfl ((hh.below hB)) (wv_at (by omega)) ?_)
    refine LS.vv rfl rfl (by decide) (Val.assign rfl) ?_
    refine LS.nil ?_
    refine W.seqR ?_
    refine LS.vv rfl rfl (by decide) (Val.move rfl) ?_
    refine LS.vv rfl rfl (by decide) (Val.len Try.underlying36 rfl) ?_
    refine LS.vv rfl rfl (by decide) (Val.eql rfl rfl) ?_
    refine LS.nil ?_
    first | refine W.condD rfl (fun hc2 => ?_) (fun hc2 => ?_) | refine W.cond rfl (fun hc2 => ?_) (fun hc2 => ?_)
    ·
      refine W.seqR ?_
      refine LS.vv rfl rfl (by decide) (Val.assign rfl) ?_
      refine LS.nil ?_
      refine W.ret ?_
      refine inBlk_ret ?_
      refine thenP_ret ?_
      refine thenP_ret ?_
      refine inBlk_ret ?_
      refine thenP_ret ?_
      refine ret1 (by first | exact .inl rfl | exact .inr rfl) rfl ?_
      exact ⟨true, rfl, ⟨fun _ h => h i (by omega) (by omega), fun _ => rfl⟩, hB⟩
    ·
      refine W.skip ?_
      refine inBlk_normal ?_
      refine thenP_normal ?_
      refine W.reg ?_
      first | refine LS.vv rfl rfl (by decide) (Val.addN (j := 1) rfl rfl (by omega)) ?_ | refine LS.vv rfl rfl (by decide) (Val.add64 rfl rfl (by omega)) ?_
      refine LS.vv rfl rfl (by decide) (Val.move rfl) ?_
      refine LS.nil ?_
      refine thenP_normal ?_
      refine ⟨i + 1, ?_, ?_, ⟨⟨by omega, fun a ha => ?_⟩, hM, hB⟩, by omega⟩
      · exact (Sub.cons rfl (Sub.nil _))
      · repeat (first | exact Sub.nil _ | refine Sub.cons rfl ?_)
      · by_cases e : a = i
        · subst e; omega
        · exact hall a (by omega)
  ·
    refine W.exit ?_
    refine thenP_exit ?_
    refine thenP_exit ?_
    refine inBlk_exit ?_
    refine thenP_normal ?_
    refine W.seqR ?_
    refine LS.vv rfl rfl (by decide) (Val.assign rfl) ?_
    refine LS.nil ?_
    refine W.ret ?_
    refine ret1 (by first | exact .inl rfl | exact .inr rfl) rfl ?_
    exact ⟨false, rfl, ⟨fun h => (by cases h), fun h => absurd (fun a ha => hall a (by omega)) h⟩, hB⟩

theorem lens_any (C : List Wd) (p : Option Addr) (c m : Nat) (w0 : World) (hr : RdW w0 p C) (hm : C.length = m) (h8 : m * 8 ≤ 140737488355328) :
    CallsV Try.prog 12 #[.slice p m c] w0 (fun v w => ∃ (p2 : Option Addr) (c2 : Nat), v = .slice p2 m c2 ∧ Own w w0.heap.size 3 p2 m c2 (nv (lensTo (codeOf C) m)) ∧ Below w0.heap.size w0 w) := by
  refine enter1 Try.func12 rfl Try.ntmps12 (by simp) rfl ?_
  have hB := Below.refl w0.heap.size w0
  simp only [argLoc]
  have hM := Mem.nil w0 w0.heap.size
  subst hm
  have hh := hr.head
  refine W.seqR ?_
  refine LS.vv rfl rfl (by decide) (Val.assign rfl) ?_
  refine LS.nil ?_
  refine W.seqR ?_
  refine LS.vv rfl rfl (by decide) (Val.assign rfl) ?_
  refine LS.nil ?_
  refine W.seq ?_
  refine W.seqR ?_
  refine LS.vv rfl rfl (by decide) (Val.move rfl) ?_
  refine LS.vv rfl rfl (by decide) (Val.len Try.underlying22 rfl) ?_
  refine LS.vv rfl rfl (by decide) (Val.cast (v := .int .i64 ((0 : Nat) : Int)) (Val.move rfl) rfl) ?_
  refine LS.nil ?_
  refine W.block ?_
  replace hM := hM.addNil 3
  refine W.loop (α := Nat × Option Addr × Nat) (fun g => [(3, .slice g.2.1 g.1 g.2.2), (8, .int .i64 (g.1 : Int))]) [(6, _), (7, _)] (fun g w => (g.1 ≤ C.length) ∧ Mem w w0.heap.size [⟨3, g.2.1, g.1, g.2.2, nv (lensTo (codeOf C) g.1)⟩] ∧ Below w0.heap.size w0 w) (fun g => C.length - g.1) ((0, none, 0)) (Sub.cons rfl (Sub.cons rfl (Sub.nil _))) (Sub.cons rfl (Sub.cons rfl (Sub.nil _))) ?_ ?_
  · exact ⟨Nat.zero_le _, hM, hB⟩
  rintro ⟨k, po, co⟩ w1 ⟨hk, hM, hB⟩
  try simp only at hM
  simp only [List.cons_append, List.nil_append]
  simp only at hk
  refine W.seqR ?_
  refine LS.vv rfl rfl (by decide) (Val.lss rfl rfl) ?_
  refine LS.nil ?_
  refine W.seq ?_
  first | refine W.condD rfl (fun hc1 => ?_) (fun hc1 => ?_) | refine W.cond rfl (fun hc1 => ?_) (fun hc1 => ?_)
  ·
    refine W.skip ?_
    refine thenP_normal ?_
    refine W.seq ?_
    refine W.block ?_
    refine W.seqR ?_
    refine LS.vv rfl rfl (by decide) (Val.index1 Try.underlying22 elem36 rfl rfl (by omega) ((hh.below hB)) (wv_lt (by omega))) ?_
    refine LS.m rfl (Step.load rfl rfl (by decide) flat36 rfl ((hh.below hB)) (wv_at (by omega)) ?_)
    refine LS.vv rfl rfl (by decide) (Val.assign rfl) ?_
    refine LS.nil ?_
    refine W.reg ?_
    refine LS.vv rfl rfl (by decide) (Val.move rfl) ?_
    refine LS.vv rfl rfl (by decide) (Val.move rfl) ?_
    refine LS.vv rfl rfl (by decide) (Val.len Try.underlying36 rfl) ?_
    refine LS.m rfl (Step.lit rfl rfl (by decide) Try.underlying28 elem3 rfl rfl (by omega) (by simp [Value.oneCell']) (Nat.le_refl _) ?_)
    rintro w2 hO2 hg2 hbl2 hsz2
    replace hM := hM.add hB.size hbl2 hO2
    replace hB := hB.trans (hbl2.mono hB.size)
    generalize w1.heap.size = gg2 at *
    refine LS.m rfl (Step.append3 (B := w0.heap.size) rfl rfl (by decide) Try.underlying28 elem3 rfl rfl rfl (hM.o1) (hM.o0.rd) (by first | rfl | (simp; done) | (simp; omega)) (by first | exact one_map _ (fun _ => rfl) _ | simp [Value.oneCell']) (by omega) (by omega) hB.size ?_)
    rintro p3 c3 w3 hO3 hg3 hbl3 hbk3
    replace hM := hM.s1 hg3 hO3 hbk3
    replace hM := hM.tail
    try simp only [nv_app1, nv_app, nv_set, nv_rep, nv_one, nv_cons, nv_take, nv_drop, List.nil_append] at hM
    replace hB := hB.trans hbl3
    refine LS.vv rfl rfl (by decide) (Val.assign rfl) ?_
    refine LS.nil ?_
    refine inBlk_normal ?_
    refine thenP_normal ?_
    refine W.reg ?_
    first | refine LS.vv rfl rfl (by decide) (Val.addN (j := 1) rfl rfl (by omega)) ?_ | refine LS.vv rfl rfl (by decide) (Val.add64 rfl rfl (by omega)) ?_
    refine LS.vv rfl rfl (by decide) (Val.move rfl) ?_
    refine LS.nil ?_
    refine thenP_normal ?_
    refine ⟨(k + 1, p3, c3), ?_, ?_, ⟨by simp only; omega, ?_, hB⟩, by simp only; omega⟩
    · exact (Sub.cons rfl (Sub.cons rfl (Sub.nil _)))
    · repeat (first | exact Sub.nil _ | refine Sub.cons rfl ?_)
    · simp only [lensTo_succ, codeOf_gw]; exact hM
  ·
    refine W.exit ?_
    refine thenP_exit ?_
    refine thenP_exit ?_
    refine inBlk_exit ?_
    refine thenP_normal ?_
    refine W.seqR ?_
    refine LS.vv rfl rfl (by decide) (Val.move rfl) ?_
    refine LS.vv rfl rfl (by decide) (Val.assign rfl) ?_
    refine LS.nil ?_
    refine W.ret ?_
    refine ret1 (by first | exact .inl rfl | exact .inr rfl) rfl ?_
    obtain rfl : k = C.length := by omega
    exact ⟨po, co, rfl, hM.o0, hB⟩

theorem sum_any (zs : List Int) (p : Option Addr) (c m : Nat) (w0 : World) (hr : Rd w0 p (iv zs)) (hm : zs.length = m) (hl : m ≤ 9223372036854775807) :
    CallsV Try.prog 11 #[.slice p m c] w0 (fun v w => ∃ n e : Nat, v = .tuple #[.int .i64 (n : Int), .int .i64 (e : Int)] ∧ (e = 0 ↔ m ≤ 8 ∧ ∀ z ∈ zs, 0 ≤ z ∧ z ≤ 8) ∧ (e = 0 → n = sumTo (zs.map Int.toNat) m) ∧ (e ≠ 0 → n = 0) ∧ Below w0.heap.size w0 w) := by
  refine enter2 Try.func11 rfl Try.ntmps11 (by simp) rfl ?_
  have hB := Below.refl w0.heap.size w0
  simp only [argLoc]
  have hM := Mem.nil w0 w0.heap.size
  subst hm
  refine W.seqR ?_
  refine LS.vv rfl rfl (by decide) (Val.cast (v := .int .i64 ((0 : Nat) : Int)) (Val.assign rfl) rfl) ?_
  refine LS.vv rfl rfl (by decide) (Val.cast (v := .int .i64 ((0 : Nat) : Int)) (Val.assign rfl) rfl) ?_
  refine LS.nil ?_
  refine W.seq ?_
  refine W.seqR ?_
  refine LS.vv rfl rfl (by decide) (Val.move rfl) ?_
  refine LS.vv rfl rfl (by decide) (Val.len Try.underlying28 rfl) ?_
  refine LS.vv rfl rfl (by decide) (Val.gtr rfl rfl) ?_
  refine LS.nil ?_
  first | refine W.condD rfl (fun hc1 => ?_) (fun hc1 => ?_) | refine W.cond rfl (fun hc1 => ?_) (fun hc1 => ?_)
  ·
    refine W.seqR ?_
    refine LS.vv rfl rfl (by decide) (Val.cast (v := .int .i64 ((0 : Nat) : Int)) (Val.assign rfl) rfl) ?_
    refine LS.vv rfl rfl (by decide) (Val.cast (v := .int .i64 ((1 : Nat) : Int)) (Val.assign rfl) rfl) ?_
    refine LS.nil ?_
    refine W.ret ?_
    refine thenP_ret ?_
    refine ret2 (by first | exact .inl rfl | exact .inr rfl) rfl rfl ?_
    exact ⟨0, 1, rfl, ⟨fun h => (by cases h), fun h => by omega⟩, fun h => (by cases h), fun _ => rfl, hB⟩
  ·
    refine W.skip ?_
    refine thenP_normal ?_
    refine W.seqR ?_
    refine LS.vv rfl rfl (by decide) (Val.cast (v := .int .i64 ((0 : Nat) : Int)) (Val.assign rfl) rfl) ?_
    refine LS.nil ?_
    refine W.seq ?_
    refine W.seqR ?_
    refine LS.vv rfl rfl (by decide) (Val.move rfl) ?_
    refine LS.vv rfl rfl (by decide) (Val.len Try.underlying28 rfl) ?_
    refine LS.vv rfl rfl (by decide) (Val.cast (v := .int .i64 ((0 : Nat) : Int)) (Val.move rfl) rfl) ?_
    refine LS.nil ?_
    refine W.block ?_
    refine W.loop (α := Nat) (fun k => [(4, .int .i64 (sumTo (zs.map Int.toNat) k : Int)), (12, .int .i64 (k : Int))]) [(10, _), (11, _)] (fun k w => (k ≤ zs.length ∧ ∀ j, j < k → 0 ≤ gz zs j ∧ gz zs j ≤ 8) ∧ Mem w w0.heap.size [] ∧ Below w0.heap.size w0 w) (fun k => zs.length - k) (0) (Sub.cons rfl (Sub.cons rfl (Sub.nil _))) (Sub.cons rfl (Sub.cons rfl (Sub.nil _))) ?_ ?_
    · exact ⟨⟨Nat.zero_le _, fun j h => absurd h (by omega)⟩, hM, hB⟩
    rintro k w1 ⟨⟨hk, hall⟩, hM, hB⟩
    try simp only at hM
    simp only [List.cons_append, List.nil_append]
    refine W.seqR ?_
    refine LS.vv rfl rfl (by decide) (Val.lss rfl rfl) ?_
    refine LS.nil ?_
    refine W.seq ?_
    first | refine W.condD rfl (fun hc2 => ?_) (fun hc2 => ?_) | refine W.cond rfl (fun hc2 => ?_) (fun hc2 => ?_)
    ·
      refine W.skip ?_
      refine thenP_normal ?_
      refine W.seq ?_
      refine W.block ?_
      refine W.seqR ?_
      refine LS.vv rfl rfl (by decide) (Val.index1 Try.underlying28 elem3 rfl rfl (by omega) ((hr.below hB)) (iv_lt (by omega))) ?_
      refine LS.m rfl (Step.load rfl rfl (by decide) flat3 rfl ((hr.below hB)) (iv_at (by omega)) ?_)
      refine LS.vv rfl rfl (by decide) (Val.assign rfl) ?_
      refine LS.nil ?_
      refine W.seq ?_
      refine W.seqR ?_
      refine LS.vv rfl rfl (by decide) (Val.move rfl) ?_
      refine LS.vv rfl rfl (by decide) (Val.lss rfl rfl) ?_
      refine LS.vv rfl rfl (by decide) (Val.move rfl) ?_
      refine LS.split 2 rfl (fun hg3 => ?_) (fun hg3 => ?_)
      ·
        first | (have hg3p := of_decide_eq_true hg3) | skip
        refine LS.s rfl rfl rfl hg3 (by decide) ?_
        refine LS.s rfl rfl rfl hg3 (by decide) ?_
        refine LS.vv rfl rfl (by decide) (Val.pickT rfl hg3 rfl) ?_
        refine LS.nil ?_
        refine W.condT rfl ?_
        refine W.seqR ?_
        refine LS.vv rfl rfl (by decide) (Val.cast (v := .int .i64 ((0 : Nat) : Int)) (Val.assign rfl) rfl) ?_
        refine LS.vv rfl rfl (by decide) (Val.cast (v := .int .i64 ((4 : Nat) : Int)) (Val.assign rfl) rfl) ?_
        refine LS.nil ?_
        refine W.ret ?_
        refine thenP_ret ?_
        refine inBlk_ret ?_
        refine thenP_ret ?_
        refine thenP_ret ?_
        refine inBlk_ret ?_
        refine thenP_ret ?_
        refine ret2 (by first | exact .inl rfl | exact .inr rfl) rfl rfl ?_
        have hzm : gz zs k ∈ zs := by { rw [gz_lt (show k < zs.length by omega)]; exact List.getElem_mem _ }
        exact ⟨0, 4, rfl, ⟨fun h => (by cases h), fun h => by have := h.2 _ hzm; omega⟩, fun h => (by cases h), fun _ => rfl, hB⟩
      ·
        first | (have hg3p := of_decide_eq_false hg3) | skip
        refine LS.vg rfl rfl rfl hg3 (by decide) (Val.move rfl) ?_
        refine LS.vg rfl rfl rfl hg3 (by decide) (Val.gtr rfl rfl) ?_
        refine LS.vv rfl rfl (by decide) (Val.pickF rfl hg3 rfl) ?_
        refine LS.nil ?_
        first | refine W.condD rfl (fun hc4 => ?_) (fun hc4 => ?_) | refine W.cond rfl (fun hc4 => ?_) (fun hc4 => ?_)
        ·
          refine W.seqR ?_
          refine LS.vv rfl rfl (by decide) (Val.cast (v := .int .i64 ((0 : Nat) : Int)) (Val.assign rfl) rfl) ?_
          refine LS.vv rfl rfl (by decide) (Val.cast (v := .int .i64 ((4 : Nat) : Int)) (Val.assign rfl) rfl) ?_
          refine LS.nil ?_
          refine W.ret ?_
          refine thenP_ret ?_
          refine inBlk_ret ?_
          refine thenP_ret ?_
          refine thenP_ret ?_
          refine inBlk_ret ?_
          refine thenP_ret ?_
          refine ret2 (by first | exact .inl rfl | exact .inr rfl) rfl rfl ?_
          have hzm : gz zs k ∈ zs := by { rw [gz_lt (show k < zs.length by omega)]; exact List.getElem_mem _ }
          exact ⟨0, 4, rfl, ⟨fun h => (by cases h), fun h => by have := h.2 _ hzm; omega⟩, fun h => (by cases h), fun _ => rfl, hB⟩
        ·
          refine W.skip ?_
          refine thenP_normal ?_
          refine W.reg ?_
          refine LS.vv rfl rfl (by decide) (Val.move rfl) ?_
          have hz0 : 0 ≤ gz zs k := by omega
          have hz8 : gz zs k ≤ 8 := by omega
          have hgt : gn (zs.map Int.toNat) k = (gz zs k).toNat := by { unfold gn gz; simp [show k < zs.length by omega] }
          have hss := sumTo_succ (zs.map Int.toNat) k
          rw [hgt] at hss
          have hsl := sumTo_le (zs.map Int.toNat) k
          generalize hq : (gz zs k).toNat = q at *
          have hgz : gz zs k = (q : Int) := by omega
          have hq8 : q ≤ 8 := by omega
          have hp8 := pow8 hq8
          rw [hgz]
          refine LS.vv rfl rfl (by decide) (Val.move rfl) ?_
          refine LS.vv rfl rfl (by decide) (Val.subN (i := 8) rfl rfl (by omega) (by omega)) ?_
          refine LS.vv rfl rfl (by decide) (Val.cast (v := .int .i64 ((2 ^ (8 - q) : Nat) : Int)) (Val.shl64 (i := 1) rfl rfl (by omega) (by rw [Nat.one_shiftLeft]; omega)) (by rw [Nat.one_shiftLeft])) ?_
          first | refine LS.vv rfl rfl (by decide) (Val.addN rfl rfl (by omega)) ?_ | refine LS.vv rfl rfl (by decide) (Val.add64 rfl rfl (by omega)) ?_
          refine LS.vv rfl rfl (by decide) (Val.assign rfl) ?_
          refine LS.nil ?_
          refine inBlk_normal ?_
          refine thenP_normal ?_
          refine W.reg ?_
          first | refine LS.vv rfl rfl (by decide) (Val.addN (j := 1) rfl rfl (by omega)) ?_ | refine LS.vv rfl rfl (by decide) (Val.add64 rfl rfl (by omega)) ?_
          refine LS.vv rfl rfl (by decide) (Val.move rfl) ?_
          refine LS.nil ?_
          refine thenP_normal ?_
          refine ⟨k + 1, ?_, ?_, ⟨⟨by omega, fun j hj => ?_⟩, hM, hB⟩, by omega⟩
          · exact (Sub.cons' rfl (by rw [hss]) (Sub.cons rfl (Sub.nil _)))
          · repeat (first | exact Sub.nil _ | refine Sub.cons rfl ?_)
          · by_cases e : j = k
            · subst e; omega
            · exact hall j (by omega)
    ·
      refine W.exit ?_
      refine thenP_exit ?_
      refine thenP_exit ?_
      refine inBlk_exit ?_
      refine thenP_normal ?_
      refine W.seqR ?_
      refine LS.vv rfl rfl (by decide) (Val.move rfl) ?_
      refine LS.vv rfl rfl (by decide) (Val.assign rfl) ?_
      refine LS.vv rfl rfl (by decide) (Val.cast (v := .int .i64 ((0 : Nat) : Int)) (Val.assign rfl) rfl) ?_
      refine LS.nil ?_
      refine W.ret ?_
      refine ret2 (by first | exact .inl rfl | exact .inr rfl) rfl rfl ?_
      obtain rfl : k = zs.length := by omega
      exact ⟨_, 0, rfl, ⟨fun _ => ⟨by omega, fun z hz => by obtain ⟨j, hj, rfl⟩ := List.getElem_of_mem hz; rw [← gz_lt hj]; exact hall j hj⟩, fun _ => rfl⟩, fun _ => rfl, fun h => absurd rfl h, hB⟩

end Go.Proofs.Ytbfcmfjdjldepaa
