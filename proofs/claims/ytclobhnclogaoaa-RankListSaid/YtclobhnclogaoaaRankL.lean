/-
  The walks of rank.Order, rank.List, quipuref.Once.
-/
import Derived.Test.YtclobhnclogaoaaWords
import Derived.Test.YtclobhnclogaoaaLehmPlain
import Derived.Test.YtclobhnclogaoaaVgrow
import Derived.Test.YtclobhnclogaoaaDigsPlain
namespace Go.Proofs.Ytclobhnclogaoaa
open Go Go.RowKit V
set_option linter.unusedVariables false

theorem lists_any (n : Nat) (w0 : World) (hn : n ≤ 8) :
    CallsV Try.prog 35 #[.int .i64 (n : Int)] w0 (fun v w => v = .int .i64 (fct n : Int) ∧ Below w0.heap.size w0 w) := by
  refine enter1 Try.func35 rfl Try.ntmps35 (by simp) rfl ?_
  have hB := Below.refl w0.heap.size w0
  simp only [argLoc]
  refine W.seqR ?_
  refine LS.vv rfl rfl (by decide) (Val.cast (v := .int .i64 ((0 : Nat) : Int)) (Val.assign rfl) rfl) ?_
  refine LS.nil ?_
  refine W.seqR ?_
  refine LS.vv rfl rfl (by decide) (Val.cast (v := .int .i64 ((1 : Nat) : Int)) (Val.assign rfl) rfl) ?_
  refine LS.nil ?_
  refine W.seq ?_
  refine W.seqR ?_
  refine LS.vv rfl rfl (by decide) (Val.move rfl) ?_
  refine LS.vv rfl rfl (by decide) (Val.cast (v := .int .i64 ((0 : Nat) : Int)) (Val.move rfl) rfl) ?_
  refine LS.nil ?_
  refine W.block ?_
  refine W.loop (α := Nat) (fun k => [(3, .int .i64 (fct k : Int)), (6, .int .i64 (k : Int))]) [(5, _)] (fun k w => k ≤ n ∧ Below w0.heap.size w0 w) (fun k => n - k) (0) (Sub.cons rfl (Sub.cons rfl (Sub.nil _))) (Sub.cons rfl (Sub.nil _)) ?_ ?_
  · exact ⟨Nat.zero_le _, hB⟩
  rintro k w1 ⟨hk, hB⟩
  simp only [List.cons_append, List.nil_append]
  have hf := fct_le (k := k) (by omega)
  have hm : fct k * (k + 1) ≤ 40320 * 9 := Nat.mul_le_mul hf (by omega)
  refine W.seqR ?_
  refine LS.vv rfl rfl (by decide) (Val.lss rfl rfl) ?_
  refine LS.nil ?_
  refine W.seq ?_
  first | refine W.condD rfl (fun hc1 => ?_) (fun hc1 => ?_) | refine W.cond rfl (fun hc1 => ?_) (fun hc1 => ?_)
  ·
    refine W.skip ?_
    refine thenP_normal ?_
    refine W.seq ?_
    refine W.block ?_
    refine W.seqR ?_
    refine LS.vv rfl rfl (by decide) (Val.move rfl) ?_
    refine LS.vv rfl rfl (by decide) (Val.assign rfl) ?_
    refine LS.nil ?_
    refine W.reg ?_
    refine LS.vv rfl rfl (by decide) (Val.move rfl) ?_
    refine LS.vv rfl rfl (by decide) (Val.move rfl) ?_
    first | refine LS.vv rfl rfl (by decide) (Val.addN (j := 1) rfl rfl (by omega)) ?_ | refine LS.vv rfl rfl (by decide) (Val.add64 rfl rfl (by omega)) ?_
    first | refine LS.vv rfl rfl (by decide) (Val.mulN rfl rfl (by omega)) ?_ | refine LS.vv rfl rfl (by decide) (Val.mul64 rfl rfl (by omega)) ?_
    refine LS.vv rfl rfl (by decide) (Val.assign rfl) ?_
    refine LS.nil ?_
    refine inBlk_normal ?_
    refine thenP_normal ?_
    refine W.reg ?_
    first | refine LS.vv rfl rfl (by decide) (Val.addN (j := 1) rfl rfl (by omega)) ?_ | refine LS.vv rfl rfl (by decide) (Val.add64 rfl rfl (by omega)) ?_
    refine LS.vv rfl rfl (by decide) (Val.move rfl) ?_
    refine LS.nil ?_
    refine thenP_normal ?_
    refine ⟨k + 1, ?_, ?_, ⟨by omega, hB⟩, by omega⟩
    · exact (Sub.cons' rfl (by rw [fct_succ]) (Sub.cons rfl (Sub.nil _)))
    · repeat (first | exact Sub.nil _ | refine Sub.cons rfl ?_)
  ·
    refine W.exit ?_
    refine thenP_exit ?_
    refine thenP_exit ?_
    refine inBlk_exit ?_
    refine thenP_normal ?_
    refine W.seqR ?_
    refine LS.vv rfl rfl (by decide) (Val.move rfl) ?_
    refine LS.vv rfl rfl (by decide) (Val.assign rfl) ?_
    refine LS.nil ?_
    refine W.ret ?_
    refine ret1 (by first | exact .inl rfl | exact .inr rfl) rfl ?_
    have hkn : k = n := by omega
    subst hkn
    exact ⟨rfl, hB⟩

theorem once_any (zs : List Int) (p : Option Addr) (c : Nat) (w0 : World) (hr : Rd w0 p (iv zs)) (hl : zs.length ≤ 1000000) (hc : zs.length ≤ c) :
    CallsV Try.prog 22 #[.slice p zs.length c] w0 (fun v w => ∃ b : Bool, v = .bool b ∧ (b = true ↔ OnceP zs) ∧ Below w0.heap.size w0 w) := by
  refine enter1 Try.func22 rfl Try.ntmps22 (by simp) rfl ?_
  have hB := Below.refl w0.heap.size w0
  simp only [argLoc]
  have hM := Mem.nil w0 w0.heap.size
  refine W.seqR ?_
  refine LS.vv rfl rfl (by decide) (Val.assign rfl) ?_
  refine LS.nil ?_
  refine W.seq ?_
  refine W.seqR ?_
  refine LS.vv rfl rfl (by decide) (Val.move rfl) ?_
  refine LS.vv rfl rfl (by decide) (Val.len Try.underlying34 rfl) ?_
  refine LS.vv rfl rfl (by decide) (Val.cast (v := .int .i64 ((0 : Nat) : Int)) (Val.move rfl) rfl) ?_
  refine LS.nil ?_
  refine W.block ?_
  refine W.loop (α := Nat) (fun k => [(9, .int .i64 (k : Int))]) [(0, _), (7, _), (8, _)] (fun k w => (k ≤ zs.length ∧ ∀ i, i < k → (0 ≤ gz zs i ∧ gz zs i < zs.length) ∧ ∀ j, j < i → gz zs j ≠ gz zs i) ∧ Mem w w0.heap.size [] ∧ Below w0.heap.size w0 w) (fun k => zs.length - k) (0) (Sub.cons rfl (Sub.nil _)) (Sub.cons rfl (Sub.cons rfl (Sub.cons rfl (Sub.nil _)))) ?_ ?_
  · exact ⟨⟨Nat.zero_le _, by omega⟩, hM, hB⟩
  rintro k w1 ⟨⟨hk, hall⟩, hM, hB⟩
  try simp only at hM
  simp only [List.cons_append, List.nil_append]
  refine W.seqR ?_
  refine LS.vv rfl rfl (by decide) (Val.lss rfl rfl) ?_
  refine LS.nil ?_
  refine W.seq ?_
  first | refine W.condD rfl (fun hc1 => ?_) (fun hc1 => ?_) | refine W.cond rfl (fun hc1 => ?_) (fun hc1 => ?_)
  ·
    refine W.skip ?_
    refine thenP_normal ?_
    refine W.seq ?_
    refine W.block ?_
    refine W.seqR ?_
    refine LS.vv rfl rfl (by decide) (Val.move rfl) ?_
    refine LS.vv rfl rfl (by decide) (Val.index1 Try.underlying34 elem3 rfl rfl (by omega) ((hr.below hB)) (iv_lt (by omega))) ?_
    refine LS.m rfl (Step.load rfl rfl (by decide) flat3 rfl ((hr.below hB)) (iv_at (by omega)) ?_)
    refine LS.vv rfl rfl (by decide) (Val.assign rfl) ?_
    refine LS.vv rfl rfl (by decide) (Val.assign rfl) ?_
    refine LS.nil ?_
    refine W.seq ?_
    refine W.seqR ?_
    refine LS.vv rfl rfl (by decide) (Val.move rfl) ?_
    refine LS.vv rfl rfl (by decide) (Val.lss rfl rfl) ?_
    refine LS.vv rfl rfl (by decide) (Val.move rfl) ?_
    refine LS.split 2 rfl (fun hg2 => ?_) (fun hg2 => ?_)
    ·
      first | (have hg2p := of_decide_eq_true hg2) | skip
      refine LS.s rfl rfl rfl hg2 (by decide) ?_
      refine LS.s rfl rfl rfl hg2 (by decide) ?_
      refine LS.s rfl rfl rfl hg2 (by decide) ?_
      refine LS.s rfl rfl rfl hg2 (by decide) ?_
      refine LS.vv rfl rfl (by decide) (Val.pickT rfl hg2 rfl) ?_
      refine LS.nil ?_
      refine W.condT rfl ?_
      refine W.seqR ?_
      refine LS.vv rfl rfl (by decide) (Val.assign rfl) ?_
      refine LS.nil ?_
      refine W.ret ?_
      refine thenP_ret ?_
      refine inBlk_ret ?_
      refine thenP_ret ?_
      refine thenP_ret ?_
      refine inBlk_ret ?_
      refine thenP_ret ?_
      refine ret1 (by first | exact .inl rfl | exact .inr rfl) rfl ?_
      first | (exact ⟨true, rfl, ⟨fun _ i hi => hall i (by omega), fun _ => rfl⟩, hB⟩) | (refine ⟨false, rfl, ⟨fun h => (by cases h), fun h => ?_⟩, hB⟩; have h1 := h k (by omega); omega) | (refine ⟨false, rfl, ⟨fun h => (by cases h), fun h => ?_⟩, hB⟩; have h1 := (h k (by omega)).2 j (by omega); omega)
    ·
      first | (have hg2p := of_decide_eq_false hg2) | skip
      refine LS.vg rfl rfl rfl hg2 (by decide) (Val.move rfl) ?_
      refine LS.vg rfl rfl rfl hg2 (by decide) (Val.move rfl) ?_
      refine LS.vg rfl rfl rfl hg2 (by decide) (Val.len Try.underlying34 rfl) ?_
      refine LS.vg rfl rfl rfl hg2 (by decide) (Val.geq rfl rfl) ?_
      refine LS.vv rfl rfl (by decide) (Val.pickF rfl hg2 rfl) ?_
      refine LS.nil ?_
      first | refine W.condD rfl (fun hc3 => ?_) (fun hc3 => ?_) | refine W.cond rfl (fun hc3 => ?_) (fun hc3 => ?_)
      ·
        refine W.seqR ?_
        refine LS.vv rfl rfl (by decide) (Val.assign rfl) ?_
        refine LS.nil ?_
        refine W.ret ?_
        refine thenP_ret ?_
        refine inBlk_ret ?_
        refine thenP_ret ?_
        refine thenP_ret ?_
        refine inBlk_ret ?_
        refine thenP_ret ?_
        refine ret1 (by first | exact .inl rfl | exact .inr rfl) rfl ?_
        first | (exact ⟨true, rfl, ⟨fun _ i hi => hall i (by omega), fun _ => rfl⟩, hB⟩) | (refine ⟨false, rfl, ⟨fun h => (by cases h), fun h => ?_⟩, hB⟩; have h1 := h k (by omega); omega) | (refine ⟨false, rfl, ⟨fun h => (by cases h), fun h => ?_⟩, hB⟩; have h1 := (h k (by omega)).2 j (by omega); omega)
      ·
        refine W.skip ?_
        refine thenP_normal ?_
        refine W.seqR ?_
        refine LS.vv rfl rfl (by decide) (Val.move rfl) ?_
        refine LS.vv rfl rfl (by decide) (Val.move rfl) ?_
        refine LS.vv rfl rfl (by decide) (Val.sliceTo Try.underlying34 elem3 rfl rfl (by omega)) ?_
        refine LS.vv rfl rfl (by decide) (Val.len Try.underlying34 rfl) ?_
        refine LS.vv rfl rfl (by decide) (Val.cast (v := .int .i64 ((0 : Nat) : Int)) (Val.move rfl) rfl) ?_
        refine LS.nil ?_
        refine W.block ?_
        refine W.loop (α := Nat) (fun j => [(26, .int .i64 (j : Int))]) [(0, _), (4, _), (7, _), (8, _), (9, _), (24, _), (25, _)] (fun j w => (j ≤ k ∧ ∀ i, i < j → gz zs i ≠ gz zs k) ∧ Mem w w0.heap.size [] ∧ Below w0.heap.size w0 w) (fun j => k - j) (0) (Sub.cons rfl (Sub.nil _)) (Sub.cons rfl (Sub.cons rfl (Sub.cons rfl (Sub.cons rfl (Sub.cons rfl (Sub.cons rfl (Sub.cons rfl (Sub.nil _)))))))) ?_ ?_
        · exact ⟨⟨Nat.zero_le _, by omega⟩, hM, hB⟩
        rintro j w2 ⟨⟨hj, hne⟩, hM, hB⟩
        try simp only at hM
        simp only [List.cons_append, List.nil_append]
        refine W.seqR ?_
        refine LS.vv rfl rfl (by decide) (Val.lss rfl rfl) ?_
        refine LS.nil ?_
        refine W.seq ?_
        first | refine W.condD rfl (fun hc4 => ?_) (fun hc4 => ?_) | refine W.cond rfl (fun hc4 => ?_) (fun hc4 => ?_)
        ·
          refine W.skip ?_
          refine thenP_normal ?_
          refine W.seq ?_
          refine W.block ?_
          refine W.seqR ?_
          have htl : (zs.take k).length = k := by rw [List.length_take]; omega
          have hgt : gz (zs.take k) j = gz zs j := by unfold gz; simp [List.getElem?_take, show j < k by omega]
          refine LS.vv rfl rfl (by decide) (Val.index1 Try.underlying34 elem3 rfl rfl (by omega) (((hr.below hB).take_iv (k := k))) (iv_lt (by omega))) ?_
          refine LS.m rfl (Step.load rfl rfl (by decide) flat3 rfl (((hr.below hB).take_iv (k := k))) (iv_at (by omega)) ?_)
          refine LS.vv rfl rfl (by decide) (Val.assign rfl) ?_
          refine LS.nil ?_
          refine W.seqR ?_
          refine LS.vv rfl rfl (by decide) (Val.move rfl) ?_
          refine LS.vv rfl rfl (by decide) (Val.move rfl) ?_
          refine LS.vv rfl rfl (by decide) (Val.eql rfl rfl) ?_
          refine LS.nil ?_
          first | refine W.condD rfl (fun hc5 => ?_) (fun hc5 => ?_) | refine W.cond rfl (fun hc5 => ?_) (fun hc5 => ?_)
          ·
            refine W.seqR ?_
            refine LS.vv rfl rfl (by decide) (Val.assign rfl) ?_
            refine LS.nil ?_
            refine W.ret ?_
            refine inBlk_ret ?_
            refine thenP_ret ?_
            refine thenP_ret ?_
            refine inBlk_ret ?_
            refine inBlk_ret ?_
            refine thenP_ret ?_
            refine thenP_ret ?_
            refine inBlk_ret ?_
            refine thenP_ret ?_
            refine ret1 (by first | exact .inl rfl | exact .inr rfl) rfl ?_
            first | (exact ⟨true, rfl, ⟨fun _ i hi => hall i (by omega), fun _ => rfl⟩, hB⟩) | (refine ⟨false, rfl, ⟨fun h => (by cases h), fun h => ?_⟩, hB⟩; have h1 := h k (by omega); omega) | (refine ⟨false, rfl, ⟨fun h => (by cases h), fun h => ?_⟩, hB⟩; have h1 := (h k (by omega)).2 j (by omega); omega)
          ·
            refine W.skip ?_
            refine inBlk_normal ?_
            refine thenP_normal ?_
            refine W.reg ?_
            first | refine LS.vv rfl rfl (by decide) (Val.addN (j := 1) rfl rfl (by omega)) ?_ | refine LS.vv rfl rfl (by decide) (Val.add64 rfl rfl (by omega)) ?_
            refine LS.vv rfl rfl (by decide) (Val.move rfl) ?_
            refine LS.nil ?_
            refine thenP_normal ?_
            have hnn : gz zs j ≠ gz zs k := by omega
            refine ⟨j + 1, ?_, ?_, ⟨⟨by omega, ?_⟩, hM, hB⟩, by omega⟩
            · exact (Sub.cons rfl (Sub.nil _))
            · repeat (first | exact Sub.nil _ | refine Sub.cons rfl ?_)
            · intro i hi
              by_cases e : i = j
              · subst e; exact hnn
              · exact hne i (by omega)
        ·
          refine W.exit ?_
          refine thenP_exit ?_
          refine thenP_exit ?_
          refine inBlk_exit ?_
          refine inBlk_normal ?_
          refine thenP_normal ?_
          refine W.reg ?_
          first | refine LS.vv rfl rfl (by decide) (Val.addN (j := 1) rfl rfl (by omega)) ?_ | refine LS.vv rfl rfl (by decide) (Val.add64 rfl rfl (by omega)) ?_
          refine LS.vv rfl rfl (by decide) (Val.move rfl) ?_
          refine LS.nil ?_
          refine thenP_normal ?_
          refine ⟨k + 1, ?_, ?_, ⟨⟨by omega, ?_⟩, hM, hB⟩, by omega⟩
          · exact (Sub.cons rfl (Sub.nil _))
          · repeat (first | exact Sub.nil _ | refine Sub.cons rfl ?_)
          · intro i hi
            by_cases e : i = k
            · subst e; exact ⟨by omega, fun j0 hj0 => hne j0 (by omega)⟩
            · exact hall i (by omega)
  ·
    refine W.exit ?_
    refine thenP_exit ?_
    refine thenP_exit ?_
    refine inBlk_exit ?_
    refine thenP_normal ?_
    refine W.seqR ?_
    refine LS.vv rfl rfl (by decide) (Val.assign rfl) ?_
    refine LS.nil ?_
    refine W.ret ?_
    refine ret1 (by first | exact .inl rfl | exact .inr rfl) rfl ?_
    first | (exact ⟨true, rfl, ⟨fun _ i hi => hall i (by omega), fun _ => rfl⟩, hB⟩) | (refine ⟨false, rfl, ⟨fun h => (by cases h), fun h => ?_⟩, hB⟩; have h1 := h k (by omega); omega) | (refine ⟨false, rfl, ⟨fun h => (by cases h), fun h => ?_⟩, hB⟩; have h1 := (h k (by omega)).2 j (by omega); omega)

theorem order_any (zs : List Int) (p : Option Addr) (c : Nat) (m : Nat) (w0 : World) (hr : Rd w0 p (iv zs)) (hm : zs.length = m) (hl : m ≤ 9223372036854775807) :
    CallsV Try.prog 20 #[.slice p m c] w0 (fun v w => ∃ r e : Nat, v = .tuple #[.int .i64 (r : Int), .int .i64 (e : Int)] ∧ (e = 0 ↔ m ≤ 8 ∧ OnceP zs) ∧ (e = 0 → r = ordTo (nats zs) m m) ∧ Below w0.heap.size w0 w) := by
  refine enter2 Try.func20 rfl Try.ntmps20 (by simp) rfl ?_
  have hB := Below.refl w0.heap.size w0
  simp only [argLoc]
  have hM := Mem.nil w0 w0.heap.size
  subst hm
  refine W.seqR ?_
  refine LS.vv rfl rfl (by decide) (Val.cast (v := .int .i64 ((0 : Nat) : Int)) (Val.assign rfl) rfl) ?_
  refine LS.vv rfl rfl (by decide) (Val.cast (v := .int .i64 ((0 : Nat) : Int)) (Val.assign rfl) rfl) ?_
  refine LS.nil ?_
  refine W.seqR ?_
  refine LS.vv rfl rfl (by decide) (Val.move rfl) ?_
  refine LS.vv rfl rfl (by decide) (Val.len Try.underlying34 rfl) ?_
  refine LS.vv rfl rfl (by decide) (Val.assign rfl) ?_
  refine LS.nil ?_
  refine W.seq ?_
  refine W.seqR ?_
  refine LS.vv rfl rfl (by decide) (Val.move rfl) ?_
  refine LS.vv rfl rfl (by decide) (Val.gtr rfl rfl) ?_
  refine LS.nil ?_
  first | refine W.condD rfl (fun hc1 => ?_) (fun hc1 => ?_) | refine W.cond rfl (fun hc1 => ?_) (fun hc1 => ?_)
  ·
    refine W.seqR ?_
    refine LS.vv rfl rfl (by decide) (Val.cast (v := .int .i64 ((0 : Nat) : Int)) (Val.assign rfl) rfl) ?_
    refine LS.vv rfl rfl (by decide) (Val.cast (v := .int .i64 ((1 : Nat) : Int)) (Val.assign rfl) rfl) ?_
    refine LS.nil ?_
    refine W.ret ?_
    refine thenP_ret ?_
    refine ret2 (by first | exact .inl rfl | exact .inr rfl) rfl rfl ?_
    first | (refine ⟨0, 1, rfl, ⟨fun h => by omega, fun h => by omega⟩, fun h => by omega, hB⟩; done) | (refine ⟨0, 3, rfl, ⟨fun h => by omega, fun h => ?_⟩, fun h => by omega, hB⟩; exfalso; have h1 := h.2 k (by omega); first | omega | (have hbt := ‹(seenTo (nats zs) k).testBit X = true›; rw [hbit, decide_eq_true_eq] at hbt; obtain ⟨j, hj, e⟩ := hbt; have h3 := (hall j hj).1; have h2 := nats_gn zs j h3.1; have h4 := h1.2 j hj; omega)) | (have hkn : k = zs.length := (by omega); subst hkn; exact ⟨_, 0, rfl, ⟨fun _ => ⟨by omega, hall⟩, fun _ => rfl⟩, fun _ => rfl, hB⟩)
  ·
    refine W.skip ?_
    refine thenP_normal ?_
    refine W.seqR ?_
    refine LS.vv rfl rfl (by decide) (Val.cast (v := .int .u32 ((0 : Nat) : Int)) (Val.assign rfl) rfl) ?_
    refine LS.nil ?_
    refine W.seqR ?_
    refine LS.vv rfl rfl (by decide) (Val.cast (v := .int .i64 ((0 : Nat) : Int)) (Val.assign rfl) rfl) ?_
    refine LS.nil ?_
    refine W.seq ?_
    refine W.seqR ?_
    refine LS.vv rfl rfl (by decide) (Val.move rfl) ?_
    refine LS.vv rfl rfl (by decide) (Val.len Try.underlying34 rfl) ?_
    refine LS.vv rfl rfl (by decide) (Val.cast (v := .int .i64 ((0 : Nat) : Int)) (Val.move rfl) rfl) ?_
    refine LS.nil ?_
    refine W.block ?_
    refine W.loop (α := Nat) (fun k => [(5, .int .u32 (seenTo (nats zs) k : Int)), (6, .int .i64 (ordTo (nats zs) zs.length k : Int)), (16, .int .i64 (k : Int))]) [(4, _), (14, _), (15, _)] (fun k w => (k ≤ zs.length ∧ ∀ i, i < k → (0 ≤ gz zs i ∧ gz zs i < zs.length) ∧ ∀ j, j < i → gz zs j ≠ gz zs i) ∧ Mem w w0.heap.size [] ∧ Below w0.heap.size w0 w) (fun k => zs.length - k) (0) (Sub.cons rfl (Sub.cons rfl (Sub.cons rfl (Sub.nil _)))) (Sub.cons rfl (Sub.cons rfl (Sub.cons rfl (Sub.nil _)))) ?_ ?_
    · exact ⟨⟨Nat.zero_le _, by omega⟩, hM, hB⟩
    rintro k w1 ⟨⟨hk, hall⟩, hM, hB⟩
    try simp only at hM
    simp only [List.cons_append, List.nil_append]
    refine W.seqR ?_
    refine LS.vv rfl rfl (by decide) (Val.lss rfl rfl) ?_
    refine LS.nil ?_
    refine W.seq ?_
    first | refine W.condD rfl (fun hc2 => ?_) (fun hc2 => ?_) | refine W.cond rfl (fun hc2 => ?_) (fun hc2 => ?_)
    ·
      refine W.skip ?_
      refine thenP_normal ?_
      refine W.seq ?_
      refine W.block ?_
      refine W.seqR ?_
      refine LS.vv rfl rfl (by decide) (Val.move rfl) ?_
      refine LS.vv rfl rfl (by decide) (Val.index1 Try.underlying34 elem3 rfl rfl (by omega) ((hr.below hB)) (iv_lt (by omega))) ?_
      refine LS.m rfl (Step.load rfl rfl (by decide) flat3 rfl ((hr.below hB)) (iv_at (by omega)) ?_)
      refine LS.vv rfl rfl (by decide) (Val.assign rfl) ?_
      refine LS.vv rfl rfl (by decide) (Val.assign rfl) ?_
      refine LS.nil ?_
      refine W.seq ?_
      refine W.seqR ?_
      refine LS.vv rfl rfl (by decide) (Val.move rfl) ?_
      refine LS.vv rfl rfl (by decide) (Val.lss rfl rfl) ?_
      refine LS.vv rfl rfl (by decide) (Val.move rfl) ?_
      refine LS.split 2 rfl (fun hg3 => ?_) (fun hg3 => ?_)
      ·
        first | (have hg3p := of_decide_eq_true hg3) | skip
        refine LS.s rfl rfl rfl hg3 (by decide) ?_
        refine LS.s rfl rfl rfl hg3 (by decide) ?_
        refine LS.s rfl rfl rfl hg3 (by decide) ?_
        refine LS.vv rfl rfl (by decide) (Val.pickT rfl hg3 rfl) ?_
        refine LS.vv rfl rfl (by decide) (Val.move rfl) ?_
        refine LS.s rfl rfl rfl rfl (by decide) ?_
        refine LS.s rfl rfl rfl rfl (by decide) ?_
        refine LS.s rfl rfl rfl rfl (by decide) ?_
        refine LS.s rfl rfl rfl rfl (by decide) ?_
        refine LS.s rfl rfl rfl rfl (by decide) ?_
        refine LS.vv rfl rfl (by decide) (Val.pickT rfl rfl rfl) ?_
        refine LS.nil ?_
        refine W.condT rfl ?_
        refine W.seqR ?_
        refine LS.vv rfl rfl (by decide) (Val.cast (v := .int .i64 ((0 : Nat) : Int)) (Val.assign rfl) rfl) ?_
        refine LS.vv rfl rfl (by decide) (Val.cast (v := .int .i64 ((3 : Nat) : Int)) (Val.assign rfl) rfl) ?_
        refine LS.nil ?_
        refine W.ret ?_
        refine thenP_ret ?_
        refine inBlk_ret ?_
        refine thenP_ret ?_
        refine thenP_ret ?_
        refine inBlk_ret ?_
        refine thenP_ret ?_
        refine ret2 (by first | exact .inl rfl | exact .inr rfl) rfl rfl ?_
        first | (refine ⟨0, 1, rfl, ⟨fun h => by omega, fun h => by omega⟩, fun h => by omega, hB⟩; done) | (refine ⟨0, 3, rfl, ⟨fun h => by omega, fun h => ?_⟩, fun h => by omega, hB⟩; exfalso; have h1 := h.2 k (by omega); first | omega | (have hbt := ‹(seenTo (nats zs) k).testBit X = true›; rw [hbit, decide_eq_true_eq] at hbt; obtain ⟨j, hj, e⟩ := hbt; have h3 := (hall j hj).1; have h2 := nats_gn zs j h3.1; have h4 := h1.2 j hj; omega)) | (have hkn : k = zs.length := (by omega); subst hkn; exact ⟨_, 0, rfl, ⟨fun _ => ⟨by omega, hall⟩, fun _ => rfl⟩, fun _ => rfl, hB⟩)
      ·
        first | (have hg3p := of_decide_eq_false hg3) | skip
        refine LS.vg rfl rfl rfl hg3 (by decide) (Val.move rfl) ?_
        refine LS.vg rfl rfl rfl hg3 (by decide) (Val.move rfl) ?_
        refine LS.vg rfl rfl rfl hg3 (by decide) (Val.geq rfl rfl) ?_
        refine LS.vv rfl rfl (by decide) (Val.pickF rfl hg3 rfl) ?_
        refine LS.vv rfl rfl (by decide) (Val.move rfl) ?_
        refine LS.split 7 rfl (fun hg4 => ?_) (fun hg4 => ?_)
        ·
          first | (have hg4p := of_decide_eq_true hg4) | skip
          refine LS.s rfl rfl rfl hg4 (by decide) ?_
          refine LS.s rfl rfl rfl hg4 (by decide) ?_
          refine LS.s rfl rfl rfl hg4 (by decide) ?_
          refine LS.s rfl rfl rfl hg4 (by decide) ?_
          refine LS.s rfl rfl rfl hg4 (by decide) ?_
          refine LS.vv rfl rfl (by decide) (Val.pickT rfl hg4 rfl) ?_
          refine LS.nil ?_
          refine W.condT rfl ?_
          refine W.seqR ?_
          refine LS.vv rfl rfl (by decide) (Val.cast (v := .int .i64 ((0 : Nat) : Int)) (Val.assign rfl) rfl) ?_
          refine LS.vv rfl rfl (by decide) (Val.cast (v := .int .i64 ((3 : Nat) : Int)) (Val.assign rfl) rfl) ?_
          refine LS.nil ?_
          refine W.ret ?_
          refine thenP_ret ?_
          refine inBlk_ret ?_
          refine thenP_ret ?_
          refine thenP_ret ?_
          refine inBlk_ret ?_
          refine thenP_ret ?_
          refine ret2 (by first | exact .inl rfl | exact .inr rfl) rfl rfl ?_
          first | (refine ⟨0, 1, rfl, ⟨fun h => by omega, fun h => by omega⟩, fun h => by omega, hB⟩; done) | (refine ⟨0, 3, rfl, ⟨fun h => by omega, fun h => ?_⟩, fun h => by omega, hB⟩; exfalso; have h1 := h.2 k (by omega); first | omega | (have hbt := ‹(seenTo (nats zs) k).testBit X = true›; rw [hbit, decide_eq_true_eq] at hbt; obtain ⟨j, hj, e⟩ := hbt; have h3 := (hall j hj).1; have h2 := nats_gn zs j h3.1; have h4 := h1.2 j hj; omega)) | (have hkn : k = zs.length := (by omega); subst hkn; exact ⟨_, 0, rfl, ⟨fun _ => ⟨by omega, hall⟩, fun _ => rfl⟩, fun _ => rfl, hB⟩)
        ·
          first | (have hg4p := of_decide_eq_false hg4) | skip
          refine LS.vg rfl rfl rfl hg4 (by decide) (Val.move rfl) ?_
          refine LS.vg rfl rfl rfl hg4 (by decide) (Val.move rfl) ?_
          have hx0 : 0 ≤ gz zs k ∧ gz zs k < zs.length := by omega
          have hgx := nats_gn zs k hx0.1
          generalize hX : gn (nats zs) k = X at hgx
          have hX8 : X < 8 := by omega
          have hsl2 := seenTo_lt (nats zs) 8 k (fun j hj => by have h1 := (hall j hj).1; have h2 := nats_gn zs j h1.1; omega)
          have hsr : seenTo (nats zs) k >>> X ≤ seenTo (nats zs) k := Nat.shiftRight_le _ _
          have hbit := seenTo_bit (nats zs) X k
          refine LS.vg rfl rfl rfl hg4 (by decide) (Val.shr (i := seenTo (nats zs) k) (j := X) rfl (by rw [hgx]; rfl) (by simp only [IntKind.bits]; omega)) ?_
          refine LS.vg rfl rfl rfl hg4 (by decide) (Val.andU32 (j := 1) rfl rfl (by omega) (by omega)) ?_
          refine LS.vg rfl rfl rfl hg4 (by decide) (Val.cast (v := .bool ((seenTo (nats zs) k).testBit X)) (Val.eql rfl rfl) (by exact congrArg Value.bool (bit_eq _ X))) ?_
          refine LS.vv rfl rfl (by decide) (Val.pickF rfl hg4 rfl) ?_
          refine LS.nil ?_
          first | refine W.condD rfl (fun hc5 => ?_) (fun hc5 => ?_) | refine W.cond rfl (fun hc5 => ?_) (fun hc5 => ?_)
          ·
            refine W.seqR ?_
            refine LS.vv rfl rfl (by decide) (Val.cast (v := .int .i64 ((0 : Nat) : Int)) (Val.assign rfl) rfl) ?_
            refine LS.vv rfl rfl (by decide) (Val.cast (v := .int .i64 ((3 : Nat) : Int)) (Val.assign rfl) rfl) ?_
            refine LS.nil ?_
            refine W.ret ?_
            refine thenP_ret ?_
            refine inBlk_ret ?_
            refine thenP_ret ?_
            refine thenP_ret ?_
            refine inBlk_ret ?_
            refine thenP_ret ?_
            refine ret2 (by first | exact .inl rfl | exact .inr rfl) rfl rfl ?_
            first | (refine ⟨0, 1, rfl, ⟨fun h => by omega, fun h => by omega⟩, fun h => by omega, hB⟩; done) | (refine ⟨0, 3, rfl, ⟨fun h => by omega, fun h => ?_⟩, fun h => by omega, hB⟩; exfalso; have h1 := h.2 k (by omega); first | omega | (have hbt := ‹(seenTo (nats zs) k).testBit X = true›; rw [hbit, decide_eq_true_eq] at hbt; obtain ⟨j, hj, e⟩ := hbt; have h3 := (hall j hj).1; have h2 := nats_gn zs j h3.1; have h4 := h1.2 j hj; omega)) | (have hkn : k = zs.length := (by omega); subst hkn; exact ⟨_, 0, rfl, ⟨fun _ => ⟨by omega, hall⟩, fun _ => rfl⟩, fun _ => rfl, hB⟩)
          ·
            rw [← hgx]
            refine W.skip ?_
            refine thenP_normal ?_
            refine W.seqR ?_
            refine LS.vv rfl rfl (by decide) (Val.move rfl) ?_
            refine LS.vv rfl rfl (by decide) (Val.move rfl) ?_
            refine LS.vv rfl rfl (by decide) (Val.move rfl) ?_
            have hsx : 1 <<< X ≤ 4294967295 := shl_one_lt (by omega)
            have hs1 : 1 ≤ 1 <<< X := by rw [Nat.shiftLeft_eq, Nat.one_mul]; exact Nat.two_pow_pos X
            have hlp := less_pop (nats zs) k (by omega)
            rw [hX] at hlp
            have hand : seenTo (nats zs) k &&& (1 <<< X - 1) < 2 ^ 8 := by rw [Nat.and_comm]; exact Nat.and_lt_two_pow _ (by omega)
            have hla : lessAt (nats zs) k = X - popc (seenTo (nats zs) k &&& (1 <<< X - 1)) := by rw [lessAt, hX]
            have hol := ordTo_le (nats zs) zs.length (by omega) k (fun j hj => by have h1 := (hall j hj).1; have h2 := nats_gn zs j h1.1; omega)
            have hfl := fct_le (k := zs.length - 1 - k) (by omega)
            have hmul : (X - popc (seenTo (nats zs) k &&& (1 <<< X - 1))) * fct (zs.length - 1 - k) ≤ 8 * 40320 := Nat.mul_le_mul (by omega) hfl
            refine LS.vv rfl rfl (by decide) (Val.shlU32 (i := 1) rfl rfl (by omega) (by omega)) ?_
            first | refine LS.vv rfl rfl (by decide) (Val.subNU32 (j := 1) rfl rfl (by omega) (by omega)) ?_ | refine LS.vv rfl rfl (by decide) (Val.subU32 rfl rfl (by omega)) ?_
            refine LS.vv rfl rfl (by decide) (Val.andU32 rfl rfl (by omega) (by omega)) ?_
            refine LS.m rfl (Step.call body32 rfl rfl (by decide) rfl (CallsV.mono (ones32_any (seenTo (nats zs) k &&& (1 <<< X - 1)) _ (by omega)) ?_))
            rintro _ w2 ⟨rfl, hb2⟩
            replace hM := hM.below hb2
            replace hB := hB.trans (hb2.mono hB.size)
            first | refine LS.vv rfl rfl (by decide) (Val.subN rfl rfl (by omega) (by omega)) ?_ | refine LS.vv rfl rfl (by decide) (Val.sub64 rfl rfl (by omega)) ?_
            refine LS.vv rfl rfl (by decide) (Val.assign rfl) ?_
            refine LS.nil ?_
            refine W.seqR ?_
            refine LS.vv rfl rfl (by decide) (Val.move rfl) ?_
            refine LS.vv rfl rfl (by decide) (Val.move rfl) ?_
            refine LS.vv rfl rfl (by decide) (Val.move rfl) ?_
            first | refine LS.vv rfl rfl (by decide) (Val.subN (j := 1) rfl rfl (by omega) (by omega)) ?_ | refine LS.vv rfl rfl (by decide) (Val.sub64 rfl rfl (by omega)) ?_
            refine LS.vv rfl rfl (by decide) (Val.move rfl) ?_
            first | refine LS.vv rfl rfl (by decide) (Val.subN rfl rfl (by omega) (by omega)) ?_ | refine LS.vv rfl rfl (by decide) (Val.sub64 rfl rfl (by omega)) ?_
            refine LS.m rfl (Step.call body35 rfl rfl (by decide) rfl (CallsV.mono (lists_any (zs.length - 1 - k) _ (by omega)) ?_))
            rintro _ w3 ⟨rfl, hb3⟩
            replace hM := hM.below hb3
            replace hB := hB.trans (hb3.mono hB.size)
            first | refine LS.vv rfl rfl (by decide) (Val.mulN rfl rfl (by omega)) ?_ | refine LS.vv rfl rfl (by decide) (Val.mul64 rfl rfl (by omega)) ?_
            first | refine LS.vv rfl rfl (by decide) (Val.addN rfl rfl (by omega)) ?_ | refine LS.vv rfl rfl (by decide) (Val.add64 rfl rfl (by omega)) ?_
            refine LS.vv rfl rfl (by decide) (Val.assign rfl) ?_
            refine LS.nil ?_
            refine W.reg ?_
            refine LS.vv rfl rfl (by decide) (Val.move rfl) ?_
            refine LS.vv rfl rfl (by decide) (Val.move rfl) ?_
            refine LS.vv rfl rfl (by decide) (Val.shlU32 (i := 1) rfl rfl (by omega) (by omega)) ?_
            refine LS.vv rfl rfl (by decide) (Val.orU32 rfl rfl (by omega) (by omega)) ?_
            refine LS.vv rfl rfl (by decide) (Val.assign rfl) ?_
            refine LS.nil ?_
            refine inBlk_normal ?_
            refine thenP_normal ?_
            refine W.reg ?_
            first | refine LS.vv rfl rfl (by decide) (Val.addN (j := 1) rfl rfl (by omega)) ?_ | refine LS.vv rfl rfl (by decide) (Val.add64 rfl rfl (by omega)) ?_
            refine LS.vv rfl rfl (by decide) (Val.move rfl) ?_
            refine LS.nil ?_
            refine thenP_normal ?_
            have hbf : (seenTo (nats zs) k).testBit X = false := by simpa using ‹(seenTo (nats zs) k).testBit X = false›
            rw [hbit, decide_eq_false_iff_not] at hbf
            refine ⟨k + 1, ?_, ?_, ⟨⟨by omega, ?_⟩, hM, hB⟩, by omega⟩
            · exact Sub.cons' rfl (by rw [seenTo_succ, hX]) (Sub.cons' rfl (by rw [ordTo_succ, hla]) (Sub.cons rfl (Sub.nil _)))
            · repeat (first | exact Sub.nil _ | refine Sub.cons rfl ?_)
            · intro i hi
              by_cases e : i = k
              · subst e; exact ⟨hx0, fun j0 hj0 e0 => hbf ⟨j0, hj0, by have h1 := (hall j0 hj0).1; have h2 := nats_gn zs j0 h1.1; omega⟩⟩
              · exact hall i (by omega)
    ·
      refine W.exit ?_
      refine thenP_exit ?_
      refine thenP_exit ?_
      refine inBlk_exit ?_
      refine thenP_normal ?_
      refine W.seqR ?_
      refine LS.vv rfl rfl (by decide) (Val.move rfl) ?_
      refine LS.vv rfl rfl (by decide) (Val.assign rfl) ?_
      refine LS.vv rfl rfl (by decide) (Val.cast (v := .int .i64 ((0 : Nat) : Int)) (Val.assign rfl) rfl) ?_
      refine LS.nil ?_
      refine W.ret ?_
      refine ret2 (by first | exact .inl rfl | exact .inr rfl) rfl rfl ?_
      first | (refine ⟨0, 1, rfl, ⟨fun h => by omega, fun h => by omega⟩, fun h => by omega, hB⟩; done) | (refine ⟨0, 3, rfl, ⟨fun h => by omega, fun h => ?_⟩, fun h => by omega, hB⟩; exfalso; have h1 := h.2 k (by omega); first | omega | (have hbt := ‹(seenTo (nats zs) k).testBit X = true›; rw [hbit, decide_eq_true_eq] at hbt; obtain ⟨j, hj, e⟩ := hbt; have h3 := (hall j hj).1; have h2 := nats_gn zs j h3.1; have h4 := h1.2 j hj; omega)) | (have hkn : k = zs.length := (by omega); subst hkn; exact ⟨_, 0, rfl, ⟨fun _ => ⟨by omega, hall⟩, fun _ => rfl⟩, fun _ => rfl, hB⟩)

theorem list_any (n i : Int) (w0 : World) (hi : i ≤ 9223372036854775807) :
    CallsV Try.prog 21 #[.int .i64 n, .int .i64 i] w0 (fun v w => ∃ (p2 : Option Addr) (c2 : Nat) (L : List Nat) (e : Nat), v = .tuple #[.slice p2 L.length c2, .int .i64 (e : Int)] ∧ Own w w0.heap.size 3 p2 L.length c2 (nv L) ∧ (e = 0 ↔ (0 ≤ n ∧ n ≤ 8) ∧ 0 ≤ i ∧ i < (fct n.toNat : Int)) ∧ (e = 0 → L = unr n.toNat (List.range n.toNat) i.toNat) ∧ (e ≠ 0 → L = []) ∧ Below w0.heap.size w0 w) := by
  refine enter2 Try.func21 rfl Try.ntmps21 (by simp) rfl ?_
  have hB := Below.refl w0.heap.size w0
  simp only [argLoc, Nat.zero_add]
  have hM := Mem.nil w0 w0.heap.size
  refine W.seqR ?_
  refine LS.vv rfl rfl (by decide) (Val.assign rfl) ?_
  refine LS.vv rfl rfl (by decide) (Val.cast (v := .int .i64 ((0 : Nat) : Int)) (Val.assign rfl) rfl) ?_
  refine LS.nil ?_
  refine W.seq ?_
  refine W.seqR ?_
  refine LS.vv rfl rfl (by decide) (Val.move rfl) ?_
  refine LS.vv rfl rfl (by decide) (Val.lss rfl rfl) ?_
  refine LS.vv rfl rfl (by decide) (Val.move rfl) ?_
  refine LS.split 2 rfl (fun hg1 => ?_) (fun hg1 => ?_)
  ·
    first | (have hg1p := of_decide_eq_true hg1) | skip
    refine LS.s rfl rfl rfl hg1 (by decide) ?_
    refine LS.s rfl rfl rfl hg1 (by decide) ?_
    refine LS.vv rfl rfl (by decide) (Val.pickT rfl hg1 rfl) ?_
    refine LS.nil ?_
    refine W.condT rfl ?_
    refine W.seqR ?_
    refine LS.vv rfl rfl (by decide) (Val.assign rfl) ?_
    refine LS.vv rfl rfl (by decide) (Val.cast (v := .int .i64 ((1 : Nat) : Int)) (Val.assign rfl) rfl) ?_
    refine LS.nil ?_
    refine W.ret ?_
    refine thenP_ret ?_
    refine ret2 (by first | exact .inl rfl | exact .inr rfl) rfl rfl ?_
    first | (refine ⟨none, 0, [], 1, rfl, Own.nil _ _ _, ⟨fun h => by omega, fun h => by omega⟩, fun h => by omega, fun _ => rfl, hB⟩; done) | (refine ⟨none, 0, [], 5, rfl, Own.nil _ _ _, ⟨fun h => by omega, fun h => by omega⟩, fun h => by omega, fun _ => rfl, hB⟩; done) | (have hkN : k = N := (by omega); subst hkN; have hul := (uTo_spec hI k (Nat.le_refl _)).2.1; exact ⟨po, co, (uTo k I k).out, 0, by rw [hul], by rw [hul]; exact hM.o0, ⟨fun _ => by omega, fun _ => rfl⟩, fun _ => by rw [uTo_end hI]; simp, fun h => absurd rfl h, hB⟩)
  ·
    first | (have hg1p := of_decide_eq_false hg1) | skip
    refine LS.vg rfl rfl rfl hg1 (by decide) (Val.move rfl) ?_
    refine LS.vg rfl rfl rfl hg1 (by decide) (Val.gtr rfl rfl) ?_
    refine LS.vv rfl rfl (by decide) (Val.pickF rfl hg1 rfl) ?_
    refine LS.nil ?_
    first | refine W.condD rfl (fun hc2 => ?_) (fun hc2 => ?_) | refine W.cond rfl (fun hc2 => ?_) (fun hc2 => ?_)
    ·
      refine W.seqR ?_
      refine LS.vv rfl rfl (by decide) (Val.assign rfl) ?_
      refine LS.vv rfl rfl (by decide) (Val.cast (v := .int .i64 ((1 : Nat) : Int)) (Val.assign rfl) rfl) ?_
      refine LS.nil ?_
      refine W.ret ?_
      refine thenP_ret ?_
      refine ret2 (by first | exact .inl rfl | exact .inr rfl) rfl rfl ?_
      first | (refine ⟨none, 0, [], 1, rfl, Own.nil _ _ _, ⟨fun h => by omega, fun h => by omega⟩, fun h => by omega, fun _ => rfl, hB⟩; done) | (refine ⟨none, 0, [], 5, rfl, Own.nil _ _ _, ⟨fun h => by omega, fun h => by omega⟩, fun h => by omega, fun _ => rfl, hB⟩; done) | (have hkN : k = N := (by omega); subst hkN; have hul := (uTo_spec hI k (Nat.le_refl _)).2.1; exact ⟨po, co, (uTo k I k).out, 0, by rw [hul], by rw [hul]; exact hM.o0, ⟨fun _ => by omega, fun _ => rfl⟩, fun _ => by rw [uTo_end hI]; simp, fun h => absurd rfl h, hB⟩)
    ·
      obtain ⟨N, rfl⟩ := Int.eq_ofNat_of_zero_le (show 0 ≤ n by omega)
      have hN : N ≤ 8 := by omega
      have htn : (N : Int).toNat = N := Int.toNat_natCast N
      rw [htn]
      refine W.skip ?_
      refine thenP_normal ?_
      refine W.seq ?_
      refine W.seqR ?_
      refine LS.vv rfl rfl (by decide) (Val.move rfl) ?_
      refine LS.vv rfl rfl (by decide) (Val.lss rfl rfl) ?_
      refine LS.vv rfl rfl (by decide) (Val.move rfl) ?_
      refine LS.split 2 rfl (fun hg3 => ?_) (fun hg3 => ?_)
      ·
        first | (have hg3p := of_decide_eq_true hg3) | skip
        refine LS.s rfl rfl rfl hg3 (by decide) ?_
        refine LS.s rfl rfl rfl hg3 (by decide) ?_
        refine LS.s rfl rfl rfl hg3 (by decide) ?_
        refine LS.s rfl rfl rfl hg3 (by decide) ?_
        refine LS.vv rfl rfl (by decide) (Val.pickT rfl hg3 rfl) ?_
        refine LS.nil ?_
        refine W.condT rfl ?_
        refine W.seqR ?_
        refine LS.vv rfl rfl (by decide) (Val.assign rfl) ?_
        refine LS.vv rfl rfl (by decide) (Val.cast (v := .int .i64 ((5 : Nat) : Int)) (Val.assign rfl) rfl) ?_
        refine LS.nil ?_
        refine W.ret ?_
        refine thenP_ret ?_
        refine ret2 (by first | exact .inl rfl | exact .inr rfl) rfl rfl ?_
        first | (refine ⟨none, 0, [], 1, rfl, Own.nil _ _ _, ⟨fun h => by omega, fun h => by omega⟩, fun h => by omega, fun _ => rfl, hB⟩; done) | (refine ⟨none, 0, [], 5, rfl, Own.nil _ _ _, ⟨fun h => by omega, fun h => by omega⟩, fun h => by omega, fun _ => rfl, hB⟩; done) | (have hkN : k = N := (by omega); subst hkN; have hul := (uTo_spec hI k (Nat.le_refl _)).2.1; exact ⟨po, co, (uTo k I k).out, 0, by rw [hul], by rw [hul]; exact hM.o0, ⟨fun _ => by omega, fun _ => rfl⟩, fun _ => by rw [uTo_end hI]; simp, fun h => absurd rfl h, hB⟩)
      ·
        first | (have hg3p := of_decide_eq_false hg3) | skip
        refine LS.vg rfl rfl rfl hg3 (by decide) (Val.move rfl) ?_
        refine LS.vg rfl rfl rfl hg3 (by decide) (Val.move rfl) ?_
        refine LS.mg rfl rfl hg3 (Step.call body35 rfl rfl (by decide) rfl (CallsV.mono (lists_any N _ hN) ?_))
        rintro _ w1 ⟨rfl, hb1⟩
        replace hM := hM.below hb1
        replace hB := hB.trans (hb1.mono hB.size)
        refine LS.vg rfl rfl rfl hg3 (by decide) (Val.geq rfl rfl) ?_
        refine LS.vv rfl rfl (by decide) (Val.pickF rfl hg3 rfl) ?_
        refine LS.nil ?_
        first | refine W.condD rfl (fun hc4 => ?_) (fun hc4 => ?_) | refine W.cond rfl (fun hc4 => ?_) (fun hc4 => ?_)
        ·
          refine W.seqR ?_
          refine LS.vv rfl rfl (by decide) (Val.assign rfl) ?_
          refine LS.vv rfl rfl (by decide) (Val.cast (v := .int .i64 ((5 : Nat) : Int)) (Val.assign rfl) rfl) ?_
          refine LS.nil ?_
          refine W.ret ?_
          refine thenP_ret ?_
          refine ret2 (by first | exact .inl rfl | exact .inr rfl) rfl rfl ?_
          first | (refine ⟨none, 0, [], 1, rfl, Own.nil _ _ _, ⟨fun h => by omega, fun h => by omega⟩, fun h => by omega, fun _ => rfl, hB⟩; done) | (refine ⟨none, 0, [], 5, rfl, Own.nil _ _ _, ⟨fun h => by omega, fun h => by omega⟩, fun h => by omega, fun _ => rfl, hB⟩; done) | (have hkN : k = N := (by omega); subst hkN; have hul := (uTo_spec hI k (Nat.le_refl _)).2.1; exact ⟨po, co, (uTo k I k).out, 0, by rw [hul], by rw [hul]; exact hM.o0, ⟨fun _ => by omega, fun _ => rfl⟩, fun _ => by rw [uTo_end hI]; simp, fun h => absurd rfl h, hB⟩)
        ·
          obtain ⟨I, rfl⟩ := Int.eq_ofNat_of_zero_le (show 0 ≤ i by omega)
          have hI : I < fct N := by omega
          have hfN := fct_le hN
          refine W.skip ?_
          refine thenP_normal ?_
          refine W.seqR ?_
          refine LS.vv rfl rfl (by decide) (Val.assign rfl) ?_
          refine LS.vv rfl rfl (by decide) (Val.assign rfl) ?_
          refine LS.nil ?_
          refine W.seq ?_
          refine W.seqR ?_
          refine LS.vv rfl rfl (by decide) (Val.move rfl) ?_
          refine LS.vv rfl rfl (by decide) (Val.cast (v := .int .i64 ((0 : Nat) : Int)) (Val.move rfl) rfl) ?_
          refine LS.nil ?_
          refine W.block ?_
          replace hM := hM.addNil 3
          refine W.loop (α := Nat × Option Addr × Nat) (fun g => [(6, .slice g.2.1 g.1 g.2.2), (27, .int .i64 (g.1 : Int))]) [(0, _), (1, _), (7, _), (26, _)] (fun g w => (g.1 ≤ N) ∧ Mem w w0.heap.size [⟨3, g.2.1, g.1, g.2.2, nv (List.range g.1)⟩] ∧ Below w0.heap.size w0 w) (fun g => N - g.1) ((0, none, 0)) (Sub.cons rfl (Sub.cons rfl (Sub.nil _))) (Sub.cons rfl (Sub.cons rfl (Sub.cons rfl (Sub.cons rfl (Sub.nil _))))) ?_ ?_
          · exact ⟨Nat.zero_le _, hM, hB⟩
          rintro ⟨k, p1, c1⟩ w2 ⟨hk, hM, hB⟩
          try simp only at hM
          simp only [List.cons_append, List.nil_append]
          simp only at hk
          refine W.seqR ?_
          refine LS.vv rfl rfl (by decide) (Val.lss rfl rfl) ?_
          refine LS.nil ?_
          refine W.seq ?_
          first | refine W.condD rfl (fun hc5 => ?_) (fun hc5 => ?_) | refine W.cond rfl (fun hc5 => ?_) (fun hc5 => ?_)
          ·
            refine W.skip ?_
            refine thenP_normal ?_
            refine W.seq ?_
            refine W.block ?_
            refine W.seqR ?_
            refine LS.vv rfl rfl (by decide) (Val.move rfl) ?_
            refine LS.vv rfl rfl (by decide) (Val.assign rfl) ?_
            refine LS.nil ?_
            refine W.reg ?_
            refine LS.vv rfl rfl (by decide) (Val.move rfl) ?_
            refine LS.vv rfl rfl (by decide) (Val.move rfl) ?_
            refine LS.m rfl (Step.lit rfl rfl (by decide) Try.underlying34 elem3 rfl rfl (by omega) (by simp [Value.oneCell']) (Nat.le_refl _) ?_)
            rintro w3 hO3 hg3 hbl3 hsz3
            replace hM := hM.add hB.size hbl3 hO3
            try simp only [nv_app1, nv_app, nv_set, nv_rep, nv_one, nv_cons, nv_take, nv_drop, List.nil_append, Nat.zero_add] at hM
            replace hB := hB.trans (hbl3.mono hB.size)
            generalize w2.heap.size = gg3 at *
            refine LS.m rfl (Step.append2 (B := w0.heap.size) rfl rfl (by decide) Try.underlying34 elem3 rfl rfl rfl rfl (hM.o1) (hM.o0.rd) (by first | rfl | (simp; done) | (simp; omega)) (by first | exact one_map _ (fun _ => rfl) _ | simp [Value.oneCell']) (by omega) (by omega) hB.size ?_)
            rintro p4 c4 w4 hO4 hg4 hbl4 hbk4
            replace hM := hM.s1 hg4 hO4 hbk4
            replace hM := hM.tail
            try simp only [nv_app1, nv_app, nv_set, nv_rep, nv_one, nv_cons, nv_take, nv_drop, List.nil_append, Nat.zero_add] at hM
            replace hB := hB.trans hbl4
            refine LS.vv rfl rfl (by decide) (Val.assign rfl) ?_
            refine LS.nil ?_
            refine inBlk_normal ?_
            refine thenP_normal ?_
            refine W.reg ?_
            first | refine LS.vv rfl rfl (by decide) (Val.addN (j := 1) rfl rfl (by omega)) ?_ | refine LS.vv rfl rfl (by decide) (Val.add64 rfl rfl (by omega)) ?_
            refine LS.vv rfl rfl (by decide) (Val.move rfl) ?_
            refine LS.nil ?_
            refine thenP_normal ?_
            refine ⟨(k + 1, p4, c4), ?_, ?_, ⟨by simp only; omega, ?_, hB⟩, by simp only; omega⟩
            · exact (Sub.cons rfl (Sub.cons rfl (Sub.nil _)))
            · repeat (first | exact Sub.nil _ | refine Sub.cons rfl ?_)
            · rw [List.range_succ]; exact hM
          ·
            refine W.exit ?_
            refine thenP_exit ?_
            refine thenP_exit ?_
            refine inBlk_exit ?_
            refine thenP_normal ?_
            refine W.seq ?_
            refine W.seqR ?_
            refine LS.vv rfl rfl (by decide) (Val.move rfl) ?_
            refine LS.vv rfl rfl (by decide) (Val.cast (v := .int .i64 ((0 : Nat) : Int)) (Val.move rfl) rfl) ?_
            refine LS.nil ?_
            refine W.block ?_
            refine W.loop (α := Nat × (Option Addr × Nat) × (Option Addr × Nat)) (fun g => [(1, .int .i64 ((uTo N I g.1).i : Int)), (6, .slice g.2.1.1 (N - g.1) g.2.1.2), (7, .slice g.2.2.1 g.1 g.2.2.2), (36, .int .i64 (g.1 : Int))]) [(0, _), (35, _)] (fun g w => (g.1 ≤ N ∧ Rd w g.2.1.1 (nv (uTo N I g.1).left) ∧ N - g.1 ≤ g.2.1.2 ∧ (∀ b off, g.2.1.1 = some ⟨b, off, none⟩ → b < w.heap.size) ∧ (∀ b off b', g.2.1.1 = some ⟨b, off, none⟩ → g.2.2.1 = some ⟨b', 0, none⟩ → b ≠ b') ∧ (g.2.1.1 = none → N - g.1 = 0)) ∧ Mem w w0.heap.size [⟨3, g.2.2.1, g.1, g.2.2.2, nv (uTo N I g.1).out⟩] ∧ Below w0.heap.size w0 w) (fun g => N - g.1) ((0, (p1, c1), (none, 0))) (Sub.cons rfl (Sub.cons' rfl (by rw [Nat.sub_zero, show k = N by omega]) (Sub.cons rfl (Sub.cons rfl (Sub.nil _))))) (Sub.cons rfl (Sub.cons rfl (Sub.nil _))) ?_ ?_
            · (have hkN : k = N := (by omega); subst hkN; have hO := hM.o0; have hz := hO.length; refine ⟨⟨Nat.zero_le _, hO.rd, hO.le_cap, fun b off h => (hO.block h).2, fun b off b' _ h => (by cases h), fun h => ?_⟩, hM.tail.addNil 3, hB⟩; have h1 : p1 = none := h; subst h1; rw [hO.rd.none_nil] at hz; exact hz.symm)
            rintro ⟨k, ⟨pl, cl⟩, ⟨po, co⟩⟩ w5 ⟨⟨hk, hL, hcl, hlt, hne, hpn⟩, hM, hB⟩
            try simp only at hM
            simp only [List.cons_append, List.nil_append]
            simp only at hk hL hcl hlt hne hpn
            refine W.seqR ?_
            refine LS.vv rfl rfl (by decide) (Val.lss rfl rfl) ?_
            refine LS.nil ?_
            refine W.seq ?_
            first | refine W.condD rfl (fun hc6 => ?_) (fun hc6 => ?_) | refine W.cond rfl (fun hc6 => ?_) (fun hc6 => ?_)
            ·
              refine W.skip ?_
              refine thenP_normal ?_
              refine W.seq ?_
              refine W.block ?_
              refine W.seqR ?_
              refine LS.vv rfl rfl (by decide) (Val.move rfl) ?_
              refine LS.vv rfl rfl (by decide) (Val.assign rfl) ?_
              refine LS.nil ?_
              refine W.seqR ?_
              refine LS.vv rfl rfl (by decide) (Val.move rfl) ?_
              first | refine LS.vv rfl rfl (by decide) (Val.subN (j := 1) rfl rfl (by omega) (by omega)) ?_ | refine LS.vv rfl rfl (by decide) (Val.sub64 rfl rfl (by omega)) ?_
              refine LS.vv rfl rfl (by decide) (Val.move rfl) ?_
              first | refine LS.vv rfl rfl (by decide) (Val.subN rfl rfl (by omega) (by omega)) ?_ | refine LS.vv rfl rfl (by decide) (Val.sub64 rfl rfl (by omega)) ?_
              have hkN : k < N := by omega
              obtain ⟨u1, u2, u3, u4⟩ := uTo_spec hI k hk
              have hat := uTo_at hI hkN
              have hus := uTo_succ N I k
              unfold ustep at hus
              have hf1 := fct_pos (N - 1 - k)
              have hf2 := fct_le (k := N - 1 - k) (by omega)
              have hui : (uTo N I k).i < 40321 := Nat.lt_of_lt_of_le u3 (by have := fct_le (k := N - k) (by omega); omega)
              refine LS.m rfl (Step.call body35 rfl rfl (by decide) rfl (CallsV.mono (lists_any (N - 1 - k) _ (by omega)) ?_))
              rintro _ w6 ⟨rfl, hb6⟩
              replace hM := hM.below hb6
              replace hB := hB.trans (hb6.mono hB.size)
              replace hL := hL.below hb6
              replace hlt := fun b off hb => Nat.lt_of_lt_of_le (hlt b off hb) hb6.size
              generalize hA : (uTo N I k).i / fct (N - 1 - k) = A at *
              refine LS.vv rfl rfl (by decide) (Val.assign rfl) ?_
              refine LS.nil ?_
              refine W.seqR ?_
              refine LS.vv rfl rfl (by decide) (Val.move rfl) ?_
              refine LS.vv rfl rfl (by decide) (Val.move rfl) ?_
              first | refine LS.vv rfl rfl (by decide) (Val.cast (v := .int .i64 (A : Int)) (Val.quoN rfl rfl (by omega) (by omega)) (by rw [hA])) ?_ | refine LS.vv rfl rfl (by decide) (Val.cast (v := .int .i64 (A : Int)) (Val.quo64 rfl rfl (by omega) (by omega)) (by rw [hA])) ?_
              refine LS.vv rfl rfl (by decide) (Val.assign rfl) ?_
              refine LS.nil ?_
              refine W.seqR ?_
              refine LS.vv rfl rfl (by decide) (Val.move rfl) ?_
              refine LS.vv rfl rfl (by decide) (Val.move rfl) ?_
              first | refine LS.vv rfl rfl (by decide) (Val.remN rfl rfl (by omega)) ?_ | refine LS.vv rfl rfl (by decide) (Val.rem rfl rfl (by omega) (by omega)) ?_ | refine LS.vv rfl rfl (by decide) (Val.remT rfl rfl (by omega)) ?_
              refine LS.vv rfl rfl (by decide) (Val.assign rfl) ?_
              refine LS.nil ?_
              refine W.seqR ?_
              refine LS.vv rfl rfl (by decide) (Val.move rfl) ?_
              refine LS.vv rfl rfl (by decide) (Val.move rfl) ?_
              refine LS.vv rfl rfl (by decide) (Val.move rfl) ?_
              refine LS.vv rfl rfl (by decide) (Val.index1 Try.underlying34 elem3 rfl rfl (by omega) (hL) (nv_lt (by omega))) ?_
              refine LS.m rfl (Step.load rfl rfl (by decide) flat3 rfl (hL) (nv_at (by omega)) ?_)
              refine LS.m rfl (Step.lit rfl rfl (by decide) Try.underlying34 elem3 rfl rfl (by omega) (by simp [Value.oneCell']) (Nat.le_refl _) ?_)
              rintro w7 hO7 hg7 hbl7 hsz7
              replace hL := hL.below hbl7
              replace hlt := fun b off hb => Nat.lt_of_lt_of_le (hlt b off hb) hbl7.size
              replace hM := hM.add hB.size hbl7 hO7
              try simp only [nv_app1, nv_app, nv_set, nv_rep, nv_one, nv_cons, nv_take, nv_drop, List.nil_append, Nat.zero_add] at hM
              replace hB := hB.trans (hbl7.mono hB.size)
              generalize w6.heap.size = gg7 at *
              refine LS.m rfl (Step.append2 (B := w0.heap.size) rfl rfl (by decide) Try.underlying34 elem3 rfl rfl rfl rfl (hM.o1) (hM.o0.rd) (by first | rfl | (simp; done) | (simp; omega)) (by first | exact one_map _ (fun _ => rfl) _ | simp [Value.oneCell']) (by omega) (by omega) hB.size ?_)
              rintro p8 c8 w8 hO8 hg8 hbl8 hbk8
              replace hL := hL.off hM.o1 hg8 hne
              replace hne : ∀ b off b', pl = some ⟨b, off, none⟩ → p8 = some ⟨b', 0, none⟩ → b ≠ b' := fun b off b' h1 h2 => (by rcases hbk8 b' h2 with h3 | h3; exact hne b off b' h1 h3; have h4 := hlt b off h1; omega)
              replace hlt := fun b off hb => Nat.lt_of_lt_of_le (hlt b off hb) hg8.size
              replace hM := hM.s1 hg8 hO8 hbk8
              replace hM := hM.tail
              try simp only [nv_app1, nv_app, nv_set, nv_rep, nv_one, nv_cons, nv_take, nv_drop, List.nil_append, Nat.zero_add] at hM
              replace hB := hB.trans hbl8
              refine LS.vv rfl rfl (by decide) (Val.assign rfl) ?_
              refine LS.nil ?_
              refine W.regD (S := fun w => Below w0.heap.size w0 w) [(0, true), (1, true), (2, true), (3, true), (4, true), (5, true), (6, true), (7, true), (8, false), (9, true)] mixed (by kernel_rfl) hB.drew ?_
              replace hB := hB.drew
              replace hM := hM.drew
              try replace hL := hL.drew
              refine DX.vv rfl rfl rfl (by decide) (Val.move rfl) ?_
              refine DX.vv rfl rfl rfl (by decide) (Val.move rfl) ?_
              refine DX.vv rfl rfl rfl (by decide) (Val.move rfl) ?_
              refine DX.vv rfl rfl rfl (by decide) (Val.sliceToMax Try.underlying34 elem3 rfl rfl rfl (by omega)) ?_
              refine DX.vv rfl rfl rfl (by decide) (Val.move rfl) ?_
              refine DX.vv rfl rfl rfl (by decide) (Val.move rfl) ?_
              first | refine DX.vv rfl rfl rfl (by decide) (Val.addN (j := 1) rfl rfl (by omega)) ?_ | refine DX.vv rfl rfl rfl (by decide) (Val.add64 rfl rfl (by omega)) ?_
              refine DX.vv rfl rfl rfl (by decide) (Val.sliceFrom Try.underlying34 elem3 rfl rfl (by omega) (by omega)) ?_
              refine DX.m rfl rfl (Step.appendFull rfl rfl (by decide) Try.underlying34 elem3 rfl rfl rfl (hL.take_nv (k := A)) (by (simp [nv]; omega)) (hL.cut_nv (k := A + 1) (by omega)) (by (simp [nv]; omega)) (by first | exact one_map _ (fun _ => rfl) _ | simp [Value.oneCell']) (by omega) (by omega) (fun h => (by have := hpn h; omega)) ?_)
              rintro p9 c9 w9 hR9 hcc9 hbl9 hbk9 hpn9
              replace hpn := hpn9
              have hob := fun b (h : p8 = some ⟨b, 0, none⟩) => (hM.o0.block h).2
              replace hne : ∀ b off b', p9 = some ⟨b, off, none⟩ → p8 = some ⟨b', 0, none⟩ → b ≠ b' := fun b off b' h1 h2 => (by rcases hbk9 b off h1 with h3 | h3; exact hne b off b' h3 h2; have h4 := hob b' h2; omega)
              replace hlt : ∀ b off, p9 = some ⟨b, off, none⟩ → b < w9.heap.size := fun b off h1 => (by rcases hbk9 b off h1 with h3 | h3; have h4 := hlt b off h3; exact Nat.lt_of_lt_of_le h4 hbl9.size; exact h3.2)
              have hRn := hR9
              rw [nv_app, ← List.eraseIdx_eq_take_drop_succ] at hRn
              replace hM := hM.below hbl9
              replace hB := hB.trans (hbl9.mono hB.size)
              refine ⟨hB, ?_⟩
              refine DX.vv rfl rfl rfl (by decide) (Val.assign rfl) ?_
              refine DX.nil ?_
              refine inBlk_normal ?_
              refine thenP_normal ?_
              refine W.reg ?_
              first | refine LS.vv rfl rfl (by decide) (Val.addN (j := 1) rfl rfl (by omega)) ?_ | refine LS.vv rfl rfl (by decide) (Val.add64 rfl rfl (by omega)) ?_
              refine LS.vv rfl rfl (by decide) (Val.move rfl) ?_
              refine LS.nil ?_
              refine thenP_normal ?_
              refine ⟨(k + 1, (p9, c9), (p8, c8)), ?_, ?_, ⟨⟨by simp only; omega, ?_, by simp only; omega, hlt, hne, fun h => ?_⟩, ?_, hB⟩, by simp only; omega⟩
              · exact Sub.cons' rfl (by simp only [hus, hA]) (Sub.cons' rfl (congrArg (fun q => Value.slice _ q _) (by omega)) (Sub.cons rfl (Sub.cons rfl (Sub.nil _))))
              · repeat (first | exact Sub.nil _ | refine Sub.cons rfl ?_)
              · simp only [hus, hA]; exact hRn
              · have := hpn h; simp only; omega
              · simp only [hus, hA]; exact hM
            ·
              refine W.exit ?_
              refine thenP_exit ?_
              refine thenP_exit ?_
              refine inBlk_exit ?_
              refine thenP_normal ?_
              refine W.seqR ?_
              refine LS.vv rfl rfl (by decide) (Val.move rfl) ?_
              refine LS.vv rfl rfl (by decide) (Val.assign rfl) ?_
              refine LS.vv rfl rfl (by decide) (Val.cast (v := .int .i64 ((0 : Nat) : Int)) (Val.assign rfl) rfl) ?_
              refine LS.nil ?_
              refine W.ret ?_
              refine ret2 (by first | exact .inl rfl | exact .inr rfl) rfl rfl ?_
              first | (refine ⟨none, 0, [], 1, rfl, Own.nil _ _ _, ⟨fun h => by omega, fun h => by omega⟩, fun h => by omega, fun _ => rfl, hB⟩; done) | (refine ⟨none, 0, [], 5, rfl, Own.nil _ _ _, ⟨fun h => by omega, fun h => by omega⟩, fun h => by omega, fun _ => rfl, hB⟩; done) | (have hkN : k = N := (by omega); subst hkN; have hul := (uTo_spec hI k (Nat.le_refl _)).2.1; exact ⟨po, co, (uTo k I k).out, 0, by rw [hul], by rw [hul]; exact hM.o0, ⟨fun _ => by omega, fun _ => rfl⟩, fun _ => by rw [uTo_end hI]; simp, fun h => absurd rfl h, hB⟩)

end Go.Proofs.Ytclobhnclogaoaa
