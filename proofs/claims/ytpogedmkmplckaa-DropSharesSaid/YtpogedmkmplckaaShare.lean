/-
  The walk of drop.Words; the statement DropShares.
-/
import Derived.Test.YtpogedmkmplckaaDrop
import Derived.Test.YtpogedmkmplckaaSharePlain
import Derived.Test.YtpogedmkmplckaaVheap
import Derived.Test.YtpogedmkmplckaaDigsPlain
namespace Go.Proofs.Ytpogedmkmplckaa
open Go Go.RowKit V
set_option linter.unusedVariables false

theorem weigh_len (bs : List Bool) (p : Option Addr) (c n : Nat) (w0 : World) (hr : Rd w0 p (bv bs)) (hn : bs.length = n) (hb : n ≤ 64) :
    CallsV Try.prog 32 #[.slice p n c] w0 (fun v w => v = .int .i64 (weigh bs : Int) ∧ Below w0.heap.size w0 w) := by
  subst hn; exact weigh_any bs p c w0 hr hb

theorem words_any (n a : Int) (w0 : World) :
    CallsV Try.prog 15 #[.int .i64 n, .int .i64 a] w0 (fun v w => ∃ (p2 : Option Addr) (c2 : Nat) (L : List Nat) (e : Nat), v = .tuple #[.slice p2 L.length c2, .int .i64 (e : Int)] ∧ Own w w0.heap.size 37 p2 L.length c2 (uv L) ∧ (e = 0 ↔ 0 ≤ n ∧ n ≤ 12 ∧ 0 ≤ a ∧ a ≤ n) ∧ (e = 0 → L = wordsTo n.toNat a.toNat (2 ^ n.toNat)) ∧ Below w0.heap.size w0 w) := by
  refine enter2 Try.func15 rfl Try.ntmps15 (by simp) rfl ?_
  have hB := Below.refl w0.heap.size w0
  simp only [argLoc, Nat.zero_add]
  have hM := Mem.nil w0 w0.heap.size
  refine W.seqR ?_
  refine LS.vv rfl rfl (by decide) (Val.assign rfl) ?_
  refine LS.vv rfl rfl (by decide) (Val.cast (v := .int .i64 ((0 : Nat) : Int)) (Val.assign rfl) rfl) ?_
  refine LS.nil ?_
  refine W.seq ?_
  refine W.seqR ?_
  refine LS.vv rfl rfl (by decide) (Val.move rfl) ?_
  refine LS.vv rfl rfl (by decide) (Val.lss rfl rfl) ?_
  refine LS.vv rfl rfl (by decide) (Val.move rfl) ?_
  refine LS.split 2 rfl (fun hg1 => ?_) (fun hg1 => ?_)
  ·
    first | (have hg1p := of_decide_eq_true hg1) | skip
    refine LS.s rfl rfl rfl hg1 (by decide) ?_
    refine LS.s rfl rfl rfl hg1 (by decide) ?_
    refine LS.vv rfl rfl (by decide) (Val.pickT rfl hg1 rfl) ?_
    refine LS.nil ?_
    refine W.condT rfl ?_
    refine W.seqR ?_
    refine LS.vv rfl rfl (by decide) (Val.assign rfl) ?_
    refine LS.vv rfl rfl (by decide) (Val.cast (v := .int .i64 ((1 : Nat) : Int)) (Val.assign rfl) rfl) ?_
    refine LS.nil ?_
    refine W.ret ?_
    refine thenP_ret ?_
    refine ret2 (by first | exact .inl rfl | exact .inr rfl) rfl rfl ?_
    first | (refine ⟨none, 0, [], 1, rfl, Own.nil _ _ _, ⟨fun h => by omega, fun h => by omega⟩, fun h => by omega, hB⟩; done) | (refine ⟨none, 0, [], 4, rfl, Own.nil _ _ _, ⟨fun h => by omega, fun h => by omega⟩, fun h => by omega, hB⟩; done) | (have hkN : k = 2 ^ N := (by omega); subst hkN; exact ⟨p1, c1, _, 0, rfl, hM.o0, ⟨fun _ => by omega, fun _ => rfl⟩, fun _ => rfl, hB⟩)
  ·
    first | (have hg1p := of_decide_eq_false hg1) | skip
    refine LS.vg rfl rfl rfl hg1 (by decide) (Val.move rfl) ?_
    refine LS.vg rfl rfl rfl hg1 (by decide) (Val.gtr rfl rfl) ?_
    refine LS.vv rfl rfl (by decide) (Val.pickF rfl hg1 rfl) ?_
    refine LS.nil ?_
    first | refine W.condD rfl (fun hc2 => ?_) (fun hc2 => ?_) | refine W.cond rfl (fun hc2 => ?_) (fun hc2 => ?_)
    ·
      refine W.seqR ?_
      refine LS.vv rfl rfl (by decide) (Val.assign rfl) ?_
      refine LS.vv rfl rfl (by decide) (Val.cast (v := .int .i64 ((1 : Nat) : Int)) (Val.assign rfl) rfl) ?_
      refine LS.nil ?_
      refine W.ret ?_
      refine thenP_ret ?_
      refine ret2 (by first | exact .inl rfl | exact .inr rfl) rfl rfl ?_
      first | (refine ⟨none, 0, [], 1, rfl, Own.nil _ _ _, ⟨fun h => by omega, fun h => by omega⟩, fun h => by omega, hB⟩; done) | (refine ⟨none, 0, [], 4, rfl, Own.nil _ _ _, ⟨fun h => by omega, fun h => by omega⟩, fun h => by omega, hB⟩; done) | (have hkN : k = 2 ^ N := (by omega); subst hkN; exact ⟨p1, c1, _, 0, rfl, hM.o0, ⟨fun _ => by omega, fun _ => rfl⟩, fun _ => rfl, hB⟩)
    ·
      refine W.skip ?_
      refine thenP_normal ?_
      refine W.seq ?_
      refine W.seqR ?_
      refine LS.vv rfl rfl (by decide) (Val.move rfl) ?_
      refine LS.vv rfl rfl (by decide) (Val.lss rfl rfl) ?_
      refine LS.vv rfl rfl (by decide) (Val.move rfl) ?_
      refine LS.split 2 rfl (fun hg3 => ?_) (fun hg3 => ?_)
      ·
        first | (have hg3p := of_decide_eq_true hg3) | skip
        refine LS.s rfl rfl rfl hg3 (by decide) ?_
        refine LS.s rfl rfl rfl hg3 (by decide) ?_
        refine LS.s rfl rfl rfl hg3 (by decide) ?_
        refine LS.vv rfl rfl (by decide) (Val.pickT rfl hg3 rfl) ?_
        refine LS.nil ?_
        refine W.condT rfl ?_
        refine W.seqR ?_
        refine LS.vv rfl rfl (by decide) (Val.assign rfl) ?_
        refine LS.vv rfl rfl (by decide) (Val.cast (v := .int .i64 ((4 : Nat) : Int)) (Val.assign rfl) rfl) ?_
        refine LS.nil ?_
        refine W.ret ?_
        refine thenP_ret ?_
        refine ret2 (by first | exact .inl rfl | exact .inr rfl) rfl rfl ?_
        first | (refine ⟨none, 0, [], 1, rfl, Own.nil _ _ _, ⟨fun h => by omega, fun h => by omega⟩, fun h => by omega, hB⟩; done) | (refine ⟨none, 0, [], 4, rfl, Own.nil _ _ _, ⟨fun h => by omega, fun h => by omega⟩, fun h => by omega, hB⟩; done) | (have hkN : k = 2 ^ N := (by omega); subst hkN; exact ⟨p1, c1, _, 0, rfl, hM.o0, ⟨fun _ => by omega, fun _ => rfl⟩, fun _ => rfl, hB⟩)
      ·
        first | (have hg3p := of_decide_eq_false hg3) | skip
        refine LS.vg rfl rfl rfl hg3 (by decide) (Val.move rfl) ?_
        refine LS.vg rfl rfl rfl hg3 (by decide) (Val.move rfl) ?_
        refine LS.vg rfl rfl rfl hg3 (by decide) (Val.gtr rfl rfl) ?_
        refine LS.vv rfl rfl (by decide) (Val.pickF rfl hg3 rfl) ?_
        refine LS.nil ?_
        first | refine W.condD rfl (fun hc4 => ?_) (fun hc4 => ?_) | refine W.cond rfl (fun hc4 => ?_) (fun hc4 => ?_)
        ·
          refine W.seqR ?_
          refine LS.vv rfl rfl (by decide) (Val.assign rfl) ?_
          refine LS.vv rfl rfl (by decide) (Val.cast (v := .int .i64 ((4 : Nat) : Int)) (Val.assign rfl) rfl) ?_
          refine LS.nil ?_
          refine W.ret ?_
          refine thenP_ret ?_
          refine ret2 (by first | exact .inl rfl | exact .inr rfl) rfl rfl ?_
          first | (refine ⟨none, 0, [], 1, rfl, Own.nil _ _ _, ⟨fun h => by omega, fun h => by omega⟩, fun h => by omega, hB⟩; done) | (refine ⟨none, 0, [], 4, rfl, Own.nil _ _ _, ⟨fun h => by omega, fun h => by omega⟩, fun h => by omega, hB⟩; done) | (have hkN : k = 2 ^ N := (by omega); subst hkN; exact ⟨p1, c1, _, 0, rfl, hM.o0, ⟨fun _ => by omega, fun _ => rfl⟩, fun _ => rfl, hB⟩)
        ·
          obtain ⟨N, rfl⟩ := Int.eq_ofNat_of_zero_le (show 0 ≤ n by omega)
          obtain ⟨A, rfl⟩ := Int.eq_ofNat_of_zero_le (show 0 ≤ a by omega)
          have hN : N ≤ 12 := by omega
          have hpw : 2 ^ N ≤ 2 ^ 12 := Nat.pow_le_pow_right (by omega) hN
          have hsl : 1 <<< N = 2 ^ N := by rw [Nat.shiftLeft_eq, Nat.one_mul]
          refine W.skip ?_
          refine thenP_normal ?_
          refine W.seqR ?_
          refine LS.vv rfl rfl (by decide) (Val.assign rfl) ?_
          refine LS.nil ?_
          refine W.seq ?_
          refine W.seqR ?_
          refine LS.vv rfl rfl (by decide) (Val.move rfl) ?_
          refine LS.vv rfl rfl (by decide) (Val.cast (v := .int .u32 ((2 ^ N : Nat) : Int)) (Val.shlU32 (i := 1) rfl rfl (by omega) (by omega)) (by rw [hsl])) ?_
          refine LS.vv rfl rfl (by decide) (Val.cast (v := .int .u32 ((0 : Nat) : Int)) (Val.move rfl) rfl) ?_
          refine LS.nil ?_
          refine W.block ?_
          replace hM := hM.addNil 37
          refine W.loop (α := Nat × Option Addr × Nat) (fun g => [(6, .slice g.2.1 (wordsTo N A g.1).length g.2.2), (25, .int .u32 (g.1 : Int))]) [(0, _), (1, _), (24, _)] (fun g w => (g.1 ≤ 2 ^ N) ∧ Mem w w0.heap.size [⟨37, g.2.1, (wordsTo N A g.1).length, g.2.2, uv (wordsTo N A g.1)⟩] ∧ Below w0.heap.size w0 w) (fun g => 2 ^ N - g.1) ((0, none, 0)) (Sub.cons rfl (Sub.cons rfl (Sub.nil _))) (Sub.cons rfl (Sub.cons rfl (Sub.cons rfl (Sub.nil _)))) ?_ ?_
          · exact ⟨Nat.zero_le _, hM, hB⟩
          rintro ⟨k, p1, c1⟩ w1 ⟨hk, hM, hB⟩
          try simp only at hM
          simp only [List.cons_append, List.nil_append]
          simp only at hk
          have hwl := wordsTo_le N A k
          refine W.seqR ?_
          refine LS.vv rfl rfl (by decide) (Val.lss rfl rfl) ?_
          refine LS.nil ?_
          refine W.seq ?_
          first | refine W.condD rfl (fun hc5 => ?_) (fun hc5 => ?_) | refine W.cond rfl (fun hc5 => ?_) (fun hc5 => ?_)
          ·
            refine W.skip ?_
            refine thenP_normal ?_
            refine W.seq ?_
            refine W.block ?_
            refine W.seqR ?_
            refine LS.vv rfl rfl (by decide) (Val.move rfl) ?_
            refine LS.vv rfl rfl (by decide) (Val.assign rfl) ?_
            refine LS.nil ?_
            refine W.seqR ?_
            refine LS.vv rfl rfl (by decide) (Val.move rfl) ?_
            refine LS.m rfl (Step.make rfl rfl (by decide) Try.underlying22 elem4 rfl rfl rfl (by omega) (by omega) (Nat.le_refl _) ?_)
            rintro w2 hO2 hg2 hbl2
            replace hM := hM.add hB.size hbl2 hO2
            try simp only [bv_app1, bv_app, bv_set, bv_rep, bv_one, bv_cons, bv_take, bv_drop, List.nil_append, Nat.zero_add] at hM
            replace hB := hB.trans (hbl2.mono hB.size)
            generalize w1.heap.size = gg2 at *
            refine LS.vv rfl rfl (by decide) (Val.assign rfl) ?_
            refine LS.nil ?_
            refine W.seq ?_
            refine W.seqR ?_
            refine LS.vv rfl rfl (by decide) (Val.move rfl) ?_
            refine LS.vv rfl rfl (by decide) (Val.len Try.underlying22 rfl) ?_
            refine LS.vv rfl rfl (by decide) (Val.cast (v := .int .i64 ((0 : Nat) : Int)) (Val.move rfl) rfl) ?_
            refine LS.nil ?_
            refine W.block ?_
            refine W.loop (α := Nat) (fun j => [(32, .int .i64 (j : Int))]) [(0, _), (1, _), (6, _), (7, _), (8, _), (24, _), (25, _), (31, _)] (fun j w => (j ≤ N) ∧ Mem w w0.heap.size [⟨4, some ⟨gg2, 0, none⟩, N, N, bv (wbits k N j)⟩, ⟨37, p1, (wordsTo N A k).length, c1, uv (wordsTo N A k)⟩] ∧ Below w0.heap.size w0 w) (fun j => N - j) (0) (Sub.cons rfl (Sub.nil _)) (Sub.cons rfl (Sub.cons rfl (Sub.cons rfl (Sub.cons rfl (Sub.cons rfl (Sub.cons rfl (Sub.cons rfl (Sub.cons rfl (Sub.nil _))))))))) ?_ ?_
            · exact ⟨Nat.zero_le _, hM, hB⟩
            rintro j w3 ⟨hj, hM, hB⟩
            try simp only at hM
            simp only [List.cons_append, List.nil_append]
            have hwbl := wbits_len k N j
            refine W.seqR ?_
            refine LS.vv rfl rfl (by decide) (Val.lss rfl rfl) ?_
            refine LS.nil ?_
            refine W.seq ?_
            first | refine W.condD rfl (fun hc6 => ?_) (fun hc6 => ?_) | refine W.cond rfl (fun hc6 => ?_) (fun hc6 => ?_)
            ·
              refine W.skip ?_
              refine thenP_normal ?_
              refine W.seq ?_
              refine W.block ?_
              refine W.seqR ?_
              refine LS.vv rfl rfl (by decide) (Val.move rfl) ?_
              refine LS.vv rfl rfl (by decide) (Val.assign rfl) ?_
              refine LS.nil ?_
              refine W.reg ?_
              refine LS.vv rfl rfl (by decide) (Val.move rfl) ?_
              refine LS.vv rfl rfl (by decide) (Val.move rfl) ?_
              refine LS.vv rfl rfl (by decide) (Val.move rfl) ?_
              refine LS.vv rfl rfl (by decide) (Val.move rfl) ?_
              have hsr : k >>> j ≤ k := Nat.shiftRight_le _ _
              refine LS.vv rfl rfl (by decide) (Val.shr rfl rfl (by simp only [IntKind.bits]; omega)) ?_
              refine LS.vv rfl rfl (by decide) (Val.andU32 (j := 1) rfl rfl (by omega) (by omega)) ?_
              refine LS.vv rfl rfl (by decide) (Val.cast (v := .bool (k.testBit j)) (Val.eql rfl rfl) (by exact congrArg Value.bool (bit_eq k j))) ?_
              refine LS.vv rfl rfl (by decide) (Val.index1 Try.underlying22 elem4 rfl rfl (by omega) (hM.o0.rd) (bv_lt (by omega))) ?_
              refine LS.m rfl (Step.store (B := w0.heap.size) rfl rfl flat4 elem4 rfl rfl rfl (hM.o0) (by omega) hB.size ?_)
              rintro w4 hO4 hg4 hbl4 hsz4
              replace hM := hM.s0 hg4 hO4 inl_block
              try simp only [bv_app1, bv_app, bv_set, bv_rep, bv_one, bv_cons, bv_take, bv_drop, List.nil_append, Nat.zero_add] at hM
              replace hB := hB.trans hbl4
              refine LS.nil ?_
              refine inBlk_normal ?_
              refine thenP_normal ?_
              refine W.reg ?_
              first | refine LS.vv rfl rfl (by decide) (Val.addN (j := 1) rfl rfl (by omega)) ?_ | refine LS.vv rfl rfl (by decide) (Val.add64 rfl rfl (by omega)) ?_
              refine LS.vv rfl rfl (by decide) (Val.move rfl) ?_
              refine LS.nil ?_
              refine thenP_normal ?_
              refine ⟨j + 1, ?_, ?_, ⟨by omega, ?_, hB⟩, by omega⟩
              · exact (Sub.cons rfl (Sub.nil _))
              · repeat (first | exact Sub.nil _ | refine Sub.cons rfl ?_)
              · rw [wbits_succ]; exact hM
            ·
              refine W.exit ?_
              refine thenP_exit ?_
              refine thenP_exit ?_
              refine inBlk_exit ?_
              refine thenP_normal ?_
              refine W.seqR ?_
              refine LS.vv rfl rfl (by decide) (Val.move rfl) ?_
              have hjN : j = N := by omega
              rw [hjN] at hM
              have hwk := ww_le k N
              have hNN : N * N ≤ 12 * 12 := Nat.mul_le_mul hN hN
              refine LS.m rfl (Step.call body32 rfl rfl (by decide) rfl (CallsV.mono (weigh_len (wbits k N N) _ _ N _ hM.o0.rd (wbits_len k N N) (by omega)) ?_))
              rintro _ w5 ⟨rfl, hb5⟩
              replace hM := hM.below hb5
              replace hB := hB.trans (hb5.mono hB.size)
              rw [weigh_wbits]
              refine LS.vv rfl rfl (by decide) (Val.move rfl) ?_
              first | refine LS.vv rfl rfl (by decide) (Val.addN (j := 1) rfl rfl (by omega)) ?_ | refine LS.vv rfl rfl (by decide) (Val.add64 rfl rfl (by omega)) ?_
              first | refine LS.vv rfl rfl (by decide) (Val.remN rfl rfl (by omega)) ?_ | refine LS.vv rfl rfl (by decide) (Val.rem rfl rfl (by omega) (by omega)) ?_ | refine LS.vv rfl rfl (by decide) (Val.remT rfl rfl (by omega)) ?_
              refine LS.vv rfl rfl (by decide) (Val.move rfl) ?_
              refine LS.vv rfl rfl (by decide) (Val.eql rfl rfl) ?_
              refine LS.nil ?_
              first | refine W.condD rfl (fun hc7 => ?_) (fun hc7 => ?_) | refine W.cond rfl (fun hc7 => ?_) (fun hc7 => ?_)
              ·
                have hq : ww k N % (N + 1) = A := by omega
                have hws : wordsTo N A (k + 1) = wordsTo N A k ++ [k] := by rw [wordsTo_succ, if_pos hq]
                refine W.reg ?_
                refine LS.vv rfl rfl (by decide) (Val.move rfl) ?_
                refine LS.vv rfl rfl (by decide) (Val.move rfl) ?_
                refine LS.m rfl (Step.lit rfl rfl (by decide) Try.underlying29 elem37 rfl rfl (by omega) (by simp [Value.oneCell']) (Nat.le_refl _) ?_)
                rintro w6 hO6 hg6 hbl6 hsz6
                replace hM := hM.add hB.size hbl6 hO6
                try simp only [uv_app1, uv_app, uv_set, uv_rep, uv_one, uv_cons, uv_take, uv_drop, List.nil_append, Nat.zero_add] at hM
                replace hB := hB.trans (hbl6.mono hB.size)
                generalize w5.heap.size = gg6 at *
                refine LS.m rfl (Step.append2 (B := w0.heap.size) rfl rfl (by decide) Try.underlying29 elem37 rfl rfl rfl rfl (hM.o2) (hM.o0.rd) (by first | rfl | (simp; done) | (simp; omega)) (by first | exact one_map _ (fun _ => rfl) _ | simp [Value.oneCell']) (by omega) (by omega) hB.size ?_)
                rintro p7 c7 w7 hO7 hg7 hbl7 hbk7
                replace hM := hM.s2 hg7 hO7 hbk7
                replace hM := hM.tail
                try simp only [uv_app1, uv_app, uv_set, uv_rep, uv_one, uv_cons, uv_take, uv_drop, List.nil_append, Nat.zero_add] at hM
                replace hB := hB.trans hbl7
                refine LS.vv rfl rfl (by decide) (Val.assign rfl) ?_
                refine LS.nil ?_
                refine inBlk_normal ?_
                refine thenP_normal ?_
                refine W.reg ?_
                first | refine LS.vv rfl rfl (by decide) (Val.addNU32 (j := 1) rfl rfl (by omega)) ?_ | refine LS.vv rfl rfl (by decide) (Val.addU32 rfl rfl (by omega)) ?_
                refine LS.vv rfl rfl (by decide) (Val.move rfl) ?_
                refine LS.nil ?_
                refine thenP_normal ?_
                first
                  | (refine ⟨(k + 1, p7, c7), (Sub.cons' rfl (by simp only [hws, List.length_append]; rfl) (Sub.cons rfl (Sub.nil _))), ?_, ⟨by simp only; omega, ?_, hB⟩, by simp only; omega⟩
                     · repeat (first | exact Sub.nil _ | refine Sub.cons rfl ?_)
                     · simp only [hws, List.length_append]; exact hM.tail; done)
                  | (refine ⟨(k + 1, p1, c1), (Sub.cons' rfl (by simp only [hws]) (Sub.cons rfl (Sub.nil _))), ?_, ⟨by simp only; omega, ?_, hB⟩, by simp only; omega⟩
                     · repeat (first | exact Sub.nil _ | refine Sub.cons rfl ?_)
                     · simp only [hws]; exact hM.tail)
              ·
                have hq : ¬ ww k N % (N + 1) = A := by omega
                have hws : wordsTo N A (k + 1) = wordsTo N A k := by rw [wordsTo_succ, if_neg hq]
                refine W.skip ?_
                refine inBlk_normal ?_
                refine thenP_normal ?_
                refine W.reg ?_
                first | refine LS.vv rfl rfl (by decide) (Val.addNU32 (j := 1) rfl rfl (by omega)) ?_ | refine LS.vv rfl rfl (by decide) (Val.addU32 rfl rfl (by omega)) ?_
                refine LS.vv rfl rfl (by decide) (Val.move rfl) ?_
                refine LS.nil ?_
                refine thenP_normal ?_
                first
                  | (refine ⟨(k + 1, p7, c7), (Sub.cons' rfl (by simp only [hws, List.length_append]; rfl) (Sub.cons rfl (Sub.nil _))), ?_, ⟨by simp only; omega, ?_, hB⟩, by simp only; omega⟩
                     · repeat (first | exact Sub.nil _ | refine Sub.cons rfl ?_)
                     · simp only [hws, List.length_append]; exact hM.tail; done)
                  | (refine ⟨(k + 1, p1, c1), (Sub.cons' rfl (by simp only [hws]) (Sub.cons rfl (Sub.nil _))), ?_, ⟨by simp only; omega, ?_, hB⟩, by simp only; omega⟩
                     · repeat (first | exact Sub.nil _ | refine Sub.cons rfl ?_)
                     · simp only [hws]; exact hM.tail)
          ·
            refine W.exit ?_
            refine thenP_exit ?_
            refine thenP_exit ?_
            refine inBlk_exit ?_
            refine thenP_normal ?_
            refine W.seqR ?_
            refine LS.vv rfl rfl (by decide) (Val.move rfl) ?_
            refine LS.vv rfl rfl (by decide) (Val.assign rfl) ?_
            refine LS.vv rfl rfl (by decide) (Val.cast (v := .int .i64 ((0 : Nat) : Int)) (Val.assign rfl) rfl) ?_
            refine LS.nil ?_
            refine W.ret ?_
            refine ret2 (by first | exact .inl rfl | exact .inr rfl) rfl rfl ?_
            first | (refine ⟨none, 0, [], 1, rfl, Own.nil _ _ _, ⟨fun h => by omega, fun h => by omega⟩, fun h => by omega, hB⟩; done) | (refine ⟨none, 0, [], 4, rfl, Own.nil _ _ _, ⟨fun h => by omega, fun h => by omega⟩, fun h => by omega, hB⟩; done) | (have hkN : k = 2 ^ N := (by omega); subst hkN; exact ⟨p1, c1, _, 0, rfl, hM.o0, ⟨fun _ => by omega, fun _ => rfl⟩, fun _ => rfl, hB⟩)

theorem bits_any (n : Int) (w0 : World) :
    CallsV Try.prog 16 #[.int .i64 n] w0 (fun v w => v = .bool (decide (0 ≤ n ∧ n ≤ 12)) ∧ Below w0.heap.size w0 w) := by
  refine enter1 Try.func16 rfl Try.ntmps16 (by simp) rfl ?_
  have hB := Below.refl w0.heap.size w0
  simp only [argLoc]
  refine W.seqR ?_
  refine LS.vv rfl rfl (by decide) (Val.assign rfl) ?_
  refine LS.nil ?_
  refine W.seqR ?_
  refine LS.vv rfl rfl (by decide) (Val.move rfl) ?_
  refine LS.vv rfl rfl (by decide) (Val.geq rfl rfl) ?_
  refine LS.vv rfl rfl (by decide) (Val.move rfl) ?_
  refine LS.split 2 rfl (fun hg1 => ?_) (fun hg1 => ?_)
  ·
    first | (have hg1p := of_decide_eq_true hg1) | skip
    refine LS.vg rfl rfl rfl hg1 (by decide) (Val.move rfl) ?_
    refine LS.vg rfl rfl rfl hg1 (by decide) (Val.leq rfl rfl) ?_
    refine LS.vv rfl rfl (by decide) (Val.pickT rfl hg1 rfl) ?_
    refine LS.vv rfl rfl (by decide) (Val.assign rfl) ?_
    refine LS.nil ?_
    refine W.ret ?_
    refine ret1 (by first | exact .inl rfl | exact .inr rfl) rfl ?_
    exact ⟨congrArg Value.bool (by first | (rw [decide_eq_decide]; omega) | (symm; exact decide_eq_false (by omega)) | (symm; exact decide_eq_true (by omega)) | simp_all), hB⟩
  ·
    first | (have hg1p := of_decide_eq_false hg1) | skip
    refine LS.s rfl rfl rfl hg1 (by decide) ?_
    refine LS.s rfl rfl rfl hg1 (by decide) ?_
    refine LS.vv rfl rfl (by decide) (Val.pickF rfl hg1 rfl) ?_
    refine LS.vv rfl rfl (by decide) (Val.assign rfl) ?_
    refine LS.nil ?_
    refine W.ret ?_
    refine ret1 (by first | exact .inl rfl | exact .inr rfl) rfl ?_
    exact ⟨congrArg Value.bool (by first | (rw [decide_eq_decide]; omega) | (symm; exact decide_eq_false (by omega)) | (symm; exact decide_eq_true (by omega)) | simp_all), hB⟩

end Go.Proofs.Ytpogedmkmplckaa
