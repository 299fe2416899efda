/-
  The walks of rank.Rank, rank.Word; the statement RankBack.
-/
import Derived.Test.YtclobhnclogaoaaRank
import Derived.Test.YtclobhnclogaoaaRankBPlain
import Derived.Test.YtclobhnclogaoaaDigsPlain
namespace Go.Proofs.Ytclobhnclogaoaa
open Go Go.RowKit V
set_option linter.unusedVariables false

theorem rank_any (n : Int) (a : Nat) (w0 : World) (ha : a < 4294967296) :
    CallsV Try.prog 16 #[.int .i64 n, .int .u32 (a : Int)] w0 (fun v w => ∃ r e : Nat, v = .tuple #[.int .i64 (r : Int), .int .i64 (e : Int)] ∧ (e = 0 ↔ 0 ≤ n ∧ n ≤ 12 ∧ a < 2 ^ n.toNat) ∧ (e = 0 → r = rk a n.toNat) ∧ Below w0.heap.size w0 w) := by
  refine enter2 Try.func16 rfl Try.ntmps16 (by simp) rfl ?_
  have hB := Below.refl w0.heap.size w0
  simp only [argLoc, Nat.zero_add]
  refine W.seqR ?_
  refine LS.vv rfl rfl (by decide) (Val.cast (v := .int .i64 ((0 : Nat) : Int)) (Val.assign rfl) rfl) ?_
  refine LS.vv rfl rfl (by decide) (Val.cast (v := .int .i64 ((0 : Nat) : Int)) (Val.assign rfl) rfl) ?_
  refine LS.nil ?_
  refine W.seq ?_
  refine W.seqR ?_
  refine LS.vv rfl rfl (by decide) (Val.move rfl) ?_
  refine LS.vv rfl rfl (by decide) (Val.lss rfl rfl) ?_
  refine LS.vv rfl rfl (by decide) (Val.move rfl) ?_
  refine LS.split 2 rfl (fun hg1 => ?_) (fun hg1 => ?_)
  ·
    first | (have hg1p := of_decide_eq_true hg1) | skip
    refine LS.s rfl rfl rfl hg1 (by decide) ?_
    refine LS.s rfl rfl rfl hg1 (by decide) ?_
    refine LS.vv rfl rfl (by decide) (Val.pickT rfl hg1 rfl) ?_
    refine LS.nil ?_
    refine W.condT rfl ?_
    refine W.seqR ?_
    refine LS.vv rfl rfl (by decide) (Val.cast (v := .int .i64 ((0 : Nat) : Int)) (Val.assign rfl) rfl) ?_
    refine LS.vv rfl rfl (by decide) (Val.cast (v := .int .i64 ((1 : Nat) : Int)) (Val.assign rfl) rfl) ?_
    refine LS.nil ?_
    refine W.ret ?_
    refine thenP_ret ?_
    refine ret2 (by first | exact .inl rfl | exact .inr rfl) rfl rfl ?_
    first | (refine ⟨0, 1, rfl, ⟨fun h => by omega, fun h => by omega⟩, fun h => by omega, hB⟩; done) | (refine ⟨0, 4, rfl, ⟨fun h => by omega, fun h => absurd (by simpa using h.2.2) hnl⟩, fun h => by omega, hB⟩; done) | (have hj0 : j = 0 := (by omega); subst hj0; exact ⟨rk a N, 0, rfl, ⟨fun _ => ⟨by omega, by omega, by simpa using hlt⟩, fun _ => rfl⟩, fun _ => rfl, hB⟩)
  ·
    first | (have hg1p := of_decide_eq_false hg1) | skip
    refine LS.vg rfl rfl rfl hg1 (by decide) (Val.move rfl) ?_
    refine LS.vg rfl rfl rfl hg1 (by decide) (Val.gtr rfl rfl) ?_
    refine LS.vv rfl rfl (by decide) (Val.pickF rfl hg1 rfl) ?_
    refine LS.nil ?_
    first | refine W.condD rfl (fun hc2 => ?_) (fun hc2 => ?_) | refine W.cond rfl (fun hc2 => ?_) (fun hc2 => ?_)
    ·
      refine W.seqR ?_
      refine LS.vv rfl rfl (by decide) (Val.cast (v := .int .i64 ((0 : Nat) : Int)) (Val.assign rfl) rfl) ?_
      refine LS.vv rfl rfl (by decide) (Val.cast (v := .int .i64 ((1 : Nat) : Int)) (Val.assign rfl) rfl) ?_
      refine LS.nil ?_
      refine W.ret ?_
      refine thenP_ret ?_
      refine ret2 (by first | exact .inl rfl | exact .inr rfl) rfl rfl ?_
      first | (refine ⟨0, 1, rfl, ⟨fun h => by omega, fun h => by omega⟩, fun h => by omega, hB⟩; done) | (refine ⟨0, 4, rfl, ⟨fun h => by omega, fun h => absurd (by simpa using h.2.2) hnl⟩, fun h => by omega, hB⟩; done) | (have hj0 : j = 0 := (by omega); subst hj0; exact ⟨rk a N, 0, rfl, ⟨fun _ => ⟨by omega, by omega, by simpa using hlt⟩, fun _ => rfl⟩, fun _ => rfl, hB⟩)
    ·
      obtain ⟨N, rfl⟩ := Int.eq_ofNat_of_zero_le (show 0 ≤ n by omega)
      have hN : N ≤ 12 := by omega
      have hsr0 : a >>> N ≤ a := Nat.shiftRight_le _ _
      refine W.skip ?_
      refine thenP_normal ?_
      refine W.seq ?_
      refine W.seqR ?_
      refine LS.vv rfl rfl (by decide) (Val.move rfl) ?_
      refine LS.vv rfl rfl (by decide) (Val.move rfl) ?_
      refine LS.vv rfl rfl (by decide) (Val.shr rfl rfl (by simp only [IntKind.bits]; omega)) ?_
      refine LS.vv rfl rfl (by decide) (Val.neq rfl rfl) ?_
      refine LS.nil ?_
      first | refine W.condD rfl (fun hc3 => ?_) (fun hc3 => ?_) | refine W.cond rfl (fun hc3 => ?_) (fun hc3 => ?_)
      ·
        have hnl := not_lt_of_shr hc3
        refine W.seqR ?_
        refine LS.vv rfl rfl (by decide) (Val.cast (v := .int .i64 ((0 : Nat) : Int)) (Val.assign rfl) rfl) ?_
        refine LS.vv rfl rfl (by decide) (Val.cast (v := .int .i64 ((4 : Nat) : Int)) (Val.assign rfl) rfl) ?_
        refine LS.nil ?_
        refine W.ret ?_
        refine thenP_ret ?_
        refine ret2 (by first | exact .inl rfl | exact .inr rfl) rfl rfl ?_
        first | (refine ⟨0, 1, rfl, ⟨fun h => by omega, fun h => by omega⟩, fun h => by omega, hB⟩; done) | (refine ⟨0, 4, rfl, ⟨fun h => by omega, fun h => absurd (by simpa using h.2.2) hnl⟩, fun h => by omega, hB⟩; done) | (have hj0 : j = 0 := (by omega); subst hj0; exact ⟨rk a N, 0, rfl, ⟨fun _ => ⟨by omega, by omega, by simpa using hlt⟩, fun _ => rfl⟩, fun _ => rfl, hB⟩)
      ·
        have hlt := lt_of_shr hc3
        have hps0 := popc_short hlt (by omega)
        have hRl := rk_lt a N hN
        have hCl := cho_le (n := N) (k := popTo a N) hN
        refine W.skip ?_
        refine thenP_normal ?_
        refine W.seqR ?_
        refine LS.vv rfl rfl (by decide) (Val.move rfl) ?_
        refine LS.m rfl (Step.call body32 rfl rfl (by decide) rfl (CallsV.mono (ones32_any a _ ha) ?_))
        rintro _ w1 ⟨rfl, hb1⟩
        replace hB := hB.trans (hb1.mono hB.size)
        rw [hps0]
        refine LS.vv rfl rfl (by decide) (Val.assign rfl) ?_
        refine LS.nil ?_
        refine W.seqR ?_
        refine LS.vv rfl rfl (by decide) (Val.cast (v := .int .i64 ((0 : Nat) : Int)) (Val.assign rfl) rfl) ?_
        refine LS.nil ?_
        refine W.seq ?_
        refine W.seqR ?_
        refine LS.vv rfl rfl (by decide) (Val.move rfl) ?_
        refine LS.vv rfl rfl (by decide) (Val.sub64 rfl rfl (by omega)) ?_
        refine LS.vv rfl rfl (by decide) (Val.assign rfl) ?_
        refine LS.nil ?_
        refine W.block ?_
        refine W.loop (α := Nat) (fun j => [(6, .int .i64 (popTo a j : Int)), (7, .int .i64 ((rk a N - rk a j : Nat) : Int)), (8, .int .i64 ((j : Int) - 1))]) [(1, _)] (fun j w => j ≤ N ∧ Below w0.heap.size w0 w) (fun j => j) (N) (Sub.cons rfl (Sub.cons' rfl (by rw [Nat.sub_self]) (Sub.cons rfl (Sub.nil _)))) (Sub.cons rfl (Sub.nil _)) ?_ ?_
        · exact ⟨Nat.le_refl _, hB⟩
        rintro j w2 ⟨hj, hB⟩
        simp only [List.cons_append, List.nil_append]
        refine W.seq ?_
        refine W.seqR ?_
        refine LS.vv rfl rfl (by decide) (Val.move rfl) ?_
        refine LS.vv rfl rfl (by decide) (Val.geq rfl rfl) ?_
        refine LS.nil ?_
        first | refine W.condD rfl (fun hc4 => ?_) (fun hc4 => ?_) | refine W.cond rfl (fun hc4 => ?_) (fun hc4 => ?_)
        ·
          obtain ⟨m, rfl⟩ : ∃ m, j = m + 1 := ⟨j - 1, by omega⟩
          have hidx : ((m + 1 : Nat) : Int) - 1 = (m : Int) := by omega
          rw [hidx]
          have hpl := popTo_le a (m + 1)
          have hps := popTo_succ a m
          have hrs := rk_succ a m
          have hrm := rk_mono a hj
          have hrt := rk_test a m (by omega)
          have hcl := cho_le (n := m) (k := popTo a (m + 1)) (by omega)
          have hsr : a >>> m ≤ a := Nat.shiftRight_le _ _
          refine W.skip ?_
          refine thenP_normal ?_
          refine W.seq ?_
          refine W.block ?_
          refine W.seqR ?_
          refine LS.vv rfl rfl (by decide) (Val.move rfl) ?_
          refine LS.vv rfl rfl (by decide) (Val.move rfl) ?_
          refine LS.vv rfl rfl (by decide) (Val.shr rfl rfl (by simp only [IntKind.bits]; omega)) ?_
          refine LS.vv rfl rfl (by decide) (Val.andU32 (j := 1) rfl rfl (by omega) (by omega)) ?_
          refine LS.vv rfl rfl (by decide) (Val.cast (v := .bool (a.testBit m)) (Val.eql rfl rfl) (by exact congrArg Value.bool (bit_eq a m))) ?_
          refine LS.nil ?_
          first | refine W.condD rfl (fun hc5 => ?_) (fun hc5 => ?_) | refine W.cond rfl (fun hc5 => ?_) (fun hc5 => ?_)
          ·
            have hbt : a.testBit m = true := hc5
            rw [if_pos hbt] at hps hrs
            refine W.seqR ?_
            refine LS.vv rfl rfl (by decide) (Val.move rfl) ?_
            refine LS.vv rfl rfl (by decide) (Val.move rfl) ?_
            refine LS.vv rfl rfl (by decide) (Val.move rfl) ?_
            refine LS.m rfl (Step.call body31 rfl rfl (by decide) rfl (CallsV.mono (choose_any m (popTo a (m + 1)) _ (by omega) (by omega)) ?_))
            rintro _ w3 ⟨rfl, hb3⟩
            replace hB := hB.trans (hb3.mono hB.size)
            first | refine LS.vv rfl rfl (by decide) (Val.addN rfl rfl (by omega)) ?_ | refine LS.vv rfl rfl (by decide) (Val.add64 rfl rfl (by omega)) ?_
            refine LS.vv rfl rfl (by decide) (Val.assign rfl) ?_
            refine LS.nil ?_
            refine W.reg ?_
            refine LS.vv rfl rfl (by decide) (Val.move rfl) ?_
            first | refine LS.vv rfl rfl (by decide) (Val.subN (j := 1) rfl rfl (by omega) (by omega)) ?_ | refine LS.vv rfl rfl (by decide) (Val.sub64 rfl rfl (by omega)) ?_
            refine LS.vv rfl rfl (by decide) (Val.assign rfl) ?_
            refine LS.nil ?_
            refine inBlk_normal ?_
            refine thenP_normal ?_
            refine W.reg ?_
            refine LS.vv rfl rfl (by decide) (Val.move rfl) ?_
            refine LS.vv rfl rfl (by decide) (Val.sub64 rfl rfl (by omega)) ?_
            refine LS.vv rfl rfl (by decide) (Val.assign rfl) ?_
            refine LS.nil ?_
            refine thenP_normal ?_
            refine ⟨m, ?_, ?_, ⟨by omega, hB⟩, by omega⟩
            · exact Sub.cons' rfl (by congr 1 <;> omega) (Sub.cons' rfl (by congr 1 <;> omega) (Sub.cons rfl (Sub.nil _)))
            · repeat (first | exact Sub.nil _ | refine Sub.cons rfl ?_)
          ·
            have hbt : ¬ a.testBit m = true := by rw [hc5]; decide
            rw [if_neg hbt] at hps hrs
            refine W.skip ?_
            refine inBlk_normal ?_
            refine thenP_normal ?_
            refine W.reg ?_
            refine LS.vv rfl rfl (by decide) (Val.move rfl) ?_
            refine LS.vv rfl rfl (by decide) (Val.sub64 rfl rfl (by omega)) ?_
            refine LS.vv rfl rfl (by decide) (Val.assign rfl) ?_
            refine LS.nil ?_
            refine thenP_normal ?_
            refine ⟨m, ?_, ?_, ⟨by omega, hB⟩, by omega⟩
            · exact Sub.cons' rfl (by congr 1 <;> omega) (Sub.cons' rfl (by congr 1 <;> omega) (Sub.cons rfl (Sub.nil _)))
            · repeat (first | exact Sub.nil _ | refine Sub.cons rfl ?_)
        ·
          refine W.exit ?_
          refine thenP_exit ?_
          refine thenP_exit ?_
          refine inBlk_exit ?_
          refine thenP_normal ?_
          refine W.seqR ?_
          refine LS.vv rfl rfl (by decide) (Val.move rfl) ?_
          refine LS.vv rfl rfl (by decide) (Val.assign rfl) ?_
          refine LS.vv rfl rfl (by decide) (Val.cast (v := .int .i64 ((0 : Nat) : Int)) (Val.assign rfl) rfl) ?_
          refine LS.nil ?_
          refine W.ret ?_
          refine ret2 (by first | exact .inl rfl | exact .inr rfl) rfl rfl ?_
          first | (refine ⟨0, 1, rfl, ⟨fun h => by omega, fun h => by omega⟩, fun h => by omega, hB⟩; done) | (refine ⟨0, 4, rfl, ⟨fun h => by omega, fun h => absurd (by simpa using h.2.2) hnl⟩, fun h => by omega, hB⟩; done) | (have hj0 : j = 0 := (by omega); subst hj0; exact ⟨rk a N, 0, rfl, ⟨fun _ => ⟨by omega, by omega, by simpa using hlt⟩, fun _ => rfl⟩, fun _ => rfl, hB⟩)

theorem word_any (N a : Nat) (w0 : World) (hN : N ≤ 12) (hlt : a < 2 ^ N) :
    CallsV Try.prog 18 #[.int .i64 (N : Int), .int .i64 (popTo a N : Int), .int .i64 (rk a N : Int)] w0 (fun v w => v = .tuple #[.int .u32 (a : Int), .int .i64 0] ∧ Below w0.heap.size w0 w) := by
  refine enter2 Try.func18 rfl Try.ntmps18 (by simp) rfl ?_
  have hB := Below.refl w0.heap.size w0
  simp only [argLoc, Nat.zero_add, Nat.reduceAdd]
  have hRl := rk_lt a N hN
  have hCl := cho_le (n := N) (k := popTo a N) hN
  have hpl0 := popTo_le a N
  have hpw : 2 ^ N ≤ 2 ^ 12 := Nat.pow_le_pow_right (by omega) hN
  refine W.seqR ?_
  refine LS.vv rfl rfl (by decide) (Val.cast (v := .int .u32 ((0 : Nat) : Int)) (Val.assign rfl) rfl) ?_
  refine LS.vv rfl rfl (by decide) (Val.cast (v := .int .i64 ((0 : Nat) : Int)) (Val.assign rfl) rfl) ?_
  refine LS.nil ?_
  refine W.seqR ?_
  refine LS.vv rfl rfl (by decide) (Val.move rfl) ?_
  refine LS.vv rfl rfl (by decide) (Val.move rfl) ?_
  refine LS.m rfl (Step.call body14 rfl rfl (by decide) rfl (CallsV.mono (many_any (N : Int) (popTo a N : Int) _) ?_))
  rintro _ w1 ⟨mm, e, rfl, he, hmm, hb1⟩
  replace hB := hB.trans (hb1.mono hB.size)
  have hE : e = 0 := he.2 (by omega)
  have hmm2 : mm = cho N (popTo a N) := by simpa using hmm hE
  refine LS.vv rfl rfl (by decide) (Val.move rfl) ?_
  refine LS.vv rfl rfl (by decide) (Val.extract rfl rfl) ?_
  refine LS.vv rfl rfl (by decide) (Val.extract rfl rfl) ?_
  refine LS.vv rfl rfl (by decide) (Val.assign rfl) ?_
  refine LS.vv rfl rfl (by decide) (Val.assign rfl) ?_
  refine LS.nil ?_
  refine W.seq ?_
  refine W.seqR ?_
  refine LS.vv rfl rfl (by decide) (Val.move rfl) ?_
  refine LS.vv rfl rfl (by decide) (Val.cast (v := .bool false) (Val.neq rfl rfl) (by simp; omega)) ?_
  refine LS.nil ?_
  refine W.condF rfl ?_
  refine W.skip ?_
  refine thenP_normal ?_
  refine W.seq ?_
  refine W.seqR ?_
  refine LS.vv rfl rfl (by decide) (Val.move rfl) ?_
  refine LS.vv rfl rfl (by decide) (Val.cast (v := .bool false) (Val.lss rfl rfl) (by simp)) ?_
  refine LS.vv rfl rfl (by decide) (Val.move rfl) ?_
  refine LS.vg rfl rfl rfl rfl (by decide) (Val.move rfl) ?_
  refine LS.vg rfl rfl rfl rfl (by decide) (Val.move rfl) ?_
  refine LS.vg rfl rfl rfl rfl (by decide) (Val.cast (v := .bool false) (Val.geq rfl rfl) (by refine congrArg Value.bool (decide_eq_false ?_); omega)) ?_
  refine LS.vv rfl rfl (by decide) (Val.pickF rfl rfl rfl) ?_
  refine LS.nil ?_
  refine W.condF rfl ?_
  refine W.skip ?_
  refine thenP_normal ?_
  refine W.seqR ?_
  refine LS.vv rfl rfl (by decide) (Val.cast (v := .int .u32 ((0 : Nat) : Int)) (Val.assign rfl) rfl) ?_
  refine LS.nil ?_
  refine W.seq ?_
  refine W.seqR ?_
  refine LS.vv rfl rfl (by decide) (Val.move rfl) ?_
  refine LS.vv rfl rfl (by decide) (Val.sub64 rfl rfl (by omega)) ?_
  refine LS.vv rfl rfl (by decide) (Val.assign rfl) ?_
  refine LS.nil ?_
  refine W.block ?_
  refine W.loop (α := Nat) (fun j => [(1, .int .i64 (popTo a j : Int)), (2, .int .i64 (rk a j : Int)), (10, .int .u32 (hi a j : Int)), (11, .int .i64 ((j : Int) - 1))]) [] (fun j w => j ≤ N ∧ Below w0.heap.size w0 w) (fun j => j) (N) (Sub.cons rfl (Sub.cons rfl (Sub.cons' rfl (by rw [hi_top hlt]) (Sub.cons rfl (Sub.nil _))))) (Sub.nil _) ?_ ?_
  · exact ⟨Nat.le_refl _, hB⟩
  rintro j w2 ⟨hj, hB⟩
  simp only [List.cons_append, List.nil_append]
  refine W.seq ?_
  refine W.seqR ?_
  refine LS.vv rfl rfl (by decide) (Val.move rfl) ?_
  refine LS.vv rfl rfl (by decide) (Val.geq rfl rfl) ?_
  refine LS.nil ?_
  first | refine W.condD rfl (fun hc1 => ?_) (fun hc1 => ?_) | refine W.cond rfl (fun hc1 => ?_) (fun hc1 => ?_)
  ·
    obtain ⟨m, rfl⟩ : ∃ m, j = m + 1 := ⟨j - 1, by omega⟩
    have hidx : ((m + 1 : Nat) : Int) - 1 = (m : Int) := by omega
    rw [hidx]
    have hpl := popTo_le a (m + 1)
    have hps := popTo_succ a m
    have hrs := rk_succ a m
    have hrm := rk_mono a hj
    have hrt := rk_test a m (by omega)
    have hcl := cho_le (n := m) (k := popTo a (m + 1)) (by omega)
    have hhl := hi_le a (m + 1)
    have hss := shl_one_lt (i := m) (by omega)
    have hhs := hi_succ a m
    have hsl : 1 <<< m ≤ 4294967295 := hss
    refine W.skip ?_
    refine thenP_normal ?_
    refine W.seq ?_
    refine W.block ?_
    refine W.seqR ?_
    refine LS.vv rfl rfl (by decide) (Val.move rfl) ?_
    refine LS.vv rfl rfl (by decide) (Val.move rfl) ?_
    refine LS.m rfl (Step.call body31 rfl rfl (by decide) rfl (CallsV.mono (choose_any m (popTo a (m + 1)) _ (by omega) (by omega)) ?_))
    rintro _ w3 ⟨rfl, hb3⟩
    replace hB := hB.trans (hb3.mono hB.size)
    refine LS.vv rfl rfl (by decide) (Val.assign rfl) ?_
    refine LS.nil ?_
    refine W.seqR ?_
    refine LS.vv rfl rfl (by decide) (Val.move rfl) ?_
    refine LS.vv rfl rfl (by decide) (Val.move rfl) ?_
    refine LS.vv rfl rfl (by decide) (Val.geq rfl rfl) ?_
    refine LS.nil ?_
    first | refine W.condD rfl (fun hc2 => ?_) (fun hc2 => ?_) | refine W.cond rfl (fun hc2 => ?_) (fun hc2 => ?_)
    ·
      have hbt : a.testBit m = true := hrt.1 (by omega)
      rw [if_pos hbt] at hps hrs hhs
      refine W.seqR ?_
      refine LS.vv rfl rfl (by decide) (Val.move rfl) ?_
      refine LS.vv rfl rfl (by decide) (Val.move rfl) ?_
      refine LS.vv rfl rfl (by decide) (Val.shlU32 (i := 1) rfl rfl (by omega) (by omega)) ?_
      refine LS.vv rfl rfl (by decide) (Val.orU32 rfl rfl (by omega) (by omega)) ?_
      refine LS.vv rfl rfl (by decide) (Val.assign rfl) ?_
      refine LS.nil ?_
      refine W.seqR ?_
      refine LS.vv rfl rfl (by decide) (Val.move rfl) ?_
      refine LS.vv rfl rfl (by decide) (Val.move rfl) ?_
      first | refine LS.vv rfl rfl (by decide) (Val.subN rfl rfl (by omega) (by omega)) ?_ | refine LS.vv rfl rfl (by decide) (Val.sub64 rfl rfl (by omega)) ?_
      refine LS.vv rfl rfl (by decide) (Val.assign rfl) ?_
      refine LS.nil ?_
      refine W.reg ?_
      refine LS.vv rfl rfl (by decide) (Val.move rfl) ?_
      first | refine LS.vv rfl rfl (by decide) (Val.subN (j := 1) rfl rfl (by omega) (by omega)) ?_ | refine LS.vv rfl rfl (by decide) (Val.sub64 rfl rfl (by omega)) ?_
      refine LS.vv rfl rfl (by decide) (Val.assign rfl) ?_
      refine LS.nil ?_
      refine inBlk_normal ?_
      refine thenP_normal ?_
      refine W.reg ?_
      refine LS.vv rfl rfl (by decide) (Val.move rfl) ?_
      refine LS.vv rfl rfl (by decide) (Val.sub64 rfl rfl (by omega)) ?_
      refine LS.vv rfl rfl (by decide) (Val.assign rfl) ?_
      refine LS.nil ?_
      refine thenP_normal ?_
      refine ⟨m, ?_, ?_, ⟨by omega, hB⟩, by omega⟩
      · exact Sub.cons' rfl (by congr 1 <;> omega) (Sub.cons' rfl (by congr 1 <;> omega) (Sub.cons' rfl (by rw [hhs]) (Sub.cons rfl (Sub.nil _))))
      · repeat (first | exact Sub.nil _ | refine Sub.cons rfl ?_)
    ·
      have hbt : ¬ a.testBit m = true := fun h => absurd (hrt.2 h) (by omega)
      rw [if_neg hbt] at hps hrs hhs
      refine W.skip ?_
      refine inBlk_normal ?_
      refine thenP_normal ?_
      refine W.reg ?_
      refine LS.vv rfl rfl (by decide) (Val.move rfl) ?_
      refine LS.vv rfl rfl (by decide) (Val.sub64 rfl rfl (by omega)) ?_
      refine LS.vv rfl rfl (by decide) (Val.assign rfl) ?_
      refine LS.nil ?_
      refine thenP_normal ?_
      refine ⟨m, ?_, ?_, ⟨by omega, hB⟩, by omega⟩
      · exact Sub.cons' rfl (by congr 1 <;> omega) (Sub.cons' rfl (by congr 1 <;> omega) (Sub.cons' rfl (by rw [hhs]) (Sub.cons rfl (Sub.nil _))))
      · repeat (first | exact Sub.nil _ | refine Sub.cons rfl ?_)
  ·
    refine W.exit ?_
    refine thenP_exit ?_
    refine thenP_exit ?_
    refine inBlk_exit ?_
    refine thenP_normal ?_
    refine W.seqR ?_
    refine LS.vv rfl rfl (by decide) (Val.move rfl) ?_
    refine LS.vv rfl rfl (by decide) (Val.assign rfl) ?_
    refine LS.vv rfl rfl (by decide) (Val.cast (v := .int .i64 ((0 : Nat) : Int)) (Val.assign rfl) rfl) ?_
    refine LS.nil ?_
    refine W.ret ?_
    refine ret2 (by first | exact .inl rfl | exact .inr rfl) rfl rfl ?_
    first | (exfalso; omega) | (have hj0 : j = 0 := (by omega); subst hj0; exact ⟨by rw [hi_zero]; rfl, hB⟩)

theorem rankBack_any (n : Int) (a b : Nat) (w0 : World) (ha : a < 4294967296) (hb : b < 4294967296) :
    CallsV Try.prog 4 #[.int .i64 n, .int .u32 (a : Int), .int .u32 (b : Int)] w0 (fun v w => v = .bool true ∧ Below w0.heap.size w0 w) := by
  refine enter1 Try.func4 rfl Try.ntmps4 (by simp) rfl ?_
  have hB := Below.refl w0.heap.size w0
  simp only [argLoc, Nat.zero_add, Nat.reduceAdd]
  refine W.seqR ?_
  refine LS.vv rfl rfl (by decide) (Val.assign rfl) ?_
  refine LS.nil ?_
  refine W.seqR ?_
  refine LS.vv rfl rfl (by decide) (Val.move rfl) ?_
  refine LS.vv rfl rfl (by decide) (Val.move rfl) ?_
  refine LS.m rfl (Step.call body16 rfl rfl (by decide) rfl (CallsV.mono (rank_any n a _ ha) ?_))
  rintro _ w1 ⟨r1, e1, rfl, he1, hr1, hb1⟩
  replace hB := hB.trans (hb1.mono hB.size)
  refine LS.vv rfl rfl (by decide) (Val.move rfl) ?_
  refine LS.vv rfl rfl (by decide) (Val.extract rfl rfl) ?_
  refine LS.vv rfl rfl (by decide) (Val.extract rfl rfl) ?_
  refine LS.vv rfl rfl (by decide) (Val.assign rfl) ?_
  refine LS.vv rfl rfl (by decide) (Val.assign rfl) ?_
  refine LS.nil ?_
  refine W.seqR ?_
  refine LS.vv rfl rfl (by decide) (Val.move rfl) ?_
  refine LS.vv rfl rfl (by decide) (Val.move rfl) ?_
  refine LS.m rfl (Step.call body16 rfl rfl (by decide) rfl (CallsV.mono (rank_any n b _ hb) ?_))
  rintro _ w2 ⟨r2, e2, rfl, he2, hr2, hb2⟩
  replace hB := hB.trans (hb2.mono hB.size)
  refine LS.vv rfl rfl (by decide) (Val.move rfl) ?_
  refine LS.vv rfl rfl (by decide) (Val.extract rfl rfl) ?_
  refine LS.vv rfl rfl (by decide) (Val.extract rfl rfl) ?_
  refine LS.vv rfl rfl (by decide) (Val.assign rfl) ?_
  refine LS.vv rfl rfl (by decide) (Val.assign rfl) ?_
  refine LS.nil ?_
  refine W.seq ?_
  refine W.seqR ?_
  refine LS.vv rfl rfl (by decide) (Val.move rfl) ?_
  refine LS.vv rfl rfl (by decide) (Val.move rfl) ?_
  refine LS.vv rfl rfl (by decide) (Val.move rfl) ?_
  refine LS.m rfl (Step.lit (B := w0.heap.size) rfl rfl (by decide) Try.underlying44 elem27 rfl rfl (by omega) (by simp [Value.oneCell']) hB.size ?_)
  rintro w3 hO3 hg3 hbl3 hsz3
  replace hB := hB.trans (hbl3.mono hB.size)
  refine LS.m rfl (Step.call body17 rfl rfl (by decide) rfl (CallsV.mono (below_any n [a, b] _ _ _ hO3.rd (by simp) (by simp; omega)) ?_))
  rintro _ w4 ⟨q, rfl, hq, hb4⟩
  replace hB := hB.trans (hb4.mono hB.size)
  have hq2 : q = true ↔ 0 ≤ n ∧ n ≤ 12 ∧ a < 2 ^ n.toNat ∧ b < 2 ^ n.toNat := by rw [hq]; simp [OkW]
  refine LS.vv rfl rfl (by decide) (Val.not rfl) ?_
  refine LS.nil ?_
  first | refine W.condD rfl (fun hc1 => ?_) (fun hc1 => ?_) | refine W.cond rfl (fun hc1 => ?_) (fun hc1 => ?_)
  ·
    have hqf : ¬ (0 ≤ n ∧ n ≤ 12 ∧ a < 2 ^ n.toNat ∧ b < 2 ^ n.toNat) := by rw [← hq2]; simpa using hc1
    refine W.seqR ?_
    refine LS.vv rfl rfl (by decide) (Val.move rfl) ?_
    refine LS.vv rfl rfl (by decide) (Val.neq rfl rfl) ?_
    refine LS.vv rfl rfl (by decide) (Val.move rfl) ?_
    refine LS.split 2 rfl (fun hg2 => ?_) (fun hg2 => ?_)
    ·
      first | (have hg2p := of_decide_eq_true hg2) | skip
      refine LS.s rfl rfl rfl hg2 (by decide) ?_
      refine LS.s rfl rfl rfl hg2 (by decide) ?_
      refine LS.vv rfl rfl (by decide) (Val.pickT rfl hg2 rfl) ?_
      refine LS.vv rfl rfl (by decide) (Val.assign rfl) ?_
      refine LS.nil ?_
      refine W.ret ?_
      refine thenP_ret ?_
      refine ret1 (by first | exact .inl rfl | exact .inr rfl) rfl ?_
      first | exact ⟨rfl, hB⟩ | (exfalso; omega) | (exfalso; exact hqf ⟨(he1.1 (by omega)).1, (he1.1 (by omega)).2.1, (he1.1 (by omega)).2.2, (he2.1 (by omega)).2.2⟩) | (refine ⟨congrArg Value.bool (decide_eq_true ?_), hB⟩; intro h0; exact hqf ⟨(he1.1 (by omega)).1, (he1.1 (by omega)).2.1, (he1.1 (by omega)).2.2, (he2.1 (by omega)).2.2⟩)
    ·
      first | (have hg2p := of_decide_eq_false hg2) | skip
      refine LS.vg rfl rfl rfl hg2 (by decide) (Val.move rfl) ?_
      refine LS.vg rfl rfl rfl hg2 (by decide) (Val.neq rfl rfl) ?_
      refine LS.vv rfl rfl (by decide) (Val.pickF rfl hg2 rfl) ?_
      refine LS.vv rfl rfl (by decide) (Val.assign rfl) ?_
      refine LS.nil ?_
      refine W.ret ?_
      refine thenP_ret ?_
      refine ret1 (by first | exact .inl rfl | exact .inr rfl) rfl ?_
      first | exact ⟨rfl, hB⟩ | (exfalso; omega) | (exfalso; exact hqf ⟨(he1.1 (by omega)).1, (he1.1 (by omega)).2.1, (he1.1 (by omega)).2.2, (he2.1 (by omega)).2.2⟩) | (refine ⟨congrArg Value.bool (decide_eq_true ?_), hB⟩; intro h0; exact hqf ⟨(he1.1 (by omega)).1, (he1.1 (by omega)).2.1, (he1.1 (by omega)).2.2, (he2.1 (by omega)).2.2⟩)
  ·
    obtain ⟨q1, q2, q3, q4⟩ := hq2.1 (by simpa using hc1)
    obtain ⟨N, rfl⟩ := Int.eq_ofNat_of_zero_le q1
    have hN : N ≤ 12 := by omega
    have hla : a < 2 ^ N := by simpa using q3
    have hlb : b < 2 ^ N := by simpa using q4
    have hE1 : e1 = 0 := he1.2 ⟨q1, q2, q3⟩
    have hE2 : e2 = 0 := he2.2 ⟨q1, q2, q4⟩
    have hv1 : r1 = rk a N := by simpa using hr1 hE1
    have hv2 : r2 = rk b N := by simpa using hr2 hE2
    have hpa := popc_short hla (by omega)
    have hpb := popc_short hlb (by omega)
    refine W.skip ?_
    refine thenP_normal ?_
    refine W.seqR ?_
    refine LS.vv rfl rfl (by decide) (Val.move rfl) ?_
    refine LS.vv rfl rfl (by decide) (Val.move rfl) ?_
    refine LS.m rfl (Step.call body19 rfl rfl (by decide) rfl (CallsV.mono (size_any a _ ha) ?_))
    rintro _ w5 ⟨rfl, hb5⟩
    replace hB := hB.trans (hb5.mono hB.size)
    refine LS.vv rfl rfl (by decide) (Val.move rfl) ?_
    rw [hpa]
    rw [hv1]
    refine LS.m rfl (Step.call body18 rfl rfl (by decide) rfl (CallsV.mono (word_any N a _ hN hla) ?_))
    rintro _ w6 ⟨rfl, hb6⟩
    replace hB := hB.trans (hb6.mono hB.size)
    refine LS.vv rfl rfl (by decide) (Val.move rfl) ?_
    refine LS.vv rfl rfl (by decide) (Val.extract rfl rfl) ?_
    refine LS.vv rfl rfl (by decide) (Val.extract rfl rfl) ?_
    refine LS.vv rfl rfl (by decide) (Val.assign rfl) ?_
    refine LS.vv rfl rfl (by decide) (Val.assign rfl) ?_
    refine LS.nil ?_
    refine W.seq ?_
    refine W.seqR ?_
    refine LS.vv rfl rfl (by decide) (Val.move rfl) ?_
    refine LS.vv rfl rfl (by decide) (Val.cast (v := .bool false) (Val.neq rfl rfl) (by first | (simp; done) | (simp; omega))) ?_
    refine LS.vv rfl rfl (by decide) (Val.move rfl) ?_
    refine LS.vg rfl rfl rfl rfl (by decide) (Val.move rfl) ?_
    refine LS.vg rfl rfl rfl rfl (by decide) (Val.cast (v := .bool false) (Val.neq rfl rfl) (by first | (simp; done) | (simp; omega))) ?_
    refine LS.vv rfl rfl (by decide) (Val.pickF rfl rfl rfl) ?_
    refine LS.vv rfl rfl (by decide) (Val.move rfl) ?_
    refine LS.vg rfl rfl rfl rfl (by decide) (Val.move rfl) ?_
    refine LS.vg rfl rfl rfl rfl (by decide) (Val.cast (v := .bool false) (Val.neq rfl rfl) (by first | (simp; done) | (simp; omega))) ?_
    refine LS.vv rfl rfl (by decide) (Val.pickF rfl rfl rfl) ?_
    refine LS.vv rfl rfl (by decide) (Val.move rfl) ?_
    refine LS.vg rfl rfl rfl rfl (by decide) (Val.move rfl) ?_
    refine LS.vg rfl rfl rfl rfl (by decide) (Val.move rfl) ?_
    refine LS.vg rfl rfl rfl rfl (by decide) (Val.cast (v := .bool false) (Val.neq rfl rfl) (by first | (simp; done) | (simp; omega))) ?_
    refine LS.vv rfl rfl (by decide) (Val.pickF rfl rfl rfl) ?_
    refine LS.nil ?_
    refine W.condF rfl ?_
    refine W.skip ?_
    refine thenP_normal ?_
    refine W.seqR ?_
    refine LS.vv rfl rfl (by decide) (Val.move rfl) ?_
    refine LS.m rfl (Step.call body19 rfl rfl (by decide) rfl (CallsV.mono (size_any a _ ha) ?_))
    rintro _ w7 ⟨rfl, hb7⟩
    replace hB := hB.trans (hb7.mono hB.size)
    refine LS.vv rfl rfl (by decide) (Val.move rfl) ?_
    refine LS.m rfl (Step.call body19 rfl rfl (by decide) rfl (CallsV.mono (size_any b _ hb) ?_))
    rintro _ w8 ⟨rfl, hb8⟩
    replace hB := hB.trans (hb8.mono hB.size)
    refine LS.vv rfl rfl (by decide) (Val.neq rfl rfl) ?_
    refine LS.vv rfl rfl (by decide) (Val.move rfl) ?_
    refine LS.split 5 rfl (fun hg3 => ?_) (fun hg3 => ?_)
    ·
      first | (have hg3p := of_decide_eq_true hg3) | skip
      refine LS.s rfl rfl rfl hg3 (by decide) ?_
      refine LS.s rfl rfl rfl hg3 (by decide) ?_
      refine LS.s rfl rfl rfl hg3 (by decide) ?_
      refine LS.s rfl rfl rfl hg3 (by decide) ?_
      refine LS.s rfl rfl rfl hg3 (by decide) ?_
      refine LS.s rfl rfl rfl hg3 (by decide) ?_
      refine LS.s rfl rfl rfl hg3 (by decide) ?_
      refine LS.vv rfl rfl (by decide) (Val.pickT rfl hg3 rfl) ?_
      refine LS.vv rfl rfl (by decide) (Val.assign rfl) ?_
      refine LS.nil ?_
      refine W.ret ?_
      refine ret1 (by first | exact .inl rfl | exact .inr rfl) rfl ?_
      first | exact ⟨rfl, hB⟩ | (exfalso; omega) | (exfalso; exact hqf ⟨(he1.1 (by omega)).1, (he1.1 (by omega)).2.1, (he1.1 (by omega)).2.2, (he2.1 (by omega)).2.2⟩) | (refine ⟨congrArg Value.bool (decide_eq_true ?_), hB⟩; intro h0; exact hqf ⟨(he1.1 (by omega)).1, (he1.1 (by omega)).2.1, (he1.1 (by omega)).2.2, (he2.1 (by omega)).2.2⟩)
    ·
      first | (have hg3p := of_decide_eq_false hg3) | skip
      refine LS.vg rfl rfl rfl hg3 (by decide) (Val.move rfl) ?_
      refine LS.vg rfl rfl rfl hg3 (by decide) (Val.move rfl) ?_
      refine LS.vg rfl rfl rfl hg3 (by decide) (Val.lss rfl rfl) ?_
      refine LS.vg rfl rfl rfl hg3 (by decide) (Val.move rfl) ?_
      refine LS.vg rfl rfl rfl hg3 (by decide) (Val.move rfl) ?_
      refine LS.vg rfl rfl rfl hg3 (by decide) (Val.lss rfl rfl) ?_
      rw [hv2]
      have hpp : popTo a N = popTo b N := by rw [← hpa, ← hpb]; have := ‹_ = _›; omega
      have hri := rk_iff hN hla hlb hpp
      refine LS.vg rfl rfl rfl hg3 (by decide) (Val.cast (v := .bool true) (Val.eqlB Try.underlying4 rfl rfl) (by refine congrArg Value.bool (decide_eq_true ?_); rw [decide_eq_decide]; omega)) ?_
      refine LS.vv rfl rfl (by decide) (Val.pickF rfl hg3 rfl) ?_
      refine LS.vv rfl rfl (by decide) (Val.assign rfl) ?_
      refine LS.nil ?_
      refine W.ret ?_
      refine ret1 (by first | exact .inl rfl | exact .inr rfl) rfl ?_
      first | exact ⟨rfl, hB⟩ | (exfalso; omega) | (exfalso; exact hqf ⟨(he1.1 (by omega)).1, (he1.1 (by omega)).2.1, (he1.1 (by omega)).2.2, (he2.1 (by omega)).2.2⟩) | (refine ⟨congrArg Value.bool (decide_eq_true ?_), hB⟩; intro h0; exact hqf ⟨(he1.1 (by omega)).1, (he1.1 (by omega)).2.1, (he1.1 (by omega)).2.2, (he2.1 (by omega)).2.2⟩)

end Go.Proofs.Ytclobhnclogaoaa
