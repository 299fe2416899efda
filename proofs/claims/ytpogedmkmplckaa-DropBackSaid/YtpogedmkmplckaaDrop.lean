/-
  The walks of drop.weigh, drop.Sum, quipuref.Bools, quipuref.Without.
-/
import Derived.Test.YtpogedmkmplckaaVfacts
import Derived.Test.YtpogedmkmplckaaDropPlain
namespace Go.Proofs.Ytpogedmkmplckaa
open Go Go.RowKit V
set_option linter.unusedVariables false
set_option linter.unusedSimpArgs false

theorem weigh_any (bs : List Bool) (p : Option Addr) (c : Nat) (w0 : World) (hr : Rd w0 p (bv bs)) (hb : bs.length ≤ 64) :
    CallsV Try.prog 32 #[.slice p bs.length c] w0 (fun v w => v = .int .i64 (weigh bs : Int) ∧ Below w0.heap.size w0 w) := by
  refine enter1 Try.func32 rfl Try.ntmps32 (by simp) rfl ?_
  have hB := Below.refl w0.heap.size w0
  simp only [argLoc]
  refine W.seqR ?_
  refine LS.vv rfl rfl (by decide) (Val.cast (v := .int .i64 ((0 : Nat) : Int)) (Val.assign rfl) rfl) ?_
  refine LS.nil ?_
  refine W.seqR ?_
  refine LS.vv rfl rfl (by decide) (Val.cast (v := .int .i64 ((0 : Nat) : Int)) (Val.assign rfl) rfl) ?_
  refine LS.nil ?_
  refine W.seq ?_
  refine W.seqR ?_
  refine LS.vv rfl rfl (by decide) (Val.move rfl) ?_
  refine LS.vv rfl rfl (by decide) (Val.len Try.underlying22 rfl) ?_
  refine LS.vv rfl rfl (by decide) (Val.cast (v := .int .i64 ((0 : Nat) : Int)) (Val.move rfl) rfl) ?_
  refine LS.nil ?_
  refine W.block ?_
  refine W.loop (α := Nat) (fun k => [(3, .int .i64 (weighTo bs k : Int)), (8, .int .i64 (k : Int))]) [(6, _), (7, _)] (fun k w => k ≤ bs.length ∧ Below w0.heap.size w0 w) (fun k => bs.length - k) (0) (Sub.cons rfl (Sub.cons rfl (Sub.nil _))) (Sub.cons rfl (Sub.cons rfl (Sub.nil _))) ?_ ?_
  · exact ⟨Nat.zero_le _, hB⟩
  rintro k w1 ⟨hk, hB⟩
  simp only [List.cons_append, List.nil_append]
  have hwb := weigh_bound bs k
  have hkk : k * k ≤ 64 * 64 := Nat.mul_le_mul (by omega) (by omega)
  refine W.seqR ?_
  refine LS.vv rfl rfl (by decide) (Val.lss rfl rfl) ?_
  refine LS.nil ?_
  refine W.seq ?_
  first | refine W.condD rfl (fun hc1 => ?_) (fun hc1 => ?_) | refine W.cond rfl (fun hc1 => ?_) (fun hc1 => ?_)
  ·
    refine W.skip ?_
    refine thenP_normal ?_
    refine W.seq ?_
    refine W.block ?_
    refine W.seqR ?_
    refine LS.vv rfl rfl (by decide) (Val.move rfl) ?_
    refine LS.vv rfl rfl (by decide) (Val.index1 Try.underlying22 elem4 rfl rfl (by omega) hr (bv_lt (by omega))) ?_
    refine LS.m rfl (Step.load rfl rfl (by decide) flat4 rfl (hr.below hB) (bv_at (by omega)) ?_)
    refine LS.vv rfl rfl (by decide) (Val.assign rfl) ?_
    refine LS.vv rfl rfl (by decide) (Val.assign rfl) ?_
    refine LS.nil ?_
    refine W.seqR ?_
    refine LS.vv rfl rfl (by decide) (Val.move rfl) ?_
    refine LS.nil ?_
    first | refine W.condD rfl (fun hc2 => ?_) (fun hc2 => ?_) | refine W.cond rfl (fun hc2 => ?_) (fun hc2 => ?_)
    ·
      refine W.reg ?_
      refine LS.vv rfl rfl (by decide) (Val.move rfl) ?_
      refine LS.vv rfl rfl (by decide) (Val.move rfl) ?_
      first | refine LS.vv rfl rfl (by decide) (Val.addN (j := 1) rfl rfl (by omega)) ?_ | refine LS.vv rfl rfl (by decide) (Val.add64 rfl rfl (by omega)) ?_
      first | refine LS.vv rfl rfl (by decide) (Val.addN rfl rfl (by omega)) ?_ | refine LS.vv rfl rfl (by decide) (Val.add64 rfl rfl (by omega)) ?_
      refine LS.vv rfl rfl (by decide) (Val.assign rfl) ?_
      refine LS.nil ?_
      refine inBlk_normal ?_
      refine thenP_normal ?_
      refine W.reg ?_
      first | refine LS.vv rfl rfl (by decide) (Val.addN (j := 1) rfl rfl (by omega)) ?_ | refine LS.vv rfl rfl (by decide) (Val.add64 rfl rfl (by omega)) ?_
      refine LS.vv rfl rfl (by decide) (Val.move rfl) ?_
      refine LS.nil ?_
      refine thenP_normal ?_
      have hk1 : k < bs.length := by omega
      refine ⟨k + 1, ?_, ?_, ⟨by omega, hB⟩, by omega⟩
      · exact Sub.cons' rfl (by rw [weighTo_succ, hc2]; rfl) (Sub.cons rfl (Sub.nil _))
      · repeat (first | exact Sub.nil _ | refine Sub.cons rfl ?_)
    ·
      refine W.skip ?_
      refine inBlk_normal ?_
      refine thenP_normal ?_
      refine W.reg ?_
      first | refine LS.vv rfl rfl (by decide) (Val.addN (j := 1) rfl rfl (by omega)) ?_ | refine LS.vv rfl rfl (by decide) (Val.add64 rfl rfl (by omega)) ?_
      refine LS.vv rfl rfl (by decide) (Val.move rfl) ?_
      refine LS.nil ?_
      refine thenP_normal ?_
      have hk1 : k < bs.length := by omega
      refine ⟨k + 1, ?_, ?_, ⟨by omega, hB⟩, by omega⟩
      · exact Sub.cons' rfl (by rw [weighTo_succ, hc2]; rfl) (Sub.cons rfl (Sub.nil _))
      · repeat (first | exact Sub.nil _ | refine Sub.cons rfl ?_)
  ·
    refine W.exit ?_
    refine thenP_exit ?_
    refine thenP_exit ?_
    refine inBlk_exit ?_
    refine thenP_normal ?_
    refine W.seqR ?_
    refine LS.vv rfl rfl (by decide) (Val.move rfl) ?_
    refine LS.vv rfl rfl (by decide) (Val.assign rfl) ?_
    refine LS.nil ?_
    refine W.ret ?_
    refine ret1 (by first | exact .inl rfl | exact .inr rfl) rfl ?_
    obtain rfl : k = bs.length := by omega
    exact ⟨rfl, hB⟩

theorem sum_any (bs : List Bool) (p : Option Addr) (c : Nat) (w0 : World) (hr : Rd w0 p (bv bs)) (hb : bs.length ≤ 12) :
    CallsV Try.prog 12 #[.slice p bs.length c] w0 (fun v w => v = .tuple #[.int .i64 (sumOf bs : Int), .int .i64 0] ∧ Below w0.heap.size w0 w) := by
  refine enter2 Try.func12 rfl Try.ntmps12 (by simp) rfl ?_
  have hB := Below.refl w0.heap.size w0
  simp only [argLoc]
  have hwb := weigh_bound bs bs.length
  have hkk : bs.length * bs.length ≤ 64 * 64 := Nat.mul_le_mul (by omega) (by omega)
  refine W.seqR ?_
  refine LS.vv rfl rfl (by decide) (Val.cast (v := .int .i64 ((0 : Nat) : Int)) (Val.assign rfl) rfl) ?_
  refine LS.vv rfl rfl (by decide) (Val.cast (v := .int .i64 ((0 : Nat) : Int)) (Val.assign rfl) rfl) ?_
  refine LS.nil ?_
  refine W.seq ?_
  refine W.seqR ?_
  refine LS.vv rfl rfl (by decide) (Val.move rfl) ?_
  refine LS.vv rfl rfl (by decide) (Val.len Try.underlying22 rfl) ?_
  refine LS.vv rfl rfl (by decide) (Val.gtr rfl rfl) ?_
  refine LS.nil ?_
  first | refine W.condD rfl (fun hc1 => ?_) (fun hc1 => ?_) | refine W.cond rfl (fun hc1 => ?_) (fun hc1 => ?_)
  ·
    refine W.seqR ?_
    refine LS.vv rfl rfl (by decide) (Val.cast (v := .int .i64 ((0 : Nat) : Int)) (Val.assign rfl) rfl) ?_
    refine LS.vv rfl rfl (by decide) (Val.cast (v := .int .i64 ((1 : Nat) : Int)) (Val.assign rfl) rfl) ?_
    refine LS.nil ?_
    refine W.ret ?_
    refine thenP_ret ?_
    refine ret2 (by first | exact .inl rfl | exact .inr rfl) rfl rfl ?_
    exfalso; omega
  ·
    refine W.skip ?_
    refine thenP_normal ?_
    refine W.seqR ?_
    refine LS.vv rfl rfl (by decide) (Val.move rfl) ?_
    refine LS.m rfl (Step.call body32 rfl rfl (by decide) rfl (CallsV.mono (weigh_any bs _ _ _ (hr.below hB) (by omega)) ?_))
    rintro _ w1 ⟨rfl, hb1⟩
    replace hB := hB.trans (hb1.mono hB.size)
    refine LS.vv rfl rfl (by decide) (Val.move rfl) ?_
    refine LS.vv rfl rfl (by decide) (Val.len Try.underlying22 rfl) ?_
    first | refine LS.vv rfl rfl (by decide) (Val.addN (j := 1) rfl rfl (by omega)) ?_ | refine LS.vv rfl rfl (by decide) (Val.add64 rfl rfl (by omega)) ?_
    first | refine LS.vv rfl rfl (by decide) (Val.remN rfl rfl (by omega)) ?_ | refine LS.vv rfl rfl (by decide) (Val.rem rfl rfl (by omega) (by omega)) ?_ | refine LS.vv rfl rfl (by decide) (Val.remT rfl rfl (by omega)) ?_
    refine LS.vv rfl rfl (by decide) (Val.assign rfl) ?_
    refine LS.vv rfl rfl (by decide) (Val.cast (v := .int .i64 ((0 : Nat) : Int)) (Val.assign rfl) rfl) ?_
    refine LS.nil ?_
    refine W.ret ?_
    refine ret2 (by first | exact .inl rfl | exact .inr rfl) rfl rfl ?_
    exact ⟨rfl, hB⟩

theorem sum_large (p : Option Addr) (m c : Nat) (w0 : World) (hb : 12 < m) :
    CallsV Try.prog 12 #[.slice p m c] w0 (fun v w => v = .tuple #[.int .i64 0, .int .i64 1] ∧ Below w0.heap.size w0 w) := by
  refine enter2 Try.func12 rfl Try.ntmps12 (by simp) rfl ?_
  have hB := Below.refl w0.heap.size w0
  simp only [argLoc]
  refine W.seqR ?_
  refine LS.vv rfl rfl (by decide) (Val.cast (v := .int .i64 ((0 : Nat) : Int)) (Val.assign rfl) rfl) ?_
  refine LS.vv rfl rfl (by decide) (Val.cast (v := .int .i64 ((0 : Nat) : Int)) (Val.assign rfl) rfl) ?_
  refine LS.nil ?_
  refine W.seq ?_
  refine W.seqR ?_
  refine LS.vv rfl rfl (by decide) (Val.move rfl) ?_
  refine LS.vv rfl rfl (by decide) (Val.len Try.underlying22 rfl) ?_
  refine LS.vv rfl rfl (by decide) (Val.gtr rfl rfl) ?_
  refine LS.nil ?_
  first | refine W.condD rfl (fun hc1 => ?_) (fun hc1 => ?_) | refine W.cond rfl (fun hc1 => ?_) (fun hc1 => ?_)
  ·
    refine W.seqR ?_
    refine LS.vv rfl rfl (by decide) (Val.cast (v := .int .i64 ((0 : Nat) : Int)) (Val.assign rfl) rfl) ?_
    refine LS.vv rfl rfl (by decide) (Val.cast (v := .int .i64 ((1 : Nat) : Int)) (Val.assign rfl) rfl) ?_
    refine LS.nil ?_
    refine W.ret ?_
    refine thenP_ret ?_
    refine ret2 (by first | exact .inl rfl | exact .inr rfl) rfl rfl ?_
    exact ⟨rfl, hB⟩
  ·
    exfalso; omega

theorem bools_any (a b : List Bool) (p q : Option Addr) (c c2 : Nat) (w0 : World) (hr : Rd w0 p (bv a)) (hr2 : Rd w0 q (bv b)) (hb : a.length ≤ 100000) :
    CallsV Try.prog 13 #[.slice p a.length c, .slice q b.length c2] w0 (fun v w => v = .bool (decide (a = b)) ∧ Below w0.heap.size w0 w) := by
  refine enter1 Try.func13 rfl Try.ntmps13 (by simp) rfl ?_
  have hB := Below.refl w0.heap.size w0
  simp only [argLoc, Nat.zero_add]
  refine W.seqR ?_
  refine LS.vv rfl rfl (by decide) (Val.assign rfl) ?_
  refine LS.nil ?_
  refine W.seq ?_
  refine W.seqR ?_
  refine LS.vv rfl rfl (by decide) (Val.move rfl) ?_
  refine LS.vv rfl rfl (by decide) (Val.len Try.underlying22 rfl) ?_
  refine LS.vv rfl rfl (by decide) (Val.move rfl) ?_
  refine LS.vv rfl rfl (by decide) (Val.len Try.underlying22 rfl) ?_
  refine LS.vv rfl rfl (by decide) (Val.neq rfl rfl) ?_
  refine LS.nil ?_
  first | refine W.condD rfl (fun hc1 => ?_) (fun hc1 => ?_) | refine W.cond rfl (fun hc1 => ?_) (fun hc1 => ?_)
  ·
    refine W.seqR ?_
    refine LS.vv rfl rfl (by decide) (Val.assign rfl) ?_
    refine LS.nil ?_
    refine W.ret ?_
    refine thenP_ret ?_
    refine ret1 (by first | exact .inl rfl | exact .inr rfl) rfl ?_
    refine ⟨?_, hB⟩
    have : ¬ a = b := by rintro rfl; omega
    simp [this]
  ·
    refine W.skip ?_
    refine thenP_normal ?_
    refine W.seq ?_
    refine W.seqR ?_
    refine LS.vv rfl rfl (by decide) (Val.cast (v := .int .i64 ((0 : Nat) : Int)) (Val.assign rfl) rfl) ?_
    refine LS.nil ?_
    refine W.block ?_
    refine W.loop (α := Nat) (fun k => [(5, .int .i64 (k : Int))]) [(0, _), (1, _)] (fun k w => (k ≤ a.length ∧ a.length = b.length ∧ ∀ j, j < k → gb a j = gb b j) ∧ Below w0.heap.size w0 w) (fun k => a.length - k) (0) (Sub.cons rfl (Sub.nil _)) (Sub.cons rfl (Sub.cons rfl (Sub.nil _))) ?_ ?_
    · exact ⟨⟨Nat.zero_le _, by omega, by omega⟩, hB⟩
    rintro k w1 ⟨⟨hk, hl, he⟩, hB⟩
    simp only [List.cons_append, List.nil_append]
    refine W.seq ?_
    refine W.seqR ?_
    refine LS.vv rfl rfl (by decide) (Val.move rfl) ?_
    refine LS.vv rfl rfl (by decide) (Val.move rfl) ?_
    refine LS.vv rfl rfl (by decide) (Val.len Try.underlying22 rfl) ?_
    refine LS.vv rfl rfl (by decide) (Val.lss rfl rfl) ?_
    refine LS.nil ?_
    first | refine W.condD rfl (fun hc2 => ?_) (fun hc2 => ?_) | refine W.cond rfl (fun hc2 => ?_) (fun hc2 => ?_)
    ·
      refine W.skip ?_
      refine thenP_normal ?_
      refine W.seq ?_
      refine W.block ?_
      refine W.seqD (S := fun w => Below w0.heap.size w0 w) [(0, true), (1, true), (2, true), (3, true), (4, true), (5, true), (6, true), (7, true), (8, true)] mixed (by kernel_rfl) hB.drew ?_
      replace hB := hB.drew
      refine DX.vv rfl rfl rfl (by decide) (Val.move rfl) ?_
      refine DX.vv rfl rfl rfl (by decide) (Val.move rfl) ?_
      refine DX.vv rfl rfl rfl (by decide) (Val.index1 Try.underlying22 elem4 rfl rfl (by omega) hr (bv_lt (by omega))) ?_
      refine DX.vv rfl rfl rfl (by decide) (Val.load flat4 rfl (fun _ h => hr.below h) (bv_at (by omega))) ?_
      refine DX.vv rfl rfl rfl (by decide) (Val.move rfl) ?_
      refine DX.vv rfl rfl rfl (by decide) (Val.move rfl) ?_
      refine DX.vv rfl rfl rfl (by decide) (Val.index1 Try.underlying22 elem4 rfl rfl (by omega) hr2 (bv_lt (by omega))) ?_
      refine DX.vv rfl rfl rfl (by decide) (Val.load flat4 rfl (fun _ h => hr2.below h) (bv_at (by omega))) ?_
      refine DX.vv rfl rfl rfl (by decide) (Val.neqB Try.underlying4 rfl rfl) ?_
      refine DX.nil ?_
      first | refine W.condD rfl (fun hc3 => ?_) (fun hc3 => ?_) | refine W.cond rfl (fun hc3 => ?_) (fun hc3 => ?_)
      ·
        refine W.seqR ?_
        refine LS.vv rfl rfl (by decide) (Val.assign rfl) ?_
        refine LS.nil ?_
        refine W.ret ?_
        refine inBlk_ret ?_
        refine thenP_ret ?_
        refine thenP_ret ?_
        refine inBlk_ret ?_
        refine thenP_ret ?_
        refine ret1 (by first | exact .inl rfl | exact .inr rfl) rfl ?_
        refine ⟨?_, hB⟩
        have : ¬ a = b := by rintro rfl; contradiction
        simp [this]
      ·
        refine W.skip ?_
        refine inBlk_normal ?_
        refine thenP_normal ?_
        refine W.reg ?_
        refine LS.vv rfl rfl (by decide) (Val.move rfl) ?_
        first | refine LS.vv rfl rfl (by decide) (Val.addN (j := 1) rfl rfl (by omega)) ?_ | refine LS.vv rfl rfl (by decide) (Val.add64 rfl rfl (by omega)) ?_
        refine LS.vv rfl rfl (by decide) (Val.assign rfl) ?_
        refine LS.nil ?_
        refine thenP_normal ?_
        refine ⟨k + 1, ?_, ?_, ⟨⟨by omega, hl, ?_⟩, hB⟩, by omega⟩
        · repeat (first | exact Sub.nil _ | refine Sub.cons rfl ?_)
        · repeat (first | exact Sub.nil _ | refine Sub.cons rfl ?_)
        · intro j hj
          by_cases e : j = k
          · subst e; exact Decidable.not_not.1 ‹_›
          · exact he j (by omega)
    ·
      refine W.exit ?_
      refine thenP_exit ?_
      refine thenP_exit ?_
      refine inBlk_exit ?_
      refine thenP_normal ?_
      refine W.seqR ?_
      refine LS.vv rfl rfl (by decide) (Val.assign rfl) ?_
      refine LS.nil ?_
      refine W.ret ?_
      refine ret1 (by first | exact .inl rfl | exact .inr rfl) rfl ?_
      refine ⟨?_, hB⟩
      have : a = b := gb_eq_of hl (fun j hj => he j (by omega))
      simp [this]

theorem without_any (bs : List Bool) (p : Option Addr) (c k : Nat) (w0 : World) (hr : Rd w0 p (bv bs)) (hb : bs.length ≤ 100000) (hk : k < bs.length) (hc : bs.length ≤ c) :
    CallsV Try.prog 14 #[.slice p bs.length c, .int .i64 (k : Int)] w0 (fun v w => ∃ p2 c2, v = .slice p2 (bs.eraseIdx k).length c2 ∧ Rd w p2 (bv (bs.eraseIdx k)) ∧ Below w0.heap.size w0 w) := by
  refine enter1 Try.func14 rfl Try.ntmps14 (by simp) rfl ?_
  have hB := Below.refl w0.heap.size w0
  simp only [argLoc, Nat.zero_add]
  refine W.seqR ?_
  refine LS.vv rfl rfl (by decide) (Val.assign rfl) ?_
  refine LS.nil ?_
  refine W.seqD (S := fun w => Below w0.heap.size w0 w) [(1, true), (2, true), (3, true), (5, true), (6, true), (7, true), (8, true), (0, false), (4, false), (9, false), (10, true)] mixed (by kernel_rfl) hB.drew ?_
  replace hB := hB.drew
  refine DX.vv rfl rfl rfl (by decide) (Val.move rfl) ?_
  refine DX.vv rfl rfl rfl (by decide) (Val.move rfl) ?_
  refine DX.vv rfl rfl rfl (by decide) (Val.sliceTo Try.underlying22 elem4 rfl rfl (by omega)) ?_
  refine DX.vv rfl rfl rfl (by decide) (Val.move rfl) ?_
  refine DX.vv rfl rfl rfl (by decide) (Val.move rfl) ?_
  first | refine DX.vv rfl rfl rfl (by decide) (Val.addN (j := 1) rfl rfl (by omega)) ?_ | refine DX.vv rfl rfl rfl (by decide) (Val.add64 rfl rfl (by omega)) ?_
  refine DX.vv rfl rfl rfl (by decide) (Val.sliceFrom Try.underlying22 elem4 rfl rfl (by omega) (by omega)) ?_
  refine DX.m rfl rfl (Step.lit (B := w0.heap.size) rfl rfl (by decide) Try.underlying22 elem4 rfl rfl (by omega) (by simp [Value.oneCell']) hB.size ?_)
  rintro w1 hO1 hg1 hbl1 hsz1
  replace hB := hB.trans (hbl1.mono hB.size)
  refine ⟨hB, ?_⟩
  refine DX.m rfl rfl (Step.append (B := w0.heap.size) rfl rfl (by decide) Try.underlying22 elem4 rfl rfl rfl rfl (hO1) ((hr.below hB).take k) (by simp; omega) (fun u hu => one_bools bs u (List.mem_of_mem_take hu)) (by omega) (by omega) hB.size ?_)
  rintro p2 c2 w2 hO2 hg2 hbl2
  replace hB := hB.trans hbl2
  refine ⟨hB, ?_⟩
  refine DX.m rfl rfl (Step.append (B := w0.heap.size) rfl rfl (by decide) Try.underlying22 elem4 rfl rfl rfl rfl (hO2) ((hr.below hB).cut (by simpa using hc)) (by simp) (fun u hu => one_bools bs u (List.mem_of_mem_drop hu)) (by omega) (by omega) hB.size ?_)
  rintro p3 c3 w3 hO3 hg3 hbl3
  replace hB := hB.trans hbl3
  refine ⟨hB, ?_⟩
  refine DX.vv rfl rfl rfl (by decide) (Val.assign rfl) ?_
  refine DX.nil ?_
  refine W.ret ?_
  refine ret1 (by first | exact .inl rfl | exact .inr rfl) rfl ?_
  have hl : (bs.eraseIdx k).length = 0 + k + (bs.length - (k + 1)) := by rw [List.length_eraseIdx_of_lt hk]; omega
  have he : bv (bs.eraseIdx k) = [] ++ List.take k (bv bs) ++ List.drop (k + 1) (bv bs) := by simp [bv, List.eraseIdx_eq_take_drop_succ]
  exact ⟨_, _, by rw [hl], by rw [he]; exact hO3.rd, hB⟩

theorem sum_gen (bs : List Bool) (p : Option Addr) (c : Nat) (w0 : World) (hr : Rd w0 p (bv bs)) :
    CallsV Try.prog 12 #[.slice p bs.length c] w0 (fun v w => ∃ s e : Nat, v = .tuple #[.int .i64 (s : Int), .int .i64 (e : Int)] ∧ ((bs.length ≤ 12 → s = sumOf bs ∧ e = 0) ∧ (12 < bs.length → e = 1)) ∧ Below w0.heap.size w0 w) := by
  by_cases h : bs.length ≤ 12
  · refine (sum_any bs p c w0 hr h).mono ?_
    rintro v w ⟨rfl, hb⟩
    exact ⟨sumOf bs, 0, rfl, ⟨fun _ => ⟨rfl, rfl⟩, fun h2 => by omega⟩, hb⟩
  · refine (sum_large p bs.length c w0 (by omega)).mono ?_
    rintro v w ⟨rfl, hb⟩
    exact ⟨0, 1, rfl, ⟨fun h2 => absurd h2 h, fun _ => rfl⟩, hb⟩

theorem dropApart_any (a b : List Bool) (p q : Option Addr) (c c2 x y : Nat) (w0 : World) (hr : Rd w0 p (bv a)) (hr2 : Rd w0 q (bv b)) (hc : a.length ≤ c) (hc2 : b.length ≤ c2) (hx : x < 256) (hy : y < 256) :
    CallsV Try.prog 3 #[.slice p a.length c, .slice q b.length c2, .int .u8 (x : Int), .int .u8 (y : Int)] w0 (fun v w => v = .bool true ∧ Below w0.heap.size w0 w) := by
  refine enter1 Try.func3 rfl Try.ntmps3 (by simp) rfl ?_
  have hB := Below.refl w0.heap.size w0
  simp only [argLoc, Nat.zero_add, Nat.reduceAdd]
  refine W.seqR ?_
  refine LS.vv rfl rfl (by decide) (Val.assign rfl) ?_
  refine LS.nil ?_
  refine W.seqR ?_
  refine LS.vv rfl rfl (by decide) (Val.move rfl) ?_
  refine LS.m rfl (Step.call body12 rfl rfl (by decide) rfl (CallsV.mono (sum_gen a _ _ _ (hr.below hB)) ?_))
  rintro _ w1 ⟨s1, e1, rfl, hs1, hb1⟩
  replace hB := hB.trans (hb1.mono hB.size)
  refine LS.vv rfl rfl (by decide) (Val.move rfl) ?_
  refine LS.vv rfl rfl (by decide) (Val.extract rfl rfl) ?_
  refine LS.vv rfl rfl (by decide) (Val.extract rfl rfl) ?_
  refine LS.vv rfl rfl (by decide) (Val.assign rfl) ?_
  refine LS.vv rfl rfl (by decide) (Val.assign rfl) ?_
  refine LS.nil ?_
  refine W.seqR ?_
  refine LS.vv rfl rfl (by decide) (Val.move rfl) ?_
  refine LS.m rfl (Step.call body12 rfl rfl (by decide) rfl (CallsV.mono (sum_gen b _ _ _ (hr2.below hB)) ?_))
  rintro _ w2 ⟨s2, e2, rfl, hs2, hb2⟩
  replace hB := hB.trans (hb2.mono hB.size)
  refine LS.vv rfl rfl (by decide) (Val.move rfl) ?_
  refine LS.vv rfl rfl (by decide) (Val.extract rfl rfl) ?_
  refine LS.vv rfl rfl (by decide) (Val.extract rfl rfl) ?_
  refine LS.vv rfl rfl (by decide) (Val.assign rfl) ?_
  refine LS.vv rfl rfl (by decide) (Val.assign rfl) ?_
  refine LS.nil ?_
  refine W.seq ?_
  refine W.seqR ?_
  refine LS.vv rfl rfl (by decide) (Val.move rfl) ?_
  refine LS.vv rfl rfl (by decide) (Val.len Try.underlying22 rfl) ?_
  refine LS.vv rfl rfl (by decide) (Val.gtr rfl rfl) ?_
  refine LS.vv rfl rfl (by decide) (Val.move rfl) ?_
  refine LS.split 3 rfl (fun hg1 => ?_) (fun hg1 => ?_)
  ·
    first | (have hg1p := of_decide_eq_true hg1) | skip
    refine LS.s rfl rfl rfl hg1 (by decide) ?_
    refine LS.s rfl rfl rfl hg1 (by decide) ?_
    refine LS.s rfl rfl rfl hg1 (by decide) ?_
    refine LS.vv rfl rfl (by decide) (Val.pickT rfl hg1 rfl) ?_
    refine LS.nil ?_
    refine W.condT rfl ?_
    refine W.seqR ?_
    refine LS.vv rfl rfl (by decide) (Val.move rfl) ?_
    refine LS.vv rfl rfl (by decide) (Val.neq rfl rfl) ?_
    refine LS.vv rfl rfl (by decide) (Val.move rfl) ?_
    refine LS.split 2 rfl (fun hg2 => ?_) (fun hg2 => ?_)
    ·
      first | (have hg2p := of_decide_eq_true hg2) | skip
      refine LS.s rfl rfl rfl hg2 (by decide) ?_
      refine LS.s rfl rfl rfl hg2 (by decide) ?_
      refine LS.vv rfl rfl (by decide) (Val.pickT rfl hg2 rfl) ?_
      refine LS.vv rfl rfl (by decide) (Val.assign rfl) ?_
      refine LS.nil ?_
      refine W.ret ?_
      refine thenP_ret ?_
      refine ret1 (by first | exact .inl rfl | exact .inr rfl) rfl ?_
      first | exact ⟨rfl, hB⟩ | (exfalso; omega) | exact ⟨congrArg Value.bool (decide_eq_true (by omega)), hB⟩ | (refine ⟨?_, hB⟩; have he := drop_apart a b (x % a.length) (y % b.length) (by omega) (by omega) hxm hym (by simpa using ‹(!decide _) = false›); simp [he])
    ·
      first | (have hg2p := of_decide_eq_false hg2) | skip
      refine LS.vg rfl rfl rfl hg2 (by decide) (Val.move rfl) ?_
      refine LS.vg rfl rfl rfl hg2 (by decide) (Val.neq rfl rfl) ?_
      refine LS.vv rfl rfl (by decide) (Val.pickF rfl hg2 rfl) ?_
      refine LS.vv rfl rfl (by decide) (Val.assign rfl) ?_
      refine LS.nil ?_
      refine W.ret ?_
      refine thenP_ret ?_
      refine ret1 (by first | exact .inl rfl | exact .inr rfl) rfl ?_
      first | exact ⟨rfl, hB⟩ | (exfalso; omega) | exact ⟨congrArg Value.bool (decide_eq_true (by omega)), hB⟩ | (refine ⟨?_, hB⟩; have he := drop_apart a b (x % a.length) (y % b.length) (by omega) (by omega) hxm hym (by simpa using ‹(!decide _) = false›); simp [he])
  ·
    first | (have hg1p := of_decide_eq_false hg1) | skip
    refine LS.vg rfl rfl rfl hg1 (by decide) (Val.move rfl) ?_
    refine LS.vg rfl rfl rfl hg1 (by decide) (Val.len Try.underlying22 rfl) ?_
    refine LS.vg rfl rfl rfl hg1 (by decide) (Val.gtr rfl rfl) ?_
    refine LS.vv rfl rfl (by decide) (Val.pickF rfl hg1 rfl) ?_
    refine LS.nil ?_
    first | refine W.condD rfl (fun hc3 => ?_) (fun hc3 => ?_) | refine W.cond rfl (fun hc3 => ?_) (fun hc3 => ?_)
    ·
      refine W.seqR ?_
      refine LS.vv rfl rfl (by decide) (Val.move rfl) ?_
      refine LS.vv rfl rfl (by decide) (Val.neq rfl rfl) ?_
      refine LS.vv rfl rfl (by decide) (Val.move rfl) ?_
      refine LS.split 2 rfl (fun hg4 => ?_) (fun hg4 => ?_)
      ·
        first | (have hg4p := of_decide_eq_true hg4) | skip
        refine LS.s rfl rfl rfl hg4 (by decide) ?_
        refine LS.s rfl rfl rfl hg4 (by decide) ?_
        refine LS.vv rfl rfl (by decide) (Val.pickT rfl hg4 rfl) ?_
        refine LS.vv rfl rfl (by decide) (Val.assign rfl) ?_
        refine LS.nil ?_
        refine W.ret ?_
        refine thenP_ret ?_
        refine ret1 (by first | exact .inl rfl | exact .inr rfl) rfl ?_
        first | exact ⟨rfl, hB⟩ | (exfalso; omega) | exact ⟨congrArg Value.bool (decide_eq_true (by omega)), hB⟩ | (refine ⟨?_, hB⟩; have he := drop_apart a b (x % a.length) (y % b.length) (by omega) (by omega) hxm hym (by simpa using ‹(!decide _) = false›); simp [he])
      ·
        first | (have hg4p := of_decide_eq_false hg4) | skip
        refine LS.vg rfl rfl rfl hg4 (by decide) (Val.move rfl) ?_
        refine LS.vg rfl rfl rfl hg4 (by decide) (Val.neq rfl rfl) ?_
        refine LS.vv rfl rfl (by decide) (Val.pickF rfl hg4 rfl) ?_
        refine LS.vv rfl rfl (by decide) (Val.assign rfl) ?_
        refine LS.nil ?_
        refine W.ret ?_
        refine thenP_ret ?_
        refine ret1 (by first | exact .inl rfl | exact .inr rfl) rfl ?_
        first | exact ⟨rfl, hB⟩ | (exfalso; omega) | exact ⟨congrArg Value.bool (decide_eq_true (by omega)), hB⟩ | (refine ⟨?_, hB⟩; have he := drop_apart a b (x % a.length) (y % b.length) (by omega) (by omega) hxm hym (by simpa using ‹(!decide _) = false›); simp [he])
    ·
      refine W.skip ?_
      refine thenP_normal ?_
      refine W.seqR ?_
      refine LS.m rfl (Step.lit (B := w0.heap.size) rfl rfl (by decide) Try.underlying22 elem4 rfl rfl (by omega) (by simp [Value.oneCell']) hB.size ?_)
      rintro w3 hO3 hg3 hbl3 hsz3
      replace hB := hB.trans (hbl3.mono hB.size)
      refine LS.m rfl (Step.call body12 rfl rfl (by decide) rfl (CallsV.mono (sum_gen [true] _ _ _ hO3.rd) ?_))
      rintro _ w4 ⟨s3, e3, rfl, hs3, hb4⟩
      replace hB := hB.trans (hb4.mono hB.size)
      have hs3' : s3 = 1 ∧ e3 = 0 := hs3.1 (by simp)
      refine LS.vv rfl rfl (by decide) (Val.move rfl) ?_
      refine LS.vv rfl rfl (by decide) (Val.extract rfl rfl) ?_
      refine LS.vv rfl rfl (by decide) (Val.extract rfl rfl) ?_
      refine LS.vv rfl rfl (by decide) (Val.assign rfl) ?_
      refine LS.vv rfl rfl (by decide) (Val.assign rfl) ?_
      refine LS.nil ?_
      refine W.seq ?_
      refine W.seqR ?_
      refine LS.vv rfl rfl (by decide) (Val.move rfl) ?_
      refine LS.vv rfl rfl (by decide) (Val.neq rfl rfl) ?_
      refine LS.vv rfl rfl (by decide) (Val.move rfl) ?_
      refine LS.split 2 rfl (fun hg5 => ?_) (fun hg5 => ?_)
      ·
        first | (have hg5p := of_decide_eq_true hg5) | skip
        refine LS.s rfl rfl rfl hg5 (by decide) ?_
        refine LS.s rfl rfl rfl hg5 (by decide) ?_
        refine LS.vv rfl rfl (by decide) (Val.pickT rfl hg5 rfl) ?_
        refine LS.vv rfl rfl (by decide) (Val.move rfl) ?_
        refine LS.s rfl rfl rfl rfl (by decide) ?_
        refine LS.s rfl rfl rfl rfl (by decide) ?_
        refine LS.vv rfl rfl (by decide) (Val.pickT rfl rfl rfl) ?_
        refine LS.vv rfl rfl (by decide) (Val.move rfl) ?_
        refine LS.s rfl rfl rfl rfl (by decide) ?_
        refine LS.s rfl rfl rfl rfl (by decide) ?_
        refine LS.vv rfl rfl (by decide) (Val.pickT rfl rfl rfl) ?_
        refine LS.nil ?_
        refine W.condT rfl ?_
        refine W.seqR ?_
        refine LS.vv rfl rfl (by decide) (Val.assign rfl) ?_
        refine LS.nil ?_
        refine W.ret ?_
        refine thenP_ret ?_
        refine ret1 (by first | exact .inl rfl | exact .inr rfl) rfl ?_
        first | exact ⟨rfl, hB⟩ | (exfalso; omega) | exact ⟨congrArg Value.bool (decide_eq_true (by omega)), hB⟩ | (refine ⟨?_, hB⟩; have he := drop_apart a b (x % a.length) (y % b.length) (by omega) (by omega) hxm hym (by simpa using ‹(!decide _) = false›); simp [he])
      ·
        first | (have hg5p := of_decide_eq_false hg5) | skip
        refine LS.vg rfl rfl rfl hg5 (by decide) (Val.move rfl) ?_
        refine LS.vg rfl rfl rfl hg5 (by decide) (Val.neq rfl rfl) ?_
        refine LS.vv rfl rfl (by decide) (Val.pickF rfl hg5 rfl) ?_
        refine LS.vv rfl rfl (by decide) (Val.move rfl) ?_
        refine LS.split 6 rfl (fun hg6 => ?_) (fun hg6 => ?_)
        ·
          first | (have hg6p := of_decide_eq_true hg6) | skip
          refine LS.s rfl rfl rfl hg6 (by decide) ?_
          refine LS.s rfl rfl rfl hg6 (by decide) ?_
          refine LS.vv rfl rfl (by decide) (Val.pickT rfl hg6 rfl) ?_
          refine LS.vv rfl rfl (by decide) (Val.move rfl) ?_
          refine LS.s rfl rfl rfl rfl (by decide) ?_
          refine LS.s rfl rfl rfl rfl (by decide) ?_
          refine LS.vv rfl rfl (by decide) (Val.pickT rfl rfl rfl) ?_
          refine LS.nil ?_
          refine W.condT rfl ?_
          refine W.seqR ?_
          refine LS.vv rfl rfl (by decide) (Val.assign rfl) ?_
          refine LS.nil ?_
          refine W.ret ?_
          refine thenP_ret ?_
          refine ret1 (by first | exact .inl rfl | exact .inr rfl) rfl ?_
          first | exact ⟨rfl, hB⟩ | (exfalso; omega) | exact ⟨congrArg Value.bool (decide_eq_true (by omega)), hB⟩ | (refine ⟨?_, hB⟩; have he := drop_apart a b (x % a.length) (y % b.length) (by omega) (by omega) hxm hym (by simpa using ‹(!decide _) = false›); simp [he])
        ·
          first | (have hg6p := of_decide_eq_false hg6) | skip
          refine LS.vg rfl rfl rfl hg6 (by decide) (Val.move rfl) ?_
          refine LS.vg rfl rfl rfl hg6 (by decide) (Val.neq rfl rfl) ?_
          refine LS.vv rfl rfl (by decide) (Val.pickF rfl hg6 rfl) ?_
          refine LS.vv rfl rfl (by decide) (Val.move rfl) ?_
          refine LS.split 10 rfl (fun hg7 => ?_) (fun hg7 => ?_)
          ·
            first | (have hg7p := of_decide_eq_true hg7) | skip
            refine LS.s rfl rfl rfl hg7 (by decide) ?_
            refine LS.s rfl rfl rfl hg7 (by decide) ?_
            refine LS.vv rfl rfl (by decide) (Val.pickT rfl hg7 rfl) ?_
            refine LS.nil ?_
            refine W.condT rfl ?_
            refine W.seqR ?_
            refine LS.vv rfl rfl (by decide) (Val.assign rfl) ?_
            refine LS.nil ?_
            refine W.ret ?_
            refine thenP_ret ?_
            refine ret1 (by first | exact .inl rfl | exact .inr rfl) rfl ?_
            first | exact ⟨rfl, hB⟩ | (exfalso; omega) | exact ⟨congrArg Value.bool (decide_eq_true (by omega)), hB⟩ | (refine ⟨?_, hB⟩; have he := drop_apart a b (x % a.length) (y % b.length) (by omega) (by omega) hxm hym (by simpa using ‹(!decide _) = false›); simp [he])
          ·
            first | (have hg7p := of_decide_eq_false hg7) | skip
            refine LS.vg rfl rfl rfl hg7 (by decide) (Val.move rfl) ?_
            refine LS.vg rfl rfl rfl hg7 (by decide) (Val.neq rfl rfl) ?_
            refine LS.vv rfl rfl (by decide) (Val.pickF rfl hg7 rfl) ?_
            refine LS.nil ?_
            first | refine W.condD rfl (fun hc8 => ?_) (fun hc8 => ?_) | refine W.cond rfl (fun hc8 => ?_) (fun hc8 => ?_)
            ·
              refine W.seqR ?_
              refine LS.vv rfl rfl (by decide) (Val.assign rfl) ?_
              refine LS.nil ?_
              refine W.ret ?_
              refine thenP_ret ?_
              refine ret1 (by first | exact .inl rfl | exact .inr rfl) rfl ?_
              first | exact ⟨rfl, hB⟩ | (exfalso; omega) | exact ⟨congrArg Value.bool (decide_eq_true (by omega)), hB⟩ | (refine ⟨?_, hB⟩; have he := drop_apart a b (x % a.length) (y % b.length) (by omega) (by omega) hxm hym (by simpa using ‹(!decide _) = false›); simp [he])
            ·
              refine W.skip ?_
              refine thenP_normal ?_
              refine W.seq ?_
              refine W.seqR ?_
              refine LS.vv rfl rfl (by decide) (Val.move rfl) ?_
              refine LS.vv rfl rfl (by decide) (Val.len Try.underlying22 rfl) ?_
              refine LS.vv rfl rfl (by decide) (Val.move rfl) ?_
              refine LS.vv rfl rfl (by decide) (Val.len Try.underlying22 rfl) ?_
              refine LS.vv rfl rfl (by decide) (Val.neq rfl rfl) ?_
              refine LS.vv rfl rfl (by decide) (Val.move rfl) ?_
              refine LS.split 5 rfl (fun hg9 => ?_) (fun hg9 => ?_)
              ·
                first | (have hg9p := of_decide_eq_true hg9) | skip
                refine LS.s rfl rfl rfl hg9 (by decide) ?_
                refine LS.s rfl rfl rfl hg9 (by decide) ?_
                refine LS.s rfl rfl rfl hg9 (by decide) ?_
                refine LS.vv rfl rfl (by decide) (Val.pickT rfl hg9 rfl) ?_
                refine LS.vv rfl rfl (by decide) (Val.move rfl) ?_
                refine LS.s rfl rfl rfl rfl (by decide) ?_
                refine LS.s rfl rfl rfl rfl (by decide) ?_
                refine LS.s rfl rfl rfl rfl (by decide) ?_
                refine LS.vv rfl rfl (by decide) (Val.pickT rfl rfl rfl) ?_
                refine LS.nil ?_
                refine W.condT rfl ?_
                refine W.seqR ?_
                refine LS.vv rfl rfl (by decide) (Val.assign rfl) ?_
                refine LS.nil ?_
                refine W.ret ?_
                refine thenP_ret ?_
                refine ret1 (by first | exact .inl rfl | exact .inr rfl) rfl ?_
                first | exact ⟨rfl, hB⟩ | (exfalso; omega) | exact ⟨congrArg Value.bool (decide_eq_true (by omega)), hB⟩ | (refine ⟨?_, hB⟩; have he := drop_apart a b (x % a.length) (y % b.length) (by omega) (by omega) hxm hym (by simpa using ‹(!decide _) = false›); simp [he])
              ·
                first | (have hg9p := of_decide_eq_false hg9) | skip
                refine LS.vg rfl rfl rfl hg9 (by decide) (Val.move rfl) ?_
                refine LS.vg rfl rfl rfl hg9 (by decide) (Val.len Try.underlying22 rfl) ?_
                refine LS.vg rfl rfl rfl hg9 (by decide) (Val.eql rfl rfl) ?_
                refine LS.vv rfl rfl (by decide) (Val.pickF rfl hg9 rfl) ?_
                refine LS.vv rfl rfl (by decide) (Val.move rfl) ?_
                refine LS.split 10 rfl (fun hg10 => ?_) (fun hg10 => ?_)
                ·
                  first | (have hg10p := of_decide_eq_true hg10) | skip
                  refine LS.s rfl rfl rfl hg10 (by decide) ?_
                  refine LS.s rfl rfl rfl hg10 (by decide) ?_
                  refine LS.s rfl rfl rfl hg10 (by decide) ?_
                  refine LS.vv rfl rfl (by decide) (Val.pickT rfl hg10 rfl) ?_
                  refine LS.nil ?_
                  refine W.condT rfl ?_
                  refine W.seqR ?_
                  refine LS.vv rfl rfl (by decide) (Val.assign rfl) ?_
                  refine LS.nil ?_
                  refine W.ret ?_
                  refine thenP_ret ?_
                  refine ret1 (by first | exact .inl rfl | exact .inr rfl) rfl ?_
                  first | exact ⟨rfl, hB⟩ | (exfalso; omega) | exact ⟨congrArg Value.bool (decide_eq_true (by omega)), hB⟩ | (refine ⟨?_, hB⟩; have he := drop_apart a b (x % a.length) (y % b.length) (by omega) (by omega) hxm hym (by simpa using ‹(!decide _) = false›); simp [he])
                ·
                  first | (have hg10p := of_decide_eq_false hg10) | skip
                  refine LS.vg rfl rfl rfl hg10 (by decide) (Val.move rfl) ?_
                  refine LS.vg rfl rfl rfl hg10 (by decide) (Val.move rfl) ?_
                  refine LS.vg rfl rfl rfl hg10 (by decide) (Val.neq rfl rfl) ?_
                  refine LS.vv rfl rfl (by decide) (Val.pickF rfl hg10 rfl) ?_
                  refine LS.nil ?_
                  first | refine W.condD rfl (fun hc11 => ?_) (fun hc11 => ?_) | refine W.cond rfl (fun hc11 => ?_) (fun hc11 => ?_)
                  ·
                    refine W.seqR ?_
                    refine LS.vv rfl rfl (by decide) (Val.assign rfl) ?_
                    refine LS.nil ?_
                    refine W.ret ?_
                    refine thenP_ret ?_
                    refine ret1 (by first | exact .inl rfl | exact .inr rfl) rfl ?_
                    first | exact ⟨rfl, hB⟩ | (exfalso; omega) | exact ⟨congrArg Value.bool (decide_eq_true (by omega)), hB⟩ | (refine ⟨?_, hB⟩; have he := drop_apart a b (x % a.length) (y % b.length) (by omega) (by omega) hxm hym (by simpa using ‹(!decide _) = false›); simp [he])
                  ·
                    refine W.skip ?_
                    refine thenP_normal ?_
                    refine W.seqD (S := fun w => Below w0.heap.size w0 w) [(0, true), (1, true), (2, true), (3, true), (4, true), (5, true), (7, true), (8, true), (9, true), (10, true), (11, true), (12, true), (6, false), (13, false), (14, false), (15, true), (16, true), (17, true), (18, true), (19, false), (20, true), (21, true)] mixed (by kernel_rfl) hB.drew ?_
                    replace hB := hB.drew
                    refine DX.vv rfl rfl rfl (by decide) (Val.move rfl) ?_
                    refine DX.vv rfl rfl rfl (by decide) (Val.move rfl) ?_
                    refine DX.vv rfl rfl rfl (by decide) (Val.conv rfl Try.underlying5 Try.underlying3 (IntWalk.i64_in _ (by omega))) ?_
                    refine DX.vv rfl rfl rfl (by decide) (Val.move rfl) ?_
                    refine DX.vv rfl rfl rfl (by decide) (Val.len Try.underlying22 rfl) ?_
                    first | refine DX.vv rfl rfl rfl (by decide) (Val.remN rfl rfl (by omega)) ?_ | refine DX.vv rfl rfl rfl (by decide) (Val.rem rfl rfl (by omega) (by omega)) ?_ | refine DX.vv rfl rfl rfl (by decide) (Val.remT rfl rfl (by omega)) ?_
                    refine DX.vv rfl rfl rfl (by decide) (Val.move rfl) ?_
                    refine DX.vv rfl rfl rfl (by decide) (Val.move rfl) ?_
                    refine DX.vv rfl rfl rfl (by decide) (Val.conv rfl Try.underlying5 Try.underlying3 (IntWalk.i64_in _ (by omega))) ?_
                    refine DX.vv rfl rfl rfl (by decide) (Val.move rfl) ?_
                    refine DX.vv rfl rfl rfl (by decide) (Val.len Try.underlying22 rfl) ?_
                    first | refine DX.vv rfl rfl rfl (by decide) (Val.remN rfl rfl (by omega)) ?_ | refine DX.vv rfl rfl rfl (by decide) (Val.rem rfl rfl (by omega) (by omega)) ?_ | refine DX.vv rfl rfl rfl (by decide) (Val.remT rfl rfl (by omega)) ?_
                    have hxm := Nat.mod_lt x (show 0 < a.length by omega)
                    refine DX.m rfl rfl (Step.call body14 rfl rfl (by decide) rfl (CallsV.mono (without_any a _ _ (x % a.length) _ (hr.below hB) (by omega) hxm hc) ?_))
                    rintro _ w5 ⟨p5, c5, rfl, hR5, hb5⟩
                    replace hB := hB.trans (hb5.mono hB.size)
                    refine ⟨hB, ?_⟩
                    have hym := Nat.mod_lt y (show 0 < b.length by omega)
                    refine DX.m rfl rfl (Step.call body14 rfl rfl (by decide) rfl (CallsV.mono (without_any b _ _ (y % b.length) _ (hr2.below hB) (by omega) hym hc2) ?_))
                    rintro _ w6 ⟨p6, c6, rfl, hR6, hb6⟩
                    replace hB := hB.trans (hb6.mono hB.size)
                    replace hR5 := hR5.below hb6
                    refine ⟨hB, ?_⟩
                    have hl5 := List.length_eraseIdx_le a (x % a.length)
                    refine DX.m rfl rfl (Step.call body13 rfl rfl (by decide) rfl (CallsV.mono (bools_any _ _ _ _ _ _ _ hR5 hR6 (by omega)) ?_))
                    rintro _ w7 ⟨rfl, hb7⟩
                    replace hB := hB.trans (hb7.mono hB.size)
                    refine ⟨hB, ?_⟩
                    refine DX.vv rfl rfl rfl (by decide) (Val.not rfl) ?_
                    refine DX.vv rfl rfl rfl (by decide) (Val.move rfl) ?_
                    refine DX.split 16 rfl (fun hg12 => ?_) (fun hg12 => ?_)
                    ·
                      first | (have hg12p := of_decide_eq_true hg12) | skip
                      refine DX.s rfl rfl rfl rfl hg12 (by decide) ?_
                      refine DX.s rfl rfl rfl rfl hg12 (by decide) ?_
                      refine DX.s rfl rfl rfl rfl hg12 (by decide) ?_
                      refine DX.vv rfl rfl rfl (by decide) (Val.pickT rfl hg12 rfl) ?_
                      refine DX.vv rfl rfl rfl (by decide) (Val.assign rfl) ?_
                      refine DX.nil ?_
                      refine W.ret ?_
                      refine ret1 (by first | exact .inl rfl | exact .inr rfl) rfl ?_
                      first | exact ⟨rfl, hB⟩ | (exfalso; omega) | exact ⟨congrArg Value.bool (decide_eq_true (by omega)), hB⟩ | (refine ⟨?_, hB⟩; have he := drop_apart a b (x % a.length) (y % b.length) (by omega) (by omega) hxm hym (by simpa using ‹(!decide _) = false›); simp [he])
                    ·
                      first | (have hg12p := of_decide_eq_false hg12) | skip
                      refine DX.vg rfl rfl rfl rfl hg12 (by decide) (Val.move rfl) ?_
                      refine DX.vg rfl rfl rfl rfl hg12 (by decide) (Val.move rfl) ?_
                      refine DX.mg rfl rfl rfl hg12 (Step.call body13 rfl rfl (by decide) rfl (CallsV.mono (bools_any a b _ _ _ _ _ (hr.below hB) (hr2.below hB) (by omega)) ?_))
                      rintro _ w8 ⟨rfl, hb8⟩
                      replace hB := hB.trans (hb8.mono hB.size)
                      refine ⟨hB, ?_⟩
                      refine DX.vv rfl rfl rfl (by decide) (Val.pickF rfl hg12 rfl) ?_
                      refine DX.vv rfl rfl rfl (by decide) (Val.assign rfl) ?_
                      refine DX.nil ?_
                      refine W.ret ?_
                      refine ret1 (by first | exact .inl rfl | exact .inr rfl) rfl ?_
                      first | exact ⟨rfl, hB⟩ | (exfalso; omega) | exact ⟨congrArg Value.bool (decide_eq_true (by omega)), hB⟩ | (refine ⟨?_, hB⟩; have he := drop_apart a b (x % a.length) (y % b.length) (by omega) (by omega) hxm hym (by simpa using ‹(!decide _) = false›); simp [he])

end Go.Proofs.Ytpogedmkmplckaa
