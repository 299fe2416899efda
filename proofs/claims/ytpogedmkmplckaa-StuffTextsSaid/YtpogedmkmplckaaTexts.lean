/-
  Texts between flags.
-/
import Derived.Test.YtpogedmkmplckaaTextsPlain
import Derived.Test.YtpogedmkmplckaaVtb
import Derived.Test.YtpogedmkmplckaaVfin
import Derived.Test.YtpogedmkmplckaaVfacts2
namespace Go.Proofs.Ytpogedmkmplckaa
open Go Go.RowKit V
set_option linter.unusedVariables false
set_option linter.unusedSimpArgs false

theorem flag_any (w0 : World) :
    CallsV Try.prog 44 #[] w0 (fun v w => ∃ (p2 : Option Addr) (c2 : Nat), v = .slice p2 8 c2 ∧ Own w w0.heap.size 4 p2 8 c2 (bv flagL) ∧ Below w0.heap.size w0 w) := by
  refine enter1 Try.func44 rfl Try.ntmps44 (by simp) rfl ?_
  have hB := Below.refl w0.heap.size w0
  have hM := Mem.nil w0 w0.heap.size
  refine W.seqR ?_
  refine LS.vv rfl rfl (by decide) (Val.assign rfl) ?_
  refine LS.nil ?_
  refine W.seqR ?_
  refine LS.m rfl (Step.lit rfl rfl (by decide) Try.underlying22 elem4 rfl rfl (by omega) (by simp [Value.oneCell']) (Nat.le_refl _) ?_)
  rintro w1 hO1 hg1 hbl1 hsz1
  replace hM := hM.add hB.size hbl1 hO1
  try simp only [bv_app1, bv_app, bv_set, bv_rep, bv_one, bv_cons, bv_take, bv_drop, List.nil_append] at hM
  replace hB := hB.trans (hbl1.mono hB.size)
  skip
  refine LS.vv rfl rfl (by decide) (Val.assign rfl) ?_
  refine LS.nil ?_
  refine W.ret ?_
  refine ret1 (by first | exact .inl rfl | exact .inr rfl) rfl ?_
  exact ⟨_, _, rfl, hM.o0, hB⟩

theorem equal_any (xs ys : List Bool) (p q : Option Addr) (c d m n : Nat) (w0 : World) (hr1 : Rd w0 p (bv xs)) (hr2 : Rd w0 q (bv ys)) (hm : xs.length = m) (hn : ys.length = n) (hl1 : m ≤ 9223372036854775807) :
    CallsV Try.prog 50 #[.slice p m c, .slice q n d] w0 (fun v w => v = .bool (decide (xs = ys)) ∧ Below w0.heap.size w0 w) := by
  refine enter1 Try.func50 rfl Try.ntmps50 (by simp) rfl ?_
  have hB := Below.refl w0.heap.size w0
  simp only [argLoc, Nat.zero_add]
  have hM := Mem.nil w0 w0.heap.size
  subst hm
  subst hn
  refine W.seqR ?_
  refine LS.vv rfl rfl (by decide) (Val.assign rfl) ?_
  refine LS.nil ?_
  refine W.seq ?_
  refine W.seqR ?_
  refine LS.vv rfl rfl (by decide) (Val.move rfl) ?_
  refine LS.vv rfl rfl (by decide) (Val.len Try.underlying22 rfl) ?_
  refine LS.vv rfl rfl (by decide) (Val.move rfl) ?_
  refine LS.vv rfl rfl (by decide) (Val.len Try.underlying22 rfl) ?_
  refine LS.vv rfl rfl (by decide) (Val.neq rfl rfl) ?_
  refine LS.nil ?_
  first | refine W.condD rfl (fun hc1 => ?_) (fun hc1 => ?_) | refine W.cond rfl (fun hc1 => ?_) (fun hc1 => ?_)
  ·
    refine W.seqR ?_
    refine LS.vv rfl rfl (by decide) (Val.assign rfl) ?_
    refine LS.nil ?_
    refine W.ret ?_
    refine thenP_ret ?_
    refine ret1 (by first | exact .inl rfl | exact .inr rfl) rfl ?_
    refine ⟨congrArg Value.bool (decide_eq_false fun h => ?_).symm, hB⟩
    exact absurd (congrArg List.length h) (by omega)
  ·
    refine W.skip ?_
    refine thenP_normal ?_
    refine W.seq ?_
    refine W.seqR ?_
    refine LS.vv rfl rfl (by decide) (Val.move rfl) ?_
    refine LS.vv rfl rfl (by decide) (Val.len Try.underlying22 rfl) ?_
    refine LS.vv rfl rfl (by decide) (Val.cast (v := .int .i64 ((0 : Nat) : Int)) (Val.move rfl) rfl) ?_
    refine LS.nil ?_
    refine W.block ?_
    refine W.loop (α := Nat) (fun k => [(13, .int .i64 (k : Int))]) [(0, _), (1, _), (12, _)] (fun k w => ((k ≤ xs.length ∧ ∀ j, j < k → gb xs j = gb ys j)) ∧ Mem w w0.heap.size [] ∧ Below w0.heap.size w0 w) (fun k => xs.length - k) (0) (Sub.cons rfl (Sub.nil _)) (Sub.cons rfl (Sub.cons rfl (Sub.cons rfl (Sub.nil _)))) ?_ ?_
    · exact ⟨⟨Nat.zero_le _, by omega⟩, hM, hB⟩
    rintro k w1 ⟨⟨hk, hall⟩, hM, hB⟩
    try simp only at hM
    simp only [List.cons_append, List.nil_append]
    have hlen : xs.length = ys.length := by omega
    refine W.seqR ?_
    refine LS.vv rfl rfl (by decide) (Val.lss rfl rfl) ?_
    refine LS.nil ?_
    refine W.seq ?_
    first | refine W.condD rfl (fun hc2 => ?_) (fun hc2 => ?_) | refine W.cond rfl (fun hc2 => ?_) (fun hc2 => ?_)
    ·
      refine W.skip ?_
      refine thenP_normal ?_
      refine W.seq ?_
      refine W.block ?_
      refine W.seqR ?_
      refine LS.vv rfl rfl (by decide) (Val.move rfl) ?_
      refine LS.vv rfl rfl (by decide) (Val.assign rfl) ?_
      refine LS.nil ?_
      refine W.seqF 9 [(0, true), (1, true), (2, true), (3, true), (4, true), (5, true), (6, true), (7, true), (8, true)] mixed (by kernel_rfl) hB hM ?_
      replace hB := hB.drew
      replace hM := hM.drew
      refine DF.vv rfl rfl rfl (by decide) (Val.move rfl) ?_
      refine DF.vv rfl rfl rfl (by decide) (Val.move rfl) ?_
      refine DF.vv rfl rfl rfl (by decide) (Val.index1 Try.underlying22 elem4 rfl rfl (by omega) ((hr1.below hB)) (bv_lt (by omega))) ?_
      refine DF.vv rfl rfl rfl (by decide) (Val.load flat4 rfl (fun _ h => (hr1.below h.1)) (bv_at (by omega))) ?_
      refine DF.vv rfl rfl rfl (by decide) (Val.move rfl) ?_
      refine DF.vv rfl rfl rfl (by decide) (Val.move rfl) ?_
      refine DF.vv rfl rfl rfl (by decide) (Val.index1 Try.underlying22 elem4 rfl rfl (by omega) ((hr2.below hB)) (bv_lt (by omega))) ?_
      refine DF.vv rfl rfl rfl (by decide) (Val.load flat4 rfl (fun _ h => (hr2.below h.1)) (bv_at (by omega))) ?_
      refine DF.vv rfl rfl rfl (by decide) (Val.neqB Try.underlying4 rfl rfl) ?_
      refine DF.nil ?_
      first | refine W.condD rfl (fun hc3 => ?_) (fun hc3 => ?_) | refine W.cond rfl (fun hc3 => ?_) (fun hc3 => ?_)
      ·
        refine W.seqR ?_
        refine LS.vv rfl rfl (by decide) (Val.assign rfl) ?_
        refine LS.nil ?_
        refine W.ret ?_
        refine inBlk_ret ?_
        refine thenP_ret ?_
        refine thenP_ret ?_
        refine inBlk_ret ?_
        refine thenP_ret ?_
        refine ret1 (by first | exact .inl rfl | exact .inr rfl) rfl ?_
        refine ⟨congrArg Value.bool (decide_eq_false fun h => ?_).symm, hB⟩
        simp_all
      ·
        refine W.skip ?_
        refine inBlk_normal ?_
        refine thenP_normal ?_
        refine W.reg ?_
        first | refine LS.vv rfl rfl (by decide) (Val.addN (j := 1) rfl rfl (by omega)) ?_ | refine LS.vv rfl rfl (by decide) (Val.add64 rfl rfl (by omega)) ?_
        refine LS.vv rfl rfl (by decide) (Val.move rfl) ?_
        refine LS.nil ?_
        refine thenP_normal ?_
        have hkk : gb xs k = gb ys k := by first | omega | simp_all
        refine ⟨k + 1, ?_, ?_, ⟨⟨by omega, ?_⟩, hM, hB⟩, by omega⟩
        · exact (Sub.cons rfl (Sub.nil _))
        · repeat (first | exact Sub.nil _ | refine Sub.cons rfl ?_)
        · intro j hj
          by_cases e : j = k
          · subst e; exact hkk
          · exact hall j (by omega)
    ·
      refine W.exit ?_
      refine thenP_exit ?_
      refine thenP_exit ?_
      refine inBlk_exit ?_
      refine thenP_normal ?_
      refine W.seqR ?_
      refine LS.vv rfl rfl (by decide) (Val.assign rfl) ?_
      refine LS.nil ?_
      refine W.ret ?_
      refine ret1 (by first | exact .inl rfl | exact .inr rfl) rfl ?_
      refine ⟨congrArg Value.bool (decide_eq_true (gb_eq_of hlen fun j hj => hall j (by omega))).symm, hB⟩

theorem begins_any (l : List Bool) (p : Option Addr) (c m : Nat) (w0 : World) (hr : Rd w0 p (bv l)) (hm : l.length = m) (hc : m ≤ c) :
    CallsV Try.prog 46 #[.slice p m c] w0 (fun v w => v = .bool (beg l) ∧ Below w0.heap.size w0 w) := by
  refine enter1 Try.func46 rfl Try.ntmps46 (by simp) rfl ?_
  have hB := Below.refl w0.heap.size w0
  simp only [argLoc]
  have hM := Mem.nil w0 w0.heap.size
  subst hm
  refine W.seqR ?_
  refine LS.vv rfl rfl (by decide) (Val.assign rfl) ?_
  refine LS.nil ?_
  refine W.seqF 10 [(0, true), (1, true), (2, true), (3, true), (4, true), (5, true), (6, false), (7, false), (8, true), (9, true)] mixed (by kernel_rfl) hB hM ?_
  replace hB := hB.drew
  replace hM := hM.drew
  refine DF.vv rfl rfl rfl (by decide) (Val.move rfl) ?_
  refine DF.vv rfl rfl rfl (by decide) (Val.len Try.underlying22 rfl) ?_
  refine DF.vv rfl rfl rfl (by decide) (Val.geq rfl rfl) ?_
  refine DF.vv rfl rfl rfl (by decide) (Val.move rfl) ?_
  refine DF.split 3 rfl (fun hg1 => ?_) (fun hg1 => ?_)
  ·
    first | (have hg1p := of_decide_eq_true hg1) | skip
    refine DF.vg rfl rfl rfl rfl hg1 (by decide) (Val.move rfl) ?_
    refine DF.vg rfl rfl rfl rfl hg1 (by decide) (Val.sliceTo (h := 8) Try.underlying22 elem4 rfl rfl (by omega)) ?_
    refine DF.mg rfl rfl rfl hg1 (Step.call body44 rfl rfl (by decide) rfl (CallsV.mono (flag_any _) ?_))
    rintro _ w1 ⟨p2, c2, rfl, hOf, hb1⟩
    replace hM := hM.add hB.size hb1 hOf
    replace hB := hB.trans (hb1.mono hB.size)
    refine ⟨fun _ => ⟨hB, hM.tail⟩, ?_⟩
    refine DF.mg rfl rfl rfl hg1 (Step.call body50 rfl rfl (by decide) rfl (CallsV.mono (equal_any (l.take 8) flagL _ _ _ _ _ _ _ ((hr.below hB).take_bv) hM.o0.rd (by rw [List.length_take]; omega) rfl (by omega)) ?_))
    rintro _ w2 ⟨rfl, hb2⟩
    replace hM := hM.below hb2
    replace hB := hB.trans (hb2.mono hB.size)
    refine ⟨fun _ => ⟨hB, hM.tail⟩, ?_⟩
    refine DF.vv rfl rfl rfl (by decide) (Val.pickT rfl hg1 rfl) ?_
    refine DF.vv rfl rfl rfl (by decide) (Val.assign rfl) ?_
    refine DF.nil ?_
    refine W.ret ?_
    refine ret1 (by first | exact .inl rfl | exact .inr rfl) rfl ?_
    refine ⟨congrArg Value.bool ?_, hB⟩; unfold beg; first | (rw [decide_eq_decide]; simp; omega) | (symm; exact decide_eq_false (fun h => by omega))
  ·
    first | (have hg1p := of_decide_eq_false hg1) | skip
    refine DF.s rfl rfl rfl rfl hg1 (by decide) ?_
    refine DF.s rfl rfl rfl rfl hg1 (by decide) ?_
    refine DF.s rfl rfl rfl rfl hg1 (by decide) ?_
    refine DF.s rfl rfl rfl rfl hg1 (by decide) ?_
    refine DF.vv rfl rfl rfl (by decide) (Val.pickF rfl hg1 rfl) ?_
    refine DF.vv rfl rfl rfl (by decide) (Val.assign rfl) ?_
    refine DF.nil ?_
    refine W.ret ?_
    refine ret1 (by first | exact .inl rfl | exact .inr rfl) rfl ?_
    refine ⟨congrArg Value.bool ?_, hB⟩; unfold beg; first | (rw [decide_eq_decide]; simp; omega) | (symm; exact decide_eq_false (fun h => by omega))

end Go.Proofs.Ytpogedmkmplckaa
