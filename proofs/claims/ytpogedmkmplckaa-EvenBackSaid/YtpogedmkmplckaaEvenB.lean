/-
  The walk of even.Get; the statement EvenBack.
-/
import Derived.Test.YtpogedmkmplckaaEvenP
import Derived.Test.YtpogedmkmplckaaVheap
import Derived.Test.YtpogedmkmplckaaEvenBPlain
import Derived.Test.YtpogedmkmplckaaRefs
namespace Go.Proofs.Ytpogedmkmplckaa
open Go Go.RowKit V
set_option linter.unusedVariables false

theorem equal_bool (xs ys : List Bool) (p q : Option Addr) (c d m n : Nat) (w0 : World) (hr1 : Rd w0 p (bv xs)) (hr2 : Rd w0 q (bv ys)) (hm : xs.length = m) (hn : ys.length = n) (hl1 : m ≤ 9223372036854775807) :
    CallsV Try.prog 50 #[.slice p m c, .slice q n d] w0 (fun v w => v = .bool (decide (xs = ys)) ∧ Below w0.heap.size w0 w) := by
  refine enter1 Try.func50 rfl Try.ntmps50 (by simp) rfl ?_
  have hB := Below.refl w0.heap.size w0
  simp only [argLoc, Nat.zero_add]
  have hM := Mem.nil w0 w0.heap.size
  subst hm; subst hn
  refine W.seqR ?_
  refine LS.vv rfl rfl (by decide) (Val.assign rfl) ?_
  refine LS.nil ?_
  refine W.seq ?_
  refine W.seqR ?_
  refine LS.vv rfl rfl (by decide) (Val.move rfl) ?_
  refine LS.vv rfl rfl (by decide) (Val.len Try.underlying22 rfl) ?_
  refine LS.vv rfl rfl (by decide) (Val.move rfl) ?_
  refine LS.vv rfl rfl (by decide) (Val.len Try.underlying22 rfl) ?_
  refine LS.vv rfl rfl (by decide) (Val.neq rfl rfl) ?_
  refine LS.nil ?_
  first | refine W.condD rfl (fun hc1 => ?_) (fun hc1 => ?_) | refine W.cond rfl (fun hc1 => ?_) (fun hc1 => ?_)
  ·
    refine W.seqR ?_
    refine LS.vv rfl rfl (by decide) (Val.assign rfl) ?_
    refine LS.nil ?_
    refine W.ret ?_
    refine thenP_ret ?_
    refine ret1 (by first | exact .inl rfl | exact .inr rfl) rfl ?_
    first | exact ⟨congrArg Value.bool (decide_eq_false fun h => absurd (congrArg List.length h) (by omega)).symm, hB⟩ | (refine ⟨congrArg Value.bool (decide_eq_true (gb_eq_of hlen fun j hj => hall j (by omega))).symm, hB⟩; done) | (refine ⟨congrArg Value.bool (decide_eq_false fun h => ?_).symm, hB⟩; simp_all)
  ·
    refine W.skip ?_
    refine thenP_normal ?_
    refine W.seq ?_
    refine W.seqR ?_
    refine LS.vv rfl rfl (by decide) (Val.move rfl) ?_
    refine LS.vv rfl rfl (by decide) (Val.len Try.underlying22 rfl) ?_
    refine LS.vv rfl rfl (by decide) (Val.cast (v := .int .i64 ((0 : Nat) : Int)) (Val.move rfl) rfl) ?_
    refine LS.nil ?_
    refine W.block ?_
    refine W.loop (α := Nat) (fun k => [(13, .int .i64 (k : Int))]) [(0, _), (1, _), (12, _)] (fun k w => (k ≤ xs.length ∧ ∀ j, j < k → gb xs j = gb ys j) ∧ Mem w w0.heap.size [] ∧ Below w0.heap.size w0 w) (fun k => xs.length - k) (0) (Sub.cons rfl (Sub.nil _)) (Sub.cons rfl (Sub.cons rfl (Sub.cons rfl (Sub.nil _)))) ?_ ?_
    · exact ⟨⟨Nat.zero_le _, by omega⟩, hM, hB⟩
    rintro k w1 ⟨⟨hk, hall⟩, hM, hB⟩
    try simp only at hM
    simp only [List.cons_append, List.nil_append]
    have hlen : xs.length = ys.length := by omega
    refine W.seqR ?_
    refine LS.vv rfl rfl (by decide) (Val.lss rfl rfl) ?_
    refine LS.nil ?_
    refine W.seq ?_
    first | refine W.condD rfl (fun hc2 => ?_) (fun hc2 => ?_) | refine W.cond rfl (fun hc2 => ?_) (fun hc2 => ?_)
    ·
      refine W.skip ?_
      refine thenP_normal ?_
      refine W.seq ?_
      refine W.block ?_
      refine W.seqR ?_
      refine LS.vv rfl rfl (by decide) (Val.move rfl) ?_
      refine LS.vv rfl rfl (by decide) (Val.assign rfl) ?_
      refine LS.nil ?_
      refine W.seqT (S := fun w => Below w0.heap.size w0 w) (.val 0 (.val 1 (.val 2 (.val 4 (.val 5 (.val 6 (.two (.mem 3 (.mem 7 (.val 8 (.done)))) (.mem 7 (.mem 3 (.val 8 (.done))))))))))) mixed (by kernel_rfl) hB.drew ?_
      replace hB := hB.drew
      replace hM := hM.drew
      refine DT.vv rfl rfl rfl (by decide) (Val.move rfl) ?_
      refine DT.vv rfl rfl rfl (by decide) (Val.move rfl) ?_
      refine DT.vv rfl rfl rfl (by decide) (Val.index1 Try.underlying22 elem4 rfl rfl (by omega) ((hr1.below hB)) (bv_lt (by omega))) ?_
      refine DT.vv rfl rfl rfl (by decide) (Val.move rfl) ?_
      refine DT.vv rfl rfl rfl (by decide) (Val.move rfl) ?_
      refine DT.vv rfl rfl rfl (by decide) (Val.index1 Try.underlying22 elem4 rfl rfl (by omega) ((hr2.below hB)) (bv_lt (by omega))) ?_
      refine DT.two ?_ ?_
      ·
        refine DT.m rfl rfl (Step.load rfl rfl (by decide) flat4 rfl ((hr1.below hB)) (bv_at (by omega)) ?_)
        refine ⟨hB, ?_⟩
        refine DT.m rfl rfl (Step.load rfl rfl (by decide) flat4 rfl ((hr2.below hB)) (bv_at (by omega)) ?_)
        refine ⟨hB, ?_⟩
        refine DT.vv rfl rfl rfl (by decide) (Val.neqB Try.underlying4 rfl rfl) ?_
        refine DT.nil ?_
        first | refine W.condD rfl (fun hc3 => ?_) (fun hc3 => ?_) | refine W.cond rfl (fun hc3 => ?_) (fun hc3 => ?_)
        ·
          refine W.seqR ?_
          refine LS.vv rfl rfl (by decide) (Val.assign rfl) ?_
          refine LS.nil ?_
          refine W.ret ?_
          refine inBlk_ret ?_
          refine thenP_ret ?_
          refine thenP_ret ?_
          refine inBlk_ret ?_
          refine thenP_ret ?_
          refine ret1 (by first | exact .inl rfl | exact .inr rfl) rfl ?_
          first | exact ⟨congrArg Value.bool (decide_eq_false fun h => absurd (congrArg List.length h) (by omega)).symm, hB⟩ | (refine ⟨congrArg Value.bool (decide_eq_true (gb_eq_of hlen fun j hj => hall j (by omega))).symm, hB⟩; done) | (refine ⟨congrArg Value.bool (decide_eq_false fun h => ?_).symm, hB⟩; simp_all)
        ·
          refine W.skip ?_
          refine inBlk_normal ?_
          refine thenP_normal ?_
          refine W.reg ?_
          first | refine LS.vv rfl rfl (by decide) (Val.addN (j := 1) rfl rfl (by omega)) ?_ | refine LS.vv rfl rfl (by decide) (Val.add64 rfl rfl (by omega)) ?_
          refine LS.vv rfl rfl (by decide) (Val.move rfl) ?_
          refine LS.nil ?_
          refine thenP_normal ?_
          have hkk : gb xs k = gb ys k := by simp_all
          refine ⟨k + 1, ?_, ?_, ⟨⟨by omega, ?_⟩, hM, hB⟩, by omega⟩
          · exact Sub.cons rfl (Sub.nil _)
          · repeat (first | exact Sub.nil _ | refine Sub.cons rfl ?_)
          · intro j hj
            by_cases e : j = k
            · subst e; exact hkk
            · exact hall j (by omega)
      ·
        refine DT.m rfl rfl (Step.load rfl rfl (by decide) flat4 rfl ((hr2.below hB)) (bv_at (by omega)) ?_)
        refine ⟨hB, ?_⟩
        refine DT.m rfl rfl (Step.load rfl rfl (by decide) flat4 rfl ((hr1.below hB)) (bv_at (by omega)) ?_)
        refine ⟨hB, ?_⟩
        refine DT.vv rfl rfl rfl (by decide) (Val.neqB Try.underlying4 rfl rfl) ?_
        refine DT.nil ?_
        first | refine W.condD rfl (fun hc4 => ?_) (fun hc4 => ?_) | refine W.cond rfl (fun hc4 => ?_) (fun hc4 => ?_)
        ·
          refine W.seqR ?_
          refine LS.vv rfl rfl (by decide) (Val.assign rfl) ?_
          refine LS.nil ?_
          refine W.ret ?_
          refine inBlk_ret ?_
          refine thenP_ret ?_
          refine thenP_ret ?_
          refine inBlk_ret ?_
          refine thenP_ret ?_
          refine ret1 (by first | exact .inl rfl | exact .inr rfl) rfl ?_
          first | exact ⟨congrArg Value.bool (decide_eq_false fun h => absurd (congrArg List.length h) (by omega)).symm, hB⟩ | (refine ⟨congrArg Value.bool (decide_eq_true (gb_eq_of hlen fun j hj => hall j (by omega))).symm, hB⟩; done) | (refine ⟨congrArg Value.bool (decide_eq_false fun h => ?_).symm, hB⟩; simp_all)
        ·
          refine W.skip ?_
          refine inBlk_normal ?_
          refine thenP_normal ?_
          refine W.reg ?_
          first | refine LS.vv rfl rfl (by decide) (Val.addN (j := 1) rfl rfl (by omega)) ?_ | refine LS.vv rfl rfl (by decide) (Val.add64 rfl rfl (by omega)) ?_
          refine LS.vv rfl rfl (by decide) (Val.move rfl) ?_
          refine LS.nil ?_
          refine thenP_normal ?_
          have hkk : gb xs k = gb ys k := by simp_all
          refine ⟨k + 1, ?_, ?_, ⟨⟨by omega, ?_⟩, hM, hB⟩, by omega⟩
          · exact Sub.cons rfl (Sub.nil _)
          · repeat (first | exact Sub.nil _ | refine Sub.cons rfl ?_)
          · intro j hj
            by_cases e : j = k
            · subst e; exact hkk
            · exact hall j (by omega)
    ·
      refine W.exit ?_
      refine thenP_exit ?_
      refine thenP_exit ?_
      refine inBlk_exit ?_
      refine thenP_normal ?_
      refine W.seqR ?_
      refine LS.vv rfl rfl (by decide) (Val.assign rfl) ?_
      refine LS.nil ?_
      refine W.ret ?_
      refine ret1 (by first | exact .inl rfl | exact .inr rfl) rfl ?_
      first | exact ⟨congrArg Value.bool (decide_eq_false fun h => absurd (congrArg List.length h) (by omega)).symm, hB⟩ | (refine ⟨congrArg Value.bool (decide_eq_true (gb_eq_of hlen fun j hj => hall j (by omega))).symm, hB⟩; done) | (refine ⟨congrArg Value.bool (decide_eq_false fun h => ?_).symm, hB⟩; simp_all)

theorem Get_any (d : List Bool) (p : Option Addr) (c : Nat) (m : Nat) (w0 : World) (hr : Rd w0 p (bv d)) (hm : d.length = m) (hc : m ≤ c) :
    CallsV Try.prog 31 #[.slice p m c] w0 (fun v w => ∃ (p2 : Option Addr) (c2 : Nat) (L : List Bool) (e : Nat), v = .tuple #[.slice p2 L.length c2, .int .i64 (e : Int)] ∧ Own w w0.heap.size 4 p2 L.length c2 (bv L) ∧ (e = 0 → ∃ n2, IsE L n2 ∧ d = putE L n2) ∧ (e ≠ 0 → L = []) ∧ (∀ d2 m2, IsE d2 m2 → d = putE d2 m2 → e = 0) ∧ Below w0.heap.size w0 w) := by
  refine enter2 Try.func31 rfl Try.ntmps31 (by simp) rfl ?_
  have hB := Below.refl w0.heap.size w0
  simp only [argLoc]
  have hM := Mem.nil w0 w0.heap.size
  subst hm
  refine W.seqR ?_
  refine LS.vv rfl rfl (by decide) (Val.assign rfl) ?_
  refine LS.vv rfl rfl (by decide) (Val.cast (v := .int .i64 ((0 : Nat) : Int)) (Val.assign rfl) rfl) ?_
  refine LS.nil ?_
  refine W.seq ?_
  refine W.seqR ?_
  refine LS.vv rfl rfl (by decide) (Val.move rfl) ?_
  refine LS.vv rfl rfl (by decide) (Val.len Try.underlying22 rfl) ?_
  refine LS.vv rfl rfl (by decide) (Val.gtr rfl rfl) ?_
  refine LS.nil ?_
  first | refine W.condD rfl (fun hc1 => ?_) (fun hc1 => ?_) | refine W.cond rfl (fun hc1 => ?_) (fun hc1 => ?_)
  ·
    refine W.seqR ?_
    refine LS.vv rfl rfl (by decide) (Val.assign rfl) ?_
    refine LS.vv rfl rfl (by decide) (Val.cast (v := .int .i64 ((1 : Nat) : Int)) (Val.assign rfl) rfl) ?_
    refine LS.nil ?_
    refine W.ret ?_
    refine thenP_ret ?_
    refine ret2 (by first | exact .inl rfl | exact .inr rfl) rfl rfl ?_
    first | (refine ⟨none, 0, [], 1, rfl, Own.nil _ _ _, fun h => (by omega), fun _ => rfl, fun d2 m2 h1 h2 => (by exfalso; obtain ⟨q1, q2, q3, q4, q5, q6⟩ := putE_shape h1 h2; omega), hB⟩; done) | (refine ⟨none, 0, [], 3, rfl, Own.nil _ _ _, fun h => (by omega), fun _ => rfl, fun d2 m2 h1 h2 => (by exfalso; obtain ⟨q1, q2, q3, q4, q5, q6⟩ := putE_shape h1 h2; omega), hB⟩; done) | (refine ⟨none, 0, [], 3, rfl, Own.nil _ _ _, fun h => (by omega), fun _ => rfl, fun d2 m2 h1 h2 => (by exfalso; obtain ⟨q1, q2, q3, q4, q5, q6⟩ := putE_shape h1 h2; have hk4 : k = 4 := (by omega); subst hk4; omega), hB⟩; done) | (refine ⟨none, 0, [], 3, rfl, Own.nil _ _ _, fun h => (by omega), fun _ => rfl, fun d2 m2 h1 h2 => (by exfalso; obtain ⟨q1, q2, q3, q4, q5, q6⟩ := putE_shape h1 h2; rw [hK] at q4; subst q4; rw [hD] at q6; subst q6; have h60 : e6 = 0 := he6.2 ⟨h1.1, h1.2.1⟩; omega), hB⟩; done) | (refine ⟨none, 0, [], 3, rfl, Own.nil _ _ _, fun h => (by omega), fun _ => rfl, fun d2 m2 h1 h2 => (by exfalso; obtain ⟨q1, q2, q3, q4, q5, q6⟩ := putE_shape h1 h2; rw [hK] at q4; subst q4; rw [hD] at q6; subst q6; have h60 : e6 = 0 := he6.2 ⟨h1.1, h1.2.1⟩; obtain ⟨g1, g2, g3, g4⟩ := hL6 h60; have hn6 := IsE.one h1 ⟨h1.1, h1.2.1, g2, g3, g4⟩; subst hn6; rw [← h2] at g1; simp_all), hB⟩; done) | (have hL : L6 = d := (by simpa using ‹(!decide (L6 = d)) = false›); obtain ⟨g1, g2, g3, g4⟩ := hL6 (by omega); obtain ⟨g5, g6⟩ := he6.1 (by omega); have hO := hM.o1; refine ⟨p5, c5, D, 0, by rw [hol, htl], by rw [hol, htl]; exact hO, fun _ => ⟨n6, ⟨g5, g6, g2, g3, g4⟩, by rw [← hL]; exact g1⟩, fun h => absurd rfl h, fun _ _ _ _ => rfl, hB⟩)
  ·
    refine W.skip ?_
    refine thenP_normal ?_
    refine W.seqR ?_
    refine LS.vv rfl rfl (by decide) (Val.move rfl) ?_
    refine LS.vv rfl rfl (by decide) (Val.len Try.underlying22 rfl) ?_
    refine LS.vv rfl rfl (by decide) (Val.sub64 rfl rfl (by omega)) ?_
    refine LS.vv rfl rfl (by decide) (Val.assign rfl) ?_
    refine LS.nil ?_
    refine W.seq ?_
    refine W.seqR ?_
    refine LS.vv rfl rfl (by decide) (Val.move rfl) ?_
    refine LS.vv rfl rfl (by decide) (Val.lss rfl rfl) ?_
    refine LS.vv rfl rfl (by decide) (Val.move rfl) ?_
    refine LS.split 2 rfl (fun hg2 => ?_) (fun hg2 => ?_)
    ·
      first | (have hg2p := of_decide_eq_true hg2) | skip
      refine LS.s rfl rfl rfl hg2 (by decide) ?_
      refine LS.s rfl rfl rfl hg2 (by decide) ?_
      refine LS.s rfl rfl rfl hg2 (by decide) ?_
      refine LS.vv rfl rfl (by decide) (Val.pickT rfl hg2 rfl) ?_
      refine LS.nil ?_
      refine W.condT rfl ?_
      refine W.seqR ?_
      refine LS.vv rfl rfl (by decide) (Val.assign rfl) ?_
      refine LS.vv rfl rfl (by decide) (Val.cast (v := .int .i64 ((3 : Nat) : Int)) (Val.assign rfl) rfl) ?_
      refine LS.nil ?_
      refine W.ret ?_
      refine thenP_ret ?_
      refine ret2 (by first | exact .inl rfl | exact .inr rfl) rfl rfl ?_
      first | (refine ⟨none, 0, [], 1, rfl, Own.nil _ _ _, fun h => (by omega), fun _ => rfl, fun d2 m2 h1 h2 => (by exfalso; obtain ⟨q1, q2, q3, q4, q5, q6⟩ := putE_shape h1 h2; omega), hB⟩; done) | (refine ⟨none, 0, [], 3, rfl, Own.nil _ _ _, fun h => (by omega), fun _ => rfl, fun d2 m2 h1 h2 => (by exfalso; obtain ⟨q1, q2, q3, q4, q5, q6⟩ := putE_shape h1 h2; omega), hB⟩; done) | (refine ⟨none, 0, [], 3, rfl, Own.nil _ _ _, fun h => (by omega), fun _ => rfl, fun d2 m2 h1 h2 => (by exfalso; obtain ⟨q1, q2, q3, q4, q5, q6⟩ := putE_shape h1 h2; have hk4 : k = 4 := (by omega); subst hk4; omega), hB⟩; done) | (refine ⟨none, 0, [], 3, rfl, Own.nil _ _ _, fun h => (by omega), fun _ => rfl, fun d2 m2 h1 h2 => (by exfalso; obtain ⟨q1, q2, q3, q4, q5, q6⟩ := putE_shape h1 h2; rw [hK] at q4; subst q4; rw [hD] at q6; subst q6; have h60 : e6 = 0 := he6.2 ⟨h1.1, h1.2.1⟩; omega), hB⟩; done) | (refine ⟨none, 0, [], 3, rfl, Own.nil _ _ _, fun h => (by omega), fun _ => rfl, fun d2 m2 h1 h2 => (by exfalso; obtain ⟨q1, q2, q3, q4, q5, q6⟩ := putE_shape h1 h2; rw [hK] at q4; subst q4; rw [hD] at q6; subst q6; have h60 : e6 = 0 := he6.2 ⟨h1.1, h1.2.1⟩; obtain ⟨g1, g2, g3, g4⟩ := hL6 h60; have hn6 := IsE.one h1 ⟨h1.1, h1.2.1, g2, g3, g4⟩; subst hn6; rw [← h2] at g1; simp_all), hB⟩; done) | (have hL : L6 = d := (by simpa using ‹(!decide (L6 = d)) = false›); obtain ⟨g1, g2, g3, g4⟩ := hL6 (by omega); obtain ⟨g5, g6⟩ := he6.1 (by omega); have hO := hM.o1; refine ⟨p5, c5, D, 0, by rw [hol, htl], by rw [hol, htl]; exact hO, fun _ => ⟨n6, ⟨g5, g6, g2, g3, g4⟩, by rw [← hL]; exact g1⟩, fun h => absurd rfl h, fun _ _ _ _ => rfl, hB⟩)
    ·
      first | (have hg2p := of_decide_eq_false hg2) | skip
      refine LS.vg rfl rfl rfl hg2 (by decide) (Val.move rfl) ?_
      refine LS.vg rfl rfl rfl hg2 (by decide) (Val.cast (v := .int .i64 (((d.length - 8) % 2 : Nat) : Int)) (Val.rem (i := (d.length : Int) - 8) (j := 2) rfl rfl (by omega) (by omega)) (by congr 1; omega)) ?_
      refine LS.vg rfl rfl rfl hg2 (by decide) (Val.eql rfl rfl) ?_
      refine LS.vv rfl rfl (by decide) (Val.pickF rfl hg2 rfl) ?_
      refine LS.nil ?_
      first | refine W.condD rfl (fun hc3 => ?_) (fun hc3 => ?_) | refine W.cond rfl (fun hc3 => ?_) (fun hc3 => ?_)
      ·
        refine W.seqR ?_
        refine LS.vv rfl rfl (by decide) (Val.assign rfl) ?_
        refine LS.vv rfl rfl (by decide) (Val.cast (v := .int .i64 ((3 : Nat) : Int)) (Val.assign rfl) rfl) ?_
        refine LS.nil ?_
        refine W.ret ?_
        refine thenP_ret ?_
        refine ret2 (by first | exact .inl rfl | exact .inr rfl) rfl rfl ?_
        first | (refine ⟨none, 0, [], 1, rfl, Own.nil _ _ _, fun h => (by omega), fun _ => rfl, fun d2 m2 h1 h2 => (by exfalso; obtain ⟨q1, q2, q3, q4, q5, q6⟩ := putE_shape h1 h2; omega), hB⟩; done) | (refine ⟨none, 0, [], 3, rfl, Own.nil _ _ _, fun h => (by omega), fun _ => rfl, fun d2 m2 h1 h2 => (by exfalso; obtain ⟨q1, q2, q3, q4, q5, q6⟩ := putE_shape h1 h2; omega), hB⟩; done) | (refine ⟨none, 0, [], 3, rfl, Own.nil _ _ _, fun h => (by omega), fun _ => rfl, fun d2 m2 h1 h2 => (by exfalso; obtain ⟨q1, q2, q3, q4, q5, q6⟩ := putE_shape h1 h2; have hk4 : k = 4 := (by omega); subst hk4; omega), hB⟩; done) | (refine ⟨none, 0, [], 3, rfl, Own.nil _ _ _, fun h => (by omega), fun _ => rfl, fun d2 m2 h1 h2 => (by exfalso; obtain ⟨q1, q2, q3, q4, q5, q6⟩ := putE_shape h1 h2; rw [hK] at q4; subst q4; rw [hD] at q6; subst q6; have h60 : e6 = 0 := he6.2 ⟨h1.1, h1.2.1⟩; omega), hB⟩; done) | (refine ⟨none, 0, [], 3, rfl, Own.nil _ _ _, fun h => (by omega), fun _ => rfl, fun d2 m2 h1 h2 => (by exfalso; obtain ⟨q1, q2, q3, q4, q5, q6⟩ := putE_shape h1 h2; rw [hK] at q4; subst q4; rw [hD] at q6; subst q6; have h60 : e6 = 0 := he6.2 ⟨h1.1, h1.2.1⟩; obtain ⟨g1, g2, g3, g4⟩ := hL6 h60; have hn6 := IsE.one h1 ⟨h1.1, h1.2.1, g2, g3, g4⟩; subst hn6; rw [← h2] at g1; simp_all), hB⟩; done) | (have hL : L6 = d := (by simpa using ‹(!decide (L6 = d)) = false›); obtain ⟨g1, g2, g3, g4⟩ := hL6 (by omega); obtain ⟨g5, g6⟩ := he6.1 (by omega); have hO := hM.o1; refine ⟨p5, c5, D, 0, by rw [hol, htl], by rw [hol, htl]; exact hO, fun _ => ⟨n6, ⟨g5, g6, g2, g3, g4⟩, by rw [← hL]; exact g1⟩, fun h => absurd rfl h, fun _ _ _ _ => rfl, hB⟩)
      ·
        have h8 : 8 ≤ d.length := by omega
        have hnn : (d.length : Int) - 8 = ((d.length - 8 : Nat) : Int) := by omega
        rw [hnn]
        refine W.skip ?_
        refine thenP_normal ?_
        refine W.seqR ?_
        refine LS.vv rfl rfl (by decide) (Val.cast (v := .int .i64 ((0 : Nat) : Int)) (Val.assign rfl) rfl) ?_
        refine LS.nil ?_
        refine W.seq ?_
        refine W.seqR ?_
        refine LS.vv rfl rfl (by decide) (Val.cast (v := .int .i64 ((0 : Nat) : Int)) (Val.move rfl) rfl) ?_
        refine LS.nil ?_
        refine W.block ?_
        refine W.loop (α := Nat) (fun k => [(5, .int .i64 (numE d (d.length - 8) k : Int)), (23, .int .i64 (k : Int))]) [(0, _), (4, _)] (fun k w => (k ≤ 4) ∧ Mem w w0.heap.size [] ∧ Below w0.heap.size w0 w) (fun k => 4 - k) (0) (Sub.cons rfl (Sub.cons rfl (Sub.nil _))) (Sub.cons rfl (Sub.cons rfl (Sub.nil _))) ?_ ?_
        · exact ⟨Nat.zero_le _, hM, hB⟩
        rintro k w1 ⟨hk, hM, hB⟩
        try simp only at hM
        simp only [List.cons_append, List.nil_append]
        have hlt0 := numE_lt d (d.length - 8) k hk
        refine W.seqR ?_
        refine LS.vv rfl rfl (by decide) (Val.lss rfl rfl) ?_
        refine LS.nil ?_
        refine W.seq ?_
        first | refine W.condD rfl (fun hc4 => ?_) (fun hc4 => ?_) | refine W.cond rfl (fun hc4 => ?_) (fun hc4 => ?_)
        ·
          refine W.skip ?_
          refine thenP_normal ?_
          refine W.seq ?_
          refine W.block ?_
          refine W.seqR ?_
          refine LS.vv rfl rfl (by decide) (Val.move rfl) ?_
          refine LS.vv rfl rfl (by decide) (Val.assign rfl) ?_
          refine LS.nil ?_
          refine W.seqR ?_
          refine LS.vv rfl rfl (by decide) (Val.move rfl) ?_
          have hlt1 := numE_succ d (d.length - 8) k
          have hlt2 := numE_lt d (d.length - 8) (k + 1) (by omega)
          have hbe : bitE d (d.length - 8) k = if gb d (d.length - 8 + 2 * k) = true then 1 else 0 := rfl
          first | refine LS.vv rfl rfl (by decide) (Val.mulN (j := 2) rfl rfl (by omega)) ?_ | refine LS.vv rfl rfl (by decide) (Val.mul64 rfl rfl (by omega)) ?_
          refine LS.vv rfl rfl (by decide) (Val.assign rfl) ?_
          refine LS.nil ?_
          refine W.seqR ?_
          refine LS.vv rfl rfl (by decide) (Val.move rfl) ?_
          refine LS.vv rfl rfl (by decide) (Val.move rfl) ?_
          refine LS.vv rfl rfl (by decide) (Val.move rfl) ?_
          first | refine LS.vv rfl rfl (by decide) (Val.mulN (i := 2) rfl rfl (by omega)) ?_ | refine LS.vv rfl rfl (by decide) (Val.mul64 rfl rfl (by omega)) ?_
          first | refine LS.vv rfl rfl (by decide) (Val.addN rfl rfl (by omega)) ?_ | refine LS.vv rfl rfl (by decide) (Val.add64 rfl rfl (by omega)) ?_
          refine LS.vv rfl rfl (by decide) (Val.index1 Try.underlying22 elem4 rfl rfl (by omega) ((hr.below hB)) (bv_lt (by omega))) ?_
          refine LS.m rfl (Step.load rfl rfl (by decide) flat4 rfl ((hr.below hB)) (bv_at (by omega)) ?_)
          refine LS.nil ?_
          first | refine W.condD rfl (fun hc5 => ?_) (fun hc5 => ?_) | refine W.cond rfl (fun hc5 => ?_) (fun hc5 => ?_)
          ·
            refine W.reg ?_
            refine LS.vv rfl rfl (by decide) (Val.move rfl) ?_
            first | refine LS.vv rfl rfl (by decide) (Val.addN (j := 1) rfl rfl (by omega)) ?_ | refine LS.vv rfl rfl (by decide) (Val.add64 rfl rfl (by omega)) ?_
            refine LS.vv rfl rfl (by decide) (Val.assign rfl) ?_
            refine LS.nil ?_
            refine inBlk_normal ?_
            refine thenP_normal ?_
            refine W.reg ?_
            first | refine LS.vv rfl rfl (by decide) (Val.addN (j := 1) rfl rfl (by omega)) ?_ | refine LS.vv rfl rfl (by decide) (Val.add64 rfl rfl (by omega)) ?_
            refine LS.vv rfl rfl (by decide) (Val.move rfl) ?_
            refine LS.nil ?_
            refine thenP_normal ?_
            refine ⟨k + 1, ?_, ?_, ⟨by omega, hM, hB⟩, by omega⟩
            · refine Sub.cons' rfl ?_ (Sub.cons rfl (Sub.nil _))
              first | (rw [‹gb d _ = true›] at hbe; rw [hlt1, hbe]; congr 1; simp; omega) | (rw [‹gb d _ = false›] at hbe; rw [hlt1, hbe]; congr 1; simp; omega)
            · repeat (first | exact Sub.nil _ | refine Sub.cons rfl ?_)
          ·
            refine W.skip ?_
            refine inBlk_normal ?_
            refine thenP_normal ?_
            refine W.reg ?_
            first | refine LS.vv rfl rfl (by decide) (Val.addN (j := 1) rfl rfl (by omega)) ?_ | refine LS.vv rfl rfl (by decide) (Val.add64 rfl rfl (by omega)) ?_
            refine LS.vv rfl rfl (by decide) (Val.move rfl) ?_
            refine LS.nil ?_
            refine thenP_normal ?_
            refine ⟨k + 1, ?_, ?_, ⟨by omega, hM, hB⟩, by omega⟩
            · refine Sub.cons' rfl ?_ (Sub.cons rfl (Sub.nil _))
              first | (rw [‹gb d _ = true›] at hbe; rw [hlt1, hbe]; congr 1; simp; omega) | (rw [‹gb d _ = false›] at hbe; rw [hlt1, hbe]; congr 1; simp; omega)
            · repeat (first | exact Sub.nil _ | refine Sub.cons rfl ?_)
        ·
          refine W.exit ?_
          refine thenP_exit ?_
          refine thenP_exit ?_
          refine inBlk_exit ?_
          refine thenP_normal ?_
          refine W.seq ?_
          refine W.seqR ?_
          refine LS.vv rfl rfl (by decide) (Val.move rfl) ?_
          refine LS.vv rfl rfl (by decide) (Val.move rfl) ?_
          refine LS.vv rfl rfl (by decide) (Val.gtr rfl rfl) ?_
          refine LS.nil ?_
          first | refine W.condD rfl (fun hc6 => ?_) (fun hc6 => ?_) | refine W.cond rfl (fun hc6 => ?_) (fun hc6 => ?_)
          ·
            refine W.seqR ?_
            refine LS.vv rfl rfl (by decide) (Val.assign rfl) ?_
            refine LS.vv rfl rfl (by decide) (Val.cast (v := .int .i64 ((3 : Nat) : Int)) (Val.assign rfl) rfl) ?_
            refine LS.nil ?_
            refine W.ret ?_
            refine thenP_ret ?_
            refine ret2 (by first | exact .inl rfl | exact .inr rfl) rfl rfl ?_
            first | (refine ⟨none, 0, [], 1, rfl, Own.nil _ _ _, fun h => (by omega), fun _ => rfl, fun d2 m2 h1 h2 => (by exfalso; obtain ⟨q1, q2, q3, q4, q5, q6⟩ := putE_shape h1 h2; omega), hB⟩; done) | (refine ⟨none, 0, [], 3, rfl, Own.nil _ _ _, fun h => (by omega), fun _ => rfl, fun d2 m2 h1 h2 => (by exfalso; obtain ⟨q1, q2, q3, q4, q5, q6⟩ := putE_shape h1 h2; omega), hB⟩; done) | (refine ⟨none, 0, [], 3, rfl, Own.nil _ _ _, fun h => (by omega), fun _ => rfl, fun d2 m2 h1 h2 => (by exfalso; obtain ⟨q1, q2, q3, q4, q5, q6⟩ := putE_shape h1 h2; have hk4 : k = 4 := (by omega); subst hk4; omega), hB⟩; done) | (refine ⟨none, 0, [], 3, rfl, Own.nil _ _ _, fun h => (by omega), fun _ => rfl, fun d2 m2 h1 h2 => (by exfalso; obtain ⟨q1, q2, q3, q4, q5, q6⟩ := putE_shape h1 h2; rw [hK] at q4; subst q4; rw [hD] at q6; subst q6; have h60 : e6 = 0 := he6.2 ⟨h1.1, h1.2.1⟩; omega), hB⟩; done) | (refine ⟨none, 0, [], 3, rfl, Own.nil _ _ _, fun h => (by omega), fun _ => rfl, fun d2 m2 h1 h2 => (by exfalso; obtain ⟨q1, q2, q3, q4, q5, q6⟩ := putE_shape h1 h2; rw [hK] at q4; subst q4; rw [hD] at q6; subst q6; have h60 : e6 = 0 := he6.2 ⟨h1.1, h1.2.1⟩; obtain ⟨g1, g2, g3, g4⟩ := hL6 h60; have hn6 := IsE.one h1 ⟨h1.1, h1.2.1, g2, g3, g4⟩; subst hn6; rw [← h2] at g1; simp_all), hB⟩; done) | (have hL : L6 = d := (by simpa using ‹(!decide (L6 = d)) = false›); obtain ⟨g1, g2, g3, g4⟩ := hL6 (by omega); obtain ⟨g5, g6⟩ := he6.1 (by omega); have hO := hM.o1; refine ⟨p5, c5, D, 0, by rw [hol, htl], by rw [hol, htl]; exact hO, fun _ => ⟨n6, ⟨g5, g6, g2, g3, g4⟩, by rw [← hL]; exact g1⟩, fun h => absurd rfl h, fun _ _ _ _ => rfl, hB⟩)
          ·
            refine W.skip ?_
            refine thenP_normal ?_
            refine W.seqR ?_
            refine LS.vv rfl rfl (by decide) (Val.move rfl) ?_
            refine LS.vv rfl rfl (by decide) (Val.move rfl) ?_
            refine LS.vv rfl rfl (by decide) (Val.sliceTo Try.underlying22 elem4 rfl rfl (by omega)) ?_
            refine LS.vv rfl rfl (by decide) (Val.move rfl) ?_
            have hk4 : k = 4 := by omega
            subst hk4
            generalize hK : numE d (d.length - 8) 4 = K
            rw [hK] at hlt0
            have hKn : K ≤ d.length - 8 := by omega
            have htl : (d.take (d.length - 8)).length = d.length - 8 := by rw [List.length_take]; omega
            refine LS.m rfl (Step.call body48 rfl rfl (by decide) rfl (CallsV.mono (eturned_any (d.take (d.length - 8)) _ _ (d.length - 8) K _ (hr.below hB).take_bv htl (by omega) hKn) ?_))
            rintro _ w2 ⟨p5, c5, rfl, hO5, hb2⟩
            replace hM := hM.add hB.size hb2 hO5
            replace hB := hB.trans (hb2.mono hB.size)
            have hol := turnB_len (d.take (d.length - 8)) K
            generalize hD : turnB (d.take (d.length - 8)) K = D
            rw [hD] at hM hol
            refine LS.vv rfl rfl (by decide) (Val.assign rfl) ?_
            refine LS.nil ?_
            refine W.seqR ?_
            refine LS.vv rfl rfl (by decide) (Val.move rfl) ?_
            refine LS.m rfl (Step.call body29 rfl rfl (by decide) rfl (CallsV.mono (Put_any D _ _ _ _ hM.o0.rd (by omega)) ?_))
            rintro _ w3 ⟨p6, c6, L6, n6, e6, rfl, hO6, he6, hL6, hL60, hb3⟩
            replace hM := hM.add hB.size hb3 hO6
            replace hB := hB.trans (hb3.mono hB.size)
            refine LS.vv rfl rfl (by decide) (Val.move rfl) ?_
            refine LS.vv rfl rfl (by decide) (Val.extract rfl rfl) ?_
            refine LS.vv rfl rfl (by decide) (Val.extract rfl rfl) ?_
            refine LS.vv rfl rfl (by decide) (Val.assign rfl) ?_
            refine LS.vv rfl rfl (by decide) (Val.assign rfl) ?_
            refine LS.nil ?_
            refine W.seq ?_
            refine W.seqR ?_
            refine LS.vv rfl rfl (by decide) (Val.move rfl) ?_
            refine LS.vv rfl rfl (by decide) (Val.neq rfl rfl) ?_
            refine LS.vv rfl rfl (by decide) (Val.move rfl) ?_
            refine LS.split 2 rfl (fun hg7 => ?_) (fun hg7 => ?_)
            ·
              first | (have hg7p := of_decide_eq_true hg7) | skip
              refine LS.s rfl rfl rfl hg7 (by decide) ?_
              refine LS.s rfl rfl rfl hg7 (by decide) ?_
              refine LS.s rfl rfl rfl hg7 (by decide) ?_
              refine LS.s rfl rfl rfl hg7 (by decide) ?_
              refine LS.vv rfl rfl (by decide) (Val.pickT rfl hg7 rfl) ?_
              refine LS.nil ?_
              refine W.condT rfl ?_
              refine W.seqR ?_
              refine LS.vv rfl rfl (by decide) (Val.assign rfl) ?_
              refine LS.vv rfl rfl (by decide) (Val.cast (v := .int .i64 ((3 : Nat) : Int)) (Val.assign rfl) rfl) ?_
              refine LS.nil ?_
              refine W.ret ?_
              refine thenP_ret ?_
              refine ret2 (by first | exact .inl rfl | exact .inr rfl) rfl rfl ?_
              first | (refine ⟨none, 0, [], 1, rfl, Own.nil _ _ _, fun h => (by omega), fun _ => rfl, fun d2 m2 h1 h2 => (by exfalso; obtain ⟨q1, q2, q3, q4, q5, q6⟩ := putE_shape h1 h2; omega), hB⟩; done) | (refine ⟨none, 0, [], 3, rfl, Own.nil _ _ _, fun h => (by omega), fun _ => rfl, fun d2 m2 h1 h2 => (by exfalso; obtain ⟨q1, q2, q3, q4, q5, q6⟩ := putE_shape h1 h2; omega), hB⟩; done) | (refine ⟨none, 0, [], 3, rfl, Own.nil _ _ _, fun h => (by omega), fun _ => rfl, fun d2 m2 h1 h2 => (by exfalso; obtain ⟨q1, q2, q3, q4, q5, q6⟩ := putE_shape h1 h2; have hk4 : k = 4 := (by omega); subst hk4; omega), hB⟩; done) | (refine ⟨none, 0, [], 3, rfl, Own.nil _ _ _, fun h => (by omega), fun _ => rfl, fun d2 m2 h1 h2 => (by exfalso; obtain ⟨q1, q2, q3, q4, q5, q6⟩ := putE_shape h1 h2; rw [hK] at q4; subst q4; rw [hD] at q6; subst q6; have h60 : e6 = 0 := he6.2 ⟨h1.1, h1.2.1⟩; omega), hB⟩; done) | (refine ⟨none, 0, [], 3, rfl, Own.nil _ _ _, fun h => (by omega), fun _ => rfl, fun d2 m2 h1 h2 => (by exfalso; obtain ⟨q1, q2, q3, q4, q5, q6⟩ := putE_shape h1 h2; rw [hK] at q4; subst q4; rw [hD] at q6; subst q6; have h60 : e6 = 0 := he6.2 ⟨h1.1, h1.2.1⟩; obtain ⟨g1, g2, g3, g4⟩ := hL6 h60; have hn6 := IsE.one h1 ⟨h1.1, h1.2.1, g2, g3, g4⟩; subst hn6; rw [← h2] at g1; simp_all), hB⟩; done) | (have hL : L6 = d := (by simpa using ‹(!decide (L6 = d)) = false›); obtain ⟨g1, g2, g3, g4⟩ := hL6 (by omega); obtain ⟨g5, g6⟩ := he6.1 (by omega); have hO := hM.o1; refine ⟨p5, c5, D, 0, by rw [hol, htl], by rw [hol, htl]; exact hO, fun _ => ⟨n6, ⟨g5, g6, g2, g3, g4⟩, by rw [← hL]; exact g1⟩, fun h => absurd rfl h, fun _ _ _ _ => rfl, hB⟩)
            ·
              first | (have hg7p := of_decide_eq_false hg7) | skip
              refine LS.vg rfl rfl rfl hg7 (by decide) (Val.move rfl) ?_
              refine LS.vg rfl rfl rfl hg7 (by decide) (Val.move rfl) ?_
              refine LS.mg rfl rfl hg7 (Step.call body50 rfl rfl (by decide) rfl (CallsV.mono (equal_bool L6 d _ _ _ _ _ _ _ hM.o0.rd (hr.below hB) rfl rfl (by (have := hM.o0.le_cap; have := hM.o0.cap_max; simp only at *; unfold maxLen at *; omega))) ?_))
              rintro _ w4 ⟨rfl, hb4⟩
              replace hM := hM.below hb4
              replace hB := hB.trans (hb4.mono hB.size)
              refine LS.vg rfl rfl rfl hg7 (by decide) (Val.not rfl) ?_
              refine LS.vv rfl rfl (by decide) (Val.pickF rfl hg7 rfl) ?_
              refine LS.nil ?_
              first | refine W.condD rfl (fun hc8 => ?_) (fun hc8 => ?_) | refine W.cond rfl (fun hc8 => ?_) (fun hc8 => ?_)
              ·
                refine W.seqR ?_
                refine LS.vv rfl rfl (by decide) (Val.assign rfl) ?_
                refine LS.vv rfl rfl (by decide) (Val.cast (v := .int .i64 ((3 : Nat) : Int)) (Val.assign rfl) rfl) ?_
                refine LS.nil ?_
                refine W.ret ?_
                refine thenP_ret ?_
                refine ret2 (by first | exact .inl rfl | exact .inr rfl) rfl rfl ?_
                first | (refine ⟨none, 0, [], 1, rfl, Own.nil _ _ _, fun h => (by omega), fun _ => rfl, fun d2 m2 h1 h2 => (by exfalso; obtain ⟨q1, q2, q3, q4, q5, q6⟩ := putE_shape h1 h2; omega), hB⟩; done) | (refine ⟨none, 0, [], 3, rfl, Own.nil _ _ _, fun h => (by omega), fun _ => rfl, fun d2 m2 h1 h2 => (by exfalso; obtain ⟨q1, q2, q3, q4, q5, q6⟩ := putE_shape h1 h2; omega), hB⟩; done) | (refine ⟨none, 0, [], 3, rfl, Own.nil _ _ _, fun h => (by omega), fun _ => rfl, fun d2 m2 h1 h2 => (by exfalso; obtain ⟨q1, q2, q3, q4, q5, q6⟩ := putE_shape h1 h2; have hk4 : k = 4 := (by omega); subst hk4; omega), hB⟩; done) | (refine ⟨none, 0, [], 3, rfl, Own.nil _ _ _, fun h => (by omega), fun _ => rfl, fun d2 m2 h1 h2 => (by exfalso; obtain ⟨q1, q2, q3, q4, q5, q6⟩ := putE_shape h1 h2; rw [hK] at q4; subst q4; rw [hD] at q6; subst q6; have h60 : e6 = 0 := he6.2 ⟨h1.1, h1.2.1⟩; omega), hB⟩; done) | (refine ⟨none, 0, [], 3, rfl, Own.nil _ _ _, fun h => (by omega), fun _ => rfl, fun d2 m2 h1 h2 => (by exfalso; obtain ⟨q1, q2, q3, q4, q5, q6⟩ := putE_shape h1 h2; rw [hK] at q4; subst q4; rw [hD] at q6; subst q6; have h60 : e6 = 0 := he6.2 ⟨h1.1, h1.2.1⟩; obtain ⟨g1, g2, g3, g4⟩ := hL6 h60; have hn6 := IsE.one h1 ⟨h1.1, h1.2.1, g2, g3, g4⟩; subst hn6; rw [← h2] at g1; simp_all), hB⟩; done) | (have hL : L6 = d := (by simpa using ‹(!decide (L6 = d)) = false›); obtain ⟨g1, g2, g3, g4⟩ := hL6 (by omega); obtain ⟨g5, g6⟩ := he6.1 (by omega); have hO := hM.o1; refine ⟨p5, c5, D, 0, by rw [hol, htl], by rw [hol, htl]; exact hO, fun _ => ⟨n6, ⟨g5, g6, g2, g3, g4⟩, by rw [← hL]; exact g1⟩, fun h => absurd rfl h, fun _ _ _ _ => rfl, hB⟩)
              ·
                refine W.skip ?_
                refine thenP_normal ?_
                refine W.seqR ?_
                refine LS.vv rfl rfl (by decide) (Val.move rfl) ?_
                refine LS.vv rfl rfl (by decide) (Val.assign rfl) ?_
                refine LS.vv rfl rfl (by decide) (Val.cast (v := .int .i64 ((0 : Nat) : Int)) (Val.assign rfl) rfl) ?_
                refine LS.nil ?_
                refine W.ret ?_
                refine ret2 (by first | exact .inl rfl | exact .inr rfl) rfl rfl ?_
                first | (refine ⟨none, 0, [], 1, rfl, Own.nil _ _ _, fun h => (by omega), fun _ => rfl, fun d2 m2 h1 h2 => (by exfalso; obtain ⟨q1, q2, q3, q4, q5, q6⟩ := putE_shape h1 h2; omega), hB⟩; done) | (refine ⟨none, 0, [], 3, rfl, Own.nil _ _ _, fun h => (by omega), fun _ => rfl, fun d2 m2 h1 h2 => (by exfalso; obtain ⟨q1, q2, q3, q4, q5, q6⟩ := putE_shape h1 h2; omega), hB⟩; done) | (refine ⟨none, 0, [], 3, rfl, Own.nil _ _ _, fun h => (by omega), fun _ => rfl, fun d2 m2 h1 h2 => (by exfalso; obtain ⟨q1, q2, q3, q4, q5, q6⟩ := putE_shape h1 h2; have hk4 : k = 4 := (by omega); subst hk4; omega), hB⟩; done) | (refine ⟨none, 0, [], 3, rfl, Own.nil _ _ _, fun h => (by omega), fun _ => rfl, fun d2 m2 h1 h2 => (by exfalso; obtain ⟨q1, q2, q3, q4, q5, q6⟩ := putE_shape h1 h2; rw [hK] at q4; subst q4; rw [hD] at q6; subst q6; have h60 : e6 = 0 := he6.2 ⟨h1.1, h1.2.1⟩; omega), hB⟩; done) | (refine ⟨none, 0, [], 3, rfl, Own.nil _ _ _, fun h => (by omega), fun _ => rfl, fun d2 m2 h1 h2 => (by exfalso; obtain ⟨q1, q2, q3, q4, q5, q6⟩ := putE_shape h1 h2; rw [hK] at q4; subst q4; rw [hD] at q6; subst q6; have h60 : e6 = 0 := he6.2 ⟨h1.1, h1.2.1⟩; obtain ⟨g1, g2, g3, g4⟩ := hL6 h60; have hn6 := IsE.one h1 ⟨h1.1, h1.2.1, g2, g3, g4⟩; subst hn6; rw [← h2] at g1; simp_all), hB⟩; done) | (have hL : L6 = d := (by simpa using ‹(!decide (L6 = d)) = false›); obtain ⟨g1, g2, g3, g4⟩ := hL6 (by omega); obtain ⟨g5, g6⟩ := he6.1 (by omega); have hO := hM.o1; refine ⟨p5, c5, D, 0, by rw [hol, htl], by rw [hol, htl]; exact hO, fun _ => ⟨n6, ⟨g5, g6, g2, g3, g4⟩, by rw [← hL]; exact g1⟩, fun h => absurd rfl h, fun _ _ _ _ => rfl, hB⟩)

end Go.Proofs.Ytpogedmkmplckaa
