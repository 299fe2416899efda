/-
  The walks of package even.
-/
import Derived.Test.YtpogedmkmplckaaLib
import Derived.Test.YtpogedmkmplckaaEvenPlain
namespace Go.Proofs.Ytpogedmkmplckaa
open Go Go.RowKit V
set_option linter.unusedVariables false

theorem more_any (d : List Bool) (p : Option Addr) (c : Nat) (n : Nat) (w0 : World) (hr : Rd w0 p (bv d)) (hn : d.length = n) (hl : n ≤ 1000) :
    CallsV Try.prog 47 #[.slice p n c] w0 (fun v w => v = .int .i64 (moreOf d) ∧ Below w0.heap.size w0 w) := by
  refine enter1 Try.func47 rfl Try.ntmps47 (by simp) rfl ?_
  have hB := Below.refl w0.heap.size w0
  simp only [argLoc]
  refine W.seqR ?_
  refine LS.vv rfl rfl (by decide) (Val.cast (v := .int .i64 ((0 : Nat) : Int)) (Val.assign rfl) rfl) ?_
  refine LS.nil ?_
  refine W.seqR ?_
  refine LS.vv rfl rfl (by decide) (Val.cast (v := .int .i64 ((0 : Nat) : Int)) (Val.assign rfl) rfl) ?_
  refine LS.nil ?_
  refine W.seq ?_
  refine W.seqR ?_
  refine LS.vv rfl rfl (by decide) (Val.move rfl) ?_
  refine LS.vv rfl rfl (by decide) (Val.len Try.underlying22 rfl) ?_
  refine LS.vv rfl rfl (by decide) (Val.cast (v := .int .i64 ((0 : Nat) : Int)) (Val.move rfl) rfl) ?_
  refine LS.nil ?_
  refine W.block ?_
  refine W.loop (α := Nat) (fun k => [(3, .int .i64 (moreTo d k)), (8, .int .i64 (k : Int))]) [(6, _), (7, _)] (fun k w => k ≤ n ∧ Below w0.heap.size w0 w) (fun k => n - k) (0) (Sub.cons rfl (Sub.cons rfl (Sub.nil _))) (Sub.cons rfl (Sub.cons rfl (Sub.nil _))) ?_ ?_
  · exact ⟨Nat.zero_le _, hB⟩
  rintro k w1 ⟨hk, hB⟩
  simp only [List.cons_append, List.nil_append]
  have hmb := moreTo_bound d k
  refine W.seqR ?_
  refine LS.vv rfl rfl (by decide) (Val.lss rfl rfl) ?_
  refine LS.nil ?_
  refine W.seq ?_
  first | refine W.condD rfl (fun hc1 => ?_) (fun hc1 => ?_) | refine W.cond rfl (fun hc1 => ?_) (fun hc1 => ?_)
  ·
    refine W.skip ?_
    refine thenP_normal ?_
    refine W.seq ?_
    refine W.block ?_
    refine W.seqR ?_
    refine LS.vv rfl rfl (by decide) (Val.index1 Try.underlying22 elem4 rfl rfl (by omega) hr (bv_lt (by omega))) ?_
    refine LS.m rfl (Step.load rfl rfl (by decide) flat4 rfl (hr.below hB) (bv_at (by omega)) ?_)
    refine LS.vv rfl rfl (by decide) (Val.assign rfl) ?_
    refine LS.nil ?_
    refine W.seqR ?_
    refine LS.vv rfl rfl (by decide) (Val.move rfl) ?_
    refine LS.nil ?_
    first | refine W.condD rfl (fun hc2 => ?_) (fun hc2 => ?_) | refine W.cond rfl (fun hc2 => ?_) (fun hc2 => ?_)
    ·
      refine W.reg ?_
      refine LS.vv rfl rfl (by decide) (Val.move rfl) ?_
      refine LS.vv rfl rfl (by decide) (Val.add64 rfl rfl (by omega)) ?_
      refine LS.vv rfl rfl (by decide) (Val.assign rfl) ?_
      refine LS.nil ?_
      refine inBlk_normal ?_
      refine thenP_normal ?_
      refine W.reg ?_
      first | refine LS.vv rfl rfl (by decide) (Val.addN (j := 1) rfl rfl (by omega)) ?_ | refine LS.vv rfl rfl (by decide) (Val.add64 rfl rfl (by omega)) ?_
      refine LS.vv rfl rfl (by decide) (Val.move rfl) ?_
      refine LS.nil ?_
      refine thenP_normal ?_
      refine ⟨k + 1, ?_, ?_, ⟨by omega, hB⟩, by omega⟩
      · first | exact Sub.cons' rfl (by rw [moreTo_succ, if_pos ‹gb d k = true›]) (Sub.cons rfl (Sub.nil _)) | exact Sub.cons' rfl (by rw [moreTo_succ, if_neg (show ¬ gb d k = true by rw [‹gb d k = false›]; decide)]) (Sub.cons rfl (Sub.nil _))
      · repeat (first | exact Sub.nil _ | refine Sub.cons rfl ?_)
    ·
      refine W.reg ?_
      refine LS.vv rfl rfl (by decide) (Val.move rfl) ?_
      refine LS.vv rfl rfl (by decide) (Val.sub64 rfl rfl (by omega)) ?_
      refine LS.vv rfl rfl (by decide) (Val.assign rfl) ?_
      refine LS.nil ?_
      refine inBlk_normal ?_
      refine thenP_normal ?_
      refine W.reg ?_
      first | refine LS.vv rfl rfl (by decide) (Val.addN (j := 1) rfl rfl (by omega)) ?_ | refine LS.vv rfl rfl (by decide) (Val.add64 rfl rfl (by omega)) ?_
      refine LS.vv rfl rfl (by decide) (Val.move rfl) ?_
      refine LS.nil ?_
      refine thenP_normal ?_
      refine ⟨k + 1, ?_, ?_, ⟨by omega, hB⟩, by omega⟩
      · first | exact Sub.cons' rfl (by rw [moreTo_succ, if_pos ‹gb d k = true›]) (Sub.cons rfl (Sub.nil _)) | exact Sub.cons' rfl (by rw [moreTo_succ, if_neg (show ¬ gb d k = true by rw [‹gb d k = false›]; decide)]) (Sub.cons rfl (Sub.nil _))
      · repeat (first | exact Sub.nil _ | refine Sub.cons rfl ?_)
  ·
    refine W.exit ?_
    refine thenP_exit ?_
    refine thenP_exit ?_
    refine inBlk_exit ?_
    refine thenP_normal ?_
    refine W.seqR ?_
    refine LS.vv rfl rfl (by decide) (Val.move rfl) ?_
    refine LS.vv rfl rfl (by decide) (Val.assign rfl) ?_
    refine LS.nil ?_
    refine W.ret ?_
    refine ret1 (by first | exact .inl rfl | exact .inr rfl) rfl ?_
    exact ⟨by rw [moreOf, hn, show k = n by omega], hB⟩

theorem eturned_any (d : List Bool) (p : Option Addr) (c : Nat) (n k : Nat) (w0 : World) (hr : Rd w0 p (bv d)) (hn : d.length = n) (hl : n ≤ 1000) (hk : k ≤ n) :
    CallsV Try.prog 48 #[.slice p n c, .int .i64 (k : Int)] w0 (fun v w => ∃ (p2 : Option Addr) (c2 : Nat), v = .slice p2 n c2 ∧ Own w w0.heap.size 4 p2 n c2 (bv (turnB d k)) ∧ Below w0.heap.size w0 w) := by
  refine enter1 Try.func48 rfl Try.ntmps48 (by simp) rfl ?_
  have hB := Below.refl w0.heap.size w0
  simp only [argLoc, Nat.zero_add]
  subst hn
  have hbs := hB.size
  refine W.seqR ?_
  refine LS.vv rfl rfl (by decide) (Val.assign rfl) ?_
  refine LS.nil ?_
  refine W.seqR ?_
  refine LS.vv rfl rfl (by decide) (Val.move rfl) ?_
  refine LS.m rfl (Step.call body35 rfl rfl (by decide) rfl (CallsV.mono (clone_bool d _ _ _ (hr.below hB) (by omega)) ?_))
  rintro _ w1 ⟨px, cx, rfl, hO, hb1⟩
  replace hB := hB.trans (hb1.mono hB.size)
  refine LS.vv rfl rfl (by decide) (Val.assign rfl) ?_
  refine LS.nil ?_
  refine W.seq ?_
  refine W.seqR ?_
  refine LS.vv rfl rfl (by decide) (Val.move rfl) ?_
  refine LS.vv rfl rfl (by decide) (Val.cast (v := .int .i64 ((0 : Nat) : Int)) (Val.move rfl) rfl) ?_
  refine LS.nil ?_
  refine W.block ?_
  refine W.loop (α := Nat) (fun q => [(10, .int .i64 (q : Int))]) [(5, _), (9, _)] (fun q w => (q ≤ k ∧ Own w w0.heap.size 4 px d.length cx (bv (turnB d q))) ∧ Below w0.heap.size w0 w) (fun q => k - q) (0) (Sub.cons rfl (Sub.nil _)) (Sub.cons rfl (Sub.cons rfl (Sub.nil _))) ?_ ?_
  · exact ⟨⟨Nat.zero_le _, hO.base hbs⟩, hB⟩
  rintro q w2 ⟨⟨hq, hO⟩, hB⟩
  simp only [List.cons_append, List.nil_append]
  refine W.seqR ?_
  refine LS.vv rfl rfl (by decide) (Val.lss rfl rfl) ?_
  refine LS.nil ?_
  refine W.seq ?_
  first | refine W.condD rfl (fun hc1 => ?_) (fun hc1 => ?_) | refine W.cond rfl (fun hc1 => ?_) (fun hc1 => ?_)
  ·
    refine W.skip ?_
    refine thenP_normal ?_
    refine W.seq ?_
    refine W.block ?_
    refine W.seqR ?_
    refine LS.vv rfl rfl (by decide) (Val.move rfl) ?_
    refine LS.vv rfl rfl (by decide) (Val.assign rfl) ?_
    refine LS.nil ?_
    refine W.reg ?_
    refine LS.vv rfl rfl (by decide) (Val.move rfl) ?_
    refine LS.vv rfl rfl (by decide) (Val.move rfl) ?_
    refine LS.vv rfl rfl (by decide) (Val.move rfl) ?_
    refine LS.vv rfl rfl (by decide) (Val.move rfl) ?_
    have htl := turnB_len d q
    refine LS.vv rfl rfl (by decide) (Val.index1 Try.underlying22 elem4 rfl rfl (by omega) hO.rd (bv_lt (by omega))) ?_
    refine LS.m rfl (Step.load rfl rfl (by decide) flat4 rfl hO.rd (bv_at (by omega)) ?_)
    refine LS.vv rfl rfl (by decide) (Val.not rfl) ?_
    refine LS.vv rfl rfl (by decide) (Val.index1 Try.underlying22 elem4 rfl rfl (by omega) hO.rd (bv_lt (by omega))) ?_
    refine LS.m rfl (Step.store (B := w0.heap.size) rfl rfl flat4 elem4 rfl rfl rfl (hO) (by omega) hB.size ?_)
    rintro w3 hO3 hg3 hbl3 hsz3
    have hO2 := hO3
    replace hB := hB.trans hbl3
    refine LS.nil ?_
    refine inBlk_normal ?_
    refine thenP_normal ?_
    refine W.reg ?_
    first | refine LS.vv rfl rfl (by decide) (Val.addN (j := 1) rfl rfl (by omega)) ?_ | refine LS.vv rfl rfl (by decide) (Val.add64 rfl rfl (by omega)) ?_
    refine LS.vv rfl rfl (by decide) (Val.move rfl) ?_
    refine LS.nil ?_
    refine thenP_normal ?_
    refine ⟨q + 1, ?_, ?_, ⟨⟨by omega, ?_⟩, hB⟩, by omega⟩
    · exact Sub.cons rfl (Sub.nil _)
    · repeat (first | exact Sub.nil _ | refine Sub.cons rfl ?_)
    · rw [turnB_succ, bv, List.map_set]; exact hO2
  ·
    refine W.exit ?_
    refine thenP_exit ?_
    refine thenP_exit ?_
    refine inBlk_exit ?_
    refine thenP_normal ?_
    refine W.seqR ?_
    refine LS.vv rfl rfl (by decide) (Val.move rfl) ?_
    refine LS.vv rfl rfl (by decide) (Val.assign rfl) ?_
    refine LS.nil ?_
    refine W.ret ?_
    refine ret1 (by first | exact .inl rfl | exact .inr rfl) rfl ?_
    have hqk : q = k := by omega
    rw [hqk] at hO
    exact ⟨_, _, rfl, hO, hB⟩

theorem Turn_any (d : List Bool) (p : Option Addr) (c : Nat) (m : Nat) (w0 : World) (hr : Rd w0 p (bv d)) (hm : d.length = m) :
    CallsV Try.prog 28 #[.slice p m c] w0 (fun v w => ∃ (p2 : Option Addr) (c2 : Nat) (L : List Bool) (n e : Nat), v = .tuple #[.slice p2 L.length c2, .int .i64 (n : Int), .int .i64 (e : Int)] ∧ Own w w0.heap.size 4 p2 L.length c2 (bv L) ∧ (e = 0 ↔ d.length ≤ 12 ∧ d.length % 2 = 0) ∧ (e = 0 → L = turnB d n ∧ n ≤ d.length ∧ moreOf (turnB d n) = 0 ∧ ∀ j, j < n → moreOf (turnB d j) ≠ 0) ∧ (e ≠ 0 → L = []) ∧ Below w0.heap.size w0 w) := by
  refine enter3 Try.func28 rfl Try.ntmps28 (by simp) rfl ?_
  have hB := Below.refl w0.heap.size w0
  simp only [argLoc]
  subst hm
  refine W.seqR ?_
  refine LS.vv rfl rfl (by decide) (Val.assign rfl) ?_
  refine LS.vv rfl rfl (by decide) (Val.cast (v := .int .i64 ((0 : Nat) : Int)) (Val.assign rfl) rfl) ?_
  refine LS.vv rfl rfl (by decide) (Val.cast (v := .int .i64 ((0 : Nat) : Int)) (Val.assign rfl) rfl) ?_
  refine LS.nil ?_
  refine W.seq ?_
  refine W.seqR ?_
  refine LS.vv rfl rfl (by decide) (Val.move rfl) ?_
  refine LS.vv rfl rfl (by decide) (Val.len Try.underlying22 rfl) ?_
  refine LS.vv rfl rfl (by decide) (Val.gtr rfl rfl) ?_
  refine LS.nil ?_
  first | refine W.condD rfl (fun hc1 => ?_) (fun hc1 => ?_) | refine W.cond rfl (fun hc1 => ?_) (fun hc1 => ?_)
  ·
    refine W.seqR ?_
    refine LS.vv rfl rfl (by decide) (Val.assign rfl) ?_
    refine LS.vv rfl rfl (by decide) (Val.cast (v := .int .i64 ((0 : Nat) : Int)) (Val.assign rfl) rfl) ?_
    refine LS.vv rfl rfl (by decide) (Val.cast (v := .int .i64 ((1 : Nat) : Int)) (Val.assign rfl) rfl) ?_
    refine LS.nil ?_
    refine W.ret ?_
    refine thenP_ret ?_
    refine ret3 (by first | exact .inl rfl | exact .inr rfl) rfl rfl rfl ?_
    first | exact ⟨none, 0, [], 0, 1, rfl, Own.nil _ _ _, by omega, fun h => by omega, fun _ => rfl, hB⟩ | exact ⟨none, 0, [], 0, 3, rfl, Own.nil _ _ _, by omega, fun h => by omega, fun _ => rfl, hB⟩ | (refine ⟨p6, c6, turnB d k, k, 0, by rw [turnB_len], by rw [turnB_len]; exact hO6.base hbs, ⟨fun _ => by omega, fun _ => rfl⟩, fun _ => ⟨rfl, by omega, hz, hall⟩, fun h => absurd rfl h, hB⟩)
  ·
    refine W.skip ?_
    refine thenP_normal ?_
    refine W.seq ?_
    refine W.seqR ?_
    refine LS.vv rfl rfl (by decide) (Val.move rfl) ?_
    refine LS.vv rfl rfl (by decide) (Val.len Try.underlying22 rfl) ?_
    first | refine LS.vv rfl rfl (by decide) (Val.remN (j := 2) rfl rfl (by omega)) ?_ | refine LS.vv rfl rfl (by decide) (Val.rem rfl rfl (by omega) (by omega)) ?_ | refine LS.vv rfl rfl (by decide) (Val.remT rfl rfl (by omega)) ?_
    refine LS.vv rfl rfl (by decide) (Val.eql rfl rfl) ?_
    refine LS.nil ?_
    first | refine W.condD rfl (fun hc2 => ?_) (fun hc2 => ?_) | refine W.cond rfl (fun hc2 => ?_) (fun hc2 => ?_)
    ·
      refine W.seqR ?_
      refine LS.vv rfl rfl (by decide) (Val.assign rfl) ?_
      refine LS.vv rfl rfl (by decide) (Val.cast (v := .int .i64 ((0 : Nat) : Int)) (Val.assign rfl) rfl) ?_
      refine LS.vv rfl rfl (by decide) (Val.cast (v := .int .i64 ((3 : Nat) : Int)) (Val.assign rfl) rfl) ?_
      refine LS.nil ?_
      refine W.ret ?_
      refine thenP_ret ?_
      refine ret3 (by first | exact .inl rfl | exact .inr rfl) rfl rfl rfl ?_
      first | exact ⟨none, 0, [], 0, 1, rfl, Own.nil _ _ _, by omega, fun h => by omega, fun _ => rfl, hB⟩ | exact ⟨none, 0, [], 0, 3, rfl, Own.nil _ _ _, by omega, fun h => by omega, fun _ => rfl, hB⟩ | (refine ⟨p6, c6, turnB d k, k, 0, by rw [turnB_len], by rw [turnB_len]; exact hO6.base hbs, ⟨fun _ => by omega, fun _ => rfl⟩, fun _ => ⟨rfl, by omega, hz, hall⟩, fun h => absurd rfl h, hB⟩)
    ·
      have he2 : d.length % 2 = 0 := by omega
      obtain ⟨K, hK, hK0⟩ := even_somewhere d he2
      refine W.skip ?_
      refine thenP_normal ?_
      refine W.seqR ?_
      refine LS.vv rfl rfl (by decide) (Val.cast (v := .int .i64 ((0 : Nat) : Int)) (Val.assign rfl) rfl) ?_
      refine LS.nil ?_
      refine W.seq ?_
      refine W.block ?_
      refine W.loop (α := Nat) (fun k => [(5, .int .i64 (k : Int))]) [(0, _)] (fun k w => (k ≤ K ∧ ∀ j, j < k → moreOf (turnB d j) ≠ 0) ∧ Below w0.heap.size w0 w) (fun k => K - k) (0) (Sub.cons rfl (Sub.nil _)) (Sub.cons rfl (Sub.nil _)) ?_ ?_
      · exact ⟨⟨Nat.zero_le _, by omega⟩, hB⟩
      rintro k w1 ⟨⟨hk, hall⟩, hB⟩
      simp only [List.cons_append, List.nil_append]
      refine W.seq ?_
      refine W.seqR ?_
      refine LS.vv rfl rfl (by decide) (Val.move rfl) ?_
      refine LS.vv rfl rfl (by decide) (Val.move rfl) ?_
      refine LS.m rfl (Step.call body48 rfl rfl (by decide) rfl (CallsV.mono (eturned_any d _ _ d.length k _ (hr.below hB) rfl (by omega) (by omega)) ?_))
      rintro _ w2 ⟨p5, c5, rfl, hO, hb2⟩
      replace hB := hB.trans (hb2.mono hB.size)
      refine LS.m rfl (Step.call body47 rfl rfl (by decide) rfl (CallsV.mono (more_any (turnB d k) _ _ d.length _ hO.rd (turnB_len d k) (by omega)) ?_))
      rintro _ w3 ⟨rfl, hb3⟩
      replace hB := hB.trans (hb3.mono hB.size)
      refine LS.vv rfl rfl (by decide) (Val.neq rfl rfl) ?_
      refine LS.nil ?_
      first | refine W.condD rfl (fun hc3 => ?_) (fun hc3 => ?_) | refine W.cond rfl (fun hc3 => ?_) (fun hc3 => ?_)
      ·
        refine W.skip ?_
        refine thenP_normal ?_
        refine W.block ?_
        refine W.reg ?_
        refine LS.vv rfl rfl (by decide) (Val.move rfl) ?_
        first | refine LS.vv rfl rfl (by decide) (Val.addN (j := 1) rfl rfl (by omega)) ?_ | refine LS.vv rfl rfl (by decide) (Val.add64 rfl rfl (by omega)) ?_
        refine LS.vv rfl rfl (by decide) (Val.assign rfl) ?_
        refine LS.nil ?_
        refine inBlk_normal ?_
        refine thenP_normal ?_
        have hne : moreOf (turnB d k) ≠ 0 := ‹_›
        have hkK : k ≠ K := fun h => hne (by rw [h]; exact hK0)
        refine ⟨k + 1, ?_, ?_, ⟨⟨by omega, ?_⟩, hB⟩, by omega⟩
        · exact Sub.cons rfl (Sub.nil _)
        · repeat (first | exact Sub.nil _ | refine Sub.cons rfl ?_)
        · intro j hj
          by_cases e : j = k
          · subst e; exact hne
          · exact hall j (by omega)
      ·
        refine W.exit ?_
        refine thenP_exit ?_
        refine thenP_exit ?_
        refine inBlk_exit ?_
        refine thenP_normal ?_
        refine W.seqR ?_
        refine LS.vv rfl rfl (by decide) (Val.move rfl) ?_
        refine LS.vv rfl rfl (by decide) (Val.move rfl) ?_
        have hbs := hB.size
        have hz : moreOf (turnB d k) = 0 := Classical.byContradiction fun h => ‹¬ moreOf (turnB d k) ≠ _› h
        refine LS.m rfl (Step.call body48 rfl rfl (by decide) rfl (CallsV.mono (eturned_any d _ _ d.length k _ (hr.below hB) rfl (by omega) (by omega)) ?_))
        rintro _ w4 ⟨p6, c6, rfl, hO6, hb4⟩
        replace hB := hB.trans (hb4.mono hB.size)
        refine LS.vv rfl rfl (by decide) (Val.move rfl) ?_
        refine LS.vv rfl rfl (by decide) (Val.assign rfl) ?_
        refine LS.vv rfl rfl (by decide) (Val.assign rfl) ?_
        refine LS.vv rfl rfl (by decide) (Val.cast (v := .int .i64 ((0 : Nat) : Int)) (Val.assign rfl) rfl) ?_
        refine LS.nil ?_
        refine W.ret ?_
        refine ret3 (by first | exact .inl rfl | exact .inr rfl) rfl rfl rfl ?_
        first | exact ⟨none, 0, [], 0, 1, rfl, Own.nil _ _ _, by omega, fun h => by omega, fun _ => rfl, hB⟩ | exact ⟨none, 0, [], 0, 3, rfl, Own.nil _ _ _, by omega, fun h => by omega, fun _ => rfl, hB⟩ | (refine ⟨p6, c6, turnB d k, k, 0, by rw [turnB_len], by rw [turnB_len]; exact hO6.base hbs, ⟨fun _ => by omega, fun _ => rfl⟩, fun _ => ⟨rfl, by omega, hz, hall⟩, fun h => absurd rfl h, hB⟩)

end Go.Proofs.Ytpogedmkmplckaa
