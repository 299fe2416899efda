/-
  The walks of package stuff.
-/
import Derived.Test.YtpogedmkmplckaaVfacts2
import Derived.Test.YtpogedmkmplckaaVmem4
import Derived.Test.YtpogedmkmplckaaStuffPlain
namespace Go.Proofs.Ytpogedmkmplckaa
open Go Go.RowKit V
set_option linter.unusedVariables false
set_option linter.unusedSimpArgs false

theorem stuff_any (d : List Bool) (p : Option Addr) (c : Nat) (w0 : World) (hr : Rd w0 p (bv d)) (hl : d.length ≤ 64) :
    CallsV Try.prog 40 #[.slice p d.length c] w0 (fun v w => ∃ (p2 : Option Addr) (c2 : Nat), v = .slice p2 (stuffL 0 d).length c2 ∧ Own w w0.heap.size 4 p2 (stuffL 0 d).length c2 (bv (stuffL 0 d)) ∧ (stuffL 0 d).length ≤ 128 ∧ Below w0.heap.size w0 w) := by
  refine enter1 Try.func40 rfl Try.ntmps40 (by simp) rfl ?_
  have hB := Below.refl w0.heap.size w0
  simp only [argLoc]
  refine W.seqR ?_
  refine LS.vv rfl rfl (by decide) (Val.assign rfl) ?_
  refine LS.nil ?_
  refine W.seqR ?_
  refine LS.vv rfl rfl (by decide) (Val.assign rfl) ?_
  refine LS.nil ?_
  refine W.seqR ?_
  refine LS.vv rfl rfl (by decide) (Val.cast (v := .int .i64 ((0 : Nat) : Int)) (Val.assign rfl) rfl) ?_
  refine LS.nil ?_
  refine W.seq ?_
  refine W.seqR ?_
  refine LS.vv rfl rfl (by decide) (Val.move rfl) ?_
  refine LS.vv rfl rfl (by decide) (Val.len Try.underlying22 rfl) ?_
  refine LS.vv rfl rfl (by decide) (Val.cast (v := .int .i64 ((0 : Nat) : Int)) (Val.move rfl) rfl) ?_
  refine LS.nil ?_
  refine W.block ?_
  refine W.loop (α := Nat × List Bool × Nat × Option Addr × Nat) (fun g => [(3, .slice g.2.2.2.1 g.2.1.length g.2.2.2.2), (4, .int .i64 (g.2.2.1 : Int)), (9, .int .i64 (g.1 : Int))]) [(7, _), (8, _)] (fun g w => (g.1 ≤ d.length ∧ g.2.1.length ≤ 2 * g.1 ∧ g.2.2.1 < 5 ∧ stuffL 0 d = g.2.1 ++ stuffL g.2.2.1 (d.drop g.1) ∧ Own w w0.heap.size 4 g.2.2.2.1 g.2.1.length g.2.2.2.2 (bv g.2.1)) ∧ Below w0.heap.size w0 w) (fun g => d.length - g.1) ((0, [], 0, none, 0)) (Sub.cons rfl (Sub.cons rfl (Sub.cons rfl (Sub.nil _)))) (Sub.cons rfl (Sub.cons rfl (Sub.nil _))) ?_ ?_
  · exact ⟨⟨Nat.zero_le _, Nat.le_refl _, by simp, rfl, Own.nil _ _ _⟩, hB⟩
  rintro ⟨k, ou, q, p1, c1⟩ w1 ⟨⟨hk, hol, hq, hst, hO⟩, hB⟩
  simp only [List.cons_append, List.nil_append]
  simp only at hk hol hq hst hO
  refine W.seqR ?_
  refine LS.vv rfl rfl (by decide) (Val.lss rfl rfl) ?_
  refine LS.nil ?_
  refine W.seq ?_
  first | refine W.condD rfl (fun hc1 => ?_) (fun hc1 => ?_) | refine W.cond rfl (fun hc1 => ?_) (fun hc1 => ?_)
  ·
    refine W.skip ?_
    refine thenP_normal ?_
    refine W.seq ?_
    refine W.block ?_
    refine W.seqR ?_
    refine LS.vv rfl rfl (by decide) (Val.index1 Try.underlying22 elem4 rfl rfl (by omega) hr (bv_lt (by omega))) ?_
    refine LS.m rfl (Step.load rfl rfl (by decide) flat4 rfl (hr.below hB) (bv_at (by omega)) ?_)
    refine LS.vv rfl rfl (by decide) (Val.assign rfl) ?_
    refine LS.nil ?_
    refine W.seqR ?_
    refine LS.vv rfl rfl (by decide) (Val.move rfl) ?_
    refine LS.vv rfl rfl (by decide) (Val.move rfl) ?_
    refine LS.m rfl (Step.lit (B := w0.heap.size) rfl rfl (by decide) Try.underlying22 elem4 rfl rfl (by omega) (by simp [Value.oneCell']) hB.size ?_)
    rintro w2 hO2 hg2 hbl2 hsz2
    replace hB := hB.trans (hbl2.mono hB.size)
    replace hO := hO.below hbl2
    refine LS.m rfl (Step.append (B := w0.heap.size) rfl rfl (by decide) Try.underlying22 elem4 rfl rfl rfl rfl (hO) (hO2.rd) (rfl) ((by simp [Value.oneCell'])) (by omega) (by omega) hB.size ?_)
    rintro p3 c3 w3 hO3 hg3 hbl3
    replace hB := hB.trans hbl3
    have hO := hO3
    generalize p3 = pa at *
    generalize c3 = ca at *
    refine LS.vv rfl rfl (by decide) (Val.assign rfl) ?_
    refine LS.nil ?_
    refine W.seq ?_
    refine W.seqR ?_
    refine LS.vv rfl rfl (by decide) (Val.move rfl) ?_
    first | refine LS.vv rfl rfl (by decide) (Val.addN (j := 1) rfl rfl (by omega)) ?_ | refine LS.vv rfl rfl (by decide) (Val.add64 rfl rfl (by omega)) ?_
    refine LS.vv rfl rfl (by decide) (Val.assign rfl) ?_
    refine LS.nil ?_
    refine W.seqR ?_
    refine LS.vv rfl rfl (by decide) (Val.move rfl) ?_
    refine LS.vv rfl rfl (by decide) (Val.not rfl) ?_
    refine LS.nil ?_
    first | refine W.condD rfl (fun hc2 => ?_) (fun hc2 => ?_) | refine W.cond rfl (fun hc2 => ?_) (fun hc2 => ?_)
    ·
      refine W.reg ?_
      refine LS.vv rfl rfl (by decide) (Val.cast (v := .int .i64 ((0 : Nat) : Int)) (Val.assign rfl) rfl) ?_
      refine LS.nil ?_
      refine thenP_normal ?_
      refine W.seqR ?_
      refine LS.vv rfl rfl (by decide) (Val.move rfl) ?_
      refine LS.vv rfl rfl (by decide) (Val.eql rfl rfl) ?_
      refine LS.nil ?_
      first | refine W.condD rfl (fun hc3 => ?_) (fun hc3 => ?_) | refine W.cond rfl (fun hc3 => ?_) (fun hc3 => ?_)
      ·
        refine W.seqR ?_
        refine LS.vv rfl rfl (by decide) (Val.move rfl) ?_
        refine LS.m rfl (Step.lit (B := w0.heap.size) rfl rfl (by decide) Try.underlying22 elem4 rfl rfl (by omega) (by simp [Value.oneCell']) hB.size ?_)
        rintro w4 hO4 hg4 hbl4 hsz4
        replace hB := hB.trans (hbl4.mono hB.size)
        replace hO := hO.below hbl4
        refine LS.m rfl (Step.append (B := w0.heap.size) rfl rfl (by decide) Try.underlying22 elem4 rfl rfl rfl rfl (hO) (hO4.rd) (rfl) ((by simp [Value.oneCell'])) (by omega) (by omega) hB.size ?_)
        rintro p5 c5 w5 hO5 hg5 hbl5
        replace hB := hB.trans hbl5
        have hO := hO5
        generalize p5 = pa at *
        generalize c5 = ca at *
        refine LS.vv rfl rfl (by decide) (Val.assign rfl) ?_
        refine LS.nil ?_
        refine W.reg ?_
        refine LS.vv rfl rfl (by decide) (Val.cast (v := .int .i64 ((0 : Nat) : Int)) (Val.assign rfl) rfl) ?_
        refine LS.nil ?_
        refine inBlk_normal ?_
        refine thenP_normal ?_
        refine W.reg ?_
        first | refine LS.vv rfl rfl (by decide) (Val.addN (j := 1) rfl rfl (by omega)) ?_ | refine LS.vv rfl rfl (by decide) (Val.add64 rfl rfl (by omega)) ?_
        refine LS.vv rfl rfl (by decide) (Val.move rfl) ?_
        refine LS.nil ?_
        refine thenP_normal ?_
        rw [drop_gb (show k < d.length by omega), stuffL] at hst
        have hnx : nxt q (gb d k) = if gb d k = true then q + 1 else 0 := rfl
        first
        | (exfalso; omega)
        | (have hgt : gb d k = true := by simpa using ‹(!gb d k) = false›
           rw [if_pos (show nxt q (gb d k) = 5 by rw [hnx, if_pos hgt]; omega)] at hst
           refine ⟨(k + 1, ou ++ [gb d k] ++ [false], 0, pa, ca), ?_, ?_, ⟨⟨by simp only; omega, by simp; omega, by simp, by simp only; rw [hst]; simp, ?_⟩, hB⟩, by simp only; omega⟩
           · exact Sub.cons' rfl (by simp) (Sub.cons rfl (Sub.cons rfl (Sub.nil _)))
           · repeat (first | exact Sub.nil _ | refine Sub.cons rfl ?_)
           · simp only [bv, List.map_append, List.length_append]; exact hO)
        | (have hgt : gb d k = true := by simpa using ‹(!gb d k) = false›
           rw [if_neg (show ¬ nxt q (gb d k) = 5 by rw [hnx, if_pos hgt]; omega)] at hst
           refine ⟨(k + 1, ou ++ [gb d k], q + 1, pa, ca), ?_, ?_, ⟨⟨by simp only; omega, by simp; omega, by simp only; omega, by simp only; rw [hst, hnx, if_pos hgt]; simp, ?_⟩, hB⟩, by simp only; omega⟩
           · exact Sub.cons' rfl (by simp) (Sub.cons rfl (Sub.cons rfl (Sub.nil _)))
           · repeat (first | exact Sub.nil _ | refine Sub.cons rfl ?_)
           · simp only [bv, List.map_append, List.length_append]; exact hO)
        | (have hgf : gb d k = false := by simpa using ‹(!gb d k) = true›
           have hn0 : nxt q (gb d k) = 0 := by rw [hnx, hgf]; rfl
           rw [if_neg (show ¬ nxt q (gb d k) = 5 by omega), hn0] at hst
           refine ⟨(k + 1, ou ++ [gb d k], 0, pa, ca), ?_, ?_, ⟨⟨by simp only; omega, by simp; omega, by simp, by simp only; rw [hst]; simp, ?_⟩, hB⟩, by simp only; omega⟩
           · exact Sub.cons' rfl (by simp) (Sub.cons rfl (Sub.cons rfl (Sub.nil _)))
           · repeat (first | exact Sub.nil _ | refine Sub.cons rfl ?_)
           · simp only [bv, List.map_append, List.length_append]; exact hO)
      ·
        refine W.skip ?_
        refine inBlk_normal ?_
        refine thenP_normal ?_
        refine W.reg ?_
        first | refine LS.vv rfl rfl (by decide) (Val.addN (j := 1) rfl rfl (by omega)) ?_ | refine LS.vv rfl rfl (by decide) (Val.add64 rfl rfl (by omega)) ?_
        refine LS.vv rfl rfl (by decide) (Val.move rfl) ?_
        refine LS.nil ?_
        refine thenP_normal ?_
        rw [drop_gb (show k < d.length by omega), stuffL] at hst
        have hnx : nxt q (gb d k) = if gb d k = true then q + 1 else 0 := rfl
        first
        | (exfalso; omega)
        | (have hgt : gb d k = true := by simpa using ‹(!gb d k) = false›
           rw [if_pos (show nxt q (gb d k) = 5 by rw [hnx, if_pos hgt]; omega)] at hst
           refine ⟨(k + 1, ou ++ [gb d k] ++ [false], 0, pa, ca), ?_, ?_, ⟨⟨by simp only; omega, by simp; omega, by simp, by simp only; rw [hst]; simp, ?_⟩, hB⟩, by simp only; omega⟩
           · exact Sub.cons' rfl (by simp) (Sub.cons rfl (Sub.cons rfl (Sub.nil _)))
           · repeat (first | exact Sub.nil _ | refine Sub.cons rfl ?_)
           · simp only [bv, List.map_append, List.length_append]; exact hO)
        | (have hgt : gb d k = true := by simpa using ‹(!gb d k) = false›
           rw [if_neg (show ¬ nxt q (gb d k) = 5 by rw [hnx, if_pos hgt]; omega)] at hst
           refine ⟨(k + 1, ou ++ [gb d k], q + 1, pa, ca), ?_, ?_, ⟨⟨by simp only; omega, by simp; omega, by simp only; omega, by simp only; rw [hst, hnx, if_pos hgt]; simp, ?_⟩, hB⟩, by simp only; omega⟩
           · exact Sub.cons' rfl (by simp) (Sub.cons rfl (Sub.cons rfl (Sub.nil _)))
           · repeat (first | exact Sub.nil _ | refine Sub.cons rfl ?_)
           · simp only [bv, List.map_append, List.length_append]; exact hO)
        | (have hgf : gb d k = false := by simpa using ‹(!gb d k) = true›
           have hn0 : nxt q (gb d k) = 0 := by rw [hnx, hgf]; rfl
           rw [if_neg (show ¬ nxt q (gb d k) = 5 by omega), hn0] at hst
           refine ⟨(k + 1, ou ++ [gb d k], 0, pa, ca), ?_, ?_, ⟨⟨by simp only; omega, by simp; omega, by simp, by simp only; rw [hst]; simp, ?_⟩, hB⟩, by simp only; omega⟩
           · exact Sub.cons' rfl (by simp) (Sub.cons rfl (Sub.cons rfl (Sub.nil _)))
           · repeat (first | exact Sub.nil _ | refine Sub.cons rfl ?_)
           · simp only [bv, List.map_append, List.length_append]; exact hO)
    ·
      refine W.skip ?_
      refine thenP_normal ?_
      refine W.seqR ?_
      refine LS.vv rfl rfl (by decide) (Val.move rfl) ?_
      refine LS.vv rfl rfl (by decide) (Val.eql rfl rfl) ?_
      refine LS.nil ?_
      first | refine W.condD rfl (fun hc4 => ?_) (fun hc4 => ?_) | refine W.cond rfl (fun hc4 => ?_) (fun hc4 => ?_)
      ·
        refine W.seqR ?_
        refine LS.vv rfl rfl (by decide) (Val.move rfl) ?_
        refine LS.m rfl (Step.lit (B := w0.heap.size) rfl rfl (by decide) Try.underlying22 elem4 rfl rfl (by omega) (by simp [Value.oneCell']) hB.size ?_)
        rintro w6 hO6 hg6 hbl6 hsz6
        replace hB := hB.trans (hbl6.mono hB.size)
        replace hO := hO.below hbl6
        refine LS.m rfl (Step.append (B := w0.heap.size) rfl rfl (by decide) Try.underlying22 elem4 rfl rfl rfl rfl (hO) (hO6.rd) (rfl) ((by simp [Value.oneCell'])) (by omega) (by omega) hB.size ?_)
        rintro p7 c7 w7 hO7 hg7 hbl7
        replace hB := hB.trans hbl7
        have hO := hO7
        generalize p7 = pa at *
        generalize c7 = ca at *
        refine LS.vv rfl rfl (by decide) (Val.assign rfl) ?_
        refine LS.nil ?_
        refine W.reg ?_
        refine LS.vv rfl rfl (by decide) (Val.cast (v := .int .i64 ((0 : Nat) : Int)) (Val.assign rfl) rfl) ?_
        refine LS.nil ?_
        refine inBlk_normal ?_
        refine thenP_normal ?_
        refine W.reg ?_
        first | refine LS.vv rfl rfl (by decide) (Val.addN (j := 1) rfl rfl (by omega)) ?_ | refine LS.vv rfl rfl (by decide) (Val.add64 rfl rfl (by omega)) ?_
        refine LS.vv rfl rfl (by decide) (Val.move rfl) ?_
        refine LS.nil ?_
        refine thenP_normal ?_
        rw [drop_gb (show k < d.length by omega), stuffL] at hst
        have hnx : nxt q (gb d k) = if gb d k = true then q + 1 else 0 := rfl
        first
        | (exfalso; omega)
        | (have hgt : gb d k = true := by simpa using ‹(!gb d k) = false›
           rw [if_pos (show nxt q (gb d k) = 5 by rw [hnx, if_pos hgt]; omega)] at hst
           refine ⟨(k + 1, ou ++ [gb d k] ++ [false], 0, pa, ca), ?_, ?_, ⟨⟨by simp only; omega, by simp; omega, by simp, by simp only; rw [hst]; simp, ?_⟩, hB⟩, by simp only; omega⟩
           · exact Sub.cons' rfl (by simp) (Sub.cons rfl (Sub.cons rfl (Sub.nil _)))
           · repeat (first | exact Sub.nil _ | refine Sub.cons rfl ?_)
           · simp only [bv, List.map_append, List.length_append]; exact hO)
        | (have hgt : gb d k = true := by simpa using ‹(!gb d k) = false›
           rw [if_neg (show ¬ nxt q (gb d k) = 5 by rw [hnx, if_pos hgt]; omega)] at hst
           refine ⟨(k + 1, ou ++ [gb d k], q + 1, pa, ca), ?_, ?_, ⟨⟨by simp only; omega, by simp; omega, by simp only; omega, by simp only; rw [hst, hnx, if_pos hgt]; simp, ?_⟩, hB⟩, by simp only; omega⟩
           · exact Sub.cons' rfl (by simp) (Sub.cons rfl (Sub.cons rfl (Sub.nil _)))
           · repeat (first | exact Sub.nil _ | refine Sub.cons rfl ?_)
           · simp only [bv, List.map_append, List.length_append]; exact hO)
        | (have hgf : gb d k = false := by simpa using ‹(!gb d k) = true›
           have hn0 : nxt q (gb d k) = 0 := by rw [hnx, hgf]; rfl
           rw [if_neg (show ¬ nxt q (gb d k) = 5 by omega), hn0] at hst
           refine ⟨(k + 1, ou ++ [gb d k], 0, pa, ca), ?_, ?_, ⟨⟨by simp only; omega, by simp; omega, by simp, by simp only; rw [hst]; simp, ?_⟩, hB⟩, by simp only; omega⟩
           · exact Sub.cons' rfl (by simp) (Sub.cons rfl (Sub.cons rfl (Sub.nil _)))
           · repeat (first | exact Sub.nil _ | refine Sub.cons rfl ?_)
           · simp only [bv, List.map_append, List.length_append]; exact hO)
      ·
        refine W.skip ?_
        refine inBlk_normal ?_
        refine thenP_normal ?_
        refine W.reg ?_
        first | refine LS.vv rfl rfl (by decide) (Val.addN (j := 1) rfl rfl (by omega)) ?_ | refine LS.vv rfl rfl (by decide) (Val.add64 rfl rfl (by omega)) ?_
        refine LS.vv rfl rfl (by decide) (Val.move rfl) ?_
        refine LS.nil ?_
        refine thenP_normal ?_
        rw [drop_gb (show k < d.length by omega), stuffL] at hst
        have hnx : nxt q (gb d k) = if gb d k = true then q + 1 else 0 := rfl
        first
        | (exfalso; omega)
        | (have hgt : gb d k = true := by simpa using ‹(!gb d k) = false›
           rw [if_pos (show nxt q (gb d k) = 5 by rw [hnx, if_pos hgt]; omega)] at hst
           refine ⟨(k + 1, ou ++ [gb d k] ++ [false], 0, pa, ca), ?_, ?_, ⟨⟨by simp only; omega, by simp; omega, by simp, by simp only; rw [hst]; simp, ?_⟩, hB⟩, by simp only; omega⟩
           · exact Sub.cons' rfl (by simp) (Sub.cons rfl (Sub.cons rfl (Sub.nil _)))
           · repeat (first | exact Sub.nil _ | refine Sub.cons rfl ?_)
           · simp only [bv, List.map_append, List.length_append]; exact hO)
        | (have hgt : gb d k = true := by simpa using ‹(!gb d k) = false›
           rw [if_neg (show ¬ nxt q (gb d k) = 5 by rw [hnx, if_pos hgt]; omega)] at hst
           refine ⟨(k + 1, ou ++ [gb d k], q + 1, pa, ca), ?_, ?_, ⟨⟨by simp only; omega, by simp; omega, by simp only; omega, by simp only; rw [hst, hnx, if_pos hgt]; simp, ?_⟩, hB⟩, by simp only; omega⟩
           · exact Sub.cons' rfl (by simp) (Sub.cons rfl (Sub.cons rfl (Sub.nil _)))
           · repeat (first | exact Sub.nil _ | refine Sub.cons rfl ?_)
           · simp only [bv, List.map_append, List.length_append]; exact hO)
        | (have hgf : gb d k = false := by simpa using ‹(!gb d k) = true›
           have hn0 : nxt q (gb d k) = 0 := by rw [hnx, hgf]; rfl
           rw [if_neg (show ¬ nxt q (gb d k) = 5 by omega), hn0] at hst
           refine ⟨(k + 1, ou ++ [gb d k], 0, pa, ca), ?_, ?_, ⟨⟨by simp only; omega, by simp; omega, by simp, by simp only; rw [hst]; simp, ?_⟩, hB⟩, by simp only; omega⟩
           · exact Sub.cons' rfl (by simp) (Sub.cons rfl (Sub.cons rfl (Sub.nil _)))
           · repeat (first | exact Sub.nil _ | refine Sub.cons rfl ?_)
           · simp only [bv, List.map_append, List.length_append]; exact hO)
  ·
    refine W.exit ?_
    refine thenP_exit ?_
    refine thenP_exit ?_
    refine inBlk_exit ?_
    refine thenP_normal ?_
    refine W.seqR ?_
    refine LS.vv rfl rfl (by decide) (Val.move rfl) ?_
    refine LS.vv rfl rfl (by decide) (Val.assign rfl) ?_
    refine LS.nil ?_
    refine W.ret ?_
    refine ret1 (by first | exact .inl rfl | exact .inr rfl) rfl ?_
    have hkk : k = d.length := by omega
    rw [hkk, List.drop_length, stuffL, List.append_nil] at hst
    rw [hst]
    exact ⟨_, _, rfl, hO, by omega, hB⟩

end Go.Proofs.Ytpogedmkmplckaa
