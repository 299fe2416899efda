/-
  Comparisons: package quipuref.
-/
import Derived.Test.YtnaebllojkodbaaVfacts
import Derived.Test.YtnaebllojkodbaaVbase
namespace Go.Proofs.Ytnaebllojkodbaa
open Go Go.RowKit V
set_option linter.unusedVariables false
set_option linter.unusedSimpArgs false

theorem intsEq_any (xs ys : List Int) (p q : Option Addr) (c d : Nat) (w0 : World) (hr1 : Rd w0 p (iv xs)) (hr2 : Rd w0 q (iv ys)) (hl1 : xs.length ≤ 9223372036854775807) :
    CallsV Try.prog 21 #[.slice p xs.length c, .slice q ys.length d] w0 (fun v w => v = .bool (decide (xs = ys)) ∧ Below w0.heap.size w0 w) := by
  refine enter1 Try.func21 rfl Try.ntmps21 (by simp) rfl ?_
  have hB := Below.refl w0.heap.size w0
  simp only [argLoc, Nat.zero_add]
  refine W.seqR ?_
  refine LS.vv rfl rfl (by decide) (Val.assign rfl) ?_
  refine LS.nil ?_
  refine W.seq ?_
  refine W.seqR ?_
  refine LS.vv rfl rfl (by decide) (Val.move rfl) ?_
  refine LS.vv rfl rfl (by decide) (Val.len Try.underlying27 rfl) ?_
  refine LS.vv rfl rfl (by decide) (Val.move rfl) ?_
  refine LS.vv rfl rfl (by decide) (Val.len Try.underlying27 rfl) ?_
  refine LS.vv rfl rfl (by decide) (Val.neq rfl rfl) ?_
  refine LS.nil ?_
  first | refine W.condD rfl (fun hc1 => ?_) (fun hc1 => ?_) | refine W.cond rfl (fun hc1 => ?_) (fun hc1 => ?_)
  ·
    refine W.seqR ?_
    refine LS.vv rfl rfl (by decide) (Val.assign rfl) ?_
    refine LS.nil ?_
    refine W.ret ?_
    refine thenP_ret ?_
    refine ret1 (by first | exact .inl rfl | exact .inr rfl) rfl ?_
    refine ⟨congrArg Value.bool (decide_eq_false fun h => ?_).symm, hB⟩
    exact absurd (congrArg List.length h) (by omega)
  ·
    refine W.skip ?_
    refine thenP_normal ?_
    refine W.seq ?_
    refine W.seqR ?_
    refine LS.vv rfl rfl (by decide) (Val.cast (v := .int .i64 ((0 : Nat) : Int)) (Val.assign rfl) rfl) ?_
    refine LS.nil ?_
    refine W.block ?_
    refine W.loop (α := Nat) (fun k => [(5, .int .i64 (k : Int))]) [(0, _), (1, _)] (fun k w => (k ≤ xs.length ∧ ∀ j, j < k → gz xs j = gz ys j) ∧ Below w0.heap.size w0 w) (fun k => xs.length - k) (0) (Sub.cons rfl (Sub.nil _)) (Sub.cons rfl (Sub.cons rfl (Sub.nil _))) ?_ ?_
    · exact ⟨⟨Nat.zero_le _, by omega⟩, hB⟩
    rintro k w1 ⟨⟨hk, hall⟩, hB⟩
    simp only [List.cons_append, List.nil_append]
    have hlen : xs.length = ys.length := by omega
    refine W.seq ?_
    refine W.seqR ?_
    refine LS.vv rfl rfl (by decide) (Val.move rfl) ?_
    refine LS.vv rfl rfl (by decide) (Val.move rfl) ?_
    refine LS.vv rfl rfl (by decide) (Val.len Try.underlying27 rfl) ?_
    refine LS.vv rfl rfl (by decide) (Val.lss rfl rfl) ?_
    refine LS.nil ?_
    first | refine W.condD rfl (fun hc2 => ?_) (fun hc2 => ?_) | refine W.cond rfl (fun hc2 => ?_) (fun hc2 => ?_)
    ·
      refine W.skip ?_
      refine thenP_normal ?_
      refine W.seq ?_
      refine W.block ?_
      refine W.seqD (S := fun w => Below w0.heap.size w0 w) [(0, true), (1, true), (2, true), (3, true), (4, true), (5, true), (6, true), (7, true), (8, true)] mixed (by kernel_rfl) hB.drew ?_
      replace hB := hB.drew
      refine DX.vv rfl rfl rfl (by decide) (Val.move rfl) ?_
      refine DX.vv rfl rfl rfl (by decide) (Val.move rfl) ?_
      refine DX.vv rfl rfl rfl (by decide) (Val.index1 Try.underlying27 elem3 rfl rfl (by omega) hr1 (iv_lt (by omega))) ?_
      refine DX.vv rfl rfl rfl (by decide) (Val.load flat3 rfl (fun _ h => hr1.below h) (iv_at (by omega))) ?_
      refine DX.vv rfl rfl rfl (by decide) (Val.move rfl) ?_
      refine DX.vv rfl rfl rfl (by decide) (Val.move rfl) ?_
      refine DX.vv rfl rfl rfl (by decide) (Val.index1 Try.underlying27 elem3 rfl rfl (by omega) hr2 (iv_lt (by omega))) ?_
      refine DX.vv rfl rfl rfl (by decide) (Val.load flat3 rfl (fun _ h => hr2.below h) (iv_at (by omega))) ?_
      refine DX.vv rfl rfl rfl (by decide) (Val.neq rfl rfl) ?_
      refine DX.nil ?_
      first | refine W.condD rfl (fun hc3 => ?_) (fun hc3 => ?_) | refine W.cond rfl (fun hc3 => ?_) (fun hc3 => ?_)
      ·
        refine W.seqR ?_
        refine LS.vv rfl rfl (by decide) (Val.assign rfl) ?_
        refine LS.nil ?_
        refine W.ret ?_
        refine inBlk_ret ?_
        refine thenP_ret ?_
        refine thenP_ret ?_
        refine inBlk_ret ?_
        refine thenP_ret ?_
        refine ret1 (by first | exact .inl rfl | exact .inr rfl) rfl ?_
        refine ⟨congrArg Value.bool (decide_eq_false fun h => ?_).symm, hB⟩
        simp_all
      ·
        refine W.skip ?_
        refine inBlk_normal ?_
        refine thenP_normal ?_
        refine W.reg ?_
        refine LS.vv rfl rfl (by decide) (Val.move rfl) ?_
        first | refine LS.vv rfl rfl (by decide) (Val.addN (j := 1) rfl rfl (by omega)) ?_ | refine LS.vv rfl rfl (by decide) (Val.add64 rfl rfl (by omega)) ?_
        refine LS.vv rfl rfl (by decide) (Val.assign rfl) ?_
        refine LS.nil ?_
        refine thenP_normal ?_
        have hkk : gz xs k = gz ys k := by first | omega | simp_all
        refine ⟨k + 1, ?_, ?_, ⟨⟨by omega, ?_⟩, hB⟩, by omega⟩
        · exact Sub.cons rfl (Sub.nil _)
        · repeat (first | exact Sub.nil _ | refine Sub.cons rfl ?_)
        · intro j hj
          by_cases e : j = k
          · subst e; exact hkk
          · exact hall j (by omega)
    ·
      refine W.exit ?_
      refine thenP_exit ?_
      refine thenP_exit ?_
      refine inBlk_exit ?_
      refine thenP_normal ?_
      refine W.seqR ?_
      refine LS.vv rfl rfl (by decide) (Val.assign rfl) ?_
      refine LS.nil ?_
      refine W.ret ?_
      refine ret1 (by first | exact .inl rfl | exact .inr rfl) rfl ?_
      refine ⟨congrArg Value.bool (decide_eq_true (gz_eq_of hlen fun j hj => hall j (by omega))).symm, hB⟩

theorem intsEqN (xs ys : List Int) (p q : Option Addr) (c d n m : Nat) (w0 : World) (hr1 : Rd w0 p (iv xs)) (hr2 : Rd w0 q (iv ys)) (hx : xs.length = n) (hy : ys.length = m) (hl : n ≤ 9223372036854775807) : CallsV Try.prog 21 #[.slice p n c, .slice q m d] w0 (fun v w => v = .bool (decide (xs = ys)) ∧ Below w0.heap.size w0 w) := by
  subst hx; subst hy
  exact intsEq_any xs ys p q c d w0 hr1 hr2 hl

end Go.Proofs.Ytnaebllojkodbaa
