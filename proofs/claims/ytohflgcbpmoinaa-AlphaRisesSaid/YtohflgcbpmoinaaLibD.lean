/-
  kraft.Digits.
-/
import Derived.Test.YtohflgcbpmoinaaVfacts2
import Derived.Test.YtohflgcbpmoinaaVmem4
import Derived.Test.YtohflgcbpmoinaaDigsPlain
namespace Go.Proofs.Ytohflgcbpmoinaa
open Go Go.RowKit V
set_option linter.unusedVariables false
set_option linter.unusedSimpArgs false

theorem digits_any (x n : Nat) (w0 : World) (hn : n ≤ 62) (hx : x ≤ 9223372036854775807) :
    CallsV Try.prog 26 #[.int .i64 (x : Int), .int .i64 (n : Int)] w0 (fun v w => ∃ (p2 : Option Addr) (c2 : Nat), v = .slice p2 n c2 ∧ Own w w0.heap.size 4 p2 n c2 (bv (digs x n n)) ∧ Below w0.heap.size w0 w) := by
  refine enter1 Try.func26 rfl Try.ntmps26 (by simp) rfl ?_
  have hB := Below.refl w0.heap.size w0
  simp only [argLoc, Nat.zero_add]
  refine W.seqR ?_
  refine LS.vv rfl rfl (by decide) (Val.assign rfl) ?_
  refine LS.nil ?_
  refine W.seqR ?_
  refine LS.vv rfl rfl (by decide) (Val.assign rfl) ?_
  refine LS.nil ?_
  refine W.seq ?_
  refine W.seqR ?_
  refine LS.vv rfl rfl (by decide) (Val.move rfl) ?_
  refine LS.vv rfl rfl (by decide) (Val.sub64 rfl rfl (by omega)) ?_
  refine LS.vv rfl rfl (by decide) (Val.assign rfl) ?_
  refine LS.nil ?_
  refine W.block ?_
  refine W.loop (α := Nat × Option Addr × Nat) (fun g => [(5, .slice g.2.1 g.1 g.2.2), (6, .int .i64 ((n : Int) - 1 - (g.1 : Int)))]) [(0, _)] (fun g w => (g.1 ≤ n ∧ Own w w0.heap.size 4 g.2.1 g.1 g.2.2 (bv (digs x n g.1))) ∧ Below w0.heap.size w0 w) (fun g => n - g.1) ((0, none, 0)) (Sub.cons rfl (Sub.cons (congrArg (fun u => some (Value.int .i64 u)) (by simp)) (Sub.nil _))) (Sub.cons rfl (Sub.nil _)) ?_ ?_
  · exact ⟨⟨Nat.zero_le _, Own.nil _ _ _⟩, hB⟩
  rintro ⟨k, p1, c1⟩ w1 ⟨⟨hk, hO⟩, hB⟩
  simp only [List.cons_append, List.nil_append]
  simp only at hk hO
  refine W.seq ?_
  refine W.seqR ?_
  refine LS.vv rfl rfl (by decide) (Val.move rfl) ?_
  refine LS.vv rfl rfl (by decide) (Val.geq rfl rfl) ?_
  refine LS.nil ?_
  first | refine W.condD rfl (fun hc1 => ?_) (fun hc1 => ?_) | refine W.cond rfl (fun hc1 => ?_) (fun hc1 => ?_)
  ·
    have hkl : k < n := by omega
    have hidx : (n : Int) - 1 - (k : Int) = ((n - 1 - k : Nat) : Int) := by omega
    rw [hidx]
    refine W.skip ?_
    refine thenP_normal ?_
    refine W.seq ?_
    refine W.block ?_
    refine W.reg ?_
    refine LS.vv rfl rfl (by decide) (Val.move rfl) ?_
    refine LS.vv rfl rfl (by decide) (Val.move rfl) ?_
    refine LS.vv rfl rfl (by decide) (Val.move rfl) ?_
    refine LS.vv rfl rfl (by decide) (Val.shr rfl rfl (by simp only [IntKind.bits]; omega)) ?_
    have hsr : x >>> (n - 1 - k) ≤ x := Nat.shiftRight_le _ _
    have hid0 : (0 : Int) ≤ 0 := Int.le_refl _
    refine LS.vv rfl rfl (by decide) (Val.and64 (j := 1) rfl rfl (by omega) (by omega)) ?_
    refine LS.vv rfl rfl (by decide) (Val.cast (v := .bool (x.testBit (n - 1 - k))) (Val.eql rfl rfl) (by exact congrArg Value.bool (bit_eq x (n - 1 - k)))) ?_
    refine LS.m rfl (Step.lit (B := w0.heap.size) rfl rfl (by decide) Try.underlying35 elem4 rfl rfl (by omega) (by simp [Value.oneCell']) hB.size ?_)
    rintro w2 hO2 hg2 hbl2 hsz2
    replace hB := hB.trans (hbl2.mono hB.size)
    replace hO := hO.below hbl2
    refine LS.m rfl (Step.append (B := w0.heap.size) rfl rfl (by decide) Try.underlying35 elem4 rfl rfl rfl rfl (hO) (hO2.rd) (rfl) ((by simp [Value.oneCell'])) (by omega) (by omega) hB.size ?_)
    rintro p3 c3 w3 hO3 hg3 hbl3
    replace hB := hB.trans hbl3
    refine LS.vv rfl rfl (by decide) (Val.assign rfl) ?_
    refine LS.nil ?_
    refine inBlk_normal ?_
    refine thenP_normal ?_
    refine W.reg ?_
    refine LS.vv rfl rfl (by decide) (Val.move rfl) ?_
    refine LS.vv rfl rfl (by decide) (Val.cast (v := .int .i64 ((n : Int) - 1 - ((k + 1 : Nat) : Int))) (Val.sub64 rfl rfl (by omega)) (by congr 1; omega)) ?_
    refine LS.vv rfl rfl (by decide) (Val.assign rfl) ?_
    refine LS.nil ?_
    refine thenP_normal ?_
    refine ⟨(k + 1, p3, c3), ?_, ?_, ⟨⟨by simp only; omega, ?_⟩, hB⟩, by simp only; omega⟩
    · exact Sub.cons rfl (Sub.cons rfl (Sub.nil _))
    · repeat (first | exact Sub.nil _ | refine Sub.cons rfl ?_)
    · simp only [digs_succ, bv, List.map_append]; exact hO3
  ·
    refine W.exit ?_
    refine thenP_exit ?_
    refine thenP_exit ?_
    refine inBlk_exit ?_
    refine thenP_normal ?_
    refine W.seqR ?_
    refine LS.vv rfl rfl (by decide) (Val.move rfl) ?_
    refine LS.vv rfl rfl (by decide) (Val.assign rfl) ?_
    refine LS.nil ?_
    refine W.ret ?_
    refine ret1 (by first | exact .inl rfl | exact .inr rfl) rfl ?_
    obtain rfl : k = n := by omega
    exact ⟨_, _, rfl, hO, hB⟩

end Go.Proofs.Ytohflgcbpmoinaa
