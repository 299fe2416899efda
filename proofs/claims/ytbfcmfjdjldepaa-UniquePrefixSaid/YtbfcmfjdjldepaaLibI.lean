/-
  Walks of the library: Clone.
-/
import Derived.Test.YtbfcmfjdjldepaaVfacts2
import Derived.Test.YtbfcmfjdjldepaaVmem4
import Derived.Test.YtbfcmfjdjldepaaDigsPlain
namespace Go.Proofs.Ytbfcmfjdjldepaa
open Go Go.RowKit V
set_option linter.unusedVariables false
set_option linter.unusedSimpArgs false

theorem clone_i64 (bs : List Int) (p : Option Addr) (c : Nat) (w0 : World) (hr : Rd w0 p (iv bs)) (hl : bs.length ≤ 1000000) :
    CallsV Try.prog 44 #[.slice p bs.length c] w0 (fun v w => ∃ (p2 : Option Addr) (c2 : Nat), v = .slice p2 bs.length c2 ∧ Own w w0.heap.size 3 p2 bs.length c2 (iv bs) ∧ Below w0.heap.size w0 w) := by
  refine enter1 Try.func44 rfl Try.ntmps44 (by simp) rfl ?_
  have hB := Below.refl w0.heap.size w0
  simp only [argLoc]
  refine W.seqR ?_
  refine LS.vv rfl rfl (by decide) (Val.assign rfl) ?_
  refine LS.nil ?_
  refine W.seq ?_
  refine W.seqR ?_
  refine LS.vv rfl rfl (by decide) (Val.move rfl) ?_
  refine LS.vv rfl rfl (by decide) (Val.eqlNil Try.underlying28 rfl rfl) ?_
  refine LS.nil ?_
  first | refine W.condD rfl (fun hc1 => ?_) (fun hc1 => ?_) | refine W.cond rfl (fun hc1 => ?_) (fun hc1 => ?_)
  ·
    refine W.seqR ?_
    refine LS.vv rfl rfl (by decide) (Val.assign rfl) ?_
    refine LS.nil ?_
    refine W.ret ?_
    refine thenP_ret ?_
    refine ret1 (by first | exact .inl rfl | exact .inr rfl) rfl ?_
    obtain rfl := Option.isNone_iff_eq_none.1 ‹_›
    have hn := hr.none_nil
    obtain rfl : bs = [] := by simpa [iv] using hn
    exact ⟨none, 0, rfl, Own.nil _ _ _, hB⟩
  ·
    refine W.skip ?_
    refine thenP_normal ?_
    refine W.seqR ?_
    refine LS.m rfl (Step.lit (B := w0.heap.size) rfl rfl (by decide) Try.underlying28 elem3 rfl rfl (by omega) (by simp [Value.oneCell']) hB.size ?_)
    rintro w1 hO1 hg1 hbl1 hsz1
    replace hB := hB.trans (hbl1.mono hB.size)
    refine LS.vv rfl rfl (by decide) (Val.move rfl) ?_
    refine LS.m rfl (Step.append (B := w0.heap.size) rfl rfl (by decide) Try.underlying28 elem3 rfl rfl rfl rfl (hO1) (hr.below hB) (by simp) (one_map _ (fun _ => rfl) _) (by omega) (by omega) hB.size ?_)
    rintro p2 c2 w2 hO2 hg2 hbl2
    replace hB := hB.trans hbl2
    refine LS.vv rfl rfl (by decide) (Val.assign rfl) ?_
    refine LS.nil ?_
    refine W.ret ?_
    refine ret1 (by first | exact .inl rfl | exact .inr rfl) rfl ?_
    have hz : (0 : Nat) + bs.length = bs.length := Nat.zero_add _
    rw [hz] at hO2 ⊢
    exact ⟨_, _, rfl, by simpa using hO2, hB⟩

end Go.Proofs.Ytbfcmfjdjldepaa
