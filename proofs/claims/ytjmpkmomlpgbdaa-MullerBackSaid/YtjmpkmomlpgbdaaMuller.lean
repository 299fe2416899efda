/-
  The products of package muller.
-/
import Derived.Test.YtjmpkmomlpgbdaaSortI
import Derived.Test.YtjmpkmomlpgbdaaMullerPlain
import Derived.Test.YtjmpkmomlpgbdaaVu64
namespace Go.Proofs.Ytjmpkmomlpgbdaa
open Go Go.RowKit V
set_option linter.unusedVariables false
set_option linter.unusedSimpArgs false

def s1 (x : Nat) : Nat := (x >>> 1 &&& 6148914691236517205) + (x &&& 6148914691236517205)
def s2 (x : Nat) : Nat := (x >>> 2 &&& 3689348814741910323) + (x &&& 3689348814741910323)
def s3 (x : Nat) : Nat := (x >>> 4) + x &&& 1085102592571150095
def s4 (x : Nat) : Nat := x + x >>> 8
def s5 (x : Nat) : Nat := x + x >>> 16
def s6 (x : Nat) : Nat := x + x >>> 32
theorem ones_ok : ∀ x, x < 16 → s1 x < 16 ∧ s2 (s1 x) < 16 ∧ s3 (s2 (s1 x)) < 16 ∧ s4 (s3 (s2 (s1 x))) < 16 ∧ s5 (s4 (s3 (s2 (s1 x)))) < 16 ∧ s6 (s5 (s4 (s3 (s2 (s1 x))))) < 16 ∧ (s6 (s5 (s4 (s3 (s2 (s1 x))))) &&& 127) = deg x := by decide +kernel
theorem deg4 : ∀ x, x < 16 → deg x ≤ 4 := by decide +kernel

theorem ones64_any (x : Nat) (w0 : World) (hx : x < 16) :
    CallsV Try.prog 54 #[.int .u64 (x : Int)] w0 (fun v w => v = .int .i64 (deg x : Int) ∧ Below w0.heap.size w0 w) := by
  refine enter1 Try.func54 rfl Try.ntmps54 (by simp) rfl ?_
  have hB := Below.refl w0.heap.size w0
  simp only [argLoc]
  obtain ⟨h1, h2, h3, h4, h5, h6, h7⟩ := ones_ok x hx
  have a1 : x >>> 1 &&& 6148914691236517205 ≤ x >>> 1 := Nat.and_le_left
  have a2 : x &&& 6148914691236517205 ≤ x := Nat.and_le_left
  have a3 : s1 x >>> 2 &&& 3689348814741910323 ≤ s1 x >>> 2 := Nat.and_le_left
  have a4 : s1 x &&& 3689348814741910323 ≤ s1 x := Nat.and_le_left
  refine W.seqR ?_
  refine LS.vv rfl rfl (by decide) (Val.cast (v := .int .i64 ((0 : Nat) : Int)) (Val.assign rfl) rfl) ?_
  refine LS.nil ?_
  refine W.seqR ?_
  refine LS.vv rfl rfl (by decide) (Val.move rfl) ?_
  refine LS.vv rfl rfl (by decide) (Val.shr (j := 1) rfl rfl (by simp only [IntKind.bits]; omega)) ?_
  refine LS.vv rfl rfl (by decide) (Val.andU64 (j := 6148914691236517205) rfl rfl (by omega) (by omega)) ?_
  refine LS.vv rfl rfl (by decide) (Val.move rfl) ?_
  refine LS.vv rfl rfl (by decide) (Val.andU64 (j := 6148914691236517205) rfl rfl (by omega) (by omega)) ?_
  refine LS.vv rfl rfl (by decide) (Val.cast (v := .int .u64 (s1 x : Int)) (Val.addNU64 rfl rfl (by omega)) (by rfl)) ?_
  refine LS.vv rfl rfl (by decide) (Val.assign rfl) ?_
  refine LS.nil ?_
  refine W.seqR ?_
  refine LS.vv rfl rfl (by decide) (Val.move rfl) ?_
  refine LS.vv rfl rfl (by decide) (Val.shr (j := 2) rfl rfl (by simp only [IntKind.bits]; omega)) ?_
  refine LS.vv rfl rfl (by decide) (Val.andU64 (j := 3689348814741910323) rfl rfl (by omega) (by omega)) ?_
  refine LS.vv rfl rfl (by decide) (Val.move rfl) ?_
  refine LS.vv rfl rfl (by decide) (Val.andU64 (j := 3689348814741910323) rfl rfl (by omega) (by omega)) ?_
  refine LS.vv rfl rfl (by decide) (Val.cast (v := .int .u64 (s2 (s1 x) : Int)) (Val.addNU64 rfl rfl (by omega)) (by rfl)) ?_
  refine LS.vv rfl rfl (by decide) (Val.assign rfl) ?_
  refine LS.nil ?_
  refine W.seqR ?_
  refine LS.vv rfl rfl (by decide) (Val.move rfl) ?_
  refine LS.vv rfl rfl (by decide) (Val.shr (j := 4) rfl rfl (by simp only [IntKind.bits]; omega)) ?_
  refine LS.vv rfl rfl (by decide) (Val.move rfl) ?_
  refine LS.vv rfl rfl (by decide) (Val.addNU64 rfl rfl (by omega)) ?_
  refine LS.vv rfl rfl (by decide) (Val.cast (v := .int .u64 (s3 (s2 (s1 x)) : Int)) (Val.andU64 (j := 1085102592571150095) rfl rfl (by omega) (by omega)) (by rfl)) ?_
  refine LS.vv rfl rfl (by decide) (Val.assign rfl) ?_
  refine LS.nil ?_
  refine W.seqR ?_
  refine LS.vv rfl rfl (by decide) (Val.move rfl) ?_
  refine LS.vv rfl rfl (by decide) (Val.move rfl) ?_
  refine LS.vv rfl rfl (by decide) (Val.shr (j := 8) rfl rfl (by simp only [IntKind.bits]; omega)) ?_
  refine LS.vv rfl rfl (by decide) (Val.cast (v := .int .u64 (s4 (s3 (s2 (s1 x))) : Int)) (Val.addNU64 rfl rfl (by omega)) (by rfl)) ?_
  refine LS.vv rfl rfl (by decide) (Val.assign rfl) ?_
  refine LS.nil ?_
  refine W.seqR ?_
  refine LS.vv rfl rfl (by decide) (Val.move rfl) ?_
  refine LS.vv rfl rfl (by decide) (Val.move rfl) ?_
  refine LS.vv rfl rfl (by decide) (Val.shr (j := 16) rfl rfl (by simp only [IntKind.bits]; omega)) ?_
  refine LS.vv rfl rfl (by decide) (Val.cast (v := .int .u64 (s5 (s4 (s3 (s2 (s1 x)))) : Int)) (Val.addNU64 rfl rfl (by omega)) (by rfl)) ?_
  refine LS.vv rfl rfl (by decide) (Val.assign rfl) ?_
  refine LS.nil ?_
  refine W.seqR ?_
  refine LS.vv rfl rfl (by decide) (Val.move rfl) ?_
  refine LS.vv rfl rfl (by decide) (Val.move rfl) ?_
  refine LS.vv rfl rfl (by decide) (Val.shr (j := 32) rfl rfl (by simp only [IntKind.bits]; omega)) ?_
  refine LS.vv rfl rfl (by decide) (Val.cast (v := .int .u64 (s6 (s5 (s4 (s3 (s2 (s1 x))))) : Int)) (Val.addNU64 rfl rfl (by omega)) (by rfl)) ?_
  refine LS.vv rfl rfl (by decide) (Val.assign rfl) ?_
  refine LS.nil ?_
  refine W.seqR ?_
  refine LS.vv rfl rfl (by decide) (Val.move rfl) ?_
  refine LS.vv rfl rfl (by decide) (Val.conv rfl Try.underlying73 Try.underlying3 (IntWalk.i64_in _ (by omega))) ?_
  refine LS.vv rfl rfl (by decide) (Val.and64 (j := 127) rfl rfl (by omega) (by omega)) ?_
  refine LS.vv rfl rfl (by decide) (Val.assign rfl) ?_
  refine LS.nil ?_
  refine W.ret ?_
  refine ret1 (by first | exact .inl rfl | exact .inr rfl) rfl ?_
  rw [h7]
  exact ⟨rfl, hB⟩

theorem ones_any (x : Nat) (w0 : World) (hx : x < 16) :
    CallsV Try.prog 44 #[.int .u64 (x : Int)] w0 (fun v w => v = .int .i64 (deg x : Int) ∧ Below w0.heap.size w0 w) := by
  refine enter1 Try.func44 rfl Try.ntmps44 (by simp) rfl ?_
  have hB := Below.refl w0.heap.size w0
  simp only [argLoc]
  refine W.seqR ?_
  refine LS.vv rfl rfl (by decide) (Val.cast (v := .int .i64 ((0 : Nat) : Int)) (Val.assign rfl) rfl) ?_
  refine LS.nil ?_
  refine W.seq ?_
  refine W.condF rfl ?_
  refine W.skip ?_
  refine thenP_normal ?_
  refine W.seqR ?_
  refine LS.vv rfl rfl (by decide) (Val.move rfl) ?_
  refine LS.m rfl (Step.call body54 rfl rfl (by decide) rfl (CallsV.mono (ones64_any x _ hx) ?_))
  rintro _ w1 ⟨rfl, hb1⟩
  replace hB := hB.trans (hb1.mono hB.size)
  refine LS.vv rfl rfl (by decide) (Val.assign rfl) ?_
  refine LS.nil ?_
  refine W.ret ?_
  refine ret1 (by first | exact .inl rfl | exact .inr rfl) rfl ?_
  exact ⟨rfl, hB⟩

theorem degree_any (x : Nat) (w0 : World) (hx : x < 16) :
    CallsV Try.prog 29 #[.int .i64 (x : Int)] w0 (fun v w => v = .int .i64 (deg x : Int) ∧ Below w0.heap.size w0 w) := by
  refine enter1 Try.func29 rfl Try.ntmps29 (by simp) rfl ?_
  have hB := Below.refl w0.heap.size w0
  simp only [argLoc]
  refine W.seqR ?_
  refine LS.vv rfl rfl (by decide) (Val.cast (v := .int .i64 ((0 : Nat) : Int)) (Val.assign rfl) rfl) ?_
  refine LS.nil ?_
  refine W.seqR ?_
  refine LS.vv rfl rfl (by decide) (Val.move rfl) ?_
  refine LS.vv rfl rfl (by decide) (Val.conv rfl Try.underlying3 Try.underlying26 (IntWalk.u64_in _ (by omega))) ?_
  refine LS.m rfl (Step.call body44 rfl rfl (by decide) rfl (CallsV.mono (ones_any x _ hx) ?_))
  rintro _ w1 ⟨rfl, hb1⟩
  replace hB := hB.trans (hb1.mono hB.size)
  refine LS.vv rfl rfl (by decide) (Val.assign rfl) ?_
  refine LS.nil ?_
  refine W.ret ?_
  refine ret1 (by first | exact .inl rfl | exact .inr rfl) rfl ?_
  exact ⟨rfl, hB⟩

theorem wrong_any (r m : Int) (w0 : World) :
    CallsV Try.prog 25 #[.int .i64 r, .int .i64 m] w0 (fun v w => ∃ e : Nat, v = .int .i64 (e : Int) ∧ (e = 0 ↔ 0 ≤ r ∧ r ≤ m ∧ m ≤ 4) ∧ Below w0.heap.size w0 w) := by
  refine enter1 Try.func25 rfl Try.ntmps25 (by simp) rfl ?_
  have hB := Below.refl w0.heap.size w0
  simp only [argLoc, Nat.zero_add]
  refine W.seqR ?_
  refine LS.vv rfl rfl (by decide) (Val.cast (v := .int .i64 ((0 : Nat) : Int)) (Val.assign rfl) rfl) ?_
  refine LS.nil ?_
  refine W.seq ?_
  refine W.seqR ?_
  refine LS.vv rfl rfl (by decide) (Val.move rfl) ?_
  refine LS.vv rfl rfl (by decide) (Val.lss rfl rfl) ?_
  refine LS.vv rfl rfl (by decide) (Val.move rfl) ?_
  refine LS.split 2 rfl (fun hg1 => ?_) (fun hg1 => ?_)
  ·
    first | (have hg1p := of_decide_eq_true hg1) | skip
    refine LS.s rfl rfl rfl hg1 (by decide) ?_
    refine LS.s rfl rfl rfl hg1 (by decide) ?_
    refine LS.vv rfl rfl (by decide) (Val.pickT rfl hg1 rfl) ?_
    refine LS.vv rfl rfl (by decide) (Val.move rfl) ?_
    refine LS.s rfl rfl rfl rfl (by decide) ?_
    refine LS.s rfl rfl rfl rfl (by decide) ?_
    refine LS.vv rfl rfl (by decide) (Val.pickT rfl rfl rfl) ?_
    refine LS.vv rfl rfl (by decide) (Val.move rfl) ?_
    refine LS.s rfl rfl rfl rfl (by decide) ?_
    refine LS.s rfl rfl rfl rfl (by decide) ?_
    refine LS.s rfl rfl rfl rfl (by decide) ?_
    refine LS.vv rfl rfl (by decide) (Val.pickT rfl rfl rfl) ?_
    refine LS.nil ?_
    refine W.condT rfl ?_
    refine W.seqR ?_
    refine LS.vv rfl rfl (by decide) (Val.cast (v := .int .i64 ((4 : Nat) : Int)) (Val.assign rfl) rfl) ?_
    refine LS.nil ?_
    refine W.ret ?_
    refine thenP_ret ?_
    refine ret1 (by first | exact .inl rfl | exact .inr rfl) rfl ?_
    first | exact ⟨4, rfl, by omega, hB⟩ | exact ⟨0, rfl, by omega, hB⟩
  ·
    first | (have hg1p := of_decide_eq_false hg1) | skip
    refine LS.vg rfl rfl rfl hg1 (by decide) (Val.move rfl) ?_
    refine LS.vg rfl rfl rfl hg1 (by decide) (Val.gtr rfl rfl) ?_
    refine LS.vv rfl rfl (by decide) (Val.pickF rfl hg1 rfl) ?_
    refine LS.vv rfl rfl (by decide) (Val.move rfl) ?_
    refine LS.split 6 rfl (fun hg2 => ?_) (fun hg2 => ?_)
    ·
      first | (have hg2p := of_decide_eq_true hg2) | skip
      refine LS.s rfl rfl rfl hg2 (by decide) ?_
      refine LS.s rfl rfl rfl hg2 (by decide) ?_
      refine LS.vv rfl rfl (by decide) (Val.pickT rfl hg2 rfl) ?_
      refine LS.vv rfl rfl (by decide) (Val.move rfl) ?_
      refine LS.s rfl rfl rfl rfl (by decide) ?_
      refine LS.s rfl rfl rfl rfl (by decide) ?_
      refine LS.s rfl rfl rfl rfl (by decide) ?_
      refine LS.vv rfl rfl (by decide) (Val.pickT rfl rfl rfl) ?_
      refine LS.nil ?_
      refine W.condT rfl ?_
      refine W.seqR ?_
      refine LS.vv rfl rfl (by decide) (Val.cast (v := .int .i64 ((4 : Nat) : Int)) (Val.assign rfl) rfl) ?_
      refine LS.nil ?_
      refine W.ret ?_
      refine thenP_ret ?_
      refine ret1 (by first | exact .inl rfl | exact .inr rfl) rfl ?_
      first | exact ⟨4, rfl, by omega, hB⟩ | exact ⟨0, rfl, by omega, hB⟩
    ·
      first | (have hg2p := of_decide_eq_false hg2) | skip
      refine LS.vg rfl rfl rfl hg2 (by decide) (Val.move rfl) ?_
      refine LS.vg rfl rfl rfl hg2 (by decide) (Val.lss rfl rfl) ?_
      refine LS.vv rfl rfl (by decide) (Val.pickF rfl hg2 rfl) ?_
      refine LS.vv rfl rfl (by decide) (Val.move rfl) ?_
      refine LS.split 10 rfl (fun hg3 => ?_) (fun hg3 => ?_)
      ·
        first | (have hg3p := of_decide_eq_true hg3) | skip
        refine LS.s rfl rfl rfl hg3 (by decide) ?_
        refine LS.s rfl rfl rfl hg3 (by decide) ?_
        refine LS.s rfl rfl rfl hg3 (by decide) ?_
        refine LS.vv rfl rfl (by decide) (Val.pickT rfl hg3 rfl) ?_
        refine LS.nil ?_
        refine W.condT rfl ?_
        refine W.seqR ?_
        refine LS.vv rfl rfl (by decide) (Val.cast (v := .int .i64 ((4 : Nat) : Int)) (Val.assign rfl) rfl) ?_
        refine LS.nil ?_
        refine W.ret ?_
        refine thenP_ret ?_
        refine ret1 (by first | exact .inl rfl | exact .inr rfl) rfl ?_
        first | exact ⟨4, rfl, by omega, hB⟩ | exact ⟨0, rfl, by omega, hB⟩
      ·
        first | (have hg3p := of_decide_eq_false hg3) | skip
        refine LS.vg rfl rfl rfl hg3 (by decide) (Val.move rfl) ?_
        refine LS.vg rfl rfl rfl hg3 (by decide) (Val.move rfl) ?_
        refine LS.vg rfl rfl rfl hg3 (by decide) (Val.gtr rfl rfl) ?_
        refine LS.vv rfl rfl (by decide) (Val.pickF rfl hg3 rfl) ?_
        refine LS.nil ?_
        first | refine W.condD rfl (fun hc4 => ?_) (fun hc4 => ?_) | refine W.cond rfl (fun hc4 => ?_) (fun hc4 => ?_)
        ·
          refine W.seqR ?_
          refine LS.vv rfl rfl (by decide) (Val.cast (v := .int .i64 ((4 : Nat) : Int)) (Val.assign rfl) rfl) ?_
          refine LS.nil ?_
          refine W.ret ?_
          refine thenP_ret ?_
          refine ret1 (by first | exact .inl rfl | exact .inr rfl) rfl ?_
          first | exact ⟨4, rfl, by omega, hB⟩ | exact ⟨0, rfl, by omega, hB⟩
        ·
          refine W.skip ?_
          refine thenP_normal ?_
          refine W.seqR ?_
          refine LS.vv rfl rfl (by decide) (Val.cast (v := .int .i64 ((0 : Nat) : Int)) (Val.assign rfl) rfl) ?_
          refine LS.nil ?_
          refine W.ret ?_
          refine ret1 (by first | exact .inl rfl | exact .inr rfl) rfl ?_
          first | exact ⟨4, rfl, by omega, hB⟩ | exact ⟨0, rfl, by omega, hB⟩

theorem less_any (a b : Nat) (w0 : World) (ha : a < 16) (hb : b < 16) :
    CallsV Try.prog 42 #[.int .i64 (a : Int), .int .i64 (b : Int)] w0 (fun v w => ∃ z : Int, v = .int .i64 z ∧ decide (z < 0) = decide (deg a < deg b) ∧ Below w0.heap.size w0 w) := by
  refine enter1 Try.func42 rfl Try.ntmps42 (by simp) rfl ?_
  have hB := Below.refl w0.heap.size w0
  simp only [argLoc, Nat.zero_add]
  refine W.seqR ?_
  refine LS.vv rfl rfl (by decide) (Val.cast (v := .int .i64 ((0 : Nat) : Int)) (Val.assign rfl) rfl) ?_
  refine LS.nil ?_
  refine W.seqR ?_
  refine LS.vv rfl rfl (by decide) (Val.move rfl) ?_
  refine LS.m rfl (Step.call body29 rfl rfl (by decide) rfl (CallsV.mono (degree_any a _ ha) ?_))
  rintro _ w1 ⟨rfl, hb1⟩
  replace hB := hB.trans (hb1.mono hB.size)
  refine LS.vv rfl rfl (by decide) (Val.move rfl) ?_
  refine LS.m rfl (Step.call body29 rfl rfl (by decide) rfl (CallsV.mono (degree_any b _ hb) ?_))
  rintro _ w2 ⟨rfl, hb2⟩
  replace hB := hB.trans (hb2.mono hB.size)
  refine LS.m rfl (Step.call body43 rfl rfl (by decide) rfl (CallsV.mono (compare_int _ _ _) ?_))
  rintro _ w3 ⟨rfl, hb3⟩
  replace hB := hB.trans (hb3.mono hB.size)
  refine LS.vv rfl rfl (by decide) (Val.assign rfl) ?_
  refine LS.nil ?_
  refine W.ret ?_
  refine ret1 (by first | exact .inl rfl | exact .inr rfl) rfl ?_
  refine ⟨_, rfl, ?_, hB⟩
  rw [decide_eq_decide, cmpI_neg]
  omega

theorem filt_succ (r k : Nat) : (List.range (k + 1)).filter (fun p => decide (deg p ≤ r)) = if deg k ≤ r then (List.range k).filter (fun p => decide (deg p ≤ r)) ++ [k] else (List.range k).filter (fun p => decide (deg p ≤ r)) := by
  rw [List.range_succ, List.filter_append]
  by_cases h : deg k ≤ r
  · rw [if_pos h]; simp [h]
  · rw [if_neg h]; simp [h]
theorem filt_len (r k : Nat) : ((List.range k).filter fun p => decide (deg p ≤ r)).length ≤ k := by
  have := List.length_filter_le (fun p => decide (deg p ≤ r)) (List.range k)
  simpa using this
theorem pow_le16 {m : Nat} (h : m ≤ 4) : 1 <<< m = 2 ^ m ∧ 2 ^ m ≤ 16 := ⟨Nat.one_shiftLeft m, Nat.pow_le_pow_right (n := 2) (by omega) h⟩

theorem products_any (r m : Nat) (w0 : World) (hm : m ≤ 4) :
    CallsV Try.prog 26 #[.int .i64 (r : Int), .int .i64 (m : Int)] w0 (fun v w => ∃ (p2 : Option Addr) (c2 : Nat), v = .slice p2 (prods r m).length c2 ∧ Own w w0.heap.size 3 p2 (prods r m).length c2 (nv (prods r m)) ∧ Below w0.heap.size w0 w) := by
  refine enter1 Try.func26 rfl Try.ntmps26 (by simp) rfl ?_
  have hB := Below.refl w0.heap.size w0
  simp only [argLoc, Nat.zero_add]
  have hM := Mem.nil w0 w0.heap.size
  obtain ⟨hp1, hp2⟩ := pow_le16 hm
  refine W.seqR ?_
  refine LS.vv rfl rfl (by decide) (Val.assign rfl) ?_
  refine LS.nil ?_
  refine W.seqR ?_
  refine LS.vv rfl rfl (by decide) (Val.assign rfl) ?_
  refine LS.nil ?_
  refine W.seq ?_
  refine W.seqR ?_
  refine LS.vv rfl rfl (by decide) (Val.move rfl) ?_
  refine LS.vv rfl rfl (by decide) (Val.cast (v := .int .i64 ((2 ^ m : Nat) : Int)) (Val.shl64 (i := 1) rfl rfl (by omega) (by omega)) (by rw [hp1])) ?_
  refine LS.vv rfl rfl (by decide) (Val.cast (v := .int .i64 ((0 : Nat) : Int)) (Val.move rfl) rfl) ?_
  refine LS.nil ?_
  refine W.block ?_
  replace hM := hM.addNil 3
  refine W.loop (α := Nat × Option Addr × Nat) (fun g => [(5, .slice g.2.1 ((List.range g.1).filter fun p => decide (deg p ≤ r)).length g.2.2), (9, .int .i64 (g.1 : Int))]) [(0, _), (8, _)] (fun g w => (g.1 ≤ 2 ^ m) ∧ Mem w w0.heap.size [⟨3, g.2.1, ((List.range g.1).filter fun p => decide (deg p ≤ r)).length, g.2.2, nv ((List.range g.1).filter fun p => decide (deg p ≤ r))⟩] ∧ Below w0.heap.size w0 w) (fun g => 2 ^ m - g.1) ((0, none, 0)) (Sub.cons rfl (Sub.cons rfl (Sub.nil _))) (Sub.cons rfl (Sub.cons rfl (Sub.nil _))) ?_ ?_
  · exact ⟨Nat.zero_le _, hM, hB⟩
  rintro ⟨k, p1, c1⟩ w1 ⟨hk, hM, hB⟩
  try simp only at hM
  simp only [List.cons_append, List.nil_append]
  simp only at hk
  have hfs := filt_succ r k
  have hfl := filt_len r k
  refine W.seqR ?_
  refine LS.vv rfl rfl (by decide) (Val.lss rfl rfl) ?_
  refine LS.nil ?_
  refine W.seq ?_
  first | refine W.condD rfl (fun hc1 => ?_) (fun hc1 => ?_) | refine W.cond rfl (fun hc1 => ?_) (fun hc1 => ?_)
  ·
    refine W.skip ?_
    refine thenP_normal ?_
    refine W.seq ?_
    refine W.block ?_
    refine W.seqR ?_
    refine LS.vv rfl rfl (by decide) (Val.move rfl) ?_
    refine LS.vv rfl rfl (by decide) (Val.assign rfl) ?_
    refine LS.nil ?_
    refine W.seqR ?_
    refine LS.vv rfl rfl (by decide) (Val.move rfl) ?_
    have hk16 : k < 16 := by omega
    refine LS.m rfl (Step.call body29 rfl rfl (by decide) rfl (CallsV.mono (degree_any k _ (by omega)) ?_))
    rintro _ w2 ⟨rfl, hb2⟩
    replace hM := hM.below hb2
    replace hB := hB.trans (hb2.mono hB.size)
    refine LS.vv rfl rfl (by decide) (Val.move rfl) ?_
    refine LS.vv rfl rfl (by decide) (Val.leq rfl rfl) ?_
    refine LS.nil ?_
    first | refine W.condD rfl (fun hc2 => ?_) (fun hc2 => ?_) | refine W.cond rfl (fun hc2 => ?_) (fun hc2 => ?_)
    ·
      refine W.reg ?_
      refine LS.vv rfl rfl (by decide) (Val.move rfl) ?_
      refine LS.vv rfl rfl (by decide) (Val.move rfl) ?_
      refine LS.m rfl (Step.lit rfl rfl (by decide) Try.underlying54 elem3 rfl rfl (by omega) (by simp [Value.oneCell']) (Nat.le_refl _) ?_)
      rintro w3 hO3 hg3 hbl3 hsz3
      replace hM := hM.add hB.size hbl3 hO3
      replace hB := hB.trans (hbl3.mono hB.size)
      generalize w2.heap.size = gg3 at *
      refine LS.m rfl (Step.append2 (B := w0.heap.size) rfl rfl (by decide) Try.underlying54 elem3 rfl rfl rfl rfl (hM.o1) (hM.o0.rd) (by first | rfl | (simp; done) | (simp; omega)) (by first | exact one_map _ (fun _ => rfl) _ | simp [Value.oneCell']) (by omega) (by omega) hB.size ?_)
      rintro p4 c4 w4 hO4 hg4 hbl4 hbk4
      replace hM := hM.s1 hg4 hO4 hbk4
      replace hM := hM.tail
      try simp only [nv_app1, nv_app, nv_set, nv_rep, nv_one, nv_cons, nv_take, nv_drop, List.nil_append] at hM
      replace hB := hB.trans hbl4
      refine LS.vv rfl rfl (by decide) (Val.assign rfl) ?_
      refine LS.nil ?_
      refine inBlk_normal ?_
      refine thenP_normal ?_
      refine W.reg ?_
      first | refine LS.vv rfl rfl (by decide) (Val.addN (j := 1) rfl rfl (by omega)) ?_ | refine LS.vv rfl rfl (by decide) (Val.add64 rfl rfl (by omega)) ?_
      refine LS.vv rfl rfl (by decide) (Val.move rfl) ?_
      refine LS.nil ?_
      refine thenP_normal ?_
      rw [if_pos (by omega)] at hfs
      refine ⟨(k + 1, p4, c4), ?_, ?_, ⟨by simp only; omega, by simp only [hfs, List.length_append, List.length_cons, List.length_nil]; exact hM, hB⟩, by simp only; omega⟩
      · exact Sub.cons' rfl (by simp only [hfs, List.length_append, List.length_cons, List.length_nil]) (Sub.cons rfl (Sub.nil _))
      · repeat (first | exact Sub.nil _ | refine Sub.cons rfl ?_)
    ·
      refine W.skip ?_
      refine inBlk_normal ?_
      refine thenP_normal ?_
      refine W.reg ?_
      first | refine LS.vv rfl rfl (by decide) (Val.addN (j := 1) rfl rfl (by omega)) ?_ | refine LS.vv rfl rfl (by decide) (Val.add64 rfl rfl (by omega)) ?_
      refine LS.vv rfl rfl (by decide) (Val.move rfl) ?_
      refine LS.nil ?_
      refine thenP_normal ?_
      rw [if_neg (by omega)] at hfs
      refine ⟨(k + 1, p1, c1), ?_, ?_, ⟨by simp only; omega, by simp only [hfs]; exact hM, hB⟩, by simp only; omega⟩
      · exact Sub.cons' rfl (by simp only [hfs]) (Sub.cons rfl (Sub.nil _))
      · repeat (first | exact Sub.nil _ | refine Sub.cons rfl ?_)
  ·
    refine W.exit ?_
    refine thenP_exit ?_
    refine thenP_exit ?_
    refine inBlk_exit ?_
    refine thenP_normal ?_
    refine W.seqR ?_
    refine LS.vv rfl rfl (by decide) (Val.move rfl) ?_
    obtain rfl : k = 2 ^ m := by omega
    refine LS.m rfl (Step.call body41 rfl rfl (by decide) rfl (CallsV.mono (sortStable_nat ((List.range (2 ^ m)).filter fun p => decide (deg p ≤ r)) (fun a b => decide (deg a < deg b)) (fun x => x < 16) 42 #[] _ _ _ _ _ _ hM hB.size rfl (by omega) body42 (fun x hx => by have := List.mem_range.1 (List.mem_filter.1 hx).1; omega) (fun x y w h1 h2 h3 => less_any x y w h1 h2)) ?_))
    rintro _ w5 ⟨rfl, hM5, hb5⟩
    replace hM := hM5
    replace hB := hB.trans hb5
    refine LS.nil ?_
    refine W.seqR ?_
    refine LS.vv rfl rfl (by decide) (Val.move rfl) ?_
    refine LS.vv rfl rfl (by decide) (Val.assign rfl) ?_
    refine LS.nil ?_
    refine W.ret ?_
    refine ret1 (by first | exact .inl rfl | exact .inr rfl) rfl ?_
    have hpl : (prods r m).length = ((List.range (2 ^ m)).filter fun p => decide (deg p ≤ r)).length := isort_len _ _
    rw [hpl]
    exact ⟨p1, c1, rfl, hM.o0, hB⟩

end Go.Proofs.Ytjmpkmomlpgbdaa
