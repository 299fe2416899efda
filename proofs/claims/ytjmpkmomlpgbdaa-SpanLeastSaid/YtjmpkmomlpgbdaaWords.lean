/-
  Walks over words.
-/
import Derived.Test.YtjmpkmomlpgbdaaVfacts
import Derived.Test.YtjmpkmomlpgbdaaWordsPlain
namespace Go.Proofs.Ytjmpkmomlpgbdaa
open Go Go.RowKit V
set_option linter.unusedVariables false
set_option linter.unusedSimpArgs false

theorem bit_any (x i : Nat) (w0 : World) (hx : x < 4294967296) (hi : i < 32) :
    CallsV Try.prog 36 #[.int .u32 (x : Int), .int .i64 (i : Int)] w0 (fun v w => v = .bool (x.testBit i) ∧ Below w0.heap.size w0 w) := by
  refine enter1 Try.func36 rfl Try.ntmps36 (by simp) rfl ?_
  have hB := Below.refl w0.heap.size w0
  simp only [argLoc, Nat.zero_add]
  have hs := shl_one_lt hi
  have h0 : decide (0 ≤ (i : Int)) = true := by simp
  refine W.seqR ?_
  refine LS.vv rfl rfl (by decide) (Val.assign rfl) ?_
  refine LS.nil ?_
  refine W.seqR ?_
  refine LS.vv rfl rfl (by decide) (Val.move rfl) ?_
  refine LS.vv rfl rfl (by decide) (Val.cast (v := .bool true) (Val.geq rfl rfl) (by simp)) ?_
  refine LS.vv rfl rfl (by decide) (Val.move rfl) ?_
  refine LS.vg rfl rfl rfl rfl (by decide) (Val.move rfl) ?_
  refine LS.vg rfl rfl rfl rfl (by decide) (Val.cast (v := .bool true) (Val.lss rfl rfl) (by simp; omega)) ?_
  refine LS.vv rfl rfl (by decide) (Val.pickT rfl rfl rfl) ?_
  refine LS.vv rfl rfl (by decide) (Val.move rfl) ?_
  refine LS.vg rfl rfl rfl rfl (by decide) (Val.move rfl) ?_
  refine LS.vg rfl rfl rfl rfl (by decide) (Val.move rfl) ?_
  refine LS.vg rfl rfl rfl rfl (by decide) (Val.conv rfl Try.underlying3 Try.underlying26 (IntWalk.u64_in _ (by omega))) ?_
  refine LS.vg rfl rfl rfl rfl (by decide) (Val.shlU32 (i := 1) rfl rfl (by omega) (by omega)) ?_
  refine LS.vg rfl rfl rfl rfl (by decide) (Val.andU32 rfl rfl (by omega) (by omega)) ?_
  refine LS.vg rfl rfl rfl rfl (by decide) (Val.cast (v := .bool (x.testBit i)) (Val.neq rfl rfl) (by exact congrArg Value.bool (and_shl_ne x i))) ?_
  refine LS.vv rfl rfl (by decide) (Val.pickT rfl rfl rfl) ?_
  refine LS.vv rfl rfl (by decide) (Val.assign rfl) ?_
  refine LS.nil ?_
  refine W.ret ?_
  refine ret1 (by first | exact .inl rfl | exact .inr rfl) rfl ?_
  exact ⟨rfl, hB⟩

theorem size_any (x : Nat) (w0 : World) (hx : x < 4294967296) :
    CallsV Try.prog 17 #[.int .u32 (x : Int)] w0 (fun v w => v = .int .i64 (popc x : Int) ∧ Below w0.heap.size w0 w) := by
  refine enter1 Try.func17 rfl Try.ntmps17 (by simp) rfl ?_
  have hB := Below.refl w0.heap.size w0
  simp only [argLoc]
  refine W.seqR ?_
  refine LS.vv rfl rfl (by decide) (Val.cast (v := .int .i64 ((0 : Nat) : Int)) (Val.assign rfl) rfl) ?_
  refine LS.nil ?_
  refine W.seqR ?_
  refine LS.vv rfl rfl (by decide) (Val.cast (v := .int .i64 ((0 : Nat) : Int)) (Val.assign rfl) rfl) ?_
  refine LS.nil ?_
  refine W.seq ?_
  refine W.seqR ?_
  refine LS.vv rfl rfl (by decide) (Val.cast (v := .int .i64 ((0 : Nat) : Int)) (Val.assign rfl) rfl) ?_
  refine LS.nil ?_
  refine W.block ?_
  refine W.loop (α := Nat) (fun k => [(3, .int .i64 (popTo x k : Int)), (4, .int .i64 (k : Int))]) [(0, _)] (fun k w => k ≤ 32 ∧ Below w0.heap.size w0 w) (fun k => 32 - k) (0) (Sub.cons rfl (Sub.cons rfl (Sub.nil _))) (Sub.cons rfl (Sub.nil _)) ?_ ?_
  · exact ⟨Nat.zero_le _, hB⟩
  rintro k w1 ⟨hk, hB⟩
  simp only [List.cons_append, List.nil_append]
  have hp := popTo_le x k
  refine W.seq ?_
  refine W.seqR ?_
  refine LS.vv rfl rfl (by decide) (Val.move rfl) ?_
  refine LS.vv rfl rfl (by decide) (Val.lss rfl rfl) ?_
  refine LS.nil ?_
  first | refine W.condD rfl (fun hc1 => ?_) (fun hc1 => ?_) | refine W.cond rfl (fun hc1 => ?_) (fun hc1 => ?_)
  ·
    refine W.skip ?_
    refine thenP_normal ?_
    refine W.seq ?_
    refine W.block ?_
    refine W.seqR ?_
    refine LS.vv rfl rfl (by decide) (Val.move rfl) ?_
    refine LS.vv rfl rfl (by decide) (Val.move rfl) ?_
    refine LS.m rfl (Step.call body36 rfl rfl (by decide) rfl (CallsV.mono (bit_any x k _ hx (by omega)) ?_))
    rintro _ w2 ⟨rfl, hb2⟩
    replace hB := hB.trans (hb2.mono hB.size)
    refine LS.nil ?_
    first | refine W.condD rfl (fun hc2 => ?_) (fun hc2 => ?_) | refine W.cond rfl (fun hc2 => ?_) (fun hc2 => ?_)
    ·
      refine W.reg ?_
      refine LS.vv rfl rfl (by decide) (Val.move rfl) ?_
      first | refine LS.vv rfl rfl (by decide) (Val.addN (j := 1) rfl rfl (by omega)) ?_ | refine LS.vv rfl rfl (by decide) (Val.add64 rfl rfl (by omega)) ?_
      refine LS.vv rfl rfl (by decide) (Val.assign rfl) ?_
      refine LS.nil ?_
      refine inBlk_normal ?_
      refine thenP_normal ?_
      refine W.reg ?_
      refine LS.vv rfl rfl (by decide) (Val.move rfl) ?_
      first | refine LS.vv rfl rfl (by decide) (Val.addN (j := 1) rfl rfl (by omega)) ?_ | refine LS.vv rfl rfl (by decide) (Val.add64 rfl rfl (by omega)) ?_
      refine LS.vv rfl rfl (by decide) (Val.assign rfl) ?_
      refine LS.nil ?_
      refine thenP_normal ?_
      refine ⟨k + 1, ?_, ?_, ⟨by omega, hB⟩, by omega⟩
      · exact Sub.cons' rfl (by rw [popTo_succ, hc2]; rfl) (Sub.cons rfl (Sub.nil _))
      · exact Sub.cons rfl (Sub.nil _)
    ·
      refine W.skip ?_
      refine inBlk_normal ?_
      refine thenP_normal ?_
      refine W.reg ?_
      refine LS.vv rfl rfl (by decide) (Val.move rfl) ?_
      first | refine LS.vv rfl rfl (by decide) (Val.addN (j := 1) rfl rfl (by omega)) ?_ | refine LS.vv rfl rfl (by decide) (Val.add64 rfl rfl (by omega)) ?_
      refine LS.vv rfl rfl (by decide) (Val.assign rfl) ?_
      refine LS.nil ?_
      refine thenP_normal ?_
      refine ⟨k + 1, ?_, ?_, ⟨by omega, hB⟩, by omega⟩
      · exact Sub.cons' rfl (by rw [popTo_succ, hc2]; rfl) (Sub.cons rfl (Sub.nil _))
      · exact Sub.cons rfl (Sub.nil _)
  ·
    refine W.exit ?_
    refine thenP_exit ?_
    refine thenP_exit ?_
    refine inBlk_exit ?_
    refine thenP_normal ?_
    refine W.seqR ?_
    refine LS.vv rfl rfl (by decide) (Val.move rfl) ?_
    refine LS.vv rfl rfl (by decide) (Val.assign rfl) ?_
    refine LS.nil ?_
    refine W.ret ?_
    refine ret1 (by first | exact .inl rfl | exact .inr rfl) rfl ?_
    obtain rfl : k = 32 := by omega
    exact ⟨rfl, hB⟩

theorem ones32_any (x : Nat) (w0 : World) (hx : x < 4294967296) :
    CallsV Try.prog 34 #[.int .u32 (x : Int)] w0 (fun v w => v = .int .i64 (popc x : Int) ∧ Below w0.heap.size w0 w) := by
  refine enter1 Try.func34 rfl Try.ntmps34 (by simp) rfl ?_
  have hB := Below.refl w0.heap.size w0
  simp only [argLoc]
  have h1 : x >>> 24 < 256 := by omega
  have h2 : x >>> 16 &&& 255 < 256 := Nat.and_lt_two_pow (n := 8) _ (by omega)
  have h3 : x >>> 8 &&& 255 < 256 := Nat.and_lt_two_pow (n := 8) _ (by omega)
  have h4 : x &&& 255 < 256 := Nat.and_lt_two_pow (n := 8) _ (by omega)
  have p1 := popTo_le (x >>> 24) 8
  have p2 := popTo_le (x >>> 16 &&& 255) 8
  have p3 := popTo_le (x >>> 8 &&& 255) 8
  have p4 := popTo_le (x &&& 255) 8
  have q2 : x >>> 16 < 2 ^ 32 := by omega
  have q3 : x >>> 8 < 2 ^ 32 := by omega
  have hpb := popc_bytes x
  refine W.seqR ?_
  refine LS.vv rfl rfl (by decide) (Val.cast (v := .int .i64 ((0 : Nat) : Int)) (Val.assign rfl) rfl) ?_
  refine LS.nil ?_
  refine W.seqD (S := fun w => Below w0.heap.size w0 w) [(0, true), (1, true), (2, true), (3, true), (4, true), (5, true), (6, true), (7, true), (8, true), (9, true), (10, true), (11, true), (12, true), (13, true), (14, true), (15, true), (16, true), (17, true), (18, true)] mixed (by kernel_rfl) hB.drew ?_
  replace hB := hB.drew
  refine DX.vv rfl rfl rfl (by decide) (Val.move rfl) ?_
  refine DX.vv rfl rfl rfl (by decide) (Val.shr (j := 24) rfl rfl (by simp only [IntKind.bits]; omega)) ?_
  refine DX.vv rfl rfl rfl (by decide) (Val.indexTab (f := fun j => popTo j 8) Try.underlying9 (by kernel_rfl) rfl (by omega)) ?_
  refine DX.vv rfl rfl rfl (by decide) (Val.move rfl) ?_
  refine DX.vv rfl rfl rfl (by decide) (Val.shr (j := 16) rfl rfl (by simp only [IntKind.bits]; omega)) ?_
  refine DX.vv rfl rfl rfl (by decide) (Val.andU32 (j := 255) rfl rfl (by omega) (by omega)) ?_
  refine DX.vv rfl rfl rfl (by decide) (Val.indexTab (f := fun j => popTo j 8) Try.underlying9 (by kernel_rfl) rfl (by omega)) ?_
  refine DX.vv rfl rfl rfl (by decide) (Val.addNU8 rfl rfl (by omega)) ?_
  refine DX.vv rfl rfl rfl (by decide) (Val.move rfl) ?_
  refine DX.vv rfl rfl rfl (by decide) (Val.shr (j := 8) rfl rfl (by simp only [IntKind.bits]; omega)) ?_
  refine DX.vv rfl rfl rfl (by decide) (Val.andU32 (j := 255) rfl rfl (by omega) (by omega)) ?_
  refine DX.vv rfl rfl rfl (by decide) (Val.indexTab (f := fun j => popTo j 8) Try.underlying9 (by kernel_rfl) rfl (by omega)) ?_
  refine DX.vv rfl rfl rfl (by decide) (Val.addNU8 rfl rfl (by omega)) ?_
  refine DX.vv rfl rfl rfl (by decide) (Val.move rfl) ?_
  refine DX.vv rfl rfl rfl (by decide) (Val.andU32 (j := 255) rfl rfl (by omega) (by omega)) ?_
  refine DX.vv rfl rfl rfl (by decide) (Val.indexTab (f := fun j => popTo j 8) Try.underlying9 (by kernel_rfl) rfl (by omega)) ?_
  refine DX.vv rfl rfl rfl (by decide) (Val.addNU8 rfl rfl (by omega)) ?_
  refine DX.vv rfl rfl rfl (by decide) (Val.conv rfl Try.underlying5 Try.underlying3 (IntWalk.i64_in _ (by omega))) ?_
  refine DX.vv rfl rfl rfl (by decide) (Val.assign rfl) ?_
  refine DX.nil ?_
  refine W.ret ?_
  refine ret1 (by first | exact .inl rfl | exact .inr rfl) rfl ?_
  exact ⟨by rw [← hpb], hB⟩

theorem bitsCheck_bad (n : Int) (l : List Nat) (p : Option Addr) (c : Nat) (w0 : World) (hr : Rd w0 p (uv l)) (hb : l.length ≤ 100000) (hl : ∀ x ∈ l, x < 4294967296) (hn : n < 0 ∨ 12 < n) :
    CallsV Try.prog 38 #[.int .i64 n, .slice p l.length c] w0 (fun v w => v = .int .i64 ((1 : Nat) : Int) ∧ Below w0.heap.size w0 w) := by
  refine enter1 Try.func38 rfl Try.ntmps38 (by simp) rfl ?_
  have hB := Below.refl w0.heap.size w0
  simp only [argLoc, Nat.zero_add]
  refine W.seqR ?_
  refine LS.vv rfl rfl (by decide) (Val.cast (v := .int .i64 ((0 : Nat) : Int)) (Val.assign rfl) rfl) ?_
  refine LS.nil ?_
  refine W.seq ?_
  refine W.seqR ?_
  refine LS.vv rfl rfl (by decide) (Val.move rfl) ?_
  refine LS.vv rfl rfl (by decide) (Val.lss rfl rfl) ?_
  refine LS.vv rfl rfl (by decide) (Val.move rfl) ?_
  refine LS.split 2 rfl (fun hg1 => ?_) (fun hg1 => ?_)
  ·
    first | (have hg1p := of_decide_eq_true hg1) | skip
    refine LS.s rfl rfl rfl hg1 (by decide) ?_
    refine LS.s rfl rfl rfl hg1 (by decide) ?_
    refine LS.vv rfl rfl (by decide) (Val.pickT rfl hg1 rfl) ?_
    refine LS.nil ?_
    refine W.condT rfl ?_
    refine W.seqR ?_
    refine LS.vv rfl rfl (by decide) (Val.cast (v := .int .i64 ((1 : Nat) : Int)) (Val.assign rfl) rfl) ?_
    refine LS.nil ?_
    refine W.ret ?_
    refine thenP_ret ?_
    refine ret1 (by first | exact .inl rfl | exact .inr rfl) rfl ?_
    first | exact ⟨rfl, hB⟩ | (exfalso; omega)
  ·
    first | (have hg1p := of_decide_eq_false hg1) | skip
    refine LS.vg rfl rfl rfl hg1 (by decide) (Val.move rfl) ?_
    refine LS.vg rfl rfl rfl hg1 (by decide) (Val.gtr rfl rfl) ?_
    refine LS.vv rfl rfl (by decide) (Val.pickF rfl hg1 rfl) ?_
    refine LS.nil ?_
    first | refine W.condD rfl (fun hc2 => ?_) (fun hc2 => ?_) | refine W.cond rfl (fun hc2 => ?_) (fun hc2 => ?_)
    ·
      refine W.seqR ?_
      refine LS.vv rfl rfl (by decide) (Val.cast (v := .int .i64 ((1 : Nat) : Int)) (Val.assign rfl) rfl) ?_
      refine LS.nil ?_
      refine W.ret ?_
      refine thenP_ret ?_
      refine ret1 (by first | exact .inl rfl | exact .inr rfl) rfl ?_
      first | exact ⟨rfl, hB⟩ | (exfalso; omega)
    ·
      exfalso; omega

theorem bitsCheck_good (m : Nat) (l : List Nat) (p : Option Addr) (c : Nat) (w0 : World) (hr : Rd w0 p (uv l)) (hb : l.length ≤ 100000) (hl : ∀ x ∈ l, x < 4294967296) (hm : m ≤ 12) :
    CallsV Try.prog 38 #[.int .i64 (m : Int), .slice p l.length c] w0 (fun v w => ∃ e : Nat, v = .int .i64 (e : Int) ∧ (e = 0 ↔ OkW (m : Int) l) ∧ Below w0.heap.size w0 w) := by
  refine enter1 Try.func38 rfl Try.ntmps38 (by simp) rfl ?_
  have hB := Below.refl w0.heap.size w0
  simp only [argLoc, Nat.zero_add]
  refine W.seqR ?_
  refine LS.vv rfl rfl (by decide) (Val.cast (v := .int .i64 ((0 : Nat) : Int)) (Val.assign rfl) rfl) ?_
  refine LS.nil ?_
  refine W.seq ?_
  refine W.seqR ?_
  refine LS.vv rfl rfl (by decide) (Val.move rfl) ?_
  refine LS.vv rfl rfl (by decide) (Val.lss rfl rfl) ?_
  refine LS.vv rfl rfl (by decide) (Val.move rfl) ?_
  refine LS.split 2 rfl (fun hg1 => ?_) (fun hg1 => ?_)
  ·
    first | (have hg1p := of_decide_eq_true hg1) | skip
    refine LS.s rfl rfl rfl hg1 (by decide) ?_
    refine LS.s rfl rfl rfl hg1 (by decide) ?_
    refine LS.vv rfl rfl (by decide) (Val.pickT rfl hg1 rfl) ?_
    refine LS.nil ?_
    refine W.condT rfl ?_
    refine W.seqR ?_
    refine LS.vv rfl rfl (by decide) (Val.cast (v := .int .i64 ((1 : Nat) : Int)) (Val.assign rfl) rfl) ?_
    refine LS.nil ?_
    refine W.ret ?_
    refine thenP_ret ?_
    refine ret1 (by first | exact .inl rfl | exact .inr rfl) rfl ?_
    exfalso; omega
  ·
    first | (have hg1p := of_decide_eq_false hg1) | skip
    refine LS.vg rfl rfl rfl hg1 (by decide) (Val.move rfl) ?_
    refine LS.vg rfl rfl rfl hg1 (by decide) (Val.gtr rfl rfl) ?_
    refine LS.vv rfl rfl (by decide) (Val.pickF rfl hg1 rfl) ?_
    refine LS.nil ?_
    first | refine W.condD rfl (fun hc2 => ?_) (fun hc2 => ?_) | refine W.cond rfl (fun hc2 => ?_) (fun hc2 => ?_)
    ·
      exfalso; omega
    ·
      refine W.skip ?_
      refine thenP_normal ?_
      refine W.seq ?_
      refine W.seqR ?_
      refine LS.vv rfl rfl (by decide) (Val.move rfl) ?_
      refine LS.vv rfl rfl (by decide) (Val.len Try.underlying32 rfl) ?_
      refine LS.vv rfl rfl (by decide) (Val.cast (v := .int .i64 ((0 : Nat) : Int)) (Val.move rfl) rfl) ?_
      refine LS.nil ?_
      refine W.block ?_
      refine W.loop (α := Nat) (fun k => [(15, .int .i64 (k : Int))]) [(0, _), (13, _), (14, _)] (fun k w => (k ≤ l.length ∧ ∀ j, j < k → gn l j < 2 ^ m) ∧ Below w0.heap.size w0 w) (fun k => l.length - k) (0) (Sub.cons rfl (Sub.nil _)) (Sub.cons rfl (Sub.cons rfl (Sub.cons rfl (Sub.nil _)))) ?_ ?_
      · exact ⟨⟨Nat.zero_le _, by omega⟩, hB⟩
      rintro k w1 ⟨⟨hk, hall⟩, hB⟩
      simp only [List.cons_append, List.nil_append]
      have hlt : ∀ h : k < l.length, gn l k < 4294967296 := fun h => by rw [gn_lt h]; exact hl _ (List.getElem_mem h)
      refine W.seqR ?_
      refine LS.vv rfl rfl (by decide) (Val.lss rfl rfl) ?_
      refine LS.nil ?_
      refine W.seq ?_
      first | refine W.condD rfl (fun hc3 => ?_) (fun hc3 => ?_) | refine W.cond rfl (fun hc3 => ?_) (fun hc3 => ?_)
      ·
        refine W.skip ?_
        refine thenP_normal ?_
        refine W.seq ?_
        refine W.block ?_
        refine W.seqR ?_
        have hlt := hlt (by omega)
        refine LS.vv rfl rfl (by decide) (Val.index1 Try.underlying32 elem37 rfl rfl (by omega) hr (uv_lt (by omega))) ?_
        refine LS.m rfl (Step.load rfl rfl (by decide) flat37 rfl (hr.below hB) (uv_at (by omega)) ?_)
        refine LS.vv rfl rfl (by decide) (Val.assign rfl) ?_
        refine LS.nil ?_
        refine W.seqR ?_
        refine LS.vv rfl rfl (by decide) (Val.move rfl) ?_
        refine LS.vv rfl rfl (by decide) (Val.move rfl) ?_
        refine LS.vv rfl rfl (by decide) (Val.conv rfl Try.underlying3 Try.underlying26 (IntWalk.u64_in _ (by omega))) ?_
        have hpw : 1 <<< m ≤ 4294967295 := shl_one_lt (by omega)
        refine LS.vv rfl rfl (by decide) (Val.shlU32 (i := 1) rfl rfl (by omega) (by omega)) ?_
        refine LS.vv rfl rfl (by decide) (Val.geq rfl rfl) ?_
        refine LS.nil ?_
        first | refine W.condD rfl (fun hc4 => ?_) (fun hc4 => ?_) | refine W.cond rfl (fun hc4 => ?_) (fun hc4 => ?_)
        ·
          refine W.seqR ?_
          refine LS.vv rfl rfl (by decide) (Val.cast (v := .int .i64 ((4 : Nat) : Int)) (Val.assign rfl) rfl) ?_
          refine LS.nil ?_
          refine W.ret ?_
          refine inBlk_ret ?_
          refine thenP_ret ?_
          refine thenP_ret ?_
          refine inBlk_ret ?_
          refine thenP_ret ?_
          refine ret1 (by first | exact .inl rfl | exact .inr rfl) rfl ?_
          refine ⟨4, rfl, ⟨by omega, fun h => ?_⟩, hB⟩
          exfalso
          have := h.2.2 (gn l k) (by rw [gn_lt (by omega)]; exact List.getElem_mem _)
          rw [Int.toNat_natCast] at this
          first | exact not_lt_of_shl ‹_› this | exact not_lt_of_shr ‹_› this
        ·
          refine W.skip ?_
          refine inBlk_normal ?_
          refine thenP_normal ?_
          refine W.reg ?_
          first | refine LS.vv rfl rfl (by decide) (Val.addN (j := 1) rfl rfl (by omega)) ?_ | refine LS.vv rfl rfl (by decide) (Val.add64 rfl rfl (by omega)) ?_
          refine LS.vv rfl rfl (by decide) (Val.move rfl) ?_
          refine LS.nil ?_
          refine thenP_normal ?_
          refine ⟨k + 1, ?_, ?_, ⟨⟨by omega, ?_⟩, hB⟩, by omega⟩
          · exact Sub.cons rfl (Sub.nil _)
          · repeat (first | exact Sub.nil _ | refine Sub.cons rfl ?_)
          · intro j hj
            by_cases e : j = k
            · subst e; first | exact lt_of_not_shl ‹_› | exact lt_of_shr ‹_›
            · exact hall j (by omega)
      ·
        refine W.exit ?_
        refine thenP_exit ?_
        refine thenP_exit ?_
        refine inBlk_exit ?_
        refine thenP_normal ?_
        refine W.seqR ?_
        refine LS.vv rfl rfl (by decide) (Val.cast (v := .int .i64 ((0 : Nat) : Int)) (Val.assign rfl) rfl) ?_
        refine LS.nil ?_
        refine W.ret ?_
        refine ret1 (by first | exact .inl rfl | exact .inr rfl) rfl ?_
        refine ⟨0, rfl, ⟨fun _ => ⟨by omega, by omega, fun x hx => ?_⟩, fun _ => rfl⟩, hB⟩
        obtain ⟨j, hj, rfl⟩ := List.getElem_of_mem hx
        have := hall j (by omega)
        rw [gn_lt hj] at this
        rw [Int.toNat_natCast]
        exact this

theorem bitsCheck_any (n : Int) (l : List Nat) (p : Option Addr) (c : Nat) (w0 : World) (hr : Rd w0 p (uv l)) (hb : l.length ≤ 100000) (hl : ∀ x ∈ l, x < 4294967296) :
    CallsV Try.prog 38 #[.int .i64 n, .slice p l.length c] w0 (fun v w => ∃ e : Nat, v = .int .i64 (e : Int) ∧ (e = 0 ↔ OkW n l) ∧ Below w0.heap.size w0 w) := by
  by_cases h : n < 0 ∨ 12 < n
  · refine (bitsCheck_bad n l p c w0 hr hb hl h).mono ?_
    rintro v w ⟨rfl, hB⟩
    exact ⟨1, rfl, ⟨fun h1 => by omega, fun h1 => by have := h1.1; have := h1.2.1; omega⟩, hB⟩
  · obtain ⟨m, rfl⟩ := Int.eq_ofNat_of_zero_le (show 0 ≤ n by omega)
    exact bitsCheck_good m l p c w0 hr hb hl (by omega)

theorem ballCheck_bad (n : Int) (l : List Nat) (p : Option Addr) (c : Nat) (w0 : World) (hr : Rd w0 p (uv l)) (hb : l.length ≤ 100000) (hl : ∀ x ∈ l, x < 4294967296) (hn : n < 0 ∨ 12 < n) :
    CallsV Try.prog 45 #[.int .i64 n, .slice p l.length c] w0 (fun v w => v = .int .i64 ((1 : Nat) : Int) ∧ Below w0.heap.size w0 w) := by
  refine enter1 Try.func45 rfl Try.ntmps45 (by simp) rfl ?_
  have hB := Below.refl w0.heap.size w0
  simp only [argLoc, Nat.zero_add]
  refine W.seqR ?_
  refine LS.vv rfl rfl (by decide) (Val.cast (v := .int .i64 ((0 : Nat) : Int)) (Val.assign rfl) rfl) ?_
  refine LS.nil ?_
  refine W.seq ?_
  refine W.seqR ?_
  refine LS.vv rfl rfl (by decide) (Val.move rfl) ?_
  refine LS.vv rfl rfl (by decide) (Val.lss rfl rfl) ?_
  refine LS.vv rfl rfl (by decide) (Val.move rfl) ?_
  refine LS.split 2 rfl (fun hg1 => ?_) (fun hg1 => ?_)
  ·
    first | (have hg1p := of_decide_eq_true hg1) | skip
    refine LS.s rfl rfl rfl hg1 (by decide) ?_
    refine LS.s rfl rfl rfl hg1 (by decide) ?_
    refine LS.vv rfl rfl (by decide) (Val.pickT rfl hg1 rfl) ?_
    refine LS.nil ?_
    refine W.condT rfl ?_
    refine W.seqR ?_
    refine LS.vv rfl rfl (by decide) (Val.cast (v := .int .i64 ((1 : Nat) : Int)) (Val.assign rfl) rfl) ?_
    refine LS.nil ?_
    refine W.ret ?_
    refine thenP_ret ?_
    refine ret1 (by first | exact .inl rfl | exact .inr rfl) rfl ?_
    first | exact ⟨rfl, hB⟩ | (exfalso; omega)
  ·
    first | (have hg1p := of_decide_eq_false hg1) | skip
    refine LS.vg rfl rfl rfl hg1 (by decide) (Val.move rfl) ?_
    refine LS.vg rfl rfl rfl hg1 (by decide) (Val.gtr rfl rfl) ?_
    refine LS.vv rfl rfl (by decide) (Val.pickF rfl hg1 rfl) ?_
    refine LS.nil ?_
    first | refine W.condD rfl (fun hc2 => ?_) (fun hc2 => ?_) | refine W.cond rfl (fun hc2 => ?_) (fun hc2 => ?_)
    ·
      refine W.seqR ?_
      refine LS.vv rfl rfl (by decide) (Val.cast (v := .int .i64 ((1 : Nat) : Int)) (Val.assign rfl) rfl) ?_
      refine LS.nil ?_
      refine W.ret ?_
      refine thenP_ret ?_
      refine ret1 (by first | exact .inl rfl | exact .inr rfl) rfl ?_
      first | exact ⟨rfl, hB⟩ | (exfalso; omega)
    ·
      exfalso; omega

theorem ballCheck_good (m : Nat) (l : List Nat) (p : Option Addr) (c : Nat) (w0 : World) (hr : Rd w0 p (uv l)) (hb : l.length ≤ 100000) (hl : ∀ x ∈ l, x < 4294967296) (hm : m ≤ 12) :
    CallsV Try.prog 45 #[.int .i64 (m : Int), .slice p l.length c] w0 (fun v w => ∃ e : Nat, v = .int .i64 (e : Int) ∧ (e = 0 ↔ OkW (m : Int) l) ∧ Below w0.heap.size w0 w) := by
  refine enter1 Try.func45 rfl Try.ntmps45 (by simp) rfl ?_
  have hB := Below.refl w0.heap.size w0
  simp only [argLoc, Nat.zero_add]
  refine W.seqR ?_
  refine LS.vv rfl rfl (by decide) (Val.cast (v := .int .i64 ((0 : Nat) : Int)) (Val.assign rfl) rfl) ?_
  refine LS.nil ?_
  refine W.seq ?_
  refine W.seqR ?_
  refine LS.vv rfl rfl (by decide) (Val.move rfl) ?_
  refine LS.vv rfl rfl (by decide) (Val.lss rfl rfl) ?_
  refine LS.vv rfl rfl (by decide) (Val.move rfl) ?_
  refine LS.split 2 rfl (fun hg1 => ?_) (fun hg1 => ?_)
  ·
    first | (have hg1p := of_decide_eq_true hg1) | skip
    refine LS.s rfl rfl rfl hg1 (by decide) ?_
    refine LS.s rfl rfl rfl hg1 (by decide) ?_
    refine LS.vv rfl rfl (by decide) (Val.pickT rfl hg1 rfl) ?_
    refine LS.nil ?_
    refine W.condT rfl ?_
    refine W.seqR ?_
    refine LS.vv rfl rfl (by decide) (Val.cast (v := .int .i64 ((1 : Nat) : Int)) (Val.assign rfl) rfl) ?_
    refine LS.nil ?_
    refine W.ret ?_
    refine thenP_ret ?_
    refine ret1 (by first | exact .inl rfl | exact .inr rfl) rfl ?_
    exfalso; omega
  ·
    first | (have hg1p := of_decide_eq_false hg1) | skip
    refine LS.vg rfl rfl rfl hg1 (by decide) (Val.move rfl) ?_
    refine LS.vg rfl rfl rfl hg1 (by decide) (Val.gtr rfl rfl) ?_
    refine LS.vv rfl rfl (by decide) (Val.pickF rfl hg1 rfl) ?_
    refine LS.nil ?_
    first | refine W.condD rfl (fun hc2 => ?_) (fun hc2 => ?_) | refine W.cond rfl (fun hc2 => ?_) (fun hc2 => ?_)
    ·
      exfalso; omega
    ·
      refine W.skip ?_
      refine thenP_normal ?_
      refine W.seq ?_
      refine W.seqR ?_
      refine LS.vv rfl rfl (by decide) (Val.move rfl) ?_
      refine LS.vv rfl rfl (by decide) (Val.len Try.underlying32 rfl) ?_
      refine LS.vv rfl rfl (by decide) (Val.cast (v := .int .i64 ((0 : Nat) : Int)) (Val.move rfl) rfl) ?_
      refine LS.nil ?_
      refine W.block ?_
      refine W.loop (α := Nat) (fun k => [(15, .int .i64 (k : Int))]) [(0, _), (13, _), (14, _)] (fun k w => (k ≤ l.length ∧ ∀ j, j < k → gn l j < 2 ^ m) ∧ Below w0.heap.size w0 w) (fun k => l.length - k) (0) (Sub.cons rfl (Sub.nil _)) (Sub.cons rfl (Sub.cons rfl (Sub.cons rfl (Sub.nil _)))) ?_ ?_
      · exact ⟨⟨Nat.zero_le _, by omega⟩, hB⟩
      rintro k w1 ⟨⟨hk, hall⟩, hB⟩
      simp only [List.cons_append, List.nil_append]
      have hlt : ∀ h : k < l.length, gn l k < 4294967296 := fun h => by rw [gn_lt h]; exact hl _ (List.getElem_mem h)
      refine W.seqR ?_
      refine LS.vv rfl rfl (by decide) (Val.lss rfl rfl) ?_
      refine LS.nil ?_
      refine W.seq ?_
      first | refine W.condD rfl (fun hc3 => ?_) (fun hc3 => ?_) | refine W.cond rfl (fun hc3 => ?_) (fun hc3 => ?_)
      ·
        refine W.skip ?_
        refine thenP_normal ?_
        refine W.seq ?_
        refine W.block ?_
        refine W.seqR ?_
        have hlt := hlt (by omega)
        refine LS.vv rfl rfl (by decide) (Val.index1 Try.underlying32 elem37 rfl rfl (by omega) hr (uv_lt (by omega))) ?_
        refine LS.m rfl (Step.load rfl rfl (by decide) flat37 rfl (hr.below hB) (uv_at (by omega)) ?_)
        refine LS.vv rfl rfl (by decide) (Val.assign rfl) ?_
        refine LS.nil ?_
        refine W.seqR ?_
        refine LS.vv rfl rfl (by decide) (Val.move rfl) ?_
        refine LS.vv rfl rfl (by decide) (Val.move rfl) ?_
        refine LS.vv rfl rfl (by decide) (Val.shr rfl rfl (by simp only [IntKind.bits]; omega)) ?_
        refine LS.vv rfl rfl (by decide) (Val.neq rfl rfl) ?_
        refine LS.nil ?_
        first | refine W.condD rfl (fun hc4 => ?_) (fun hc4 => ?_) | refine W.cond rfl (fun hc4 => ?_) (fun hc4 => ?_)
        ·
          refine W.seqR ?_
          refine LS.vv rfl rfl (by decide) (Val.cast (v := .int .i64 ((4 : Nat) : Int)) (Val.assign rfl) rfl) ?_
          refine LS.nil ?_
          refine W.ret ?_
          refine inBlk_ret ?_
          refine thenP_ret ?_
          refine thenP_ret ?_
          refine inBlk_ret ?_
          refine thenP_ret ?_
          refine ret1 (by first | exact .inl rfl | exact .inr rfl) rfl ?_
          refine ⟨4, rfl, ⟨by omega, fun h => ?_⟩, hB⟩
          exfalso
          have := h.2.2 (gn l k) (by rw [gn_lt (by omega)]; exact List.getElem_mem _)
          rw [Int.toNat_natCast] at this
          first | exact not_lt_of_shl ‹_› this | exact not_lt_of_shr ‹_› this
        ·
          refine W.skip ?_
          refine inBlk_normal ?_
          refine thenP_normal ?_
          refine W.reg ?_
          first | refine LS.vv rfl rfl (by decide) (Val.addN (j := 1) rfl rfl (by omega)) ?_ | refine LS.vv rfl rfl (by decide) (Val.add64 rfl rfl (by omega)) ?_
          refine LS.vv rfl rfl (by decide) (Val.move rfl) ?_
          refine LS.nil ?_
          refine thenP_normal ?_
          refine ⟨k + 1, ?_, ?_, ⟨⟨by omega, ?_⟩, hB⟩, by omega⟩
          · exact Sub.cons rfl (Sub.nil _)
          · repeat (first | exact Sub.nil _ | refine Sub.cons rfl ?_)
          · intro j hj
            by_cases e : j = k
            · subst e; first | exact lt_of_not_shl ‹_› | exact lt_of_shr ‹_›
            · exact hall j (by omega)
      ·
        refine W.exit ?_
        refine thenP_exit ?_
        refine thenP_exit ?_
        refine inBlk_exit ?_
        refine thenP_normal ?_
        refine W.seqR ?_
        refine LS.vv rfl rfl (by decide) (Val.cast (v := .int .i64 ((0 : Nat) : Int)) (Val.assign rfl) rfl) ?_
        refine LS.nil ?_
        refine W.ret ?_
        refine ret1 (by first | exact .inl rfl | exact .inr rfl) rfl ?_
        refine ⟨0, rfl, ⟨fun _ => ⟨by omega, by omega, fun x hx => ?_⟩, fun _ => rfl⟩, hB⟩
        obtain ⟨j, hj, rfl⟩ := List.getElem_of_mem hx
        have := hall j (by omega)
        rw [gn_lt hj] at this
        rw [Int.toNat_natCast]
        exact this

theorem ballCheck_any (n : Int) (l : List Nat) (p : Option Addr) (c : Nat) (w0 : World) (hr : Rd w0 p (uv l)) (hb : l.length ≤ 100000) (hl : ∀ x ∈ l, x < 4294967296) :
    CallsV Try.prog 45 #[.int .i64 n, .slice p l.length c] w0 (fun v w => ∃ e : Nat, v = .int .i64 (e : Int) ∧ (e = 0 ↔ OkW n l) ∧ Below w0.heap.size w0 w) := by
  by_cases h : n < 0 ∨ 12 < n
  · refine (ballCheck_bad n l p c w0 hr hb hl h).mono ?_
    rintro v w ⟨rfl, hB⟩
    exact ⟨1, rfl, ⟨fun h1 => by omega, fun h1 => by have := h1.1; have := h1.2.1; omega⟩, hB⟩
  · obtain ⟨m, rfl⟩ := Int.eq_ofNat_of_zero_le (show 0 ≤ n by omega)
    exact ballCheck_good m l p c w0 hr hb hl (by omega)

theorem below_any (n : Int) (l : List Nat) (p : Option Addr) (c : Nat) (w0 : World) (hr : Rd w0 p (uv l)) (hb : l.length ≤ 100000) (hl : ∀ x ∈ l, x < 4294967296) :
    CallsV Try.prog 20 #[.int .i64 n, .slice p l.length c] w0 (fun v w => ∃ b : Bool, v = .bool b ∧ (b = true ↔ OkW n l) ∧ Below w0.heap.size w0 w) := by
  refine enter1 Try.func20 rfl Try.ntmps20 (by simp) rfl ?_
  have hB := Below.refl w0.heap.size w0
  simp only [argLoc, Nat.zero_add]
  refine W.seqR ?_
  refine LS.vv rfl rfl (by decide) (Val.assign rfl) ?_
  refine LS.nil ?_
  refine W.seqR ?_
  refine LS.vv rfl rfl (by decide) (Val.move rfl) ?_
  refine LS.vv rfl rfl (by decide) (Val.move rfl) ?_
  refine LS.m rfl (Step.call body38 rfl rfl (by decide) rfl (CallsV.mono (bitsCheck_any n l _ _ _ (hr.below hB) hb hl) ?_))
  rintro _ w1 ⟨e, rfl, he, hb1⟩
  replace hB := hB.trans (hb1.mono hB.size)
  refine LS.vv rfl rfl (by decide) (Val.eql rfl rfl) ?_
  refine LS.vv rfl rfl (by decide) (Val.assign rfl) ?_
  refine LS.nil ?_
  refine W.ret ?_
  refine ret1 (by first | exact .inl rfl | exact .inr rfl) rfl ?_
  refine ⟨_, rfl, ?_, hB⟩
  rw [← he, decide_eq_true_iff]
  omega

end Go.Proofs.Ytjmpkmomlpgbdaa
