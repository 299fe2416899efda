/-
  The walks of package rest: Rest.
-/
import Derived.Test.YtnaebllojkodbaaVfacts2
import Derived.Test.YtnaebllojkodbaaWords
import Derived.Test.YtnaebllojkodbaaRestPlain
namespace Go.Proofs.Ytnaebllojkodbaa
open Go Go.RowKit V
set_option linter.unusedVariables false

theorem len32_any (x : Nat) (w0 : World) (hx : x < 4294967296) :
    CallsV Try.prog 61 #[.int .u32 (x : Int)] w0 (fun v w => v = .int .i64 (bitLen x : Int) ∧ Below w0.heap.size w0 w) := by
  refine enter1 Try.func61 rfl Try.ntmps61 (by simp) rfl ?_
  have hB := Below.refl w0.heap.size w0
  simp only [argLoc]
  have s1 : x >>> 16 < 65536 := by omega
  have s2 : x >>> 16 >>> 8 < 256 := by omega
  have b1 := bitLen_le (x := x >>> 16 >>> 8) (k := 8) s2
  have b2 := bitLen_le (x := x >>> 16) (k := 16) s1
  have b3 := bitLen_le (x := x) (k := 32) hx
  have b4 := bitLen_le (x := x >>> 8) (k := 24) (by omega)
  have e16 : 65536 ≤ x → bitLen x = 16 + bitLen (x >>> 16) := fun h => bitLen_unique (isLen_shift (k := 16) (by omega) (bitLen_is _))
  have e8 : 256 ≤ x → bitLen x = 8 + bitLen (x >>> 8) := fun h => bitLen_unique (isLen_shift (k := 8) (by omega) (bitLen_is _))
  have e24 : 256 ≤ x >>> 16 → bitLen (x >>> 16) = 8 + bitLen (x >>> 16 >>> 8) := fun h => bitLen_unique (isLen_shift (k := 8) (by omega) (bitLen_is _))
  refine W.seqR ?_
  refine LS.vv rfl rfl (by decide) (Val.cast (v := .int .i64 ((0 : Nat) : Int)) (Val.assign rfl) rfl) ?_
  refine LS.nil ?_
  refine W.seq ?_
  refine W.seqR ?_
  refine LS.vv rfl rfl (by decide) (Val.move rfl) ?_
  refine LS.vv rfl rfl (by decide) (Val.geq rfl rfl) ?_
  refine LS.nil ?_
  first | refine W.condD rfl (fun hc1 => ?_) (fun hc1 => ?_) | refine W.cond rfl (fun hc1 => ?_) (fun hc1 => ?_)
  ·
    refine W.seqR ?_
    refine LS.vv rfl rfl (by decide) (Val.move rfl) ?_
    refine LS.vv rfl rfl (by decide) (Val.shr (j := 16) rfl rfl (by simp only [IntKind.bits]; omega)) ?_
    refine LS.vv rfl rfl (by decide) (Val.assign rfl) ?_
    refine LS.nil ?_
    refine W.reg ?_
    refine LS.vv rfl rfl (by decide) (Val.cast (v := .int .i64 ((16 : Nat) : Int)) (Val.assign rfl) rfl) ?_
    refine LS.nil ?_
    refine thenP_normal ?_
    refine W.seq ?_
    refine W.seqR ?_
    refine LS.vv rfl rfl (by decide) (Val.move rfl) ?_
    refine LS.vv rfl rfl (by decide) (Val.geq rfl rfl) ?_
    refine LS.nil ?_
    first | refine W.condD rfl (fun hc2 => ?_) (fun hc2 => ?_) | refine W.cond rfl (fun hc2 => ?_) (fun hc2 => ?_)
    ·
      refine W.seqR ?_
      refine LS.vv rfl rfl (by decide) (Val.move rfl) ?_
      refine LS.vv rfl rfl (by decide) (Val.shr (j := 8) rfl rfl (by simp only [IntKind.bits]; omega)) ?_
      refine LS.vv rfl rfl (by decide) (Val.assign rfl) ?_
      refine LS.nil ?_
      refine W.reg ?_
      refine LS.vv rfl rfl (by decide) (Val.move rfl) ?_
      first | refine LS.vv rfl rfl (by decide) (Val.addN (j := 8) rfl rfl (by omega)) ?_ | refine LS.vv rfl rfl (by decide) (Val.add64 rfl rfl (by omega)) ?_
      refine LS.vv rfl rfl (by decide) (Val.assign rfl) ?_
      refine LS.nil ?_
      refine thenP_normal ?_
      refine W.seqR ?_
      refine LS.vv rfl rfl (by decide) (Val.move rfl) ?_
      refine LS.vv rfl rfl (by decide) (Val.move rfl) ?_
      refine LS.vv rfl rfl (by decide) (Val.conv rfl Try.underlying32 Try.underlying5 (IntWalk.u8_in _ (by omega))) ?_
      refine LS.vv rfl rfl (by decide) (Val.indexTab (f := bitLen) Try.underlying9 (by kernel_rfl) rfl (by omega)) ?_
      refine LS.vv rfl rfl (by decide) (Val.conv rfl Try.underlying5 Try.underlying3 (IntWalk.i64_in _ (by omega))) ?_
      first | refine LS.vv rfl rfl (by decide) (Val.addN rfl rfl (by omega)) ?_ | refine LS.vv rfl rfl (by decide) (Val.add64 rfl rfl (by omega)) ?_
      refine LS.vv rfl rfl (by decide) (Val.assign rfl) ?_
      refine LS.nil ?_
      refine W.ret ?_
      refine ret1 (by first | exact .inl rfl | exact .inr rfl) rfl ?_
      refine ⟨congrArg (Value.int .i64) ?_, hB⟩
      omega
    ·
      refine W.skip ?_
      refine thenP_normal ?_
      refine W.seqR ?_
      refine LS.vv rfl rfl (by decide) (Val.move rfl) ?_
      refine LS.vv rfl rfl (by decide) (Val.move rfl) ?_
      refine LS.vv rfl rfl (by decide) (Val.conv rfl Try.underlying32 Try.underlying5 (IntWalk.u8_in _ (by omega))) ?_
      refine LS.vv rfl rfl (by decide) (Val.indexTab (f := bitLen) Try.underlying9 (by kernel_rfl) rfl (by omega)) ?_
      refine LS.vv rfl rfl (by decide) (Val.conv rfl Try.underlying5 Try.underlying3 (IntWalk.i64_in _ (by omega))) ?_
      first | refine LS.vv rfl rfl (by decide) (Val.addN rfl rfl (by omega)) ?_ | refine LS.vv rfl rfl (by decide) (Val.add64 rfl rfl (by omega)) ?_
      refine LS.vv rfl rfl (by decide) (Val.assign rfl) ?_
      refine LS.nil ?_
      refine W.ret ?_
      refine ret1 (by first | exact .inl rfl | exact .inr rfl) rfl ?_
      refine ⟨congrArg (Value.int .i64) ?_, hB⟩
      omega
  ·
    refine W.skip ?_
    refine thenP_normal ?_
    refine W.seq ?_
    refine W.seqR ?_
    refine LS.vv rfl rfl (by decide) (Val.move rfl) ?_
    refine LS.vv rfl rfl (by decide) (Val.geq rfl rfl) ?_
    refine LS.nil ?_
    first | refine W.condD rfl (fun hc3 => ?_) (fun hc3 => ?_) | refine W.cond rfl (fun hc3 => ?_) (fun hc3 => ?_)
    ·
      refine W.seqR ?_
      refine LS.vv rfl rfl (by decide) (Val.move rfl) ?_
      refine LS.vv rfl rfl (by decide) (Val.shr (j := 8) rfl rfl (by simp only [IntKind.bits]; omega)) ?_
      refine LS.vv rfl rfl (by decide) (Val.assign rfl) ?_
      refine LS.nil ?_
      refine W.reg ?_
      refine LS.vv rfl rfl (by decide) (Val.move rfl) ?_
      first | refine LS.vv rfl rfl (by decide) (Val.addN (j := 8) rfl rfl (by omega)) ?_ | refine LS.vv rfl rfl (by decide) (Val.add64 rfl rfl (by omega)) ?_
      refine LS.vv rfl rfl (by decide) (Val.assign rfl) ?_
      refine LS.nil ?_
      refine thenP_normal ?_
      refine W.seqR ?_
      refine LS.vv rfl rfl (by decide) (Val.move rfl) ?_
      refine LS.vv rfl rfl (by decide) (Val.move rfl) ?_
      refine LS.vv rfl rfl (by decide) (Val.conv rfl Try.underlying32 Try.underlying5 (IntWalk.u8_in _ (by omega))) ?_
      refine LS.vv rfl rfl (by decide) (Val.indexTab (f := bitLen) Try.underlying9 (by kernel_rfl) rfl (by omega)) ?_
      refine LS.vv rfl rfl (by decide) (Val.conv rfl Try.underlying5 Try.underlying3 (IntWalk.i64_in _ (by omega))) ?_
      first | refine LS.vv rfl rfl (by decide) (Val.addN rfl rfl (by omega)) ?_ | refine LS.vv rfl rfl (by decide) (Val.add64 rfl rfl (by omega)) ?_
      refine LS.vv rfl rfl (by decide) (Val.assign rfl) ?_
      refine LS.nil ?_
      refine W.ret ?_
      refine ret1 (by first | exact .inl rfl | exact .inr rfl) rfl ?_
      refine ⟨congrArg (Value.int .i64) ?_, hB⟩
      omega
    ·
      refine W.skip ?_
      refine thenP_normal ?_
      refine W.seqR ?_
      refine LS.vv rfl rfl (by decide) (Val.move rfl) ?_
      refine LS.vv rfl rfl (by decide) (Val.move rfl) ?_
      refine LS.vv rfl rfl (by decide) (Val.conv rfl Try.underlying32 Try.underlying5 (IntWalk.u8_in _ (by omega))) ?_
      refine LS.vv rfl rfl (by decide) (Val.indexTab (f := bitLen) Try.underlying9 (by kernel_rfl) rfl (by omega)) ?_
      refine LS.vv rfl rfl (by decide) (Val.conv rfl Try.underlying5 Try.underlying3 (IntWalk.i64_in _ (by omega))) ?_
      first | refine LS.vv rfl rfl (by decide) (Val.addN rfl rfl (by omega)) ?_ | refine LS.vv rfl rfl (by decide) (Val.add64 rfl rfl (by omega)) ?_
      refine LS.vv rfl rfl (by decide) (Val.assign rfl) ?_
      refine LS.nil ?_
      refine W.ret ?_
      refine ret1 (by first | exact .inl rfl | exact .inr rfl) rfl ?_
      refine ⟨congrArg (Value.int .i64) ?_, hB⟩
      omega

theorem degree_any (g : Nat) (w0 : World) (hg : OkG g) :
    CallsV Try.prog 55 #[.int .u32 (g : Int)] w0 (fun v w => v = .int .i64 ((bitLen g - 1 : Nat) : Int) ∧ Below w0.heap.size w0 w) := by
  refine enter1 Try.func55 rfl Try.ntmps55 (by simp) rfl ?_
  have hB := Below.refl w0.heap.size w0
  simp only [argLoc]
  have hd := hg.deg
  have hd1 := hd.pos
  have hd2 := hd.le
  have hg3 := hg.2.2
  refine W.seqR ?_
  refine LS.vv rfl rfl (by decide) (Val.cast (v := .int .i64 ((0 : Nat) : Int)) (Val.assign rfl) rfl) ?_
  refine LS.nil ?_
  refine W.seqR ?_
  refine LS.vv rfl rfl (by decide) (Val.move rfl) ?_
  refine LS.m rfl (Step.call body61 rfl rfl (by decide) rfl (CallsV.mono (len32_any g _ (by omega)) ?_))
  rintro _ w1 ⟨rfl, hb1⟩
  replace hB := hB.trans (hb1.mono hB.size)
  first | refine LS.vv rfl rfl (by decide) (Val.subN (j := 1) rfl rfl (by omega) (by omega)) ?_ | refine LS.vv rfl rfl (by decide) (Val.sub64 rfl rfl (by omega)) ?_
  refine LS.vv rfl rfl (by decide) (Val.assign rfl) ?_
  refine LS.nil ?_
  refine W.ret ?_
  refine ret1 (by first | exact .inl rfl | exact .inr rfl) rfl ?_
  exact ⟨rfl, hB⟩

theorem rwrong_any (g n : Nat) (w0 : World) (hg : g < 4294967296) :
    CallsV Try.prog 54 #[.int .u32 (g : Int), .int .i64 (n : Int)] w0 (fun v w => ∃ e : Nat, v = .int .i64 (e : Int) ∧ (e = 0 ↔ OkG g ∧ n ≤ 64) ∧ Below w0.heap.size w0 w) := by
  refine enter1 Try.func54 rfl Try.ntmps54 (by simp) rfl ?_
  have hB := Below.refl w0.heap.size w0
  simp only [argLoc, Nat.zero_add]
  refine W.seqR ?_
  refine LS.vv rfl rfl (by decide) (Val.cast (v := .int .i64 ((0 : Nat) : Int)) (Val.assign rfl) rfl) ?_
  refine LS.nil ?_
  refine W.seq ?_
  refine W.seqR ?_
  refine LS.vv rfl rfl (by decide) (Val.move rfl) ?_
  refine LS.vv rfl rfl (by decide) (Val.remN (j := 2) rfl rfl (by omega)) ?_
  refine LS.vv rfl rfl (by decide) (Val.eql rfl rfl) ?_
  refine LS.vv rfl rfl (by decide) (Val.move rfl) ?_
  refine LS.split 3 rfl (fun hg1 => ?_) (fun hg1 => ?_)
  ·
    first | (have hg1p := of_decide_eq_true hg1) | skip
    refine LS.s rfl rfl rfl hg1 (by decide) ?_
    refine LS.s rfl rfl rfl hg1 (by decide) ?_
    refine LS.vv rfl rfl (by decide) (Val.pickT rfl hg1 rfl) ?_
    refine LS.vv rfl rfl (by decide) (Val.move rfl) ?_
    refine LS.s rfl rfl rfl rfl (by decide) ?_
    refine LS.s rfl rfl rfl rfl (by decide) ?_
    refine LS.s rfl rfl rfl rfl (by decide) ?_
    refine LS.vv rfl rfl (by decide) (Val.pickT rfl rfl rfl) ?_
    refine LS.nil ?_
    refine W.condT rfl ?_
    refine W.seqR ?_
    refine LS.vv rfl rfl (by decide) (Val.cast (v := .int .i64 ((4 : Nat) : Int)) (Val.assign rfl) rfl) ?_
    refine LS.nil ?_
    refine W.ret ?_
    refine thenP_ret ?_
    refine ret1 (by first | exact .inl rfl | exact .inr rfl) rfl ?_
    first | exact ⟨0, rfl, ⟨fun _ => ⟨⟨by omega, by omega, (show g < 2 ^ 17 from lt_of_shr ‹_›)⟩, by omega⟩, fun _ => rfl⟩, hB⟩ | exact ⟨4, rfl, ⟨fun h => by omega, fun h => by (exfalso; obtain ⟨⟨h1, h2, h3⟩, h4⟩ := h; first | omega | exact not_lt_of_shr (m := 17) ‹_› (by omega))⟩, hB⟩ | exact ⟨1, rfl, ⟨fun h => by omega, fun h => by (exfalso; obtain ⟨⟨h1, h2, h3⟩, h4⟩ := h; omega)⟩, hB⟩
  ·
    first | (have hg1p := of_decide_eq_false hg1) | skip
    refine LS.vg rfl rfl rfl hg1 (by decide) (Val.move rfl) ?_
    refine LS.vg rfl rfl rfl hg1 (by decide) (Val.eql rfl rfl) ?_
    refine LS.vv rfl rfl (by decide) (Val.pickF rfl hg1 rfl) ?_
    refine LS.vv rfl rfl (by decide) (Val.move rfl) ?_
    refine LS.split 7 rfl (fun hg2 => ?_) (fun hg2 => ?_)
    ·
      first | (have hg2p := of_decide_eq_true hg2) | skip
      refine LS.s rfl rfl rfl hg2 (by decide) ?_
      refine LS.s rfl rfl rfl hg2 (by decide) ?_
      refine LS.s rfl rfl rfl hg2 (by decide) ?_
      refine LS.vv rfl rfl (by decide) (Val.pickT rfl hg2 rfl) ?_
      refine LS.nil ?_
      refine W.condT rfl ?_
      refine W.seqR ?_
      refine LS.vv rfl rfl (by decide) (Val.cast (v := .int .i64 ((4 : Nat) : Int)) (Val.assign rfl) rfl) ?_
      refine LS.nil ?_
      refine W.ret ?_
      refine thenP_ret ?_
      refine ret1 (by first | exact .inl rfl | exact .inr rfl) rfl ?_
      first | exact ⟨0, rfl, ⟨fun _ => ⟨⟨by omega, by omega, (show g < 2 ^ 17 from lt_of_shr ‹_›)⟩, by omega⟩, fun _ => rfl⟩, hB⟩ | exact ⟨4, rfl, ⟨fun h => by omega, fun h => by (exfalso; obtain ⟨⟨h1, h2, h3⟩, h4⟩ := h; first | omega | exact not_lt_of_shr (m := 17) ‹_› (by omega))⟩, hB⟩ | exact ⟨1, rfl, ⟨fun h => by omega, fun h => by (exfalso; obtain ⟨⟨h1, h2, h3⟩, h4⟩ := h; omega)⟩, hB⟩
    ·
      first | (have hg2p := of_decide_eq_false hg2) | skip
      refine LS.vg rfl rfl rfl hg2 (by decide) (Val.move rfl) ?_
      refine LS.vg rfl rfl rfl hg2 (by decide) (Val.shr (j := 17) rfl rfl (by simp only [IntKind.bits]; omega)) ?_
      refine LS.vg rfl rfl rfl hg2 (by decide) (Val.neq rfl rfl) ?_
      refine LS.vv rfl rfl (by decide) (Val.pickF rfl hg2 rfl) ?_
      refine LS.nil ?_
      first | refine W.condD rfl (fun hc3 => ?_) (fun hc3 => ?_) | refine W.cond rfl (fun hc3 => ?_) (fun hc3 => ?_)
      ·
        refine W.seqR ?_
        refine LS.vv rfl rfl (by decide) (Val.cast (v := .int .i64 ((4 : Nat) : Int)) (Val.assign rfl) rfl) ?_
        refine LS.nil ?_
        refine W.ret ?_
        refine thenP_ret ?_
        refine ret1 (by first | exact .inl rfl | exact .inr rfl) rfl ?_
        first | exact ⟨0, rfl, ⟨fun _ => ⟨⟨by omega, by omega, (show g < 2 ^ 17 from lt_of_shr ‹_›)⟩, by omega⟩, fun _ => rfl⟩, hB⟩ | exact ⟨4, rfl, ⟨fun h => by omega, fun h => by (exfalso; obtain ⟨⟨h1, h2, h3⟩, h4⟩ := h; first | omega | exact not_lt_of_shr (m := 17) ‹_› (by omega))⟩, hB⟩ | exact ⟨1, rfl, ⟨fun h => by omega, fun h => by (exfalso; obtain ⟨⟨h1, h2, h3⟩, h4⟩ := h; omega)⟩, hB⟩
      ·
        refine W.skip ?_
        refine thenP_normal ?_
        refine W.seq ?_
        refine W.seqR ?_
        refine LS.vv rfl rfl (by decide) (Val.move rfl) ?_
        refine LS.vv rfl rfl (by decide) (Val.gtr rfl rfl) ?_
        refine LS.nil ?_
        first | refine W.condD rfl (fun hc4 => ?_) (fun hc4 => ?_) | refine W.cond rfl (fun hc4 => ?_) (fun hc4 => ?_)
        ·
          refine W.seqR ?_
          refine LS.vv rfl rfl (by decide) (Val.cast (v := .int .i64 ((1 : Nat) : Int)) (Val.assign rfl) rfl) ?_
          refine LS.nil ?_
          refine W.ret ?_
          refine thenP_ret ?_
          refine ret1 (by first | exact .inl rfl | exact .inr rfl) rfl ?_
          first | exact ⟨0, rfl, ⟨fun _ => ⟨⟨by omega, by omega, (show g < 2 ^ 17 from lt_of_shr ‹_›)⟩, by omega⟩, fun _ => rfl⟩, hB⟩ | exact ⟨4, rfl, ⟨fun h => by omega, fun h => by (exfalso; obtain ⟨⟨h1, h2, h3⟩, h4⟩ := h; first | omega | exact not_lt_of_shr (m := 17) ‹_› (by omega))⟩, hB⟩ | exact ⟨1, rfl, ⟨fun h => by omega, fun h => by (exfalso; obtain ⟨⟨h1, h2, h3⟩, h4⟩ := h; omega)⟩, hB⟩
        ·
          refine W.skip ?_
          refine thenP_normal ?_
          refine W.seqR ?_
          refine LS.vv rfl rfl (by decide) (Val.cast (v := .int .i64 ((0 : Nat) : Int)) (Val.assign rfl) rfl) ?_
          refine LS.nil ?_
          refine W.ret ?_
          refine ret1 (by first | exact .inl rfl | exact .inr rfl) rfl ?_
          first | exact ⟨0, rfl, ⟨fun _ => ⟨⟨by omega, by omega, (show g < 2 ^ 17 from lt_of_shr ‹_›)⟩, by omega⟩, fun _ => rfl⟩, hB⟩ | exact ⟨4, rfl, ⟨fun h => by omega, fun h => by (exfalso; obtain ⟨⟨h1, h2, h3⟩, h4⟩ := h; first | omega | exact not_lt_of_shr (m := 17) ‹_› (by omega))⟩, hB⟩ | exact ⟨1, rfl, ⟨fun h => by omega, fun h => by (exfalso; obtain ⟨⟨h1, h2, h3⟩, h4⟩ := h; omega)⟩, hB⟩

theorem rest_any (g : Nat) (bs : List Bool) (p : Option Addr) (c : Nat) (w0 : World) (hr : Rd w0 p (bv bs)) (hg : OkG g) (hl : bs.length ≤ 100000) :
    CallsV Try.prog 56 #[.int .u32 (g : Int), .slice p bs.length c] w0 (fun v w => v = .int .u32 (restOf g (bitLen g - 1) bs : Int) ∧ Below w0.heap.size w0 w) := by
  refine enter1 Try.func56 rfl Try.ntmps56 (by simp) rfl ?_
  have hB := Below.refl w0.heap.size w0
  simp only [argLoc, Nat.zero_add]
  have hd := hg.deg
  have hd1 := hd.pos
  have hd2 := hd.le
  have hg3 := hg.2.2
  refine W.seqR ?_
  refine LS.vv rfl rfl (by decide) (Val.cast (v := .int .u32 ((0 : Nat) : Int)) (Val.assign rfl) rfl) ?_
  refine LS.nil ?_
  refine W.seqR ?_
  refine LS.vv rfl rfl (by decide) (Val.cast (v := .int .u32 ((0 : Nat) : Int)) (Val.assign rfl) rfl) ?_
  refine LS.nil ?_
  refine W.seq ?_
  refine W.seqR ?_
  refine LS.vv rfl rfl (by decide) (Val.move rfl) ?_
  refine LS.vv rfl rfl (by decide) (Val.len Try.underlying35 rfl) ?_
  refine LS.vv rfl rfl (by decide) (Val.cast (v := .int .i64 ((0 : Nat) : Int)) (Val.move rfl) rfl) ?_
  refine LS.nil ?_
  refine W.block ?_
  refine W.loop (α := Nat) (fun k => [(5, .int .u32 (restTo g (bitLen g - 1) bs k : Int)), (10, .int .i64 (k : Int))]) [(0, _), (8, _), (9, _)] (fun k w => k ≤ bs.length ∧ Below w0.heap.size w0 w) (fun k => bs.length - k) (0) (Sub.cons rfl (Sub.cons rfl (Sub.nil _))) (Sub.cons rfl (Sub.cons rfl (Sub.cons rfl (Sub.nil _)))) ?_ ?_
  · exact ⟨Nat.zero_le _, hB⟩
  rintro k w1 ⟨hk, hB⟩
  simp only [List.cons_append, List.nil_append]
  have hlt := restTo_lt hd bs k
  have hp16 : 2 ^ (bitLen g - 1) ≤ 65536 := Nat.pow_le_pow_right (n := 2) (j := 16) (by omega) hd2
  have hsh : restTo g (bitLen g - 1) bs k <<< 1 ≤ 131072 := by (rw [Nat.shiftLeft_eq]; omega)
  have hor : restTo g (bitLen g - 1) bs k <<< 1 ||| 1 < 2 ^ 18 := Nat.or_lt_two_pow (by omega) (by omega)
  have hstep := restTo_succ g (bitLen g - 1) bs k
  unfold stepR shiftIn at hstep
  clear hlt
  refine W.seqR ?_
  refine LS.vv rfl rfl (by decide) (Val.lss rfl rfl) ?_
  refine LS.nil ?_
  refine W.seq ?_
  first | refine W.condD rfl (fun hc1 => ?_) (fun hc1 => ?_) | refine W.cond rfl (fun hc1 => ?_) (fun hc1 => ?_)
  ·
    refine W.skip ?_
    refine thenP_normal ?_
    refine W.seq ?_
    refine W.block ?_
    refine W.seqR ?_
    refine LS.vv rfl rfl (by decide) (Val.index1 Try.underlying35 elem4 rfl rfl (by omega) hr (bv_lt (by omega))) ?_
    refine LS.m rfl (Step.load rfl rfl (by decide) flat4 rfl (hr.below hB) (bv_at (by omega)) ?_)
    refine LS.vv rfl rfl (by decide) (Val.assign rfl) ?_
    refine LS.nil ?_
    refine W.seqR ?_
    refine LS.vv rfl rfl (by decide) (Val.move rfl) ?_
    refine LS.vv rfl rfl (by decide) (Val.shlU32 (j := 1) rfl rfl (by omega) (by omega)) ?_
    refine LS.vv rfl rfl (by decide) (Val.assign rfl) ?_
    refine LS.nil ?_
    refine W.seq ?_
    refine W.seqR ?_
    refine LS.vv rfl rfl (by decide) (Val.move rfl) ?_
    refine LS.nil ?_
    first | refine W.condD rfl (fun hc2 => ?_) (fun hc2 => ?_) | refine W.cond rfl (fun hc2 => ?_) (fun hc2 => ?_)
    ·
      refine W.reg ?_
      refine LS.vv rfl rfl (by decide) (Val.move rfl) ?_
      refine LS.vv rfl rfl (by decide) (Val.orU32 (j := 1) rfl rfl (by omega) (by omega)) ?_
      refine LS.vv rfl rfl (by decide) (Val.assign rfl) ?_
      refine LS.nil ?_
      refine thenP_normal ?_
      refine W.seqR ?_
      refine LS.vv rfl rfl (by decide) (Val.move rfl) ?_
      refine LS.vv rfl rfl (by decide) (Val.move rfl) ?_
      refine LS.m rfl (Step.call body55 rfl rfl (by decide) rfl (CallsV.mono (degree_any g _ hg) ?_))
      rintro _ w2 ⟨rfl, hb2⟩
      replace hB := hB.trans (hb2.mono hB.size)
      refine LS.vv rfl rfl (by decide) (Val.shr rfl rfl (by simp only [IntKind.bits]; omega)) ?_
      refine LS.vv rfl rfl (by decide) (Val.eql rfl rfl) ?_
      refine LS.nil ?_
      first | refine W.condD rfl (fun hc3 => ?_) (fun hc3 => ?_) | refine W.cond rfl (fun hc3 => ?_) (fun hc3 => ?_)
      ·
        refine W.reg ?_
        refine LS.vv rfl rfl (by decide) (Val.move rfl) ?_
        refine LS.vv rfl rfl (by decide) (Val.move rfl) ?_
        refine LS.vv rfl rfl (by decide) (Val.xorU32 rfl rfl (by omega) (by omega)) ?_
        refine LS.vv rfl rfl (by decide) (Val.assign rfl) ?_
        refine LS.nil ?_
        refine inBlk_normal ?_
        refine thenP_normal ?_
        refine W.reg ?_
        first | refine LS.vv rfl rfl (by decide) (Val.addN (j := 1) rfl rfl (by omega)) ?_ | refine LS.vv rfl rfl (by decide) (Val.add64 rfl rfl (by omega)) ?_
        refine LS.vv rfl rfl (by decide) (Val.move rfl) ?_
        refine LS.nil ?_
        refine thenP_normal ?_
        refine ⟨k + 1, ?_, ?_, ⟨by omega, hB⟩, by omega⟩
        · refine Sub.cons' rfl ?_ (Sub.cons rfl (Sub.nil _))
          refine congrArg (Value.int .u32) (congrArg Int.ofNat ?_)
          rw [hstep]
          simp only [‹gb bs k = _›, Bool.false_eq_true, if_true, if_false]
          first | rw [if_pos (by omega)] | rw [if_neg (by omega)]
        · repeat (first | exact Sub.nil _ | refine Sub.cons rfl ?_)
      ·
        refine W.skip ?_
        refine inBlk_normal ?_
        refine thenP_normal ?_
        refine W.reg ?_
        first | refine LS.vv rfl rfl (by decide) (Val.addN (j := 1) rfl rfl (by omega)) ?_ | refine LS.vv rfl rfl (by decide) (Val.add64 rfl rfl (by omega)) ?_
        refine LS.vv rfl rfl (by decide) (Val.move rfl) ?_
        refine LS.nil ?_
        refine thenP_normal ?_
        refine ⟨k + 1, ?_, ?_, ⟨by omega, hB⟩, by omega⟩
        · refine Sub.cons' rfl ?_ (Sub.cons rfl (Sub.nil _))
          refine congrArg (Value.int .u32) (congrArg Int.ofNat ?_)
          rw [hstep]
          simp only [‹gb bs k = _›, Bool.false_eq_true, if_true, if_false]
          first | rw [if_pos (by omega)] | rw [if_neg (by omega)]
        · repeat (first | exact Sub.nil _ | refine Sub.cons rfl ?_)
    ·
      refine W.skip ?_
      refine thenP_normal ?_
      refine W.seqR ?_
      refine LS.vv rfl rfl (by decide) (Val.move rfl) ?_
      refine LS.vv rfl rfl (by decide) (Val.move rfl) ?_
      refine LS.m rfl (Step.call body55 rfl rfl (by decide) rfl (CallsV.mono (degree_any g _ hg) ?_))
      rintro _ w3 ⟨rfl, hb3⟩
      replace hB := hB.trans (hb3.mono hB.size)
      refine LS.vv rfl rfl (by decide) (Val.shr rfl rfl (by simp only [IntKind.bits]; omega)) ?_
      refine LS.vv rfl rfl (by decide) (Val.eql rfl rfl) ?_
      refine LS.nil ?_
      first | refine W.condD rfl (fun hc4 => ?_) (fun hc4 => ?_) | refine W.cond rfl (fun hc4 => ?_) (fun hc4 => ?_)
      ·
        refine W.reg ?_
        refine LS.vv rfl rfl (by decide) (Val.move rfl) ?_
        refine LS.vv rfl rfl (by decide) (Val.move rfl) ?_
        refine LS.vv rfl rfl (by decide) (Val.xorU32 rfl rfl (by omega) (by omega)) ?_
        refine LS.vv rfl rfl (by decide) (Val.assign rfl) ?_
        refine LS.nil ?_
        refine inBlk_normal ?_
        refine thenP_normal ?_
        refine W.reg ?_
        first | refine LS.vv rfl rfl (by decide) (Val.addN (j := 1) rfl rfl (by omega)) ?_ | refine LS.vv rfl rfl (by decide) (Val.add64 rfl rfl (by omega)) ?_
        refine LS.vv rfl rfl (by decide) (Val.move rfl) ?_
        refine LS.nil ?_
        refine thenP_normal ?_
        refine ⟨k + 1, ?_, ?_, ⟨by omega, hB⟩, by omega⟩
        · refine Sub.cons' rfl ?_ (Sub.cons rfl (Sub.nil _))
          refine congrArg (Value.int .u32) (congrArg Int.ofNat ?_)
          rw [hstep]
          simp only [‹gb bs k = _›, Bool.false_eq_true, if_true, if_false]
          first | rw [if_pos (by omega)] | rw [if_neg (by omega)]
        · repeat (first | exact Sub.nil _ | refine Sub.cons rfl ?_)
      ·
        refine W.skip ?_
        refine inBlk_normal ?_
        refine thenP_normal ?_
        refine W.reg ?_
        first | refine LS.vv rfl rfl (by decide) (Val.addN (j := 1) rfl rfl (by omega)) ?_ | refine LS.vv rfl rfl (by decide) (Val.add64 rfl rfl (by omega)) ?_
        refine LS.vv rfl rfl (by decide) (Val.move rfl) ?_
        refine LS.nil ?_
        refine thenP_normal ?_
        refine ⟨k + 1, ?_, ?_, ⟨by omega, hB⟩, by omega⟩
        · refine Sub.cons' rfl ?_ (Sub.cons rfl (Sub.nil _))
          refine congrArg (Value.int .u32) (congrArg Int.ofNat ?_)
          rw [hstep]
          simp only [‹gb bs k = _›, Bool.false_eq_true, if_true, if_false]
          first | rw [if_pos (by omega)] | rw [if_neg (by omega)]
        · repeat (first | exact Sub.nil _ | refine Sub.cons rfl ?_)
  ·
    refine W.exit ?_
    refine thenP_exit ?_
    refine thenP_exit ?_
    refine inBlk_exit ?_
    refine thenP_normal ?_
    refine W.seqR ?_
    refine LS.vv rfl rfl (by decide) (Val.move rfl) ?_
    refine LS.vv rfl rfl (by decide) (Val.assign rfl) ?_
    refine LS.nil ?_
    refine W.ret ?_
    refine ret1 (by first | exact .inl rfl | exact .inr rfl) rfl ?_
    exact ⟨by rw [restOf, show k = bs.length by omega], hB⟩

end Go.Proofs.Ytnaebllojkodbaa
