/-
  Sorting numbers: pivots and patterns.
-/
import Derived.Test.YtjmpkmomlpgbdaaPdq2
import Derived.Test.YtjmpkmomlpgbdaaVu64b
import Derived.Test.YtjmpkmomlpgbdaaLenPlain
import Derived.Test.YtjmpkmomlpgbdaaVz3
namespace Go.Proofs.Ytjmpkmomlpgbdaa
open Go Go.RowKit V
set_option linter.unusedVariables false
set_option linter.unusedSimpArgs false

theorem len64_any (x : Nat) (w0 : World) (hx : x < 4294967296) :
    CallsV Try.prog 51 #[.int .u64 (x : Int)] w0 (fun v w => v = .int .i64 (bitLen x : Int) ∧ Below w0.heap.size w0 w) := by
  refine enter1 Try.func51 rfl Try.ntmps51 (by simp) rfl ?_
  have hB := Below.refl w0.heap.size w0
  simp only [argLoc]
  have s1 : x >>> 16 < 65536 := by omega
  have s2 : x >>> 16 >>> 8 < 256 := by omega
  have b1 := bitLen_le (x := x >>> 16 >>> 8) (k := 8) s2
  have b2 := bitLen_le (x := x >>> 16) (k := 16) s1
  have b3 := bitLen_le (x := x) (k := 32) hx
  have b4 := bitLen_le (x := x >>> 8) (k := 24) (by omega)
  have e16 : 65536 ≤ x → bitLen x = 16 + bitLen (x >>> 16) := fun h => bitLen_unique (isLen_shift (k := 16) (by omega) (bitLen_is _))
  have e8 : 256 ≤ x → bitLen x = 8 + bitLen (x >>> 8) := fun h => bitLen_unique (isLen_shift (k := 8) (by omega) (bitLen_is _))
  have e24 : 256 ≤ x >>> 16 → bitLen (x >>> 16) = 8 + bitLen (x >>> 16 >>> 8) := fun h => bitLen_unique (isLen_shift (k := 8) (by omega) (bitLen_is _))
  refine W.seqR ?_
  refine LS.vv rfl rfl (by decide) (Val.cast (v := .int .i64 ((0 : Nat) : Int)) (Val.assign rfl) rfl) ?_
  refine LS.nil ?_
  refine W.seq ?_
  refine W.seqR ?_
  refine LS.vv rfl rfl (by decide) (Val.move rfl) ?_
  refine LS.vv rfl rfl (by decide) (Val.geq rfl rfl) ?_
  refine LS.nil ?_
  first | refine W.condD rfl (fun hc1 => ?_) (fun hc1 => ?_) | refine W.cond rfl (fun hc1 => ?_) (fun hc1 => ?_)
  ·
    exfalso; omega
  ·
    refine W.skip ?_
    refine thenP_normal ?_
    refine W.seq ?_
    refine W.seqR ?_
    refine LS.vv rfl rfl (by decide) (Val.move rfl) ?_
    refine LS.vv rfl rfl (by decide) (Val.geq rfl rfl) ?_
    refine LS.nil ?_
    first | refine W.condD rfl (fun hc2 => ?_) (fun hc2 => ?_) | refine W.cond rfl (fun hc2 => ?_) (fun hc2 => ?_)
    ·
      refine W.seqR ?_
      refine LS.vv rfl rfl (by decide) (Val.move rfl) ?_
      refine LS.vv rfl rfl (by decide) (Val.shr (j := 16) rfl rfl (by simp only [IntKind.bits]; omega)) ?_
      refine LS.vv rfl rfl (by decide) (Val.assign rfl) ?_
      refine LS.nil ?_
      refine W.reg ?_
      refine LS.vv rfl rfl (by decide) (Val.move rfl) ?_
      first | refine LS.vv rfl rfl (by decide) (Val.addN (j := 16) rfl rfl (by omega)) ?_ | refine LS.vv rfl rfl (by decide) (Val.add64 rfl rfl (by omega)) ?_
      refine LS.vv rfl rfl (by decide) (Val.assign rfl) ?_
      refine LS.nil ?_
      refine thenP_normal ?_
      refine W.seq ?_
      refine W.seqR ?_
      refine LS.vv rfl rfl (by decide) (Val.move rfl) ?_
      refine LS.vv rfl rfl (by decide) (Val.geq rfl rfl) ?_
      refine LS.nil ?_
      first | refine W.condD rfl (fun hc3 => ?_) (fun hc3 => ?_) | refine W.cond rfl (fun hc3 => ?_) (fun hc3 => ?_)
      ·
        refine W.seqR ?_
        refine LS.vv rfl rfl (by decide) (Val.move rfl) ?_
        refine LS.vv rfl rfl (by decide) (Val.shr (j := 8) rfl rfl (by simp only [IntKind.bits]; omega)) ?_
        refine LS.vv rfl rfl (by decide) (Val.assign rfl) ?_
        refine LS.nil ?_
        refine W.reg ?_
        refine LS.vv rfl rfl (by decide) (Val.move rfl) ?_
        first | refine LS.vv rfl rfl (by decide) (Val.addN (j := 8) rfl rfl (by omega)) ?_ | refine LS.vv rfl rfl (by decide) (Val.add64 rfl rfl (by omega)) ?_
        refine LS.vv rfl rfl (by decide) (Val.assign rfl) ?_
        refine LS.nil ?_
        refine thenP_normal ?_
        refine W.seqR ?_
        refine LS.vv rfl rfl (by decide) (Val.move rfl) ?_
        refine LS.vv rfl rfl (by decide) (Val.move rfl) ?_
        refine LS.vv rfl rfl (by decide) (Val.conv rfl Try.underlying73 Try.underlying5 (IntWalk.u8_in _ (by omega))) ?_
        refine LS.vv rfl rfl (by decide) (Val.indexTab (f := bitLen) Try.underlying9 (by kernel_rfl) rfl (by omega)) ?_
        refine LS.vv rfl rfl (by decide) (Val.conv rfl Try.underlying5 Try.underlying3 (IntWalk.i64_in _ (by omega))) ?_
        first | refine LS.vv rfl rfl (by decide) (Val.addN rfl rfl (by omega)) ?_ | refine LS.vv rfl rfl (by decide) (Val.add64 rfl rfl (by omega)) ?_
        refine LS.vv rfl rfl (by decide) (Val.assign rfl) ?_
        refine LS.nil ?_
        refine W.ret ?_
        refine ret1 (by first | exact .inl rfl | exact .inr rfl) rfl ?_
        refine ⟨congrArg (Value.int .i64) ?_, hB⟩
        omega
      ·
        refine W.skip ?_
        refine thenP_normal ?_
        refine W.seqR ?_
        refine LS.vv rfl rfl (by decide) (Val.move rfl) ?_
        refine LS.vv rfl rfl (by decide) (Val.move rfl) ?_
        refine LS.vv rfl rfl (by decide) (Val.conv rfl Try.underlying73 Try.underlying5 (IntWalk.u8_in _ (by omega))) ?_
        refine LS.vv rfl rfl (by decide) (Val.indexTab (f := bitLen) Try.underlying9 (by kernel_rfl) rfl (by omega)) ?_
        refine LS.vv rfl rfl (by decide) (Val.conv rfl Try.underlying5 Try.underlying3 (IntWalk.i64_in _ (by omega))) ?_
        first | refine LS.vv rfl rfl (by decide) (Val.addN rfl rfl (by omega)) ?_ | refine LS.vv rfl rfl (by decide) (Val.add64 rfl rfl (by omega)) ?_
        refine LS.vv rfl rfl (by decide) (Val.assign rfl) ?_
        refine LS.nil ?_
        refine W.ret ?_
        refine ret1 (by first | exact .inl rfl | exact .inr rfl) rfl ?_
        refine ⟨congrArg (Value.int .i64) ?_, hB⟩
        omega
    ·
      refine W.skip ?_
      refine thenP_normal ?_
      refine W.seq ?_
      refine W.seqR ?_
      refine LS.vv rfl rfl (by decide) (Val.move rfl) ?_
      refine LS.vv rfl rfl (by decide) (Val.geq rfl rfl) ?_
      refine LS.nil ?_
      first | refine W.condD rfl (fun hc4 => ?_) (fun hc4 => ?_) | refine W.cond rfl (fun hc4 => ?_) (fun hc4 => ?_)
      ·
        refine W.seqR ?_
        refine LS.vv rfl rfl (by decide) (Val.move rfl) ?_
        refine LS.vv rfl rfl (by decide) (Val.shr (j := 8) rfl rfl (by simp only [IntKind.bits]; omega)) ?_
        refine LS.vv rfl rfl (by decide) (Val.assign rfl) ?_
        refine LS.nil ?_
        refine W.reg ?_
        refine LS.vv rfl rfl (by decide) (Val.move rfl) ?_
        first | refine LS.vv rfl rfl (by decide) (Val.addN (j := 8) rfl rfl (by omega)) ?_ | refine LS.vv rfl rfl (by decide) (Val.add64 rfl rfl (by omega)) ?_
        refine LS.vv rfl rfl (by decide) (Val.assign rfl) ?_
        refine LS.nil ?_
        refine thenP_normal ?_
        refine W.seqR ?_
        refine LS.vv rfl rfl (by decide) (Val.move rfl) ?_
        refine LS.vv rfl rfl (by decide) (Val.move rfl) ?_
        refine LS.vv rfl rfl (by decide) (Val.conv rfl Try.underlying73 Try.underlying5 (IntWalk.u8_in _ (by omega))) ?_
        refine LS.vv rfl rfl (by decide) (Val.indexTab (f := bitLen) Try.underlying9 (by kernel_rfl) rfl (by omega)) ?_
        refine LS.vv rfl rfl (by decide) (Val.conv rfl Try.underlying5 Try.underlying3 (IntWalk.i64_in _ (by omega))) ?_
        first | refine LS.vv rfl rfl (by decide) (Val.addN rfl rfl (by omega)) ?_ | refine LS.vv rfl rfl (by decide) (Val.add64 rfl rfl (by omega)) ?_
        refine LS.vv rfl rfl (by decide) (Val.assign rfl) ?_
        refine LS.nil ?_
        refine W.ret ?_
        refine ret1 (by first | exact .inl rfl | exact .inr rfl) rfl ?_
        refine ⟨congrArg (Value.int .i64) ?_, hB⟩
        omega
      ·
        refine W.skip ?_
        refine thenP_normal ?_
        refine W.seqR ?_
        refine LS.vv rfl rfl (by decide) (Val.move rfl) ?_
        refine LS.vv rfl rfl (by decide) (Val.move rfl) ?_
        refine LS.vv rfl rfl (by decide) (Val.conv rfl Try.underlying73 Try.underlying5 (IntWalk.u8_in _ (by omega))) ?_
        refine LS.vv rfl rfl (by decide) (Val.indexTab (f := bitLen) Try.underlying9 (by kernel_rfl) rfl (by omega)) ?_
        refine LS.vv rfl rfl (by decide) (Val.conv rfl Try.underlying5 Try.underlying3 (IntWalk.i64_in _ (by omega))) ?_
        first | refine LS.vv rfl rfl (by decide) (Val.addN rfl rfl (by omega)) ?_ | refine LS.vv rfl rfl (by decide) (Val.add64 rfl rfl (by omega)) ?_
        refine LS.vv rfl rfl (by decide) (Val.assign rfl) ?_
        refine LS.nil ?_
        refine W.ret ?_
        refine ret1 (by first | exact .inl rfl | exact .inr rfl) rfl ?_
        refine ⟨congrArg (Value.int .i64) ?_, hB⟩
        omega

theorem blen_any (x : Nat) (w0 : World) (hx : x < 4294967296) :
    CallsV Try.prog 37 #[.int .u64 (x : Int)] w0 (fun v w => v = .int .i64 (bitLen x : Int) ∧ Below w0.heap.size w0 w) := by
  refine enter1 Try.func37 rfl Try.ntmps37 (by simp) rfl ?_
  have hB := Below.refl w0.heap.size w0
  simp only [argLoc]
  refine W.seqR ?_
  refine LS.vv rfl rfl (by decide) (Val.cast (v := .int .i64 ((0 : Nat) : Int)) (Val.assign rfl) rfl) ?_
  refine LS.nil ?_
  refine W.seq ?_
  refine W.condF rfl ?_
  refine W.skip ?_
  refine thenP_normal ?_
  refine W.seqR ?_
  refine LS.vv rfl rfl (by decide) (Val.move rfl) ?_
  refine LS.m rfl (Step.call body51 rfl rfl (by decide) rfl (CallsV.mono (len64_any x _ hx) ?_))
  rintro _ w1 ⟨rfl, hb1⟩
  replace hB := hB.trans (hb1.mono hB.size)
  refine LS.vv rfl rfl (by decide) (Val.assign rfl) ?_
  refine LS.nil ?_
  refine W.ret ?_
  refine ret1 (by first | exact .inl rfl | exact .inr rfl) rfl ?_
  exact ⟨rfl, hB⟩

theorem npo2_any (x : Nat) (w0 : World) (hx : x ≤ 1000000) :
    CallsV Try.prog 71 #[.int .i64 (x : Int)] w0 (fun v w => v = .int .u64 ((2 ^ bitLen x : Nat) : Int) ∧ Below w0.heap.size w0 w) := by
  refine enter1 Try.func71 rfl Try.ntmps71 (by simp) rfl ?_
  have hB := Below.refl w0.heap.size w0
  simp only [argLoc]
  have hl := bitLen_le (x := x) (k := 20) (by omega)
  have hp2 : 2 ^ bitLen x ≤ 2 ^ 20 := Nat.pow_le_pow_right (by omega) hl
  refine W.seqR ?_
  refine LS.vv rfl rfl (by decide) (Val.cast (v := .int .u64 ((0 : Nat) : Int)) (Val.assign rfl) rfl) ?_
  refine LS.nil ?_
  refine W.seqR ?_
  refine LS.vv rfl rfl (by decide) (Val.move rfl) ?_
  refine LS.vv rfl rfl (by decide) (Val.conv rfl Try.underlying3 Try.underlying26 (IntWalk.u64_in _ (by omega))) ?_
  refine LS.m rfl (Step.call body37 rfl rfl (by decide) rfl (CallsV.mono (blen_any x _ (by omega)) ?_))
  rintro _ w1 ⟨rfl, hb1⟩
  replace hB := hB.trans (hb1.mono hB.size)
  refine LS.vv rfl rfl (by decide) (Val.cast (v := .int .u64 ((2 ^ bitLen x : Nat) : Int)) (Val.shlW (i := 1) rfl rfl (by omega)) (by rw [Nat.one_shiftLeft, Nat.mod_eq_of_lt (by omega)])) ?_
  refine LS.vv rfl rfl (by decide) (Val.assign rfl) ?_
  refine LS.nil ?_
  refine W.ret ?_
  refine ret1 (by first | exact .inl rfl | exact .inr rfl) rfl ?_
  exact ⟨rfl, hB⟩

theorem order2_u32 (l : List Nat) (p : Option Addr) (n c g : Nat) (S : List Ob) (a b s : Nat) (Wo w0 : World) (hr : Rd Wo p (uv l)) (hn : l.length = n) (hn2 : n ≤ 1000000) (hW : Below Wo.heap.size Wo w0) (hM0 : Mem w0 Wo.heap.size (⟨3, some ⟨g, 0, none⟩, 1, 1, [.int .i64 ((s : Nat) : Int)]⟩ :: S)) (hs : s ≤ 2000) (ha : a < n) (hb : b < n) :
    CallsV Try.prog 77 #[.slice p n c, .int .i64 (a : Int), .int .i64 (b : Int), .pointer (some ⟨g, 0, none⟩)] w0 (fun v w => ∃ x y s2 : Nat, v = .tuple #[.int .i64 (x : Int), .int .i64 (y : Int)] ∧ (x = a ∧ y = b ∨ x = b ∧ y = a) ∧ s2 ≤ s + 1 ∧ Mem w Wo.heap.size (⟨3, some ⟨g, 0, none⟩, 1, 1, [.int .i64 ((s2 : Nat) : Int)]⟩ :: S) ∧ Below Wo.heap.size Wo w) := by
  refine enter2 Try.func77 rfl Try.ntmps77 (by simp) rfl ?_
  have hB := hW
  simp only [argLoc, Nat.zero_add, Nat.reduceAdd]
  have hM := hM0
  subst hn
  refine W.seqR ?_
  refine LS.vv rfl rfl (by decide) (Val.cast (v := .int .i64 ((0 : Nat) : Int)) (Val.assign rfl) rfl) ?_
  refine LS.vv rfl rfl (by decide) (Val.cast (v := .int .i64 ((0 : Nat) : Int)) (Val.assign rfl) rfl) ?_
  refine LS.nil ?_
  refine W.seq ?_
  refine W.seqF 9 [(0, true), (1, true), (2, true), (3, true), (4, true), (5, true), (6, true), (7, true), (8, false)] mixed (by kernel_rfl) hB hM ?_
  replace hB := hB.drew
  replace hM := hM.drew
  refine DF.vv rfl rfl rfl (by decide) (Val.move rfl) ?_
  refine DF.vv rfl rfl rfl (by decide) (Val.move rfl) ?_
  refine DF.vv rfl rfl rfl (by decide) (Val.index1 Try.underlying32 elem37 rfl rfl (by omega) ((hr.below hB)) (uv_lt (by omega))) ?_
  refine DF.vv rfl rfl rfl (by decide) (Val.load flat37 rfl (fun _ h => (hr.below h.1)) (uv_at (by omega))) ?_
  refine DF.vv rfl rfl rfl (by decide) (Val.move rfl) ?_
  refine DF.vv rfl rfl rfl (by decide) (Val.move rfl) ?_
  refine DF.vv rfl rfl rfl (by decide) (Val.index1 Try.underlying32 elem37 rfl rfl (by omega) ((hr.below hB)) (uv_lt (by omega))) ?_
  refine DF.vv rfl rfl rfl (by decide) (Val.load flat37 rfl (fun _ h => (hr.below h.1)) (uv_at (by omega))) ?_
  refine DF.m rfl rfl (Step.call body66 rfl rfl (by decide) rfl (CallsV.mono (less_u32 (gn l b) (gn l a) _) ?_))
  rintro _ w1 ⟨rfl, hb1⟩
  replace hM := hM.below hb1
  replace hB := hB.trans (hb1.mono hB.size)
  refine ⟨fun _ => ⟨hB, hM⟩, ?_⟩
  refine DF.nil ?_
  first | refine W.condD rfl (fun hc1 => ?_) (fun hc1 => ?_) | refine W.cond rfl (fun hc1 => ?_) (fun hc1 => ?_)
  ·
    refine W.seqR ?_
    refine LS.vv rfl rfl (by decide) (Val.move rfl) ?_
    refine LS.vv rfl rfl (by decide) (Val.nilCheck rfl) ?_
    refine LS.m rfl (Step.loadBox rfl rfl (by decide) flat3 rfl (hM.o0.rd) ?_)
    first | refine LS.vv rfl rfl (by decide) (Val.addN (j := 1) rfl rfl (by omega)) ?_ | refine LS.vv rfl rfl (by decide) (Val.add64 rfl rfl (by omega)) ?_
    refine LS.vv rfl rfl (by decide) (Val.nilCheck rfl) ?_
    refine LS.m rfl (Step.storeBox (B := Wo.heap.size) rfl rfl flat3 elem3 rfl rfl rfl (hM.o0) hB.size ?_)
    rintro w2 hO2 hg2 hbl2 hsz2
    replace hM := hM.s0 hg2 hO2 inl_block
    replace hB := hB.trans hbl2
    refine LS.nil ?_
    refine W.seqR ?_
    refine LS.vv rfl rfl (by decide) (Val.move rfl) ?_
    refine LS.vv rfl rfl (by decide) (Val.move rfl) ?_
    refine LS.vv rfl rfl (by decide) (Val.assign rfl) ?_
    refine LS.vv rfl rfl (by decide) (Val.assign rfl) ?_
    refine LS.nil ?_
    refine W.ret ?_
    refine thenP_ret ?_
    refine ret2 (by first | exact .inl rfl | exact .inr rfl) rfl rfl ?_
    first | exact ⟨b, a, s + 1, rfl, .inr ⟨rfl, rfl⟩, Nat.le_refl _, hM, hB⟩ | exact ⟨a, b, s, rfl, .inl ⟨rfl, rfl⟩, Nat.le_succ _, hM, hB⟩
  ·
    refine W.skip ?_
    refine thenP_normal ?_
    refine W.seqR ?_
    refine LS.vv rfl rfl (by decide) (Val.move rfl) ?_
    refine LS.vv rfl rfl (by decide) (Val.move rfl) ?_
    refine LS.vv rfl rfl (by decide) (Val.assign rfl) ?_
    refine LS.vv rfl rfl (by decide) (Val.assign rfl) ?_
    refine LS.nil ?_
    refine W.ret ?_
    refine ret2 (by first | exact .inl rfl | exact .inr rfl) rfl rfl ?_
    first | exact ⟨b, a, s + 1, rfl, .inr ⟨rfl, rfl⟩, Nat.le_refl _, hM, hB⟩ | exact ⟨a, b, s, rfl, .inl ⟨rfl, rfl⟩, Nat.le_succ _, hM, hB⟩

theorem median_u32 (l : List Nat) (p : Option Addr) (n c g : Nat) (S : List Ob) (a b d s : Nat) (Wo w0 : World) (hr : Rd Wo p (uv l)) (hn : l.length = n) (hn2 : n ≤ 1000000) (hW : Below Wo.heap.size Wo w0) (hM0 : Mem w0 Wo.heap.size (⟨3, some ⟨g, 0, none⟩, 1, 1, [.int .i64 ((s : Nat) : Int)]⟩ :: S)) (hs : s ≤ 1000) (ha : a < n) (hb : b < n) (hd : d < n) :
    CallsV Try.prog 74 #[.slice p n c, .int .i64 (a : Int), .int .i64 (b : Int), .int .i64 (d : Int), .pointer (some ⟨g, 0, none⟩)] w0 (fun v w => ∃ m s2 : Nat, v = .int .i64 (m : Int) ∧ (m = a ∨ m = b ∨ m = d) ∧ s2 ≤ s + 3 ∧ Mem w Wo.heap.size (⟨3, some ⟨g, 0, none⟩, 1, 1, [.int .i64 ((s2 : Nat) : Int)]⟩ :: S) ∧ Below Wo.heap.size Wo w) := by
  refine enter1 Try.func74 rfl Try.ntmps74 (by simp) rfl ?_
  have hB := hW
  simp only [argLoc, Nat.zero_add, Nat.reduceAdd]
  have hM := hM0
  subst hn
  refine W.seqR ?_
  refine LS.vv rfl rfl (by decide) (Val.cast (v := .int .i64 ((0 : Nat) : Int)) (Val.assign rfl) rfl) ?_
  refine LS.nil ?_
  refine W.seqR ?_
  refine LS.vv rfl rfl (by decide) (Val.move rfl) ?_
  refine LS.vv rfl rfl (by decide) (Val.move rfl) ?_
  refine LS.vv rfl rfl (by decide) (Val.move rfl) ?_
  refine LS.vv rfl rfl (by decide) (Val.move rfl) ?_
  refine LS.m rfl (Step.call body77 rfl rfl (by decide) rfl (CallsV.mono (order2_u32 l p l.length c g S a b s Wo _ hr rfl hn2 hB hM (by omega) (by omega) (by omega)) ?_))
  rintro _ w1 ⟨x1, y1, s1, rfl, hxy1, hs1, hM1, hb1⟩
  replace hM := hM1
  replace hB := hb1
  refine LS.vv rfl rfl (by decide) (Val.move rfl) ?_
  refine LS.vv rfl rfl (by decide) (Val.extract rfl rfl) ?_
  refine LS.vv rfl rfl (by decide) (Val.extract rfl rfl) ?_
  refine LS.vv rfl rfl (by decide) (Val.assign rfl) ?_
  refine LS.vv rfl rfl (by decide) (Val.assign rfl) ?_
  refine LS.nil ?_
  refine W.seqR ?_
  refine LS.vv rfl rfl (by decide) (Val.move rfl) ?_
  refine LS.vv rfl rfl (by decide) (Val.move rfl) ?_
  refine LS.vv rfl rfl (by decide) (Val.move rfl) ?_
  refine LS.vv rfl rfl (by decide) (Val.move rfl) ?_
  refine LS.m rfl (Step.call body77 rfl rfl (by decide) rfl (CallsV.mono (order2_u32 l p l.length c g S y1 d s1 Wo _ hr rfl hn2 hB hM (by omega) (by omega) (by omega)) ?_))
  rintro _ w2 ⟨x2, y2, s2, rfl, hxy2, hs2, hM2, hb2⟩
  replace hM := hM2
  replace hB := hb2
  refine LS.vv rfl rfl (by decide) (Val.move rfl) ?_
  refine LS.vv rfl rfl (by decide) (Val.extract rfl rfl) ?_
  refine LS.vv rfl rfl (by decide) (Val.extract rfl rfl) ?_
  refine LS.vv rfl rfl (by decide) (Val.assign rfl) ?_
  refine LS.vv rfl rfl (by decide) (Val.assign rfl) ?_
  refine LS.nil ?_
  refine W.seqR ?_
  refine LS.vv rfl rfl (by decide) (Val.move rfl) ?_
  refine LS.vv rfl rfl (by decide) (Val.move rfl) ?_
  refine LS.vv rfl rfl (by decide) (Val.move rfl) ?_
  refine LS.vv rfl rfl (by decide) (Val.move rfl) ?_
  refine LS.m rfl (Step.call body77 rfl rfl (by decide) rfl (CallsV.mono (order2_u32 l p l.length c g S x1 x2 s2 Wo _ hr rfl hn2 hB hM (by omega) (by omega) (by omega)) ?_))
  rintro _ w3 ⟨x3, y3, s3, rfl, hxy3, hs3, hM3, hb3⟩
  replace hM := hM3
  replace hB := hb3
  refine LS.vv rfl rfl (by decide) (Val.move rfl) ?_
  refine LS.vv rfl rfl (by decide) (Val.extract rfl rfl) ?_
  refine LS.vv rfl rfl (by decide) (Val.extract rfl rfl) ?_
  refine LS.vv rfl rfl (by decide) (Val.assign rfl) ?_
  refine LS.vv rfl rfl (by decide) (Val.assign rfl) ?_
  refine LS.nil ?_
  refine W.seqR ?_
  refine LS.vv rfl rfl (by decide) (Val.move rfl) ?_
  refine LS.vv rfl rfl (by decide) (Val.assign rfl) ?_
  refine LS.nil ?_
  refine W.ret ?_
  refine ret1 (by first | exact .inl rfl | exact .inr rfl) rfl ?_
  exact ⟨_, s3, rfl, by omega, by omega, hM, hB⟩

theorem medianAdj_u32 (l : List Nat) (p : Option Addr) (n c g : Nat) (S : List Ob) (a s : Nat) (Wo w0 : World) (hr : Rd Wo p (uv l)) (hn : l.length = n) (hn2 : n ≤ 1000000) (hW : Below Wo.heap.size Wo w0) (hM0 : Mem w0 Wo.heap.size (⟨3, some ⟨g, 0, none⟩, 1, 1, [.int .i64 ((s : Nat) : Int)]⟩ :: S)) (hs : s ≤ 1000) (ha : 1 ≤ a) (hb : a + 1 < n) :
    CallsV Try.prog 73 #[.slice p n c, .int .i64 (a : Int), .pointer (some ⟨g, 0, none⟩)] w0 (fun v w => ∃ m s2 : Nat, v = .int .i64 (m : Int) ∧ a ≤ m + 1 ∧ m ≤ a + 1 ∧ s2 ≤ s + 3 ∧ Mem w Wo.heap.size (⟨3, some ⟨g, 0, none⟩, 1, 1, [.int .i64 ((s2 : Nat) : Int)]⟩ :: S) ∧ Below Wo.heap.size Wo w) := by
  refine enter1 Try.func73 rfl Try.ntmps73 (by simp) rfl ?_
  have hB := hW
  simp only [argLoc, Nat.zero_add, Nat.reduceAdd]
  have hM := hM0
  subst hn
  refine W.seqR ?_
  refine LS.vv rfl rfl (by decide) (Val.cast (v := .int .i64 ((0 : Nat) : Int)) (Val.assign rfl) rfl) ?_
  refine LS.nil ?_
  refine W.seqR ?_
  refine LS.vv rfl rfl (by decide) (Val.move rfl) ?_
  refine LS.vv rfl rfl (by decide) (Val.move rfl) ?_
  first | refine LS.vv rfl rfl (by decide) (Val.subN (j := 1) rfl rfl (by omega) (by omega)) ?_ | refine LS.vv rfl rfl (by decide) (Val.sub64 rfl rfl (by omega)) ?_
  refine LS.vv rfl rfl (by decide) (Val.move rfl) ?_
  refine LS.vv rfl rfl (by decide) (Val.move rfl) ?_
  first | refine LS.vv rfl rfl (by decide) (Val.addN (j := 1) rfl rfl (by omega)) ?_ | refine LS.vv rfl rfl (by decide) (Val.add64 rfl rfl (by omega)) ?_
  refine LS.vv rfl rfl (by decide) (Val.move rfl) ?_
  refine LS.m rfl (Step.call body74 rfl rfl (by decide) rfl (CallsV.mono (median_u32 l p l.length c g S (a - 1) a (a + 1) s Wo _ hr rfl hn2 hB hM (by omega) (by omega) (by omega) (by omega)) ?_))
  rintro _ w1 ⟨m1, s1, rfl, hm1, hs1, hM1, hb1⟩
  replace hM := hM1
  replace hB := hb1
  refine LS.vv rfl rfl (by decide) (Val.assign rfl) ?_
  refine LS.nil ?_
  refine W.ret ?_
  refine ret1 (by first | exact .inl rfl | exact .inr rfl) rfl ?_
  exact ⟨m1, s1, rfl, by omega, by omega, hs1, hM, hB⟩

theorem choosePivot_u32 (l : List Nat) (p : Option Addr) (n c a b : Nat) (w0 : World) (hr : Rd w0 p (uv l)) (hn : l.length = n) (hn2 : n ≤ 1000000) (hab : a + 12 < b) (hb : b ≤ n) :
    CallsV Try.prog 63 #[.slice p n c, .int .i64 (a : Int), .int .i64 (b : Int)] w0 (fun v w => ∃ pv h : Nat, v = .tuple #[.int .i64 (pv : Int), .int .i64 (h : Int)] ∧ a ≤ pv ∧ pv < b ∧ Below w0.heap.size w0 w) := by
  refine enter2 Try.func63 rfl Try.ntmps63 (by simp) rfl ?_
  have hB := Below.refl w0.heap.size w0
  simp only [argLoc, Nat.zero_add, Nat.reduceAdd]
  have hM := Mem.nil w0 w0.heap.size
  subst hn
  refine W.seqR ?_
  refine LS.vv rfl rfl (by decide) (Val.cast (v := .int .i64 ((0 : Nat) : Int)) (Val.assign rfl) rfl) ?_
  refine LS.vv rfl rfl (by decide) (Val.cast (v := .int .i64 ((0 : Nat) : Int)) (Val.assign rfl) rfl) ?_
  refine LS.nil ?_
  refine W.seqR ?_
  refine LS.vv rfl rfl (by decide) (Val.move rfl) ?_
  refine LS.vv rfl rfl (by decide) (Val.move rfl) ?_
  refine LS.vv rfl rfl (by decide) (Val.subN rfl rfl (by omega) (by omega)) ?_
  refine LS.vv rfl rfl (by decide) (Val.assign rfl) ?_
  refine LS.nil ?_
  refine W.seqR ?_
  refine LS.m rfl (Step.alloc rfl rfl (by decide) elem3 rfl (by decide) ?_)
  rintro w1 hO1 hg1 hbl1 hsz1
  replace hM := hM.add hB.size hbl1 hO1
  replace hB := hB.trans (hbl1.mono hB.size)
  skip
  refine LS.nil ?_
  refine W.seqR ?_
  refine LS.vv rfl rfl (by decide) (Val.move rfl) ?_
  refine LS.vv rfl rfl (by decide) (Val.move rfl) ?_
  first | refine LS.vv rfl rfl (by decide) (Val.quoN (j := 4) rfl rfl (by omega) (by omega)) ?_ | refine LS.vv rfl rfl (by decide) (Val.quo64 rfl rfl (by omega) (by omega)) ?_
  first | refine LS.vv rfl rfl (by decide) (Val.mulN (j := 1) rfl rfl (by omega)) ?_ | refine LS.vv rfl rfl (by decide) (Val.mul64 rfl rfl (by omega)) ?_
  first | refine LS.vv rfl rfl (by decide) (Val.addN rfl rfl (by omega)) ?_ | refine LS.vv rfl rfl (by decide) (Val.add64 rfl rfl (by omega)) ?_
  refine LS.vv rfl rfl (by decide) (Val.assign rfl) ?_
  refine LS.nil ?_
  refine W.seqR ?_
  refine LS.vv rfl rfl (by decide) (Val.move rfl) ?_
  refine LS.vv rfl rfl (by decide) (Val.move rfl) ?_
  first | refine LS.vv rfl rfl (by decide) (Val.quoN (j := 4) rfl rfl (by omega) (by omega)) ?_ | refine LS.vv rfl rfl (by decide) (Val.quo64 rfl rfl (by omega) (by omega)) ?_
  first | refine LS.vv rfl rfl (by decide) (Val.mulN (j := 2) rfl rfl (by omega)) ?_ | refine LS.vv rfl rfl (by decide) (Val.mul64 rfl rfl (by omega)) ?_
  first | refine LS.vv rfl rfl (by decide) (Val.addN rfl rfl (by omega)) ?_ | refine LS.vv rfl rfl (by decide) (Val.add64 rfl rfl (by omega)) ?_
  refine LS.vv rfl rfl (by decide) (Val.assign rfl) ?_
  refine LS.nil ?_
  refine W.seqR ?_
  refine LS.vv rfl rfl (by decide) (Val.move rfl) ?_
  refine LS.vv rfl rfl (by decide) (Val.move rfl) ?_
  first | refine LS.vv rfl rfl (by decide) (Val.quoN (j := 4) rfl rfl (by omega) (by omega)) ?_ | refine LS.vv rfl rfl (by decide) (Val.quo64 rfl rfl (by omega) (by omega)) ?_
  first | refine LS.vv rfl rfl (by decide) (Val.mulN (j := 3) rfl rfl (by omega)) ?_ | refine LS.vv rfl rfl (by decide) (Val.mul64 rfl rfl (by omega)) ?_
  first | refine LS.vv rfl rfl (by decide) (Val.addN rfl rfl (by omega)) ?_ | refine LS.vv rfl rfl (by decide) (Val.add64 rfl rfl (by omega)) ?_
  refine LS.vv rfl rfl (by decide) (Val.assign rfl) ?_
  refine LS.nil ?_
  refine W.seq ?_
  refine W.seqR ?_
  refine LS.vv rfl rfl (by decide) (Val.move rfl) ?_
  refine LS.vv rfl rfl (by decide) (Val.geq rfl rfl) ?_
  refine LS.nil ?_
  first | refine W.condD rfl (fun hc1 => ?_) (fun hc1 => ?_) | refine W.cond rfl (fun hc1 => ?_) (fun hc1 => ?_)
  ·
    refine W.mid (α := Nat × Nat × Nat × Nat) (fun g => [(10, .int .i64 (g.1 : Int)), (11, .int .i64 (g.2.1 : Int)), (12, .int .i64 (g.2.2.1 : Int))]) [(0, _), (9, _)] (fun g w => (a ≤ g.1 ∧ g.1 < b ∧ a ≤ g.2.1 ∧ g.2.1 < b ∧ a ≤ g.2.2.1 ∧ g.2.2.1 < b ∧ g.2.2.2 ≤ 9) ∧ Mem w w0.heap.size [⟨3, some ⟨w0.heap.size, 0, none⟩, 1, 1, [.int .i64 ((g.2.2.2 : Nat) : Int)]⟩] ∧ Below w0.heap.size w0 w) (Sub.cons rfl (Sub.cons rfl (Sub.nil _))) ?_ ?_
    ·
      refine W.seqR ?_
      refine LS.vv rfl rfl (by decide) (Val.move rfl) ?_
      refine LS.vv rfl rfl (by decide) (Val.geq rfl rfl) ?_
      refine LS.nil ?_
      first | refine W.condD rfl (fun hc2 => ?_) (fun hc2 => ?_) | refine W.cond rfl (fun hc2 => ?_) (fun hc2 => ?_)
      ·
        refine W.seqR ?_
        refine LS.vv rfl rfl (by decide) (Val.move rfl) ?_
        refine LS.vv rfl rfl (by decide) (Val.move rfl) ?_
        refine LS.m rfl (Step.call body73 rfl rfl (by decide) rfl (CallsV.mono (medianAdj_u32 l p l.length c _ [] (a + (b - a) / 4 * 1) 0 w0 _ hr rfl hn2 hB hM (by omega) (by omega) (by omega)) ?_))
        rintro _ w2 ⟨m1, s1, rfl, hml1, hmu1, hs1, hM2, hb2⟩
        replace hM := hM2
        replace hB := hb2
        refine LS.vv rfl rfl (by decide) (Val.assign rfl) ?_
        refine LS.nil ?_
        refine W.seqR ?_
        refine LS.vv rfl rfl (by decide) (Val.move rfl) ?_
        refine LS.vv rfl rfl (by decide) (Val.move rfl) ?_
        refine LS.m rfl (Step.call body73 rfl rfl (by decide) rfl (CallsV.mono (medianAdj_u32 l p l.length c _ [] (a + (b - a) / 4 * 2) s1 w0 _ hr rfl hn2 hB hM (by omega) (by omega) (by omega)) ?_))
        rintro _ w3 ⟨m2, s2, rfl, hml2, hmu2, hs2, hM3, hb3⟩
        replace hM := hM3
        replace hB := hb3
        refine LS.vv rfl rfl (by decide) (Val.assign rfl) ?_
        refine LS.nil ?_
        refine W.reg ?_
        refine LS.vv rfl rfl (by decide) (Val.move rfl) ?_
        refine LS.vv rfl rfl (by decide) (Val.move rfl) ?_
        refine LS.m rfl (Step.call body73 rfl rfl (by decide) rfl (CallsV.mono (medianAdj_u32 l p l.length c _ [] (a + (b - a) / 4 * 3) s2 w0 _ hr rfl hn2 hB hM (by omega) (by omega) (by omega)) ?_))
        rintro _ w4 ⟨m3, s3, rfl, hml3, hmu3, hs3, hM4, hb4⟩
        replace hM := hM4
        replace hB := hb4
        refine LS.vv rfl rfl (by decide) (Val.assign rfl) ?_
        refine LS.nil ?_
        refine thenP_normal ?_
        first
          | (refine ⟨(m1, m2, m3, s3), (Sub.cons rfl (Sub.cons rfl (Sub.cons rfl (Sub.nil _)))), (by repeat (first | exact Sub.nil _ | refine Sub.cons rfl ?_)), ⟨⟨by simp only; omega, by simp only; omega, by simp only; omega, by simp only; omega, by simp only; omega, by simp only; omega, by simp only; omega⟩, hM, hB⟩⟩)
          | (refine ⟨(a + (b - a) / 4 * 1, a + (b - a) / 4 * 2, a + (b - a) / 4 * 3, 0), (Sub.cons rfl (Sub.cons rfl (Sub.cons rfl (Sub.nil _)))), (by repeat (first | exact Sub.nil _ | refine Sub.cons rfl ?_)), ⟨⟨by simp only; omega, by simp only; omega, by simp only; omega, by simp only; omega, by simp only; omega, by simp only; omega, by simp only; omega⟩, hM, hB⟩⟩)
      ·
        refine W.skip ?_
        refine thenP_normal ?_
        first
          | (refine ⟨(m1, m2, m3, s3), (Sub.cons rfl (Sub.cons rfl (Sub.cons rfl (Sub.nil _)))), (by repeat (first | exact Sub.nil _ | refine Sub.cons rfl ?_)), ⟨⟨by simp only; omega, by simp only; omega, by simp only; omega, by simp only; omega, by simp only; omega, by simp only; omega, by simp only; omega⟩, hM, hB⟩⟩)
          | (refine ⟨(a + (b - a) / 4 * 1, a + (b - a) / 4 * 2, a + (b - a) / 4 * 3, 0), (Sub.cons rfl (Sub.cons rfl (Sub.cons rfl (Sub.nil _)))), (by repeat (first | exact Sub.nil _ | refine Sub.cons rfl ?_)), ⟨⟨by simp only; omega, by simp only; omega, by simp only; omega, by simp only; omega, by simp only; omega, by simp only; omega, by simp only; omega⟩, hM, hB⟩⟩)
    ·
      rintro ⟨i, j, k, s⟩ w5 ⟨⟨hi1, hi2, hj1, hj2, hk1, hk2, hs9⟩, hM, hB⟩
      simp only [List.cons_append, List.nil_append]
      try simp only at hM
      simp only at hi1 hi2 hj1 hj2 hk1 hk2 hs9
      refine W.reg ?_
      refine LS.vv rfl rfl (by decide) (Val.move rfl) ?_
      refine LS.vv rfl rfl (by decide) (Val.move rfl) ?_
      refine LS.vv rfl rfl (by decide) (Val.move rfl) ?_
      refine LS.vv rfl rfl (by decide) (Val.move rfl) ?_
      refine LS.m rfl (Step.call body74 rfl rfl (by decide) rfl (CallsV.mono (median_u32 l p l.length c _ [] i j k s w0 _ hr rfl hn2 hB hM (by omega) (by omega) (by omega) (by omega)) ?_))
      rintro _ w6 ⟨m4, s4, rfl, hm4, hs4, hM6, hb6⟩
      replace hM := hM6
      replace hB := hb6
      refine LS.vv rfl rfl (by decide) (Val.assign rfl) ?_
      refine LS.nil ?_
      refine thenP_normal ?_
      refine W.seqR ?_
      refine LS.m rfl (Step.loadBox rfl rfl (by decide) flat3 rfl (hM.o0.rd) ?_)
      refine LS.nil ?_
      refine W.block ?_
      refine W.seqR ?_
      refine LS.vv rfl rfl (by decide) (Val.eql rfl rfl) ?_
      refine LS.vv rfl rfl (by decide) (Val.assign rfl) ?_
      refine LS.nil ?_
      first | refine W.condD rfl (fun hc3 => ?_) (fun hc3 => ?_) | refine W.cond rfl (fun hc3 => ?_) (fun hc3 => ?_)
      ·
        refine W.seqR ?_
        refine LS.vv rfl rfl (by decide) (Val.move rfl) ?_
        refine LS.vv rfl rfl (by decide) (Val.assign rfl) ?_
        refine LS.vv rfl rfl (by decide) (Val.cast (v := .int .i64 ((1 : Nat) : Int)) (Val.assign rfl) rfl) ?_
        refine LS.nil ?_
        refine W.ret ?_
        refine inBlk_ret ?_
        refine ret2 (by first | exact .inl rfl | exact .inr rfl) rfl rfl ?_
        first | exact ⟨m4, 1, rfl, by omega, by omega, hB⟩ | exact ⟨m4, 2, rfl, by omega, by omega, hB⟩ | exact ⟨m4, 0, rfl, by omega, by omega, hB⟩
      ·
        refine W.seqR ?_
        refine LS.vv rfl rfl (by decide) (Val.eql rfl rfl) ?_
        refine LS.vv rfl rfl (by decide) (Val.assign rfl) ?_
        refine LS.nil ?_
        first | refine W.condD rfl (fun hc4 => ?_) (fun hc4 => ?_) | refine W.cond rfl (fun hc4 => ?_) (fun hc4 => ?_)
        ·
          refine W.seqR ?_
          refine LS.vv rfl rfl (by decide) (Val.move rfl) ?_
          refine LS.vv rfl rfl (by decide) (Val.assign rfl) ?_
          refine LS.vv rfl rfl (by decide) (Val.cast (v := .int .i64 ((2 : Nat) : Int)) (Val.assign rfl) rfl) ?_
          refine LS.nil ?_
          refine W.ret ?_
          refine inBlk_ret ?_
          refine ret2 (by first | exact .inl rfl | exact .inr rfl) rfl rfl ?_
          first | exact ⟨m4, 1, rfl, by omega, by omega, hB⟩ | exact ⟨m4, 2, rfl, by omega, by omega, hB⟩ | exact ⟨m4, 0, rfl, by omega, by omega, hB⟩
        ·
          refine W.seqR ?_
          refine LS.vv rfl rfl (by decide) (Val.move rfl) ?_
          refine LS.vv rfl rfl (by decide) (Val.assign rfl) ?_
          refine LS.vv rfl rfl (by decide) (Val.cast (v := .int .i64 ((0 : Nat) : Int)) (Val.assign rfl) rfl) ?_
          refine LS.nil ?_
          refine W.ret ?_
          refine inBlk_ret ?_
          refine ret2 (by first | exact .inl rfl | exact .inr rfl) rfl rfl ?_
          first | exact ⟨m4, 1, rfl, by omega, by omega, hB⟩ | exact ⟨m4, 2, rfl, by omega, by omega, hB⟩ | exact ⟨m4, 0, rfl, by omega, by omega, hB⟩
  ·
    exfalso; omega

theorem body72 : Body Try.prog 72 := ⟨_, Try.func72, by kernel_rfl, rfl⟩

theorem xorNext_any (g B x : Nat) (S : List Ob) (w0 : World) (hM0 : Mem w0 B (⟨89, some ⟨g, 0, none⟩, 1, 1, [.int .u64 ((x : Nat) : Int)]⟩ :: S)) (hB0 : B ≤ w0.heap.size) (hx : x < 2 ^ 64) :
    CallsV Try.prog 72 #[.pointer (some ⟨g, 0, none⟩)] w0 (fun v w => ∃ y : Nat, v = .int .u64 (y : Int) ∧ y < 2 ^ 64 ∧ Mem w B (⟨89, some ⟨g, 0, none⟩, 1, 1, [.int .u64 ((y : Nat) : Int)]⟩ :: S) ∧ Below B w0 w) := by
  refine enter1 Try.func72 rfl Try.ntmps72 (by simp) rfl ?_
  have hB := Below.refl B w0
  simp only [argLoc]
  have hM := hM0
  refine W.seqR ?_
  refine LS.vv rfl rfl (by decide) (Val.cast (v := .int .u64 ((0 : Nat) : Int)) (Val.assign rfl) rfl) ?_
  refine LS.nil ?_
  refine W.seqF 9 [(0, true), (1, true), (2, true), (3, true), (4, true), (5, true), (6, true), (7, true), (8, true), (9, false)] mixed (by kernel_rfl) hB hM ?_
  replace hB := hB.drew
  replace hM := hM.drew
  refine DF.vv rfl rfl rfl (by decide) (Val.move rfl) ?_
  refine DF.vv rfl rfl rfl (by decide) (Val.nilCheck rfl) ?_
  refine DF.vv rfl rfl rfl (by decide) (Val.loadBox flat89 rfl (fun _ h => h.2.o0.rd)) ?_
  refine DF.vv rfl rfl rfl (by decide) (Val.move rfl) ?_
  refine DF.vv rfl rfl rfl (by decide) (Val.nilCheck rfl) ?_
  refine DF.vv rfl rfl rfl (by decide) (Val.loadBox flat89 rfl (fun _ h => h.2.o0.rd)) ?_
  refine DF.vv rfl rfl rfl (by decide) (Val.shlW (j := 13) rfl rfl (by omega)) ?_
  refine DF.vv rfl rfl rfl (by decide) (Val.xorU64 rfl rfl (by omega) (by omega)) ?_
  have hx1 : x ^^^ ((x <<< 13) % 2 ^ 64) < 2 ^ 64 := Nat.xor_lt_two_pow hx (Nat.mod_lt _ (by decide))
  refine DF.vv rfl rfl rfl (by decide) (Val.nilCheck rfl) ?_
  refine DF.m rfl rfl (Step.storeBox (B := B) rfl rfl flat89 elem89 rfl rfl rfl (hM.o0) (Nat.le_trans hB0 hB.size) ?_)
  rintro w1 hO1 hg1 hbl1 hsz1
  replace hM := hM.s0 hg1 hO1 inl_block
  replace hB := hB.trans hbl1
  refine ⟨fun h => absurd rfl h, ?_⟩
  generalize x ^^^ ((x <<< 13) % 2 ^ 64) = x1 at *
  refine DF.nil ?_
  refine W.seqF 9 [(0, true), (1, true), (2, true), (3, true), (4, true), (5, true), (6, true), (7, true), (8, true), (9, false)] mixed (by kernel_rfl) hB hM ?_
  replace hB := hB.drew
  replace hM := hM.drew
  refine DF.vv rfl rfl rfl (by decide) (Val.move rfl) ?_
  refine DF.vv rfl rfl rfl (by decide) (Val.nilCheck rfl) ?_
  refine DF.vv rfl rfl rfl (by decide) (Val.loadBox flat89 rfl (fun _ h => h.2.o0.rd)) ?_
  refine DF.vv rfl rfl rfl (by decide) (Val.move rfl) ?_
  refine DF.vv rfl rfl rfl (by decide) (Val.nilCheck rfl) ?_
  refine DF.vv rfl rfl rfl (by decide) (Val.loadBox flat89 rfl (fun _ h => h.2.o0.rd)) ?_
  refine DF.vv rfl rfl rfl (by decide) (Val.shr (j := 7) rfl rfl (by simp only [IntKind.bits]; omega)) ?_
  refine DF.vv rfl rfl rfl (by decide) (Val.xorU64 rfl rfl (by omega) (by omega)) ?_
  have hx2 : x1 ^^^ (x1 >>> 7) < 2 ^ 64 := Nat.xor_lt_two_pow hx1 (Nat.lt_of_le_of_lt (Nat.shiftRight_le _ _) hx1)
  refine DF.vv rfl rfl rfl (by decide) (Val.nilCheck rfl) ?_
  refine DF.m rfl rfl (Step.storeBox (B := B) rfl rfl flat89 elem89 rfl rfl rfl (hM.o0) (Nat.le_trans hB0 hB.size) ?_)
  rintro w2 hO2 hg2 hbl2 hsz2
  replace hM := hM.s0 hg2 hO2 inl_block
  replace hB := hB.trans hbl2
  refine ⟨fun h => absurd rfl h, ?_⟩
  generalize x1 ^^^ (x1 >>> 7) = x2 at *
  refine DF.nil ?_
  refine W.seqF 9 [(0, true), (1, true), (2, true), (3, true), (4, true), (5, true), (6, true), (7, true), (8, true), (9, false)] mixed (by kernel_rfl) hB hM ?_
  replace hB := hB.drew
  replace hM := hM.drew
  refine DF.vv rfl rfl rfl (by decide) (Val.move rfl) ?_
  refine DF.vv rfl rfl rfl (by decide) (Val.nilCheck rfl) ?_
  refine DF.vv rfl rfl rfl (by decide) (Val.loadBox flat89 rfl (fun _ h => h.2.o0.rd)) ?_
  refine DF.vv rfl rfl rfl (by decide) (Val.move rfl) ?_
  refine DF.vv rfl rfl rfl (by decide) (Val.nilCheck rfl) ?_
  refine DF.vv rfl rfl rfl (by decide) (Val.loadBox flat89 rfl (fun _ h => h.2.o0.rd)) ?_
  refine DF.vv rfl rfl rfl (by decide) (Val.shlW (j := 17) rfl rfl (by omega)) ?_
  refine DF.vv rfl rfl rfl (by decide) (Val.xorU64 rfl rfl (by omega) (by omega)) ?_
  have hx3 : x2 ^^^ ((x2 <<< 17) % 2 ^ 64) < 2 ^ 64 := Nat.xor_lt_two_pow hx2 (Nat.mod_lt _ (by decide))
  refine DF.vv rfl rfl rfl (by decide) (Val.nilCheck rfl) ?_
  refine DF.m rfl rfl (Step.storeBox (B := B) rfl rfl flat89 elem89 rfl rfl rfl (hM.o0) (Nat.le_trans hB0 hB.size) ?_)
  rintro w3 hO3 hg3 hbl3 hsz3
  replace hM := hM.s0 hg3 hO3 inl_block
  replace hB := hB.trans hbl3
  refine ⟨fun h => absurd rfl h, ?_⟩
  generalize x2 ^^^ ((x2 <<< 17) % 2 ^ 64) = x3 at *
  refine DF.nil ?_
  refine W.seqR ?_
  refine LS.vv rfl rfl (by decide) (Val.move rfl) ?_
  refine LS.vv rfl rfl (by decide) (Val.nilCheck rfl) ?_
  refine LS.m rfl (Step.loadBox rfl rfl (by decide) flat89 rfl (hM.o0.rd) ?_)
  refine LS.vv rfl rfl (by decide) (Val.assign rfl) ?_
  refine LS.nil ?_
  refine W.ret ?_
  refine ret1 (by first | exact .inl rfl | exact .inr rfl) rfl ?_
  exact ⟨x3, rfl, hx3, hM, hB⟩

theorem break_u32 (d : Array Nat) (p : Option Addr) (n c B : Nat) (S : List Ob) (a b : Nat) (w0 : World) (hM0 : Mem w0 B (⟨37, p, n, c, uv d.toList⟩ :: S)) (hB0 : B ≤ w0.heap.size) (hn : d.size = n) (hn2 : n ≤ 1000000) (hab : a + 12 < b) (hb : b ≤ n) :
    CallsV Try.prog 62 #[.slice p n c, .int .i64 (a : Int), .int .i64 (b : Int)] w0 (fun v w => ∃ E : Array Nat, Go.Sort.PermIn a b d E ∧ v = .tuple #[] ∧ Mem w B (⟨37, p, n, c, uv E.toList⟩ :: S) ∧ Below B w0 w) := by
  refine enter0 Try.func62 rfl Try.ntmps62 (by simp) rfl ?_
  have hB := Below.refl B w0
  simp only [argLoc, Nat.zero_add, Nat.reduceAdd]
  have hM := hM0
  have hbl := bitLen_is (b - a)
  obtain ⟨hL1, hL2⟩ := hbl
  have hL3 : 2 ^ bitLen (b - a) ≤ 2 * (b - a) := by { rcases hL2 with h | h; (rw [h]; simp; omega); (have h0 : bitLen (b - a) ≠ 0 := fun e => by rw [e] at hL1; simp at hL1; omega); (obtain ⟨q, hq⟩ := Nat.exists_eq_succ_of_ne_zero h0); (rw [hq, Nat.succ_eq_add_one, Nat.add_sub_cancel] at h; rw [hq, Nat.succ_eq_add_one, Nat.pow_succ]; omega) }
  have hL4 := Nat.two_pow_pos (bitLen (b - a))
  refine W.seqR ?_
  refine LS.vv rfl rfl (by decide) (Val.move rfl) ?_
  refine LS.vv rfl rfl (by decide) (Val.move rfl) ?_
  refine LS.vv rfl rfl (by decide) (Val.subN rfl rfl (by omega) (by omega)) ?_
  refine LS.vv rfl rfl (by decide) (Val.assign rfl) ?_
  refine LS.nil ?_
  refine W.seqR ?_
  refine LS.vv rfl rfl (by decide) (Val.move rfl) ?_
  refine LS.vv rfl rfl (by decide) (Val.geq rfl rfl) ?_
  refine LS.nil ?_
  first | refine W.condD rfl (fun hc1 => ?_) (fun hc1 => ?_) | refine W.cond rfl (fun hc1 => ?_) (fun hc1 => ?_)
  ·
    refine W.seqR ?_
    refine LS.vv rfl rfl (by decide) (Val.move rfl) ?_
    refine LS.vv rfl rfl (by decide) (Val.conv rfl Try.underlying3 Try.underlying89 (IntWalk.u64_in _ (by first | omega | (simp only [List.length_set]; omega)))) ?_
    refine LS.m rfl (Step.alloc rfl rfl (by decide) elem89 rfl (by decide) ?_)
    rintro w1 hO1 hg1 hbl1 hsz1
    replace hM := hM.add (Nat.le_trans hB0 hB.size) hbl1 hO1
    replace hB := hB.trans (hbl1.mono (Nat.le_trans hB0 hB.size))
    skip
    refine LS.m rfl (Step.storeBox (B := B) rfl rfl flat89 elem89 rfl rfl rfl (hM.o0) (Nat.le_trans hB0 hB.size) ?_)
    rintro w2 hO2 hg2 hbl2 hsz2
    replace hM := hM.s0 hg2 hO2 inl_block
    replace hB := hB.trans hbl2
    refine LS.nil ?_
    refine W.seqR ?_
    refine LS.vv rfl rfl (by decide) (Val.move rfl) ?_
    refine LS.m rfl (Step.call body71 rfl rfl (by decide) rfl (CallsV.mono (npo2_any (b - a) _ (by omega)) ?_))
    rintro _ w3 ⟨rfl, hb3⟩
    replace hM := hM.below hb3
    replace hB := hB.trans (hb3.mono (Nat.le_trans hB0 hB.size))
    generalize 2 ^ bitLen (b - a) = P at *
    refine LS.vv rfl rfl (by decide) (Val.assign rfl) ?_
    refine LS.nil ?_
    refine W.seqR ?_
    refine LS.vv rfl rfl (by decide) (Val.move rfl) ?_
    refine LS.vv rfl rfl (by decide) (Val.move rfl) ?_
    first | refine LS.vv rfl rfl (by decide) (Val.quoN (j := 4) rfl rfl (by first | omega | (simp only [List.length_set]; omega)) (by first | omega | (simp only [List.length_set]; omega))) ?_ | refine LS.vv rfl rfl (by decide) (Val.quo64 rfl rfl (by first | omega | (simp only [List.length_set]; omega)) (by first | omega | (simp only [List.length_set]; omega))) ?_
    first | refine LS.vv rfl rfl (by decide) (Val.mulN (j := 2) rfl rfl (by first | omega | (simp only [List.length_set]; omega))) ?_ | refine LS.vv rfl rfl (by decide) (Val.mul64 rfl rfl (by first | omega | (simp only [List.length_set]; omega))) ?_
    first | refine LS.vv rfl rfl (by decide) (Val.addN rfl rfl (by first | omega | (simp only [List.length_set]; omega))) ?_ | refine LS.vv rfl rfl (by decide) (Val.add64 rfl rfl (by first | omega | (simp only [List.length_set]; omega))) ?_
    refine LS.vv rfl rfl (by decide) (Val.subN (j := 1) rfl rfl (by omega) (by omega)) ?_
    refine LS.vv rfl rfl (by decide) (Val.assign rfl) ?_
    refine LS.nil ?_
    refine W.block ?_
    refine W.loop (α := Array Nat × Nat × Nat) (fun g => [(9, .int .i64 ((a + (b - a) / 4 * 2 - 1 + g.2.1 : Nat) : Int))]) [(0, _), (1, _), (6, _), (7, _), (8, _)] (fun g w => (Go.Sort.PermIn a b d g.1 ∧ g.2.2 < 2 ^ 64) ∧ Mem w B (⟨89, some ⟨w0.heap.size, 0, none⟩, 1, 1, [.int .u64 ((g.2.2 : Nat) : Int)]⟩ :: ⟨37, p, n, c, uv g.1.toList⟩ :: S) ∧ Below B w0 w) (fun g => 4 - g.2.1) ((d, 0, b - a)) (Sub.cons rfl (Sub.nil _)) (Sub.cons rfl (Sub.cons rfl (Sub.cons rfl (Sub.cons rfl (Sub.cons rfl (Sub.nil _)))))) ?_ ?_
    · exact ⟨⟨Go.Sort.permIn_refl _ _ _, by simp only; omega⟩, hM, hB⟩
    rintro ⟨E, k, x⟩ w4 ⟨⟨hE, hx⟩, hM, hB⟩
    try simp only at hM
    simp only [List.cons_append, List.nil_append]
    simp only at hE hx
    have hEn : E.size = n := by rw [hE.1]; exact hn
    have hlE : E.toList.length = n := by rw [Array.length_toList]; first | assumption | omega
    refine W.seq ?_
    refine W.seqR ?_
    refine LS.vv rfl rfl (by decide) (Val.move rfl) ?_
    refine LS.vv rfl rfl (by decide) (Val.move rfl) ?_
    refine LS.vv rfl rfl (by decide) (Val.move rfl) ?_
    first | refine LS.vv rfl rfl (by decide) (Val.quoN (j := 4) rfl rfl (by first | omega | (simp only [List.length_set]; omega)) (by first | omega | (simp only [List.length_set]; omega))) ?_ | refine LS.vv rfl rfl (by decide) (Val.quo64 rfl rfl (by first | omega | (simp only [List.length_set]; omega)) (by first | omega | (simp only [List.length_set]; omega))) ?_
    first | refine LS.vv rfl rfl (by decide) (Val.mulN (j := 2) rfl rfl (by first | omega | (simp only [List.length_set]; omega))) ?_ | refine LS.vv rfl rfl (by decide) (Val.mul64 rfl rfl (by first | omega | (simp only [List.length_set]; omega))) ?_
    first | refine LS.vv rfl rfl (by decide) (Val.addN rfl rfl (by first | omega | (simp only [List.length_set]; omega))) ?_ | refine LS.vv rfl rfl (by decide) (Val.add64 rfl rfl (by first | omega | (simp only [List.length_set]; omega))) ?_
    first | refine LS.vv rfl rfl (by decide) (Val.addN (j := 1) rfl rfl (by first | omega | (simp only [List.length_set]; omega))) ?_ | refine LS.vv rfl rfl (by decide) (Val.add64 rfl rfl (by first | omega | (simp only [List.length_set]; omega))) ?_
    refine LS.vv rfl rfl (by decide) (Val.leq rfl rfl) ?_
    refine LS.nil ?_
    first | refine W.condD rfl (fun hc2 => ?_) (fun hc2 => ?_) | refine W.cond rfl (fun hc2 => ?_) (fun hc2 => ?_)
    ·
      refine W.skip ?_
      refine thenP_normal ?_
      refine W.seq ?_
      refine W.block ?_
      refine W.seqR ?_
      refine LS.m rfl (Step.call body72 rfl rfl (by decide) rfl (CallsV.mono (xorNext_any _ B x (⟨37, p, n, c, uv E.toList⟩ :: S) _ hM (Nat.le_trans hB0 hB.size) hx) ?_))
      rintro _ w5 ⟨y, rfl, hy, hM5, hb5⟩
      replace hM := hM5
      replace hB := hB.trans hb5
      have hand : y &&& (P - 1) ≤ P - 1 := Nat.and_le_right
      refine LS.vv rfl rfl (by decide) (Val.move rfl) ?_
      refine LS.vv rfl rfl (by decide) (Val.subNU64 (j := 1) rfl rfl (by omega) (by omega)) ?_
      refine LS.vv rfl rfl (by decide) (Val.andU64 rfl rfl (by first | omega | (simp only [List.length_set]; omega)) (by first | omega | (simp only [List.length_set]; omega))) ?_
      refine LS.vv rfl rfl (by decide) (Val.conv rfl Try.underlying26 Try.underlying3 (IntWalk.i64_in _ (by first | omega | (simp only [List.length_set]; omega)))) ?_
      refine LS.vv rfl rfl (by decide) (Val.assign rfl) ?_
      refine LS.nil ?_
      refine W.mid (α := Nat × Nat) (fun g => [(10, .int .i64 (g.1 : Int))]) [(0, _), (1, _), (6, _), (7, _), (8, _), (9, _)] (fun g w => (g.1 < b - a ∧ g.2 < 2 ^ 64) ∧ Mem w B (⟨89, some ⟨w0.heap.size, 0, none⟩, 1, 1, [.int .u64 ((g.2 : Nat) : Int)]⟩ :: ⟨37, p, n, c, uv E.toList⟩ :: S) ∧ Below B w0 w) (Sub.cons rfl (Sub.cons rfl (Sub.cons rfl (Sub.cons rfl (Sub.cons rfl (Sub.cons rfl (Sub.nil _))))))) ?_ ?_
      ·
        refine W.seqR ?_
        refine LS.vv rfl rfl (by decide) (Val.move rfl) ?_
        refine LS.vv rfl rfl (by decide) (Val.move rfl) ?_
        refine LS.vv rfl rfl (by decide) (Val.geq rfl rfl) ?_
        refine LS.nil ?_
        first | refine W.condD rfl (fun hc3 => ?_) (fun hc3 => ?_) | refine W.cond rfl (fun hc3 => ?_) (fun hc3 => ?_)
        ·
          refine W.reg ?_
          refine LS.vv rfl rfl (by decide) (Val.move rfl) ?_
          refine LS.vv rfl rfl (by decide) (Val.move rfl) ?_
          first | refine LS.vv rfl rfl (by decide) (Val.subN rfl rfl (by first | omega | (simp only [List.length_set]; omega)) (by first | omega | (simp only [List.length_set]; omega))) ?_ | refine LS.vv rfl rfl (by decide) (Val.sub64 rfl rfl (by first | omega | (simp only [List.length_set]; omega))) ?_
          refine LS.vv rfl rfl (by decide) (Val.assign rfl) ?_
          refine LS.nil ?_
          refine thenP_normal ?_
          first
            | (refine ⟨((y &&& (P - 1)) - (b - a), y), (Sub.cons rfl (Sub.nil _)), (by repeat (first | exact Sub.nil _ | refine Sub.cons rfl ?_)), ⟨⟨by simp only; omega, hy⟩, hM, hB⟩⟩)
            | (refine ⟨(y &&& (P - 1), y), (Sub.cons rfl (Sub.nil _)), (by repeat (first | exact Sub.nil _ | refine Sub.cons rfl ?_)), ⟨⟨by simp only; omega, hy⟩, hM, hB⟩⟩)
        ·
          refine W.skip ?_
          refine thenP_normal ?_
          first
            | (refine ⟨((y &&& (P - 1)) - (b - a), y), (Sub.cons rfl (Sub.nil _)), (by repeat (first | exact Sub.nil _ | refine Sub.cons rfl ?_)), ⟨⟨by simp only; omega, hy⟩, hM, hB⟩⟩)
            | (refine ⟨(y &&& (P - 1), y), (Sub.cons rfl (Sub.nil _)), (by repeat (first | exact Sub.nil _ | refine Sub.cons rfl ?_)), ⟨⟨by simp only; omega, hy⟩, hM, hB⟩⟩)
      ·
        rintro ⟨o, y⟩ w6 ⟨⟨ho, hy⟩, hM, hB⟩
        simp only [List.cons_append, List.nil_append]
        try simp only at hM
        simp only at ho hy
        refine W.regT (S := fun w => Below B w0 w) (.val 0 (.val 1 (.val 2 (.val 3 (.val 4 (.val 5 (.val 6 (.val 7 (.val 8 (.val 9 (.val 10 (.val 12 (.val 13 (.val 14 (.two (.mem 11 (.mem 15 (.val 16 (.mem 17 (.val 18 (.mem 19 (.done))))))) (.mem 15 (.mem 11 (.val 16 (.mem 17 (.val 18 (.mem 19 (.done)))))))))))))))))))))) mixed (by kernel_rfl) hB.drew ?_
        replace hB := hB.drew
        replace hM := hM.drew
        refine DT.vv rfl rfl rfl (by decide) (Val.move rfl) ?_
        refine DT.vv rfl rfl rfl (by decide) (Val.move rfl) ?_
        refine DT.vv rfl rfl rfl (by decide) (Val.move rfl) ?_
        refine DT.vv rfl rfl rfl (by decide) (Val.move rfl) ?_
        refine DT.vv rfl rfl rfl (by decide) (Val.move rfl) ?_
        first | refine DT.vv rfl rfl rfl (by decide) (Val.addN rfl rfl (by first | omega | (simp only [List.length_set]; omega))) ?_ | refine DT.vv rfl rfl rfl (by decide) (Val.add64 rfl rfl (by first | omega | (simp only [List.length_set]; omega))) ?_
        refine DT.vv rfl rfl rfl (by decide) (Val.move rfl) ?_
        refine DT.vv rfl rfl rfl (by decide) (Val.move rfl) ?_
        refine DT.vv rfl rfl rfl (by decide) (Val.move rfl) ?_
        first | refine DT.vv rfl rfl rfl (by decide) (Val.addN rfl rfl (by first | omega | (simp only [List.length_set]; omega))) ?_ | refine DT.vv rfl rfl rfl (by decide) (Val.add64 rfl rfl (by first | omega | (simp only [List.length_set]; omega))) ?_
        refine DT.vv rfl rfl rfl (by decide) (Val.index1 Try.underlying32 elem37 rfl rfl (by first | omega | (simp only [List.length_set]; omega)) (hM.o1.rd) (uv_lt (by first | omega | (simp only [List.length_set]; omega)))) ?_
        refine DT.vv rfl rfl rfl (by decide) (Val.move rfl) ?_
        refine DT.vv rfl rfl rfl (by decide) (Val.move rfl) ?_
        refine DT.vv rfl rfl rfl (by decide) (Val.index1 Try.underlying32 elem37 rfl rfl (by first | omega | (simp only [List.length_set]; omega)) (hM.o1.rd) (uv_lt (by first | omega | (simp only [List.length_set]; omega)))) ?_
        refine DT.two ?_ ?_
        ·
          refine DT.m rfl rfl (Step.load rfl rfl (by decide) flat37 rfl (hM.o1.rd) (uv_at (by first | omega | (simp only [List.length_set]; omega))) ?_)
          refine ⟨hB, ?_⟩
          refine DT.m rfl rfl (Step.load rfl rfl (by decide) flat37 rfl (hM.o1.rd) (uv_at (by first | omega | (simp only [List.length_set]; omega))) ?_)
          refine ⟨hB, ?_⟩
          refine DT.vv rfl rfl rfl (by decide) (Val.index1 Try.underlying32 elem37 rfl rfl (by first | omega | (simp only [List.length_set]; omega)) (hM.o1.rd) (uv_lt (by first | omega | (simp only [List.length_set]; omega)))) ?_
          refine DT.m rfl rfl (Step.store (B := B) rfl rfl flat37 elem37 rfl rfl rfl (hM.o1) (by first | omega | (simp only [List.length_set]; omega)) (Nat.le_trans hB0 hB.size) ?_)
          rintro w7 hO7 hg7 hbl7 hsz7
          replace hM := hM.s1 hg7 hO7 inl_block
          try simp only [uv_app1, uv_app, uv_set, uv_rep, uv_one, uv_cons, uv_take, uv_drop, List.nil_append] at hM
          replace hB := hB.trans hbl7
          refine ⟨hB, ?_⟩
          refine DT.vv rfl rfl rfl (by decide) (Val.index1 Try.underlying32 elem37 rfl rfl (by first | omega | (simp only [List.length_set]; omega)) (hM.o1.rd) (uv_lt (by first | omega | (simp only [List.length_set]; omega)))) ?_
          refine DT.m rfl rfl (Step.store (B := B) rfl rfl flat37 elem37 rfl rfl rfl (hM.o1) (by first | omega | (simp only [List.length_set]; omega)) (Nat.le_trans hB0 hB.size) ?_)
          rintro w8 hO8 hg8 hbl8 hsz8
          replace hM := hM.s1 hg8 hO8 inl_block
          try simp only [uv_app1, uv_app, uv_set, uv_rep, uv_one, uv_cons, uv_take, uv_drop, List.nil_append] at hM
          replace hB := hB.trans hbl8
          refine ⟨hB, ?_⟩
          refine DT.nil ?_
          refine inBlk_normal ?_
          refine thenP_normal ?_
          refine W.reg ?_
          refine LS.vv rfl rfl (by decide) (Val.move rfl) ?_
          first | refine LS.vv rfl rfl (by decide) (Val.addN (j := 1) rfl rfl (by first | omega | (simp only [List.length_set]; omega))) ?_ | refine LS.vv rfl rfl (by decide) (Val.add64 rfl rfl (by first | omega | (simp only [List.length_set]; omega))) ?_
          refine LS.vv rfl rfl (by decide) (Val.assign rfl) ?_
          refine LS.nil ?_
          refine thenP_normal ?_
          simp only [swpA] at hM
          try rw [swp_comm E (a + o) (a + (b - a) / 4 * 2 - 1 + k)] at hM
          have hsw := Go.Sort.swp_permIn E a b (a + (b - a) / 4 * 2 - 1 + k) (a + o) (by omega) (by omega) (by omega) (by omega) (by omega)
          refine ⟨(Go.Sort.swp E (a + (b - a) / 4 * 2 - 1 + k) (a + o), k + 1, y), ?_, ?_, ⟨⟨Go.Sort.permIn_trans _ _ _ _ _ hE hsw, hy⟩, hM, hB⟩, by simp only; omega⟩
          · exact Sub.cons' rfl (by congr 1) (Sub.nil _)
          · repeat (first | exact Sub.nil _ | refine Sub.cons rfl ?_)
        ·
          refine DT.m rfl rfl (Step.load rfl rfl (by decide) flat37 rfl (hM.o1.rd) (uv_at (by first | omega | (simp only [List.length_set]; omega))) ?_)
          refine ⟨hB, ?_⟩
          refine DT.m rfl rfl (Step.load rfl rfl (by decide) flat37 rfl (hM.o1.rd) (uv_at (by first | omega | (simp only [List.length_set]; omega))) ?_)
          refine ⟨hB, ?_⟩
          refine DT.vv rfl rfl rfl (by decide) (Val.index1 Try.underlying32 elem37 rfl rfl (by first | omega | (simp only [List.length_set]; omega)) (hM.o1.rd) (uv_lt (by first | omega | (simp only [List.length_set]; omega)))) ?_
          refine DT.m rfl rfl (Step.store (B := B) rfl rfl flat37 elem37 rfl rfl rfl (hM.o1) (by first | omega | (simp only [List.length_set]; omega)) (Nat.le_trans hB0 hB.size) ?_)
          rintro w9 hO9 hg9 hbl9 hsz9
          replace hM := hM.s1 hg9 hO9 inl_block
          try simp only [uv_app1, uv_app, uv_set, uv_rep, uv_one, uv_cons, uv_take, uv_drop, List.nil_append] at hM
          replace hB := hB.trans hbl9
          refine ⟨hB, ?_⟩
          refine DT.vv rfl rfl rfl (by decide) (Val.index1 Try.underlying32 elem37 rfl rfl (by first | omega | (simp only [List.length_set]; omega)) (hM.o1.rd) (uv_lt (by first | omega | (simp only [List.length_set]; omega)))) ?_
          refine DT.m rfl rfl (Step.store (B := B) rfl rfl flat37 elem37 rfl rfl rfl (hM.o1) (by first | omega | (simp only [List.length_set]; omega)) (Nat.le_trans hB0 hB.size) ?_)
          rintro w10 hO10 hg10 hbl10 hsz10
          replace hM := hM.s1 hg10 hO10 inl_block
          try simp only [uv_app1, uv_app, uv_set, uv_rep, uv_one, uv_cons, uv_take, uv_drop, List.nil_append] at hM
          replace hB := hB.trans hbl10
          refine ⟨hB, ?_⟩
          refine DT.nil ?_
          refine inBlk_normal ?_
          refine thenP_normal ?_
          refine W.reg ?_
          refine LS.vv rfl rfl (by decide) (Val.move rfl) ?_
          first | refine LS.vv rfl rfl (by decide) (Val.addN (j := 1) rfl rfl (by first | omega | (simp only [List.length_set]; omega))) ?_ | refine LS.vv rfl rfl (by decide) (Val.add64 rfl rfl (by first | omega | (simp only [List.length_set]; omega))) ?_
          refine LS.vv rfl rfl (by decide) (Val.assign rfl) ?_
          refine LS.nil ?_
          refine thenP_normal ?_
          simp only [swpA] at hM
          try rw [swp_comm E (a + o) (a + (b - a) / 4 * 2 - 1 + k)] at hM
          have hsw := Go.Sort.swp_permIn E a b (a + (b - a) / 4 * 2 - 1 + k) (a + o) (by omega) (by omega) (by omega) (by omega) (by omega)
          refine ⟨(Go.Sort.swp E (a + (b - a) / 4 * 2 - 1 + k) (a + o), k + 1, y), ?_, ?_, ⟨⟨Go.Sort.permIn_trans _ _ _ _ _ hE hsw, hy⟩, hM, hB⟩, by simp only; omega⟩
          · exact Sub.cons' rfl (by congr 1) (Sub.nil _)
          · repeat (first | exact Sub.nil _ | refine Sub.cons rfl ?_)
    ·
      refine W.exit ?_
      refine thenP_exit ?_
      refine thenP_exit ?_
      refine inBlk_exit ?_
      refine ret0 (by first | exact .inl rfl | exact .inr rfl) ?_
      exact ⟨E, hE, rfl, hM.tail, hB⟩
  ·
    exfalso; omega

end Go.Proofs.Ytjmpkmomlpgbdaa
