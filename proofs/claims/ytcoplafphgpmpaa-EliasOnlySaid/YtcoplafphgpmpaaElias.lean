/-
  The walks of package elias.
-/
import Derived.Test.YtcoplafphgpmpaaLib
import Derived.Test.YtcoplafphgpmpaaEliasPlain
import Derived.Test.YtcoplafphgpmpaaVfin
import Derived.Test.YtcoplafphgpmpaaVfacts2
namespace Go.Proofs.Ytcoplafphgpmpaa
open Go Go.RowKit V
set_option linter.unusedVariables false

theorem len64_any (x : Nat) (w0 : World) (hx : x < 4294967296) :
    CallsV Try.prog 57 #[.int .u64 (x : Int)] w0 (fun v w => v = .int .i64 (bitLen x : Int) ∧ Below w0.heap.size w0 w) := by
  refine enter1 Try.func57 rfl Try.ntmps57 (by simp) rfl ?_
  have hB := Below.refl w0.heap.size w0
  simp only [argLoc]
  have s1 : x >>> 16 < 65536 := by omega
  have s2 : x >>> 16 >>> 8 < 256 := by omega
  have b1 := bitLen_le (x := x >>> 16 >>> 8) (k := 8) s2
  have b2 := bitLen_le (x := x >>> 16) (k := 16) s1
  have b3 := bitLen_le (x := x) (k := 32) hx
  have b4 := bitLen_le (x := x >>> 8) (k := 24) (by omega)
  have e16 : 65536 ≤ x → bitLen x = 16 + bitLen (x >>> 16) := fun h => bitLen_unique (isLen_shift (k := 16) (by omega) (bitLen_is _))
  have e8 : 256 ≤ x → bitLen x = 8 + bitLen (x >>> 8) := fun h => bitLen_unique (isLen_shift (k := 8) (by omega) (bitLen_is _))
  have e24 : 256 ≤ x >>> 16 → bitLen (x >>> 16) = 8 + bitLen (x >>> 16 >>> 8) := fun h => bitLen_unique (isLen_shift (k := 8) (by omega) (bitLen_is _))
  refine W.seqR ?_
  refine LS.vv rfl rfl (by decide) (Val.cast (v := .int .i64 ((0 : Nat) : Int)) (Val.assign rfl) rfl) ?_
  refine LS.nil ?_
  refine W.seq ?_
  refine W.seqR ?_
  refine LS.vv rfl rfl (by decide) (Val.move rfl) ?_
  refine LS.vv rfl rfl (by decide) (Val.geq rfl rfl) ?_
  refine LS.nil ?_
  first | refine W.condD rfl (fun hc1 => ?_) (fun hc1 => ?_) | refine W.cond rfl (fun hc1 => ?_) (fun hc1 => ?_)
  ·
    exfalso; omega
  ·
    refine W.skip ?_
    refine thenP_normal ?_
    refine W.seq ?_
    refine W.seqR ?_
    refine LS.vv rfl rfl (by decide) (Val.move rfl) ?_
    refine LS.vv rfl rfl (by decide) (Val.geq rfl rfl) ?_
    refine LS.nil ?_
    first | refine W.condD rfl (fun hc2 => ?_) (fun hc2 => ?_) | refine W.cond rfl (fun hc2 => ?_) (fun hc2 => ?_)
    ·
      refine W.seqR ?_
      refine LS.vv rfl rfl (by decide) (Val.move rfl) ?_
      refine LS.vv rfl rfl (by decide) (Val.shr (j := 16) rfl rfl (by simp only [IntKind.bits]; omega)) ?_
      refine LS.vv rfl rfl (by decide) (Val.assign rfl) ?_
      refine LS.nil ?_
      refine W.reg ?_
      refine LS.vv rfl rfl (by decide) (Val.move rfl) ?_
      first | refine LS.vv rfl rfl (by decide) (Val.addN (j := 16) rfl rfl (by omega)) ?_ | refine LS.vv rfl rfl (by decide) (Val.add64 rfl rfl (by omega)) ?_
      refine LS.vv rfl rfl (by decide) (Val.assign rfl) ?_
      refine LS.nil ?_
      refine thenP_normal ?_
      refine W.seq ?_
      refine W.seqR ?_
      refine LS.vv rfl rfl (by decide) (Val.move rfl) ?_
      refine LS.vv rfl rfl (by decide) (Val.geq rfl rfl) ?_
      refine LS.nil ?_
      first | refine W.condD rfl (fun hc3 => ?_) (fun hc3 => ?_) | refine W.cond rfl (fun hc3 => ?_) (fun hc3 => ?_)
      ·
        refine W.seqR ?_
        refine LS.vv rfl rfl (by decide) (Val.move rfl) ?_
        refine LS.vv rfl rfl (by decide) (Val.shr (j := 8) rfl rfl (by simp only [IntKind.bits]; omega)) ?_
        refine LS.vv rfl rfl (by decide) (Val.assign rfl) ?_
        refine LS.nil ?_
        refine W.reg ?_
        refine LS.vv rfl rfl (by decide) (Val.move rfl) ?_
        first | refine LS.vv rfl rfl (by decide) (Val.addN (j := 8) rfl rfl (by omega)) ?_ | refine LS.vv rfl rfl (by decide) (Val.add64 rfl rfl (by omega)) ?_
        refine LS.vv rfl rfl (by decide) (Val.assign rfl) ?_
        refine LS.nil ?_
        refine thenP_normal ?_
        refine W.seqR ?_
        refine LS.vv rfl rfl (by decide) (Val.move rfl) ?_
        refine LS.vv rfl rfl (by decide) (Val.move rfl) ?_
        refine LS.vv rfl rfl (by decide) (Val.conv rfl Try.underlying87 Try.underlying5 (IntWalk.u8_in _ (by omega))) ?_
        refine LS.vv rfl rfl (by decide) (Val.indexTab (f := bitLen) Try.underlying9 (by kernel_rfl) rfl (by omega)) ?_
        refine LS.vv rfl rfl (by decide) (Val.conv rfl Try.underlying5 Try.underlying3 (IntWalk.i64_in _ (by omega))) ?_
        first | refine LS.vv rfl rfl (by decide) (Val.addN rfl rfl (by omega)) ?_ | refine LS.vv rfl rfl (by decide) (Val.add64 rfl rfl (by omega)) ?_
        refine LS.vv rfl rfl (by decide) (Val.assign rfl) ?_
        refine LS.nil ?_
        refine W.ret ?_
        refine ret1 (by first | exact .inl rfl | exact .inr rfl) rfl ?_
        refine ⟨congrArg (Value.int .i64) ?_, hB⟩
        omega
      ·
        refine W.skip ?_
        refine thenP_normal ?_
        refine W.seqR ?_
        refine LS.vv rfl rfl (by decide) (Val.move rfl) ?_
        refine LS.vv rfl rfl (by decide) (Val.move rfl) ?_
        refine LS.vv rfl rfl (by decide) (Val.conv rfl Try.underlying87 Try.underlying5 (IntWalk.u8_in _ (by omega))) ?_
        refine LS.vv rfl rfl (by decide) (Val.indexTab (f := bitLen) Try.underlying9 (by kernel_rfl) rfl (by omega)) ?_
        refine LS.vv rfl rfl (by decide) (Val.conv rfl Try.underlying5 Try.underlying3 (IntWalk.i64_in _ (by omega))) ?_
        first | refine LS.vv rfl rfl (by decide) (Val.addN rfl rfl (by omega)) ?_ | refine LS.vv rfl rfl (by decide) (Val.add64 rfl rfl (by omega)) ?_
        refine LS.vv rfl rfl (by decide) (Val.assign rfl) ?_
        refine LS.nil ?_
        refine W.ret ?_
        refine ret1 (by first | exact .inl rfl | exact .inr rfl) rfl ?_
        refine ⟨congrArg (Value.int .i64) ?_, hB⟩
        omega
    ·
      refine W.skip ?_
      refine thenP_normal ?_
      refine W.seq ?_
      refine W.seqR ?_
      refine LS.vv rfl rfl (by decide) (Val.move rfl) ?_
      refine LS.vv rfl rfl (by decide) (Val.geq rfl rfl) ?_
      refine LS.nil ?_
      first | refine W.condD rfl (fun hc4 => ?_) (fun hc4 => ?_) | refine W.cond rfl (fun hc4 => ?_) (fun hc4 => ?_)
      ·
        refine W.seqR ?_
        refine LS.vv rfl rfl (by decide) (Val.move rfl) ?_
        refine LS.vv rfl rfl (by decide) (Val.shr (j := 8) rfl rfl (by simp only [IntKind.bits]; omega)) ?_
        refine LS.vv rfl rfl (by decide) (Val.assign rfl) ?_
        refine LS.nil ?_
        refine W.reg ?_
        refine LS.vv rfl rfl (by decide) (Val.move rfl) ?_
        first | refine LS.vv rfl rfl (by decide) (Val.addN (j := 8) rfl rfl (by omega)) ?_ | refine LS.vv rfl rfl (by decide) (Val.add64 rfl rfl (by omega)) ?_
        refine LS.vv rfl rfl (by decide) (Val.assign rfl) ?_
        refine LS.nil ?_
        refine thenP_normal ?_
        refine W.seqR ?_
        refine LS.vv rfl rfl (by decide) (Val.move rfl) ?_
        refine LS.vv rfl rfl (by decide) (Val.move rfl) ?_
        refine LS.vv rfl rfl (by decide) (Val.conv rfl Try.underlying87 Try.underlying5 (IntWalk.u8_in _ (by omega))) ?_
        refine LS.vv rfl rfl (by decide) (Val.indexTab (f := bitLen) Try.underlying9 (by kernel_rfl) rfl (by omega)) ?_
        refine LS.vv rfl rfl (by decide) (Val.conv rfl Try.underlying5 Try.underlying3 (IntWalk.i64_in _ (by omega))) ?_
        first | refine LS.vv rfl rfl (by decide) (Val.addN rfl rfl (by omega)) ?_ | refine LS.vv rfl rfl (by decide) (Val.add64 rfl rfl (by omega)) ?_
        refine LS.vv rfl rfl (by decide) (Val.assign rfl) ?_
        refine LS.nil ?_
        refine W.ret ?_
        refine ret1 (by first | exact .inl rfl | exact .inr rfl) rfl ?_
        refine ⟨congrArg (Value.int .i64) ?_, hB⟩
        omega
      ·
        refine W.skip ?_
        refine thenP_normal ?_
        refine W.seqR ?_
        refine LS.vv rfl rfl (by decide) (Val.move rfl) ?_
        refine LS.vv rfl rfl (by decide) (Val.move rfl) ?_
        refine LS.vv rfl rfl (by decide) (Val.conv rfl Try.underlying87 Try.underlying5 (IntWalk.u8_in _ (by omega))) ?_
        refine LS.vv rfl rfl (by decide) (Val.indexTab (f := bitLen) Try.underlying9 (by kernel_rfl) rfl (by omega)) ?_
        refine LS.vv rfl rfl (by decide) (Val.conv rfl Try.underlying5 Try.underlying3 (IntWalk.i64_in _ (by omega))) ?_
        first | refine LS.vv rfl rfl (by decide) (Val.addN rfl rfl (by omega)) ?_ | refine LS.vv rfl rfl (by decide) (Val.add64 rfl rfl (by omega)) ?_
        refine LS.vv rfl rfl (by decide) (Val.assign rfl) ?_
        refine LS.nil ?_
        refine W.ret ?_
        refine ret1 (by first | exact .inl rfl | exact .inr rfl) rfl ?_
        refine ⟨congrArg (Value.int .i64) ?_, hB⟩
        omega

theorem blen_any (x : Nat) (w0 : World) (hx : x < 4294967296) :
    CallsV Try.prog 47 #[.int .u64 (x : Int)] w0 (fun v w => v = .int .i64 (bitLen x : Int) ∧ Below w0.heap.size w0 w) := by
  refine enter1 Try.func47 rfl Try.ntmps47 (by simp) rfl ?_
  have hB := Below.refl w0.heap.size w0
  simp only [argLoc]
  refine W.seqR ?_
  refine LS.vv rfl rfl (by decide) (Val.cast (v := .int .i64 ((0 : Nat) : Int)) (Val.assign rfl) rfl) ?_
  refine LS.nil ?_
  refine W.seq ?_
  refine W.condF rfl ?_
  refine W.skip ?_
  refine thenP_normal ?_
  refine W.seqR ?_
  refine LS.vv rfl rfl (by decide) (Val.move rfl) ?_
  refine LS.m rfl (Step.call body57 rfl rfl (by decide) rfl (CallsV.mono (len64_any x _ hx) ?_))
  rintro _ w1 ⟨rfl, hb1⟩
  replace hB := hB.trans (hb1.mono hB.size)
  refine LS.vv rfl rfl (by decide) (Val.assign rfl) ?_
  refine LS.nil ?_
  refine W.ret ?_
  refine ret1 (by first | exact .inl rfl | exact .inr rfl) rfl ?_
  exact ⟨rfl, hB⟩

theorem gamma_any (n : Nat) (w0 : World) (h1 : 1 ≤ n) (h2 : n ≤ 1048576) :
    CallsV Try.prog 46 #[.int .i64 (n : Int)] w0 (fun v w => ∃ (p2 : Option Addr) (c2 : Nat), v = .slice p2 (2 * bitLen n - 1) c2 ∧ Own w w0.heap.size 4 p2 (2 * bitLen n - 1) c2 (bv (gam n)) ∧ Below w0.heap.size w0 w) := by
  refine enter1 Try.func46 rfl Try.ntmps46 (by simp) rfl ?_
  have hB := Below.refl w0.heap.size w0
  simp only [argLoc]
  have hM := Mem.nil w0 w0.heap.size
  have hp := bitLen_pos h1
  have hl := bitLen_le (x := n) (k := 21) (by omega)
  refine W.seqR ?_
  refine LS.vv rfl rfl (by decide) (Val.assign rfl) ?_
  refine LS.nil ?_
  refine W.seqR ?_
  refine LS.vv rfl rfl (by decide) (Val.move rfl) ?_
  refine LS.vv rfl rfl (by decide) (Val.conv rfl Try.underlying3 Try.underlying76 (IntWalk.u64_in _ (by omega))) ?_
  refine LS.m rfl (Step.call body47 rfl rfl (by decide) rfl (CallsV.mono (blen_any n _ (by omega)) ?_))
  rintro _ w1 ⟨rfl, hb1⟩
  replace hM := hM.below hb1
  replace hB := hB.trans (hb1.mono hB.size)
  refine LS.vv rfl rfl (by decide) (Val.assign rfl) ?_
  refine LS.nil ?_
  refine W.seqT (S := fun w => Below w0.heap.size w0 w) (.val 0 (.val 1 (.val 3 (.val 4 (.two (.mem 2 (.mem 5 (.mem 6 (.val 7 (.done))))) (.mem 5 (.mem 2 (.mem 6 (.val 7 (.done)))))))))) mixed (by kernel_rfl) hB.drew ?_
  replace hB := hB.drew
  replace hM := hM.drew
  refine DT.vv rfl rfl rfl (by decide) (Val.move rfl) ?_
  refine DT.vv rfl rfl rfl (by decide) (Val.subN (j := 1) rfl rfl (by omega) (by omega)) ?_
  refine DT.vv rfl rfl rfl (by decide) (Val.move rfl) ?_
  refine DT.vv rfl rfl rfl (by decide) (Val.move rfl) ?_
  refine DT.two ?_ ?_
  ·
    refine DT.m rfl rfl (Step.make rfl rfl (by decide) Try.underlying51 elem4 rfl rfl rfl (by omega) (by omega) (Nat.le_refl _) ?_)
    rintro w2 hO2 hg2 hbl2
    replace hM := hM.add hB.size hbl2 hO2
    try simp only [bv_app1, bv_app, bv_set, bv_rep, bv_one, bv_cons, bv_take, bv_drop, List.nil_append] at hM
    replace hB := hB.trans (hbl2.mono hB.size)
    generalize w1.drew.heap.size = gg2 at *
    refine ⟨hB, ?_⟩
    refine DT.m rfl rfl (Step.call body48 rfl rfl (by decide) rfl (CallsV.mono (digits_any n (bitLen n) _ (by omega) (by omega)) ?_))
    rintro _ w3 ⟨pd, cd, rfl, hOd, hb3⟩
    replace hM := hM.add hB.size hb3 hOd
    replace hB := hB.trans (hb3.mono hB.size)
    refine ⟨hB, ?_⟩
    refine DT.m rfl rfl (Step.append2 (B := w0.heap.size) rfl rfl (by decide) Try.underlying51 elem4 rfl rfl rfl rfl (hM.o1) (hM.o0.rd) (by rw [List.length_map, digs_len]) (by first | exact one_map _ (fun _ => rfl) _ | simp [Value.oneCell']) (by omega) (by omega) hB.size ?_)
    rintro p4 c4 w4 hO4 hg4 hbl4 hbk4
    replace hM := hM.s1 hg4 hO4 hbk4
    try simp only [bv_app1, bv_app, bv_set, bv_rep, bv_one, bv_cons, bv_take, bv_drop, List.nil_append] at hM
    replace hB := hB.trans hbl4
    refine ⟨hB, ?_⟩
    refine DT.vv rfl rfl rfl (by decide) (Val.assign rfl) ?_
    refine DT.nil ?_
    refine W.ret ?_
    refine ret1 (by first | exact .inl rfl | exact .inr rfl) rfl ?_
    have hlen : bitLen n - 1 + bitLen n = 2 * bitLen n - 1 := by omega
    rw [hlen] at hM ⊢
    exact ⟨_, _, rfl, (by first | exact hM.o0 | exact hM.o1), hB⟩
  ·
    refine DT.m rfl rfl (Step.call body48 rfl rfl (by decide) rfl (CallsV.mono (digits_any n (bitLen n) _ (by omega) (by omega)) ?_))
    rintro _ w5 ⟨pd, cd, rfl, hOd, hb5⟩
    replace hM := hM.add hB.size hb5 hOd
    replace hB := hB.trans (hb5.mono hB.size)
    refine ⟨hB, ?_⟩
    refine DT.m rfl rfl (Step.make rfl rfl (by decide) Try.underlying51 elem4 rfl rfl rfl (by omega) (by omega) (Nat.le_refl _) ?_)
    rintro w6 hO6 hg6 hbl6
    replace hM := hM.add hB.size hbl6 hO6
    try simp only [bv_app1, bv_app, bv_set, bv_rep, bv_one, bv_cons, bv_take, bv_drop, List.nil_append] at hM
    replace hB := hB.trans (hbl6.mono hB.size)
    generalize w5.heap.size = gg6 at *
    refine ⟨hB, ?_⟩
    refine DT.m rfl rfl (Step.append2 (B := w0.heap.size) rfl rfl (by decide) Try.underlying51 elem4 rfl rfl rfl rfl (hM.o0) (hM.o1.rd) (by rw [List.length_map, digs_len]) (by first | exact one_map _ (fun _ => rfl) _ | simp [Value.oneCell']) (by omega) (by omega) hB.size ?_)
    rintro p7 c7 w7 hO7 hg7 hbl7 hbk7
    replace hM := hM.s0 hg7 hO7 hbk7
    try simp only [bv_app1, bv_app, bv_set, bv_rep, bv_one, bv_cons, bv_take, bv_drop, List.nil_append] at hM
    replace hB := hB.trans hbl7
    refine ⟨hB, ?_⟩
    refine DT.vv rfl rfl rfl (by decide) (Val.assign rfl) ?_
    refine DT.nil ?_
    refine W.ret ?_
    refine ret1 (by first | exact .inl rfl | exact .inr rfl) rfl ?_
    have hlen : bitLen n - 1 + bitLen n = 2 * bitLen n - 1 := by omega
    rw [hlen] at hM ⊢
    exact ⟨_, _, rfl, (by first | exact hM.o0 | exact hM.o1), hB⟩

theorem Gamma_any (n : Int) (w0 : World) :
    CallsV Try.prog 27 #[.int .i64 n] w0 (fun v w => ∃ (p2 : Option Addr) (c2 : Nat) (L : List Bool) (e : Nat), v = .tuple #[.slice p2 L.length c2, .int .i64 (e : Int)] ∧ Own w w0.heap.size 4 p2 L.length c2 (bv L) ∧ (e = 0 ↔ 1 ≤ n ∧ n ≤ 1048576) ∧ (e = 0 → L = gam n.toNat) ∧ (e ≠ 0 → L = []) ∧ Below w0.heap.size w0 w) := by
  refine enter2 Try.func27 rfl Try.ntmps27 (by simp) rfl ?_
  have hB := Below.refl w0.heap.size w0
  simp only [argLoc]
  have hM := Mem.nil w0 w0.heap.size
  refine W.seqR ?_
  refine LS.vv rfl rfl (by decide) (Val.assign rfl) ?_
  refine LS.vv rfl rfl (by decide) (Val.cast (v := .int .i64 ((0 : Nat) : Int)) (Val.assign rfl) rfl) ?_
  refine LS.nil ?_
  refine W.seq ?_
  refine W.seqR ?_
  refine LS.vv rfl rfl (by decide) (Val.move rfl) ?_
  refine LS.vv rfl rfl (by decide) (Val.lss rfl rfl) ?_
  refine LS.vv rfl rfl (by decide) (Val.move rfl) ?_
  refine LS.split 2 rfl (fun hg1 => ?_) (fun hg1 => ?_)
  ·
    first | (have hg1p := of_decide_eq_true hg1) | skip
    refine LS.s rfl rfl rfl hg1 (by decide) ?_
    refine LS.s rfl rfl rfl hg1 (by decide) ?_
    refine LS.vv rfl rfl (by decide) (Val.pickT rfl hg1 rfl) ?_
    refine LS.nil ?_
    refine W.condT rfl ?_
    refine W.seqR ?_
    refine LS.vv rfl rfl (by decide) (Val.assign rfl) ?_
    refine LS.vv rfl rfl (by decide) (Val.cast (v := .int .i64 ((4 : Nat) : Int)) (Val.assign rfl) rfl) ?_
    refine LS.nil ?_
    refine W.ret ?_
    refine thenP_ret ?_
    refine ret2 (by first | exact .inl rfl | exact .inr rfl) rfl rfl ?_
    first | (refine ⟨none, 0, [], 4, rfl, Own.nil _ _ _, ⟨fun h => by omega, fun h => by omega⟩, fun h => by omega, fun _ => rfl, hB⟩; done) | (have hgl := gam_len hN1; exact ⟨p1, c1, gam N, 0, by rw [hgl], by rw [hgl]; exact hM.o0, ⟨fun _ => by omega, fun _ => rfl⟩, fun _ => rfl, fun h => absurd rfl h, hB⟩)
  ·
    first | (have hg1p := of_decide_eq_false hg1) | skip
    refine LS.vg rfl rfl rfl hg1 (by decide) (Val.move rfl) ?_
    refine LS.vg rfl rfl rfl hg1 (by decide) (Val.gtr rfl rfl) ?_
    refine LS.vv rfl rfl (by decide) (Val.pickF rfl hg1 rfl) ?_
    refine LS.nil ?_
    first | refine W.condD rfl (fun hc2 => ?_) (fun hc2 => ?_) | refine W.cond rfl (fun hc2 => ?_) (fun hc2 => ?_)
    ·
      refine W.seqR ?_
      refine LS.vv rfl rfl (by decide) (Val.assign rfl) ?_
      refine LS.vv rfl rfl (by decide) (Val.cast (v := .int .i64 ((4 : Nat) : Int)) (Val.assign rfl) rfl) ?_
      refine LS.nil ?_
      refine W.ret ?_
      refine thenP_ret ?_
      refine ret2 (by first | exact .inl rfl | exact .inr rfl) rfl rfl ?_
      first | (refine ⟨none, 0, [], 4, rfl, Own.nil _ _ _, ⟨fun h => by omega, fun h => by omega⟩, fun h => by omega, fun _ => rfl, hB⟩; done) | (have hgl := gam_len hN1; exact ⟨p1, c1, gam N, 0, by rw [hgl], by rw [hgl]; exact hM.o0, ⟨fun _ => by omega, fun _ => rfl⟩, fun _ => rfl, fun h => absurd rfl h, hB⟩)
    ·
      refine W.skip ?_
      refine thenP_normal ?_
      refine W.seqR ?_
      refine LS.vv rfl rfl (by decide) (Val.move rfl) ?_
      obtain ⟨N, rfl⟩ := Int.eq_ofNat_of_zero_le (show 0 ≤ n by omega)
      have hN1 : 1 ≤ N := by omega
      have hp := bitLen_pos hN1
      have hl := bitLen_le (x := N) (k := 21) (by omega)
      have hbb := bitLen_le (x := bitLen N) (k := 5) (by omega)
      have hpp := bitLen_pos hp
      refine LS.m rfl (Step.call body46 rfl rfl (by decide) rfl (CallsV.mono (gamma_any N _ hN1 (by omega)) ?_))
      rintro _ w1 ⟨p1, c1, rfl, hO, hb1⟩
      replace hM := hM.add hB.size hb1 hO
      replace hB := hB.trans (hb1.mono hB.size)
      refine LS.vv rfl rfl (by decide) (Val.assign rfl) ?_
      refine LS.vv rfl rfl (by decide) (Val.cast (v := .int .i64 ((0 : Nat) : Int)) (Val.assign rfl) rfl) ?_
      refine LS.nil ?_
      refine W.ret ?_
      refine ret2 (by first | exact .inl rfl | exact .inr rfl) rfl rfl ?_
      first | (refine ⟨none, 0, [], 4, rfl, Own.nil _ _ _, ⟨fun h => by omega, fun h => by omega⟩, fun h => by omega, fun _ => rfl, hB⟩; done) | (have hgl := gam_len hN1; exact ⟨p1, c1, gam N, 0, by rw [hgl], by rw [hgl]; exact hM.o0, ⟨fun _ => by omega, fun _ => rfl⟩, fun _ => rfl, fun h => absurd rfl h, hB⟩)

theorem Delta_any (n : Int) (w0 : World) :
    CallsV Try.prog 28 #[.int .i64 n] w0 (fun v w => ∃ (p2 : Option Addr) (c2 : Nat) (L : List Bool) (e : Nat), v = .tuple #[.slice p2 L.length c2, .int .i64 (e : Int)] ∧ Own w w0.heap.size 4 p2 L.length c2 (bv L) ∧ (e = 0 ↔ 1 ≤ n ∧ n ≤ 1048576) ∧ (e = 0 → L = del n.toNat) ∧ (e ≠ 0 → L = []) ∧ Below w0.heap.size w0 w) := by
  refine enter2 Try.func28 rfl Try.ntmps28 (by simp) rfl ?_
  have hB := Below.refl w0.heap.size w0
  simp only [argLoc]
  have hM := Mem.nil w0 w0.heap.size
  refine W.seqR ?_
  refine LS.vv rfl rfl (by decide) (Val.assign rfl) ?_
  refine LS.vv rfl rfl (by decide) (Val.cast (v := .int .i64 ((0 : Nat) : Int)) (Val.assign rfl) rfl) ?_
  refine LS.nil ?_
  refine W.seq ?_
  refine W.seqR ?_
  refine LS.vv rfl rfl (by decide) (Val.move rfl) ?_
  refine LS.vv rfl rfl (by decide) (Val.lss rfl rfl) ?_
  refine LS.vv rfl rfl (by decide) (Val.move rfl) ?_
  refine LS.split 2 rfl (fun hg1 => ?_) (fun hg1 => ?_)
  ·
    first | (have hg1p := of_decide_eq_true hg1) | skip
    refine LS.s rfl rfl rfl hg1 (by decide) ?_
    refine LS.s rfl rfl rfl hg1 (by decide) ?_
    refine LS.vv rfl rfl (by decide) (Val.pickT rfl hg1 rfl) ?_
    refine LS.nil ?_
    refine W.condT rfl ?_
    refine W.seqR ?_
    refine LS.vv rfl rfl (by decide) (Val.assign rfl) ?_
    refine LS.vv rfl rfl (by decide) (Val.cast (v := .int .i64 ((4 : Nat) : Int)) (Val.assign rfl) rfl) ?_
    refine LS.nil ?_
    refine W.ret ?_
    refine thenP_ret ?_
    refine ret2 (by first | exact .inl rfl | exact .inr rfl) rfl rfl ?_
    first | (refine ⟨none, 0, [], 4, rfl, Own.nil _ _ _, ⟨fun h => by omega, fun h => by omega⟩, fun h => by omega, fun _ => rfl, hB⟩; done) | (have hlen : 2 * bitLen (bitLen N) - 1 + (bitLen N - 1) = (del N).length := (by rw [del_len hN1]); rw [hlen] at hM ⊢; exact ⟨_, _, del N, 0, rfl, hM.o1, ⟨fun _ => by omega, fun _ => rfl⟩, fun _ => rfl, fun h => absurd rfl h, hB⟩)
  ·
    first | (have hg1p := of_decide_eq_false hg1) | skip
    refine LS.vg rfl rfl rfl hg1 (by decide) (Val.move rfl) ?_
    refine LS.vg rfl rfl rfl hg1 (by decide) (Val.gtr rfl rfl) ?_
    refine LS.vv rfl rfl (by decide) (Val.pickF rfl hg1 rfl) ?_
    refine LS.nil ?_
    first | refine W.condD rfl (fun hc2 => ?_) (fun hc2 => ?_) | refine W.cond rfl (fun hc2 => ?_) (fun hc2 => ?_)
    ·
      refine W.seqR ?_
      refine LS.vv rfl rfl (by decide) (Val.assign rfl) ?_
      refine LS.vv rfl rfl (by decide) (Val.cast (v := .int .i64 ((4 : Nat) : Int)) (Val.assign rfl) rfl) ?_
      refine LS.nil ?_
      refine W.ret ?_
      refine thenP_ret ?_
      refine ret2 (by first | exact .inl rfl | exact .inr rfl) rfl rfl ?_
      first | (refine ⟨none, 0, [], 4, rfl, Own.nil _ _ _, ⟨fun h => by omega, fun h => by omega⟩, fun h => by omega, fun _ => rfl, hB⟩; done) | (have hlen : 2 * bitLen (bitLen N) - 1 + (bitLen N - 1) = (del N).length := (by rw [del_len hN1]); rw [hlen] at hM ⊢; exact ⟨_, _, del N, 0, rfl, hM.o1, ⟨fun _ => by omega, fun _ => rfl⟩, fun _ => rfl, fun h => absurd rfl h, hB⟩)
    ·
      refine W.skip ?_
      refine thenP_normal ?_
      refine W.seqR ?_
      refine LS.vv rfl rfl (by decide) (Val.move rfl) ?_
      obtain ⟨N, rfl⟩ := Int.eq_ofNat_of_zero_le (show 0 ≤ n by omega)
      have hN1 : 1 ≤ N := by omega
      have hp := bitLen_pos hN1
      have hl := bitLen_le (x := N) (k := 21) (by omega)
      have hbb := bitLen_le (x := bitLen N) (k := 5) (by omega)
      have hpp := bitLen_pos hp
      refine LS.vv rfl rfl (by decide) (Val.conv rfl Try.underlying3 Try.underlying76 (IntWalk.u64_in _ (by omega))) ?_
      refine LS.m rfl (Step.call body47 rfl rfl (by decide) rfl (CallsV.mono (blen_any N _ (by omega)) ?_))
      rintro _ w1 ⟨rfl, hb1⟩
      replace hM := hM.below hb1
      replace hB := hB.trans (hb1.mono hB.size)
      refine LS.vv rfl rfl (by decide) (Val.assign rfl) ?_
      refine LS.nil ?_
      refine W.seqR ?_
      refine LS.vv rfl rfl (by decide) (Val.move rfl) ?_
      refine LS.m rfl (Step.call body46 rfl rfl (by decide) rfl (CallsV.mono (gamma_any (bitLen N) _ hp (by omega)) ?_))
      rintro _ w2 ⟨p1, c1, rfl, hO, hb2⟩
      replace hM := hM.add hB.size hb2 hO
      replace hB := hB.trans (hb2.mono hB.size)
      refine LS.vv rfl rfl (by decide) (Val.move rfl) ?_
      refine LS.vv rfl rfl (by decide) (Val.move rfl) ?_
      refine LS.m rfl (Step.call body48 rfl rfl (by decide) rfl (CallsV.mono (digits_any N (bitLen N) _ (by omega) (by omega)) ?_))
      rintro _ w3 ⟨pd, cd, rfl, hOd, hb3⟩
      replace hM := hM.add hB.size hb3 hOd
      replace hB := hB.trans (hb3.mono hB.size)
      have hcd := hM.o0.le_cap
      have hdl := digs_len N (bitLen N) (bitLen N)
      refine LS.vv rfl rfl (by decide) (Val.sliceFrom (l := 1) Try.underlying51 elem4 rfl rfl (by omega) (by omega)) ?_
      refine LS.m rfl (Step.append2 (B := w0.heap.size) rfl rfl (by decide) Try.underlying51 elem4 rfl rfl rfl rfl (hM.o1) ((hM.o0.rd.cut_bv (c := cd) (k := 1) (by omega))) (by rw [List.length_map, List.length_drop]; omega) (by first | exact one_map _ (fun _ => rfl) _ | simp [Value.oneCell']) (by omega) (by omega) hB.size ?_)
      rintro p4 c4 w4 hO4 hg4 hbl4 hbk4
      replace hM := hM.s1 hg4 hO4 hbk4
      try simp only [bv_app1, bv_app, bv_set, bv_rep, bv_one, bv_cons, bv_take, bv_drop, List.nil_append] at hM
      replace hB := hB.trans hbl4
      refine LS.vv rfl rfl (by decide) (Val.assign rfl) ?_
      refine LS.vv rfl rfl (by decide) (Val.cast (v := .int .i64 ((0 : Nat) : Int)) (Val.assign rfl) rfl) ?_
      refine LS.nil ?_
      refine W.ret ?_
      refine ret2 (by first | exact .inl rfl | exact .inr rfl) rfl rfl ?_
      first | (refine ⟨none, 0, [], 4, rfl, Own.nil _ _ _, ⟨fun h => by omega, fun h => by omega⟩, fun h => by omega, fun _ => rfl, hB⟩; done) | (have hlen : 2 * bitLen (bitLen N) - 1 + (bitLen N - 1) = (del N).length := (by rw [del_len hN1]); rw [hlen] at hM ⊢; exact ⟨_, _, del N, 0, rfl, hM.o1, ⟨fun _ => by omega, fun _ => rfl⟩, fun _ => rfl, fun h => absurd rfl h, hB⟩)

theorem num_any (bs : List Bool) (p : Option Addr) (c : Nat) (m : Nat) (w0 : World) (hr : Rd w0 p (bv bs)) (hm : bs.length = m) (hl : m ≤ 40) :
    CallsV Try.prog 50 #[.slice p m c] w0 (fun v w => v = .int .i64 (num bs : Int) ∧ Below w0.heap.size w0 w) := by
  refine enter1 Try.func50 rfl Try.ntmps50 (by simp) rfl ?_
  have hB := Below.refl w0.heap.size w0
  simp only [argLoc]
  have hM := Mem.nil w0 w0.heap.size
  subst hm
  refine W.seqR ?_
  refine LS.vv rfl rfl (by decide) (Val.cast (v := .int .i64 ((0 : Nat) : Int)) (Val.assign rfl) rfl) ?_
  refine LS.nil ?_
  refine W.seqR ?_
  refine LS.vv rfl rfl (by decide) (Val.cast (v := .int .i64 ((0 : Nat) : Int)) (Val.assign rfl) rfl) ?_
  refine LS.nil ?_
  refine W.seq ?_
  refine W.seqR ?_
  refine LS.vv rfl rfl (by decide) (Val.move rfl) ?_
  refine LS.vv rfl rfl (by decide) (Val.len Try.underlying51 rfl) ?_
  refine LS.vv rfl rfl (by decide) (Val.cast (v := .int .i64 ((0 : Nat) : Int)) (Val.move rfl) rfl) ?_
  refine LS.nil ?_
  refine W.block ?_
  refine W.loop (α := Nat) (fun k => [(3, .int .i64 (numTo bs k : Int)), (8, .int .i64 (k : Int))]) [(6, _), (7, _)] (fun k w => (k ≤ bs.length) ∧ Mem w w0.heap.size [] ∧ Below w0.heap.size w0 w) (fun k => bs.length - k) (0) (Sub.cons rfl (Sub.cons rfl (Sub.nil _))) (Sub.cons rfl (Sub.cons rfl (Sub.nil _))) ?_ ?_
  · exact ⟨Nat.zero_le _, hM, hB⟩
  rintro k w1 ⟨hk, hM, hB⟩
  try simp only at hM
  simp only [List.cons_append, List.nil_append]
  refine W.seqR ?_
  refine LS.vv rfl rfl (by decide) (Val.lss rfl rfl) ?_
  refine LS.nil ?_
  refine W.seq ?_
  first | refine W.condD rfl (fun hc1 => ?_) (fun hc1 => ?_) | refine W.cond rfl (fun hc1 => ?_) (fun hc1 => ?_)
  ·
    refine W.skip ?_
    refine thenP_normal ?_
    refine W.seq ?_
    refine W.block ?_
    refine W.seqR ?_
    refine LS.vv rfl rfl (by decide) (Val.index1 Try.underlying51 elem4 rfl rfl (by omega) ((hr.below hB)) (bv_lt (by omega))) ?_
    refine LS.m rfl (Step.load rfl rfl (by decide) flat4 rfl ((hr.below hB)) (bv_at (by omega)) ?_)
    refine LS.vv rfl rfl (by decide) (Val.assign rfl) ?_
    refine LS.nil ?_
    refine W.seqR ?_
    refine LS.vv rfl rfl (by decide) (Val.move rfl) ?_
    have hlt := numTo_lt bs k
    have hpw : 2 ^ k ≤ 2 ^ 40 := Nat.pow_le_pow_right (by omega) (by omega)
    have hsi : numTo bs (k + 1) = 2 * numTo bs k + (if gb bs k = true then 1 else 0) := by rw [numTo_succ, shiftIn_eq]
    first | refine LS.vv rfl rfl (by decide) (Val.mulN (j := 2) rfl rfl (by omega)) ?_ | refine LS.vv rfl rfl (by decide) (Val.mul64 rfl rfl (by omega)) ?_
    refine LS.vv rfl rfl (by decide) (Val.assign rfl) ?_
    refine LS.nil ?_
    refine W.seqR ?_
    refine LS.vv rfl rfl (by decide) (Val.move rfl) ?_
    refine LS.nil ?_
    first | refine W.condD rfl (fun hc2 => ?_) (fun hc2 => ?_) | refine W.cond rfl (fun hc2 => ?_) (fun hc2 => ?_)
    ·
      refine W.reg ?_
      refine LS.vv rfl rfl (by decide) (Val.move rfl) ?_
      first | refine LS.vv rfl rfl (by decide) (Val.addN (j := 1) rfl rfl (by omega)) ?_ | refine LS.vv rfl rfl (by decide) (Val.add64 rfl rfl (by omega)) ?_
      refine LS.vv rfl rfl (by decide) (Val.assign rfl) ?_
      refine LS.nil ?_
      refine inBlk_normal ?_
      refine thenP_normal ?_
      refine W.reg ?_
      first | refine LS.vv rfl rfl (by decide) (Val.addN (j := 1) rfl rfl (by omega)) ?_ | refine LS.vv rfl rfl (by decide) (Val.add64 rfl rfl (by omega)) ?_
      refine LS.vv rfl rfl (by decide) (Val.move rfl) ?_
      refine LS.nil ?_
      refine thenP_normal ?_
      refine ⟨k + 1, ?_, ?_, ⟨by omega, hM, hB⟩, by omega⟩
      · exact Sub.cons' rfl (by first | (rw [hsi, ‹gb bs k = _›]; done) | (rw [hsi, ‹gb bs k = _›]; congr 1; simp; omega) | (rw [hsi, ‹gb bs k = _›]; congr 1; simp; done)) (Sub.cons rfl (Sub.nil _))
      · repeat (first | exact Sub.nil _ | refine Sub.cons rfl ?_)
    ·
      refine W.skip ?_
      refine inBlk_normal ?_
      refine thenP_normal ?_
      refine W.reg ?_
      first | refine LS.vv rfl rfl (by decide) (Val.addN (j := 1) rfl rfl (by omega)) ?_ | refine LS.vv rfl rfl (by decide) (Val.add64 rfl rfl (by omega)) ?_
      refine LS.vv rfl rfl (by decide) (Val.move rfl) ?_
      refine LS.nil ?_
      refine thenP_normal ?_
      refine ⟨k + 1, ?_, ?_, ⟨by omega, hM, hB⟩, by omega⟩
      · exact Sub.cons' rfl (by first | (rw [hsi, ‹gb bs k = _›]; done) | (rw [hsi, ‹gb bs k = _›]; congr 1; simp; omega) | (rw [hsi, ‹gb bs k = _›]; congr 1; simp; done)) (Sub.cons rfl (Sub.nil _))
      · repeat (first | exact Sub.nil _ | refine Sub.cons rfl ?_)
  ·
    refine W.exit ?_
    refine thenP_exit ?_
    refine thenP_exit ?_
    refine inBlk_exit ?_
    refine thenP_normal ?_
    refine W.seqR ?_
    refine LS.vv rfl rfl (by decide) (Val.move rfl) ?_
    refine LS.vv rfl rfl (by decide) (Val.assign rfl) ?_
    refine LS.nil ?_
    refine W.ret ?_
    refine ret1 (by first | exact .inl rfl | exact .inr rfl) rfl ?_
    (have hkn : k = bs.length := (by omega); subst hkn; exact ⟨rfl, hB⟩)

theorem index_bool (bs : List Bool) (p : Option Addr) (c : Nat) (m : Nat) (w0 : World) (hr : Rd w0 p (bv bs)) (hm : bs.length = m) (hl : m ≤ 9223372036854775807) :
    CallsV Try.prog 58 #[.slice p m c, .bool true] w0 (fun v w => ∃ z : Int, v = .int .i64 z ∧ ((z = -1 ∧ ∀ j, j < m → gb bs j = false) ∨ ∃ k : Nat, z = (k : Int) ∧ k < m ∧ gb bs k = true ∧ ∀ j, j < k → gb bs j = false) ∧ Below w0.heap.size w0 w) := by
  refine enter1 Try.func58 rfl Try.ntmps58 (by simp) rfl ?_
  have hB := Below.refl w0.heap.size w0
  simp only [argLoc, Nat.zero_add]
  have hM := Mem.nil w0 w0.heap.size
  subst hm
  refine W.seqR ?_
  refine LS.vv rfl rfl (by decide) (Val.cast (v := .int .i64 ((0 : Nat) : Int)) (Val.assign rfl) rfl) ?_
  refine LS.nil ?_
  refine W.seq ?_
  refine W.seqR ?_
  refine LS.vv rfl rfl (by decide) (Val.move rfl) ?_
  refine LS.vv rfl rfl (by decide) (Val.len Try.underlying51 rfl) ?_
  refine LS.vv rfl rfl (by decide) (Val.cast (v := .int .i64 ((0 : Nat) : Int)) (Val.move rfl) rfl) ?_
  refine LS.nil ?_
  refine W.block ?_
  refine W.loop (α := Nat) (fun k => [(8, .int .i64 (k : Int))]) [(0, _), (1, _), (7, _)] (fun k w => (k ≤ bs.length ∧ ∀ j, j < k → gb bs j = false) ∧ Mem w w0.heap.size [] ∧ Below w0.heap.size w0 w) (fun k => bs.length - k) (0) (Sub.cons rfl (Sub.nil _)) (Sub.cons rfl (Sub.cons rfl (Sub.cons rfl (Sub.nil _)))) ?_ ?_
  · exact ⟨⟨Nat.zero_le _, by omega⟩, hM, hB⟩
  rintro k w1 ⟨⟨hk, hall⟩, hM, hB⟩
  try simp only at hM
  simp only [List.cons_append, List.nil_append]
  refine W.seqR ?_
  refine LS.vv rfl rfl (by decide) (Val.lss rfl rfl) ?_
  refine LS.nil ?_
  refine W.seq ?_
  first | refine W.condD rfl (fun hc1 => ?_) (fun hc1 => ?_) | refine W.cond rfl (fun hc1 => ?_) (fun hc1 => ?_)
  ·
    refine W.skip ?_
    refine thenP_normal ?_
    refine W.seq ?_
    refine W.block ?_
    refine W.seqR ?_
    refine LS.vv rfl rfl (by decide) (Val.move rfl) ?_
    refine LS.vv rfl rfl (by decide) (Val.assign rfl) ?_
    refine LS.nil ?_
    refine W.seqR ?_
    refine LS.vv rfl rfl (by decide) (Val.move rfl) ?_
    refine LS.vv rfl rfl (by decide) (Val.move rfl) ?_
    refine LS.vv rfl rfl (by decide) (Val.move rfl) ?_
    refine LS.vv rfl rfl (by decide) (Val.index1 Try.underlying51 elem4 rfl rfl (by omega) ((hr.below hB)) (bv_lt (by omega))) ?_
    refine LS.m rfl (Step.load rfl rfl (by decide) flat4 rfl ((hr.below hB)) (bv_at (by omega)) ?_)
    refine LS.vv rfl rfl (by decide) (Val.eqlB Try.underlying4 rfl rfl) ?_
    refine LS.nil ?_
    first | refine W.condD rfl (fun hc2 => ?_) (fun hc2 => ?_) | refine W.cond rfl (fun hc2 => ?_) (fun hc2 => ?_)
    ·
      refine W.seqR ?_
      refine LS.vv rfl rfl (by decide) (Val.move rfl) ?_
      refine LS.vv rfl rfl (by decide) (Val.assign rfl) ?_
      refine LS.nil ?_
      refine W.ret ?_
      refine inBlk_ret ?_
      refine thenP_ret ?_
      refine thenP_ret ?_
      refine inBlk_ret ?_
      refine thenP_ret ?_
      refine ret1 (by first | exact .inl rfl | exact .inr rfl) rfl ?_
      first | exact ⟨_, rfl, .inl ⟨rfl, fun j hj => hall j (by omega)⟩, hB⟩ | (have hkt : gb bs k = true := (by simp_all); exact ⟨_, rfl, .inr ⟨k, rfl, by omega, hkt, hall⟩, hB⟩)
    ·
      refine W.skip ?_
      refine inBlk_normal ?_
      refine thenP_normal ?_
      refine W.reg ?_
      first | refine LS.vv rfl rfl (by decide) (Val.addN (j := 1) rfl rfl (by omega)) ?_ | refine LS.vv rfl rfl (by decide) (Val.add64 rfl rfl (by omega)) ?_
      refine LS.vv rfl rfl (by decide) (Val.move rfl) ?_
      refine LS.nil ?_
      refine thenP_normal ?_
      have hkf : gb bs k = false := by cases h : gb bs k with | false => rfl | true => simp_all
      refine ⟨k + 1, ?_, ?_, ⟨⟨by omega, ?_⟩, hM, hB⟩, by omega⟩
      · exact (Sub.cons rfl (Sub.nil _))
      · repeat (first | exact Sub.nil _ | refine Sub.cons rfl ?_)
      · intro j hj
        by_cases e : j = k
        · subst e; exact hkf
        · exact hall j (by omega)
  ·
    refine W.exit ?_
    refine thenP_exit ?_
    refine thenP_exit ?_
    refine inBlk_exit ?_
    refine thenP_normal ?_
    refine W.seqR ?_
    refine LS.vv rfl rfl (by decide) (Val.assign rfl) ?_
    refine LS.nil ?_
    refine W.ret ?_
    refine ret1 (by first | exact .inl rfl | exact .inr rfl) rfl ?_
    first | exact ⟨_, rfl, .inl ⟨rfl, fun j hj => hall j (by omega)⟩, hB⟩ | (have hkt : gb bs k = true := (by simp_all); exact ⟨_, rfl, .inr ⟨k, rfl, by omega, hkt, hall⟩, hB⟩)

theorem eread_any (bs : List Bool) (p : Option Addr) (c : Nat) (m most : Nat) (w0 : World) (hr : Rd w0 p (bv bs)) (hm : bs.length = m) (hl : m ≤ 9223372036854775807) (hc : m ≤ c) :
    CallsV Try.prog 49 #[.slice p m c, .int .i64 (most : Int)] w0 (fun v w => ∃ n u : Nat, v = .tuple #[.int .i64 (n : Int), .int .i64 (u : Int)] ∧ ((n = 0 ∧ u = 0 ∧ ∀ k, IsG bs k → k ≤ 30 → most < numG bs k) ∨ ∃ k, IsG bs k ∧ k ≤ 30 ∧ n = numG bs k ∧ n ≤ most ∧ u = 2 * k + 1) ∧ Below w0.heap.size w0 w) := by
  refine enter2 Try.func49 rfl Try.ntmps49 (by simp) rfl ?_
  have hB := Below.refl w0.heap.size w0
  simp only [argLoc, Nat.zero_add]
  have hM := Mem.nil w0 w0.heap.size
  subst hm
  refine W.seqR ?_
  refine LS.vv rfl rfl (by decide) (Val.cast (v := .int .i64 ((0 : Nat) : Int)) (Val.assign rfl) rfl) ?_
  refine LS.vv rfl rfl (by decide) (Val.cast (v := .int .i64 ((0 : Nat) : Int)) (Val.assign rfl) rfl) ?_
  refine LS.nil ?_
  refine W.seqR ?_
  refine LS.vv rfl rfl (by decide) (Val.move rfl) ?_
  refine LS.m rfl (Step.call body58 rfl rfl (by decide) rfl (CallsV.mono (index_bool bs _ _ _ _ (hr.below hB) rfl hl) ?_))
  rintro _ w1 ⟨z, rfl, hz, hb1⟩
  replace hM := hM.below hb1
  replace hB := hB.trans (hb1.mono hB.size)
  refine LS.vv rfl rfl (by decide) (Val.assign rfl) ?_
  refine LS.nil ?_
  refine W.seq ?_
  refine W.seqR ?_
  refine LS.vv rfl rfl (by decide) (Val.move rfl) ?_
  refine LS.vv rfl rfl (by decide) (Val.lss rfl rfl) ?_
  refine LS.vv rfl rfl (by decide) (Val.move rfl) ?_
  refine LS.split 2 rfl (fun hg1 => ?_) (fun hg1 => ?_)
  ·
    first | (have hg1p := of_decide_eq_true hg1) | skip
    refine LS.s rfl rfl rfl hg1 (by decide) ?_
    refine LS.s rfl rfl rfl hg1 (by decide) ?_
    refine LS.vv rfl rfl (by decide) (Val.pickT rfl hg1 rfl) ?_
    refine LS.vv rfl rfl (by decide) (Val.move rfl) ?_
    refine LS.s rfl rfl rfl rfl (by decide) ?_
    refine LS.s rfl rfl rfl rfl (by decide) ?_
    refine LS.s rfl rfl rfl rfl (by decide) ?_
    refine LS.s rfl rfl rfl rfl (by decide) ?_
    refine LS.s rfl rfl rfl rfl (by decide) ?_
    refine LS.s rfl rfl rfl rfl (by decide) ?_
    refine LS.vv rfl rfl (by decide) (Val.pickT rfl rfl rfl) ?_
    refine LS.nil ?_
    refine W.condT rfl ?_
    refine W.seqR ?_
    refine LS.vv rfl rfl (by decide) (Val.cast (v := .int .i64 ((0 : Nat) : Int)) (Val.assign rfl) rfl) ?_
    refine LS.vv rfl rfl (by decide) (Val.cast (v := .int .i64 ((0 : Nat) : Int)) (Val.assign rfl) rfl) ?_
    refine LS.nil ?_
    refine W.ret ?_
    refine thenP_ret ?_
    refine ret2 (by first | exact .inl rfl | exact .inr rfl) rfl rfl ?_
    first | (refine ⟨0, 0, rfl, .inl ⟨rfl, rfl, fun j hj h30 => ?_⟩, hB⟩; exfalso; rcases hz with ⟨hz1, hz2⟩ | ⟨k, rfl, hk1, hk2, hk3⟩; (have h9 := hz2 j (by have := hj.2.2; omega); rw [hj.2.1] at h9; cases h9); (have h8 := hj.2.2; rcases Nat.lt_trichotomy j k with h7 | h7 | h7; (have h9 := hk3 j h7; rw [hj.2.1] at h9; cases h9); omega; (have h9 := hj.1 k h7; rw [hk2] at h9; cases h9))) | (refine ⟨0, 0, rfl, .inl ⟨rfl, rfl, fun j hj h30 => ?_⟩, hB⟩; rw [IsG.one hj hG]; unfold numG; omega) | (refine ⟨_, _, rfl, .inr ⟨k, hG, by omega, rfl, by omega, rfl⟩, hB⟩)
  ·
    first | (have hg1p := of_decide_eq_false hg1) | skip
    refine LS.vg rfl rfl rfl hg1 (by decide) (Val.move rfl) ?_
    refine LS.vg rfl rfl rfl hg1 (by decide) (Val.gtr rfl rfl) ?_
    refine LS.vv rfl rfl (by decide) (Val.pickF rfl hg1 rfl) ?_
    refine LS.vv rfl rfl (by decide) (Val.move rfl) ?_
    refine LS.split 6 rfl (fun hg2 => ?_) (fun hg2 => ?_)
    ·
      first | (have hg2p := of_decide_eq_true hg2) | skip
      refine LS.s rfl rfl rfl hg2 (by decide) ?_
      refine LS.s rfl rfl rfl hg2 (by decide) ?_
      refine LS.s rfl rfl rfl hg2 (by decide) ?_
      refine LS.s rfl rfl rfl hg2 (by decide) ?_
      refine LS.s rfl rfl rfl hg2 (by decide) ?_
      refine LS.s rfl rfl rfl hg2 (by decide) ?_
      refine LS.vv rfl rfl (by decide) (Val.pickT rfl hg2 rfl) ?_
      refine LS.nil ?_
      refine W.condT rfl ?_
      refine W.seqR ?_
      refine LS.vv rfl rfl (by decide) (Val.cast (v := .int .i64 ((0 : Nat) : Int)) (Val.assign rfl) rfl) ?_
      refine LS.vv rfl rfl (by decide) (Val.cast (v := .int .i64 ((0 : Nat) : Int)) (Val.assign rfl) rfl) ?_
      refine LS.nil ?_
      refine W.ret ?_
      refine thenP_ret ?_
      refine ret2 (by first | exact .inl rfl | exact .inr rfl) rfl rfl ?_
      first | (refine ⟨0, 0, rfl, .inl ⟨rfl, rfl, fun j hj h30 => ?_⟩, hB⟩; exfalso; rcases hz with ⟨hz1, hz2⟩ | ⟨k, rfl, hk1, hk2, hk3⟩; (have h9 := hz2 j (by have := hj.2.2; omega); rw [hj.2.1] at h9; cases h9); (have h8 := hj.2.2; rcases Nat.lt_trichotomy j k with h7 | h7 | h7; (have h9 := hk3 j h7; rw [hj.2.1] at h9; cases h9); omega; (have h9 := hj.1 k h7; rw [hk2] at h9; cases h9))) | (refine ⟨0, 0, rfl, .inl ⟨rfl, rfl, fun j hj h30 => ?_⟩, hB⟩; rw [IsG.one hj hG]; unfold numG; omega) | (refine ⟨_, _, rfl, .inr ⟨k, hG, by omega, rfl, by omega, rfl⟩, hB⟩)
    ·
      first | (have hg2p := of_decide_eq_false hg2) | skip
      refine LS.vg rfl rfl rfl hg2 (by decide) (Val.move rfl) ?_
      refine LS.vg rfl rfl rfl hg2 (by decide) (Val.mul64 (i := 2) rfl rfl (by omega)) ?_
      refine LS.vg rfl rfl rfl hg2 (by decide) (Val.add64 rfl rfl (by omega)) ?_
      refine LS.vg rfl rfl rfl hg2 (by decide) (Val.move rfl) ?_
      refine LS.vg rfl rfl rfl hg2 (by decide) (Val.len Try.underlying51 rfl) ?_
      refine LS.vg rfl rfl rfl hg2 (by decide) (Val.gtr rfl rfl) ?_
      refine LS.vv rfl rfl (by decide) (Val.pickF rfl hg2 rfl) ?_
      refine LS.nil ?_
      first | refine W.condD rfl (fun hc3 => ?_) (fun hc3 => ?_) | refine W.cond rfl (fun hc3 => ?_) (fun hc3 => ?_)
      ·
        refine W.seqR ?_
        refine LS.vv rfl rfl (by decide) (Val.cast (v := .int .i64 ((0 : Nat) : Int)) (Val.assign rfl) rfl) ?_
        refine LS.vv rfl rfl (by decide) (Val.cast (v := .int .i64 ((0 : Nat) : Int)) (Val.assign rfl) rfl) ?_
        refine LS.nil ?_
        refine W.ret ?_
        refine thenP_ret ?_
        refine ret2 (by first | exact .inl rfl | exact .inr rfl) rfl rfl ?_
        first | (refine ⟨0, 0, rfl, .inl ⟨rfl, rfl, fun j hj h30 => ?_⟩, hB⟩; exfalso; rcases hz with ⟨hz1, hz2⟩ | ⟨k, rfl, hk1, hk2, hk3⟩; (have h9 := hz2 j (by have := hj.2.2; omega); rw [hj.2.1] at h9; cases h9); (have h8 := hj.2.2; rcases Nat.lt_trichotomy j k with h7 | h7 | h7; (have h9 := hk3 j h7; rw [hj.2.1] at h9; cases h9); omega; (have h9 := hj.1 k h7; rw [hk2] at h9; cases h9))) | (refine ⟨0, 0, rfl, .inl ⟨rfl, rfl, fun j hj h30 => ?_⟩, hB⟩; rw [IsG.one hj hG]; unfold numG; omega) | (refine ⟨_, _, rfl, .inr ⟨k, hG, by omega, rfl, by omega, rfl⟩, hB⟩)
      ·
        refine W.skip ?_
        refine thenP_normal ?_
        refine W.seqR ?_
        refine LS.vv rfl rfl (by decide) (Val.move rfl) ?_
        refine LS.vv rfl rfl (by decide) (Val.move rfl) ?_
        refine LS.vv rfl rfl (by decide) (Val.move rfl) ?_
        obtain ⟨k, rfl, hk1, hk2, hk3⟩ : ∃ k : Nat, z = (k : Int) ∧ k < bs.length ∧ gb bs k = true ∧ ∀ j, j < k → gb bs j = false := by rcases hz with ⟨h1, _⟩ | h1; (exfalso; omega); exact h1
        have hG : IsG bs k := ⟨hk3, hk2, by omega⟩
        have hng := numG_len bs k (by omega)
        first | refine LS.vv rfl rfl (by decide) (Val.mulN (i := 2) rfl rfl (by omega)) ?_ | refine LS.vv rfl rfl (by decide) (Val.mul64 rfl rfl (by omega)) ?_
        first | refine LS.vv rfl rfl (by decide) (Val.addN (j := 1) rfl rfl (by omega)) ?_ | refine LS.vv rfl rfl (by decide) (Val.add64 rfl rfl (by omega)) ?_
        refine LS.vv rfl rfl (by decide) (Val.sliceFromTo Try.underlying51 elem4 rfl rfl rfl (by omega) (by omega)) ?_
        refine LS.m rfl (Step.call body50 rfl rfl (by decide) rfl (CallsV.mono (num_any ((bs.take (2 * k + 1)).drop k) _ _ _ _ ((hr.below hB).take_bv.cut_bv (c := c) (by rw [List.length_take]; omega)) (by rw [hng]; omega) (by omega)) ?_))
        rintro _ w2 ⟨rfl, hb2⟩
        replace hM := hM.below hb2
        replace hB := hB.trans (hb2.mono hB.size)
        refine LS.vv rfl rfl (by decide) (Val.assign rfl) ?_
        refine LS.nil ?_
        refine W.seq ?_
        refine W.seqR ?_
        refine LS.vv rfl rfl (by decide) (Val.move rfl) ?_
        refine LS.vv rfl rfl (by decide) (Val.move rfl) ?_
        refine LS.vv rfl rfl (by decide) (Val.gtr rfl rfl) ?_
        refine LS.nil ?_
        first | refine W.condD rfl (fun hc4 => ?_) (fun hc4 => ?_) | refine W.cond rfl (fun hc4 => ?_) (fun hc4 => ?_)
        ·
          refine W.seqR ?_
          refine LS.vv rfl rfl (by decide) (Val.cast (v := .int .i64 ((0 : Nat) : Int)) (Val.assign rfl) rfl) ?_
          refine LS.vv rfl rfl (by decide) (Val.cast (v := .int .i64 ((0 : Nat) : Int)) (Val.assign rfl) rfl) ?_
          refine LS.nil ?_
          refine W.ret ?_
          refine thenP_ret ?_
          refine ret2 (by first | exact .inl rfl | exact .inr rfl) rfl rfl ?_
          first | (refine ⟨0, 0, rfl, .inl ⟨rfl, rfl, fun j hj h30 => ?_⟩, hB⟩; exfalso; rcases hz with ⟨hz1, hz2⟩ | ⟨k, rfl, hk1, hk2, hk3⟩; (have h9 := hz2 j (by have := hj.2.2; omega); rw [hj.2.1] at h9; cases h9); (have h8 := hj.2.2; rcases Nat.lt_trichotomy j k with h7 | h7 | h7; (have h9 := hk3 j h7; rw [hj.2.1] at h9; cases h9); omega; (have h9 := hj.1 k h7; rw [hk2] at h9; cases h9))) | (refine ⟨0, 0, rfl, .inl ⟨rfl, rfl, fun j hj h30 => ?_⟩, hB⟩; rw [IsG.one hj hG]; unfold numG; omega) | (refine ⟨_, _, rfl, .inr ⟨k, hG, by omega, rfl, by omega, rfl⟩, hB⟩)
        ·
          refine W.skip ?_
          refine thenP_normal ?_
          refine W.seqR ?_
          refine LS.vv rfl rfl (by decide) (Val.move rfl) ?_
          refine LS.vv rfl rfl (by decide) (Val.move rfl) ?_
          first | refine LS.vv rfl rfl (by decide) (Val.mulN (i := 2) rfl rfl (by omega)) ?_ | refine LS.vv rfl rfl (by decide) (Val.mul64 rfl rfl (by omega)) ?_
          first | refine LS.vv rfl rfl (by decide) (Val.addN (j := 1) rfl rfl (by omega)) ?_ | refine LS.vv rfl rfl (by decide) (Val.add64 rfl rfl (by omega)) ?_
          refine LS.vv rfl rfl (by decide) (Val.assign rfl) ?_
          refine LS.vv rfl rfl (by decide) (Val.assign rfl) ?_
          refine LS.nil ?_
          refine W.ret ?_
          refine ret2 (by first | exact .inl rfl | exact .inr rfl) rfl rfl ?_
          first | (refine ⟨0, 0, rfl, .inl ⟨rfl, rfl, fun j hj h30 => ?_⟩, hB⟩; exfalso; rcases hz with ⟨hz1, hz2⟩ | ⟨k, rfl, hk1, hk2, hk3⟩; (have h9 := hz2 j (by have := hj.2.2; omega); rw [hj.2.1] at h9; cases h9); (have h8 := hj.2.2; rcases Nat.lt_trichotomy j k with h7 | h7 | h7; (have h9 := hk3 j h7; rw [hj.2.1] at h9; cases h9); omega; (have h9 := hj.1 k h7; rw [hk2] at h9; cases h9))) | (refine ⟨0, 0, rfl, .inl ⟨rfl, rfl, fun j hj h30 => ?_⟩, hB⟩; rw [IsG.one hj hG]; unfold numG; omega) | (refine ⟨_, _, rfl, .inr ⟨k, hG, by omega, rfl, by omega, rfl⟩, hB⟩)

theorem ReadGamma_any (bs : List Bool) (p : Option Addr) (c : Nat) (m : Nat) (w0 : World) (hr : Rd w0 p (bv bs)) (hm : bs.length = m) (hl : m ≤ 9223372036854775807) (hc : m ≤ c) :
    CallsV Try.prog 29 #[.slice p m c] w0 (fun v w => ∃ n u e : Nat, v = .tuple #[.int .i64 (n : Int), .int .i64 (u : Int), .int .i64 (e : Int)] ∧ (e = 0 → ∃ k, IsG bs k ∧ n = numG bs k ∧ n ≤ 1048576 ∧ u = 2 * k + 1) ∧ (e ≠ 0 → n = 0 ∧ u = 0 ∧ ∀ k, IsG bs k → 1048576 < numG bs k) ∧ Below w0.heap.size w0 w) := by
  refine enter3 Try.func29 rfl Try.ntmps29 (by simp) rfl ?_
  have hB := Below.refl w0.heap.size w0
  simp only [argLoc]
  have hM := Mem.nil w0 w0.heap.size
  refine W.seqR ?_
  refine LS.vv rfl rfl (by decide) (Val.cast (v := .int .i64 ((0 : Nat) : Int)) (Val.assign rfl) rfl) ?_
  refine LS.vv rfl rfl (by decide) (Val.cast (v := .int .i64 ((0 : Nat) : Int)) (Val.assign rfl) rfl) ?_
  refine LS.vv rfl rfl (by decide) (Val.cast (v := .int .i64 ((0 : Nat) : Int)) (Val.assign rfl) rfl) ?_
  refine LS.nil ?_
  refine W.seqR ?_
  refine LS.vv rfl rfl (by decide) (Val.move rfl) ?_
  refine LS.m rfl (Step.call body49 rfl rfl (by decide) rfl (CallsV.mono (eread_any bs _ _ m 1048576 _ (hr.below hB) hm hl hc) ?_))
  rintro _ w1 ⟨n, u, rfl, hnu, hb1⟩
  replace hM := hM.below hb1
  replace hB := hB.trans (hb1.mono hB.size)
  refine LS.vv rfl rfl (by decide) (Val.move rfl) ?_
  refine LS.vv rfl rfl (by decide) (Val.extract rfl rfl) ?_
  refine LS.vv rfl rfl (by decide) (Val.extract rfl rfl) ?_
  refine LS.vv rfl rfl (by decide) (Val.assign rfl) ?_
  refine LS.vv rfl rfl (by decide) (Val.assign rfl) ?_
  refine LS.nil ?_
  refine W.seq ?_
  refine W.seqR ?_
  refine LS.vv rfl rfl (by decide) (Val.move rfl) ?_
  refine LS.vv rfl rfl (by decide) (Val.eql rfl rfl) ?_
  refine LS.nil ?_
  first | refine W.condD rfl (fun hc1 => ?_) (fun hc1 => ?_) | refine W.cond rfl (fun hc1 => ?_) (fun hc1 => ?_)
  ·
    refine W.seqR ?_
    refine LS.vv rfl rfl (by decide) (Val.cast (v := .int .i64 ((0 : Nat) : Int)) (Val.assign rfl) rfl) ?_
    refine LS.vv rfl rfl (by decide) (Val.cast (v := .int .i64 ((0 : Nat) : Int)) (Val.assign rfl) rfl) ?_
    refine LS.vv rfl rfl (by decide) (Val.cast (v := .int .i64 ((5 : Nat) : Int)) (Val.assign rfl) rfl) ?_
    refine LS.nil ?_
    refine W.ret ?_
    refine thenP_ret ?_
    refine ret3 (by first | exact .inl rfl | exact .inr rfl) rfl rfl rfl ?_
    first | (refine ⟨0, 0, 5, rfl, fun h => by omega, fun _ => ⟨rfl, rfl, fun k hk => ?_⟩, hB⟩; rcases hnu with ⟨_, _, h3⟩ | ⟨k2, _, _, _, _, h5⟩; (by_cases hb : numG bs k ≤ 1048576; exact h3 k hk (by have := isG_bits hk hb; omega); omega); omega) | (refine ⟨n, u, 0, rfl, fun _ => ?_, fun h => absurd rfl h, hB⟩; rcases hnu with ⟨_, h2, _⟩ | ⟨k, h1, _, h3, h4, h5⟩; omega; exact ⟨k, h1, h3, h4, h5⟩)
  ·
    refine W.skip ?_
    refine thenP_normal ?_
    refine W.seqR ?_
    refine LS.vv rfl rfl (by decide) (Val.move rfl) ?_
    refine LS.vv rfl rfl (by decide) (Val.move rfl) ?_
    refine LS.vv rfl rfl (by decide) (Val.assign rfl) ?_
    refine LS.vv rfl rfl (by decide) (Val.assign rfl) ?_
    refine LS.vv rfl rfl (by decide) (Val.cast (v := .int .i64 ((0 : Nat) : Int)) (Val.assign rfl) rfl) ?_
    refine LS.nil ?_
    refine W.ret ?_
    refine ret3 (by first | exact .inl rfl | exact .inr rfl) rfl rfl rfl ?_
    first | (refine ⟨0, 0, 5, rfl, fun h => by omega, fun _ => ⟨rfl, rfl, fun k hk => ?_⟩, hB⟩; rcases hnu with ⟨_, _, h3⟩ | ⟨k2, _, _, _, _, h5⟩; (by_cases hb : numG bs k ≤ 1048576; exact h3 k hk (by have := isG_bits hk hb; omega); omega); omega) | (refine ⟨n, u, 0, rfl, fun _ => ?_, fun h => absurd rfl h, hB⟩; rcases hnu with ⟨_, h2, _⟩ | ⟨k, h1, _, h3, h4, h5⟩; omega; exact ⟨k, h1, h3, h4, h5⟩)

theorem ReadDelta_any (bs : List Bool) (p : Option Addr) (c : Nat) (m : Nat) (w0 : World) (hr : Rd w0 p (bv bs)) (hm : bs.length = m) (hl : m ≤ 9223372036854775807) (hc : m ≤ c) :
    CallsV Try.prog 30 #[.slice p m c] w0 (fun v w => ∃ n u e : Nat, v = .tuple #[.int .i64 (n : Int), .int .i64 (u : Int), .int .i64 (e : Int)] ∧ (e = 0 → ∃ k, IsG bs k ∧ 2 * k + 1 + (numG bs k - 1) ≤ m ∧ n = num (true :: (bs.drop (2 * k + 1)).take (numG bs k - 1)) ∧ n ≤ 1048576 ∧ u = 2 * k + 1 + (numG bs k - 1)) ∧ (e ≠ 0 → n = 0 ∧ u = 0 ∧ ∀ k, IsG bs k → k ≤ 30 → numG bs k ≤ 21 → 2 * k + 1 + (numG bs k - 1) ≤ m → 1048576 < num (true :: (bs.drop (2 * k + 1)).take (numG bs k - 1))) ∧ Below w0.heap.size w0 w) := by
  refine enter3 Try.func30 rfl Try.ntmps30 (by simp) rfl ?_
  have hB := Below.refl w0.heap.size w0
  simp only [argLoc]
  have hM := Mem.nil w0 w0.heap.size
  have hb21 : bitLen 1048576 = 21 := by decide +kernel
  refine W.seqR ?_
  refine LS.vv rfl rfl (by decide) (Val.cast (v := .int .i64 ((0 : Nat) : Int)) (Val.assign rfl) rfl) ?_
  refine LS.vv rfl rfl (by decide) (Val.cast (v := .int .i64 ((0 : Nat) : Int)) (Val.assign rfl) rfl) ?_
  refine LS.vv rfl rfl (by decide) (Val.cast (v := .int .i64 ((0 : Nat) : Int)) (Val.assign rfl) rfl) ?_
  refine LS.nil ?_
  refine W.seqR ?_
  refine LS.vv rfl rfl (by decide) (Val.move rfl) ?_
  refine LS.m rfl (Step.call body47 rfl rfl (by decide) rfl (CallsV.mono (blen_any 1048576 _ (by omega)) ?_))
  rintro _ w1 ⟨rfl, hb1⟩
  replace hM := hM.below hb1
  replace hB := hB.trans (hb1.mono hB.size)
  rw [hb21]
  refine LS.m rfl (Step.call body49 rfl rfl (by decide) rfl (CallsV.mono (eread_any bs _ _ m 21 _ (hr.below hB) hm hl hc) ?_))
  rintro _ w2 ⟨n, u, rfl, hnu, hb2⟩
  replace hM := hM.below hb2
  replace hB := hB.trans (hb2.mono hB.size)
  refine LS.vv rfl rfl (by decide) (Val.move rfl) ?_
  refine LS.vv rfl rfl (by decide) (Val.extract rfl rfl) ?_
  refine LS.vv rfl rfl (by decide) (Val.extract rfl rfl) ?_
  refine LS.vv rfl rfl (by decide) (Val.assign rfl) ?_
  refine LS.vv rfl rfl (by decide) (Val.assign rfl) ?_
  refine LS.nil ?_
  refine W.seq ?_
  refine W.seqR ?_
  refine LS.vv rfl rfl (by decide) (Val.move rfl) ?_
  refine LS.vv rfl rfl (by decide) (Val.eql rfl rfl) ?_
  refine LS.vv rfl rfl (by decide) (Val.move rfl) ?_
  refine LS.split 2 rfl (fun hg1 => ?_) (fun hg1 => ?_)
  ·
    first | (have hg1p := of_decide_eq_true hg1) | skip
    refine LS.s rfl rfl rfl hg1 (by decide) ?_
    refine LS.s rfl rfl rfl hg1 (by decide) ?_
    refine LS.s rfl rfl rfl hg1 (by decide) ?_
    refine LS.s rfl rfl rfl hg1 (by decide) ?_
    refine LS.s rfl rfl rfl hg1 (by decide) ?_
    refine LS.s rfl rfl rfl hg1 (by decide) ?_
    refine LS.s rfl rfl rfl hg1 (by decide) ?_
    refine LS.vv rfl rfl (by decide) (Val.pickT rfl hg1 rfl) ?_
    refine LS.nil ?_
    refine W.condT rfl ?_
    refine W.seqR ?_
    refine LS.vv rfl rfl (by decide) (Val.cast (v := .int .i64 ((0 : Nat) : Int)) (Val.assign rfl) rfl) ?_
    refine LS.vv rfl rfl (by decide) (Val.cast (v := .int .i64 ((0 : Nat) : Int)) (Val.assign rfl) rfl) ?_
    refine LS.vv rfl rfl (by decide) (Val.cast (v := .int .i64 ((5 : Nat) : Int)) (Val.assign rfl) rfl) ?_
    refine LS.nil ?_
    refine W.ret ?_
    refine thenP_ret ?_
    refine ret3 (by first | exact .inl rfl | exact .inr rfl) rfl rfl rfl ?_
    first | (refine ⟨0, 0, 5, rfl, fun h => by omega, fun _ => ⟨rfl, rfl, fun j hj h30 hj21 hjm => ?_⟩, hB⟩; first | (have hz0 : u = 0 := (by omega); rcases hnu with ⟨_, _, h3⟩ | ⟨k2, _, _, _, _, h5⟩; (have := h3 j hj h30; omega); omega) | (exfalso; rw [IsG.one hj hG] at hjm; omega) | (rw [IsG.one hj hG]; omega)) | (exact ⟨_, _, 0, rfl, fun _ => ⟨k, hG, by omega, rfl, by omega, by omega⟩, fun h => absurd rfl h, hB⟩)
  ·
    first | (have hg1p := of_decide_eq_false hg1) | skip
    refine LS.vg rfl rfl rfl hg1 (by decide) (Val.move rfl) ?_
    refine LS.vg rfl rfl rfl hg1 (by decide) (Val.move rfl) ?_
    first | refine LS.vg rfl rfl rfl hg1 (by decide) (Val.addN rfl rfl (by omega)) ?_ | refine LS.vg rfl rfl rfl hg1 (by decide) (Val.add64 rfl rfl (by omega)) ?_
    have hu0 : u ≠ 0 := by omega
    obtain ⟨k, hG, hk30, rfl, hn21, rfl⟩ : ∃ k, IsG bs k ∧ k ≤ 30 ∧ n = numG bs k ∧ n ≤ 21 ∧ u = 2 * k + 1 := by rcases hnu with ⟨_, h2, _⟩ | h1; exact absurd h2 hu0; exact h1
    obtain ⟨g1, g2, g3⟩ := gam_back hG
    refine LS.vg rfl rfl rfl hg1 (by decide) (Val.subN (j := 1) rfl rfl (by omega) (by omega)) ?_
    refine LS.vg rfl rfl rfl hg1 (by decide) (Val.move rfl) ?_
    refine LS.vg rfl rfl rfl hg1 (by decide) (Val.len Try.underlying51 rfl) ?_
    refine LS.vg rfl rfl rfl hg1 (by decide) (Val.gtr rfl rfl) ?_
    refine LS.vv rfl rfl (by decide) (Val.pickF rfl hg1 rfl) ?_
    refine LS.nil ?_
    first | refine W.condD rfl (fun hc2 => ?_) (fun hc2 => ?_) | refine W.cond rfl (fun hc2 => ?_) (fun hc2 => ?_)
    ·
      refine W.seqR ?_
      refine LS.vv rfl rfl (by decide) (Val.cast (v := .int .i64 ((0 : Nat) : Int)) (Val.assign rfl) rfl) ?_
      refine LS.vv rfl rfl (by decide) (Val.cast (v := .int .i64 ((0 : Nat) : Int)) (Val.assign rfl) rfl) ?_
      refine LS.vv rfl rfl (by decide) (Val.cast (v := .int .i64 ((5 : Nat) : Int)) (Val.assign rfl) rfl) ?_
      refine LS.nil ?_
      refine W.ret ?_
      refine thenP_ret ?_
      refine ret3 (by first | exact .inl rfl | exact .inr rfl) rfl rfl rfl ?_
      first | (refine ⟨0, 0, 5, rfl, fun h => by omega, fun _ => ⟨rfl, rfl, fun j hj h30 hj21 hjm => ?_⟩, hB⟩; first | (have hz0 : u = 0 := (by omega); rcases hnu with ⟨_, _, h3⟩ | ⟨k2, _, _, _, _, h5⟩; (have := h3 j hj h30; omega); omega) | (exfalso; rw [IsG.one hj hG] at hjm; omega) | (rw [IsG.one hj hG]; omega)) | (exact ⟨_, _, 0, rfl, fun _ => ⟨k, hG, by omega, rfl, by omega, by omega⟩, fun h => absurd rfl h, hB⟩)
    ·
      refine W.skip ?_
      refine thenP_normal ?_
      refine W.seqR ?_
      refine LS.m rfl (Step.lit rfl rfl (by decide) Try.underlying51 elem4 rfl rfl (by omega) (by simp [Value.oneCell']) (Nat.le_refl _) ?_)
      rintro w3 hO3 hg3 hbl3 hsz3
      replace hM := hM.add hB.size hbl3 hO3
      try simp only [bv_app1, bv_app, bv_set, bv_rep, bv_one, bv_cons, bv_take, bv_drop, List.nil_append] at hM
      replace hB := hB.trans (hbl3.mono hB.size)
      generalize w2.heap.size = gg3 at *
      refine LS.vv rfl rfl (by decide) (Val.move rfl) ?_
      refine LS.vv rfl rfl (by decide) (Val.move rfl) ?_
      refine LS.vv rfl rfl (by decide) (Val.move rfl) ?_
      refine LS.vv rfl rfl (by decide) (Val.move rfl) ?_
      first | refine LS.vv rfl rfl (by decide) (Val.addN rfl rfl (by omega)) ?_ | refine LS.vv rfl rfl (by decide) (Val.add64 rfl rfl (by omega)) ?_
      refine LS.vv rfl rfl (by decide) (Val.subN (j := 1) rfl rfl (by omega) (by omega)) ?_
      refine LS.vv rfl rfl (by decide) (Val.sliceFromTo Try.underlying51 elem4 rfl rfl rfl (by omega) (by omega)) ?_
      refine LS.m rfl (Step.append2 (B := w0.heap.size) rfl rfl (by decide) Try.underlying51 elem4 rfl rfl rfl rfl (hM.o0) (((hr.below hB).cut_bv (c := c) (k := 2 * k + 1) (by omega)).take_bv (k := numG bs k - 1)) (by rw [List.length_map, List.length_take, List.length_drop]; omega) (by first | exact one_map _ (fun _ => rfl) _ | simp [Value.oneCell']) (by omega) (by omega) hB.size ?_)
      rintro p4 c4 w4 hO4 hg4 hbl4 hbk4
      replace hM := hM.s0 hg4 hO4 hbk4
      try simp only [bv_app1, bv_app, bv_set, bv_rep, bv_one, bv_cons, bv_take, bv_drop, List.nil_append] at hM
      replace hB := hB.trans hbl4
      have hnl : (true :: (bs.drop (2 * k + 1)).take (numG bs k - 1)).length = numG bs k := by rw [List.length_cons, List.length_take, List.length_drop]; omega
      refine LS.m rfl (Step.call body50 rfl rfl (by decide) rfl (CallsV.mono (num_any (true :: (bs.drop (2 * k + 1)).take (numG bs k - 1)) _ _ _ _ hM.o0.rd (by rw [hnl]; omega) (by omega)) ?_))
      rintro _ w5 ⟨rfl, hb5⟩
      replace hM := hM.below hb5
      replace hB := hB.trans (hb5.mono hB.size)
      refine LS.vv rfl rfl (by decide) (Val.assign rfl) ?_
      refine LS.nil ?_
      refine W.seq ?_
      refine W.seqR ?_
      refine LS.vv rfl rfl (by decide) (Val.move rfl) ?_
      refine LS.vv rfl rfl (by decide) (Val.gtr rfl rfl) ?_
      refine LS.nil ?_
      first | refine W.condD rfl (fun hc3 => ?_) (fun hc3 => ?_) | refine W.cond rfl (fun hc3 => ?_) (fun hc3 => ?_)
      ·
        refine W.seqR ?_
        refine LS.vv rfl rfl (by decide) (Val.cast (v := .int .i64 ((0 : Nat) : Int)) (Val.assign rfl) rfl) ?_
        refine LS.vv rfl rfl (by decide) (Val.cast (v := .int .i64 ((0 : Nat) : Int)) (Val.assign rfl) rfl) ?_
        refine LS.vv rfl rfl (by decide) (Val.cast (v := .int .i64 ((5 : Nat) : Int)) (Val.assign rfl) rfl) ?_
        refine LS.nil ?_
        refine W.ret ?_
        refine thenP_ret ?_
        refine ret3 (by first | exact .inl rfl | exact .inr rfl) rfl rfl rfl ?_
        first | (refine ⟨0, 0, 5, rfl, fun h => by omega, fun _ => ⟨rfl, rfl, fun j hj h30 hj21 hjm => ?_⟩, hB⟩; first | (have hz0 : u = 0 := (by omega); rcases hnu with ⟨_, _, h3⟩ | ⟨k2, _, _, _, _, h5⟩; (have := h3 j hj h30; omega); omega) | (exfalso; rw [IsG.one hj hG] at hjm; omega) | (rw [IsG.one hj hG]; omega)) | (exact ⟨_, _, 0, rfl, fun _ => ⟨k, hG, by omega, rfl, by omega, by omega⟩, fun h => absurd rfl h, hB⟩)
      ·
        refine W.skip ?_
        refine thenP_normal ?_
        refine W.seqR ?_
        refine LS.vv rfl rfl (by decide) (Val.move rfl) ?_
        refine LS.vv rfl rfl (by decide) (Val.move rfl) ?_
        refine LS.vv rfl rfl (by decide) (Val.move rfl) ?_
        first | refine LS.vv rfl rfl (by decide) (Val.addN rfl rfl (by omega)) ?_ | refine LS.vv rfl rfl (by decide) (Val.add64 rfl rfl (by omega)) ?_
        refine LS.vv rfl rfl (by decide) (Val.subN (j := 1) rfl rfl (by omega) (by omega)) ?_
        refine LS.vv rfl rfl (by decide) (Val.assign rfl) ?_
        refine LS.vv rfl rfl (by decide) (Val.assign rfl) ?_
        refine LS.vv rfl rfl (by decide) (Val.cast (v := .int .i64 ((0 : Nat) : Int)) (Val.assign rfl) rfl) ?_
        refine LS.nil ?_
        refine W.ret ?_
        refine ret3 (by first | exact .inl rfl | exact .inr rfl) rfl rfl rfl ?_
        first | (refine ⟨0, 0, 5, rfl, fun h => by omega, fun _ => ⟨rfl, rfl, fun j hj h30 hj21 hjm => ?_⟩, hB⟩; first | (have hz0 : u = 0 := (by omega); rcases hnu with ⟨_, _, h3⟩ | ⟨k2, _, _, _, _, h5⟩; (have := h3 j hj h30; omega); omega) | (exfalso; rw [IsG.one hj hG] at hjm; omega) | (rw [IsG.one hj hG]; omega)) | (exact ⟨_, _, 0, rfl, fun _ => ⟨k, hG, by omega, rfl, by omega, by omega⟩, fun h => absurd rfl h, hB⟩)

end Go.Proofs.Ytcoplafphgpmpaa
