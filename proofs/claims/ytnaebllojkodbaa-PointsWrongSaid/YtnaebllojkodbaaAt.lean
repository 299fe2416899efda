/-
  field.At, and the statement FieldRoots.
-/
import Derived.Test.YtnaebllojkodbaaBackward
import Derived.Test.YtnaebllojkodbaaRoots2Plain
import Derived.Test.YtnaebllojkodbaaVfin
import Derived.Test.YtnaebllojkodbaaField
import Derived.Test.YtnaebllojkodbaaVfacts2
namespace Go.Proofs.Ytnaebllojkodbaa
open Go Go.RowKit V
set_option linter.unusedVariables false
set_option linter.unusedSimpArgs false

attribute [local irreducible] fmul pval
theorem okF_app1 {x : Nat} {zs : List Int} (hx : x < 16) : OkF ([(x : Int)] ++ zs) ↔ OkF zs := by
  simp only [OkF, List.mem_append, List.mem_singleton]
  refine ⟨fun h z hz => h z (.inr hz), fun h z hz => hz.elim (fun e => by subst e; omega) (h z)⟩
theorem ok_rd {zs : List Int} {w : World} {p : Option Addr} (h : OkF zs) (hr : Rd w p (iv zs)) : Rd w p (nv (zs.map Int.toNat)) := by rw [← (okF_iff_small h).2.1]; exact hr
theorem fcheckN (zs : List Int) (p : Option Addr) (c m : Nat) (w0 : World) (hr : Rd w0 p (iv zs)) (hm : zs.length = m) (hb : m ≤ 4611686018427387904) : CallsV Try.prog 31 #[.slice p m c] w0 (fun v w => ∃ e : Nat, v = .int .i64 (e : Int) ∧ (e = 0 ↔ OkF zs) ∧ (e = 0 ∨ e = 4) ∧ Below w0.heap.size w0 w) := by
  subst hm
  exact fcheck_any zs p c w0 hr hb
theorem numbersN (zs : List Int) (p : Option Addr) (c m : Nat) (w0 : World) (hr : Rd w0 p (iv zs)) (hm : zs.length = m) (hb : m ≤ 9223372036854775800) : CallsV Try.prog 14 #[.slice p m c] w0 (fun v w => ∃ b : Bool, v = .bool b ∧ (b = true ↔ OkF zs) ∧ Below w0.heap.size w0 w) := by
  subst hm
  exact numbers_any zs p c w0 hr hb

theorem at_any (zs : List Int) (p : Option Addr) (c m : Nat) (w0 : World) (hr : Rd w0 p (iv zs)) (hm : zs.length = m) (x : Nat) (hx : x < 16) (hl : m * 8 ≤ 140737488351232) :
    CallsV Try.prog 15 #[.slice p m c, .int .i64 (x : Int)] w0 (fun v w => ∃ y e : Nat, v = .tuple #[.int .i64 (y : Int), .int .i64 (e : Int)] ∧ (e = 0 ↔ OkF zs ∧ m ≤ 64) ∧ (e = 0 → y = pval (zs.map Int.toNat) x) ∧ y < 16 ∧ Below w0.heap.size w0 w) := by
  refine enter2 Try.func15 rfl Try.ntmps15 (by simp) rfl ?_
  have hB := Below.refl w0.heap.size w0
  simp only [argLoc, Nat.zero_add]
  have hM := Mem.nil w0 w0.heap.size
  subst hm
  refine W.seqR ?_
  refine LS.vv rfl rfl (by decide) (Val.cast (v := .int .i64 ((0 : Nat) : Int)) (Val.assign rfl) rfl) ?_
  refine LS.vv rfl rfl (by decide) (Val.cast (v := .int .i64 ((0 : Nat) : Int)) (Val.assign rfl) rfl) ?_
  refine LS.nil ?_
  refine W.seq ?_
  refine W.seqR ?_
  refine LS.vv rfl rfl (by decide) (Val.move rfl) ?_
  refine LS.m rfl (Step.lit rfl rfl (by decide) Try.underlying27 elem3 rfl rfl (by omega) (by simp [Value.oneCell']) (Nat.le_refl _) ?_)
  rintro w1 hO1 hg1 hbl1 hsz1
  replace hM := hM.add hB.size hbl1 hO1
  try simp only [iv_app1, iv_app, iv_set, iv_rep, iv_one, iv_cons, iv_take, iv_drop, List.nil_append] at hM
  replace hB := hB.trans (hbl1.mono hB.size)
  skip
  refine LS.vv rfl rfl (by decide) (Val.move rfl) ?_
  refine LS.m rfl (Step.append3 (B := w0.heap.size) rfl rfl (by decide) Try.underlying27 elem3 rfl rfl rfl (hM.o0) ((hr.below hB)) (by first | rfl | (simp; done) | (simp; omega)) (by first | exact one_map _ (fun _ => rfl) _ | simp [Value.oneCell']) (by omega) (by omega) hB.size ?_)
  rintro p2 c2 w2 hO2 hg2 hbl2 hbk2
  replace hM := hM.s0 hg2 hO2 hbk2
  try simp only [iv_app1, iv_app, iv_set, iv_rep, iv_one, iv_cons, iv_take, iv_drop, List.nil_append] at hM
  replace hB := hB.trans hbl2
  refine LS.m rfl (Step.call body31 rfl rfl (by decide) rfl (CallsV.mono (fcheckN ([(x : Int)] ++ zs) _ _ _ _ hM.o0.rd (by simp; omega) (by omega)) ?_))
  rintro _ w3 ⟨e, rfl, he, he4, hb3⟩
  replace hM := hM.below hb3
  replace hB := hB.trans (hb3.mono hB.size)
  rw [okF_app1 hx] at he
  refine LS.vv rfl rfl (by decide) (Val.assign rfl) ?_
  refine LS.nil ?_
  refine W.seqR ?_
  refine LS.vv rfl rfl (by decide) (Val.move rfl) ?_
  refine LS.vv rfl rfl (by decide) (Val.neq rfl rfl) ?_
  refine LS.nil ?_
  first | refine W.condD rfl (fun hc1 => ?_) (fun hc1 => ?_) | refine W.cond rfl (fun hc1 => ?_) (fun hc1 => ?_)
  ·
    refine W.seqR ?_
    refine LS.vv rfl rfl (by decide) (Val.move rfl) ?_
    refine LS.vv rfl rfl (by decide) (Val.cast (v := .int .i64 ((0 : Nat) : Int)) (Val.assign rfl) rfl) ?_
    refine LS.vv rfl rfl (by decide) (Val.assign rfl) ?_
    refine LS.nil ?_
    refine W.ret ?_
    refine thenP_ret ?_
    refine ret2 (by first | exact .inl rfl | exact .inr rfl) rfl rfl ?_
    exact ⟨0, e, rfl, ⟨fun h => by omega, fun h => he.2 h.1⟩, fun h => by omega, by omega, hB⟩
  ·
    refine W.skip ?_
    refine thenP_normal ?_
    refine W.seq ?_
    refine W.seqR ?_
    refine LS.vv rfl rfl (by decide) (Val.move rfl) ?_
    refine LS.vv rfl rfl (by decide) (Val.len Try.underlying27 rfl) ?_
    refine LS.vv rfl rfl (by decide) (Val.gtr rfl rfl) ?_
    refine LS.nil ?_
    first | refine W.condD rfl (fun hc2 => ?_) (fun hc2 => ?_) | refine W.cond rfl (fun hc2 => ?_) (fun hc2 => ?_)
    ·
      refine W.seqR ?_
      refine LS.vv rfl rfl (by decide) (Val.cast (v := .int .i64 ((0 : Nat) : Int)) (Val.assign rfl) rfl) ?_
      refine LS.vv rfl rfl (by decide) (Val.cast (v := .int .i64 ((1 : Nat) : Int)) (Val.assign rfl) rfl) ?_
      refine LS.nil ?_
      refine W.ret ?_
      refine thenP_ret ?_
      refine ret2 (by first | exact .inl rfl | exact .inr rfl) rfl rfl ?_
      exact ⟨0, 1, rfl, ⟨fun h => by omega, fun h => by omega⟩, fun h => by omega, by omega, hB⟩
    ·
      refine W.skip ?_
      refine thenP_normal ?_
      refine W.seqR ?_
      refine LS.vv rfl rfl (by decide) (Val.move rfl) ?_
      refine LS.vv rfl rfl (by decide) (Val.move rfl) ?_
      have hok := he.1 (by omega)
      have hsm := (okF_iff_small hok).1
      refine LS.m rfl (Step.call body34 rfl rfl (by decide) rfl (CallsV.mono (value_any (zs.map Int.toNat) _ _ _ x _ (ok_rd hok (hr.below hB)) (by simp) hsm hx hl) ?_))
      rintro _ w4 ⟨rfl, hb4⟩
      replace hM := hM.below hb4
      replace hB := hB.trans (hb4.mono hB.size)
      have hpl := pval_lt hsm hx
      refine LS.vv rfl rfl (by decide) (Val.assign rfl) ?_
      refine LS.vv rfl rfl (by decide) (Val.cast (v := .int .i64 ((0 : Nat) : Int)) (Val.assign rfl) rfl) ?_
      refine LS.nil ?_
      refine W.ret ?_
      refine ret2 (by first | exact .inl rfl | exact .inr rfl) rfl rfl ?_
      exact ⟨_, 0, rfl, ⟨fun _ => ⟨hok, by omega⟩, fun _ => rfl⟩, fun _ => rfl, hpl, hB⟩

theorem fieldRoots_any (zs : List Int) (p : Option Addr) (c m : Nat) (w0 : World) (hr : Rd w0 p (iv zs)) (hm : zs.length = m) (hl : m * 8 ≤ 140737488351232) :
    CallsV Try.prog 4 #[.slice p m c] w0 (fun v w => v = .bool true ∧ Below w0.heap.size w0 w) := by
  refine enter1 Try.func4 rfl Try.ntmps4 (by simp) rfl ?_
  have hB := Below.refl w0.heap.size w0
  simp only [argLoc]
  have hM := Mem.nil w0 w0.heap.size
  subst hm
  refine W.seqR ?_
  refine LS.vv rfl rfl (by decide) (Val.assign rfl) ?_
  refine LS.nil ?_
  refine W.seq ?_
  refine W.seqR ?_
  refine LS.vv rfl rfl (by decide) (Val.move rfl) ?_
  refine LS.m rfl (Step.call body14 rfl rfl (by decide) rfl (CallsV.mono (numbers_any zs _ _ _ (hr.below hB) (by omega)) ?_))
  rintro _ w1 ⟨b, rfl, hb0, hb1⟩
  replace hM := hM.below hb1
  replace hB := hB.trans (hb1.mono hB.size)
  refine LS.vv rfl rfl (by decide) (Val.not rfl) ?_
  refine LS.vv rfl rfl (by decide) (Val.move rfl) ?_
  refine LS.split 3 rfl (fun hg1 => ?_) (fun hg1 => ?_)
  ·
    first | (have hg1p := of_decide_eq_true hg1) | skip
    refine LS.s rfl rfl rfl hg1 (by decide) ?_
    refine LS.s rfl rfl rfl hg1 (by decide) ?_
    refine LS.s rfl rfl rfl hg1 (by decide) ?_
    refine LS.vv rfl rfl (by decide) (Val.pickT rfl hg1 rfl) ?_
    refine LS.nil ?_
    refine W.condT rfl ?_
    refine W.seqR ?_
    refine LS.vv rfl rfl (by decide) (Val.move rfl) ?_
    refine LS.m rfl (Step.call body15 rfl rfl (by decide) rfl (CallsV.mono (at_any zs _ _ _ _ (hr.below hB) rfl 1 (by omega) hl) ?_))
    rintro _ w2 ⟨y, e, rfl, he, _, _, hb2⟩
    replace hM := hM.below hb2
    replace hB := hB.trans (hb2.mono hB.size)
    refine LS.vv rfl rfl (by decide) (Val.move rfl) ?_
    refine LS.vv rfl rfl (by decide) (Val.extract rfl rfl) ?_
    refine LS.vv rfl rfl (by decide) (Val.extract rfl rfl) ?_
    refine LS.vv rfl rfl (by decide) (Val.assign rfl) ?_
    refine LS.vv rfl rfl (by decide) (Val.assign rfl) ?_
    refine LS.nil ?_
    refine W.seqR ?_
    refine LS.vv rfl rfl (by decide) (Val.move rfl) ?_
    refine LS.vv rfl rfl (by decide) (Val.cast (v := .bool true) (Val.neq rfl rfl) (by refine congrArg Value.bool (decide_eq_true fun h0 => ?_); have h1 := he.1 (by omega); have h2 := hb0.2 h1.1; first | (simp_all; done) | (simp_all; omega))) ?_
    refine LS.vv rfl rfl (by decide) (Val.assign rfl) ?_
    refine LS.nil ?_
    refine W.ret ?_
    refine thenP_ret ?_
    refine ret1 (by first | exact .inl rfl | exact .inr rfl) rfl ?_
    first | exact ⟨rfl, hB⟩ | (exfalso; first | contradiction | omega | (simp_all; done)) | (obtain rfl : x = 16 := (by omega); obtain rfl : k = zs.length := (by omega); have f1 := fun h => roots_zero ((allZ_iff hok).1 h) 16 (by omega); have f2 := fun h : allZ zs zs.length = false => roots_few (okF_iff_small hok).1 (fun h2 => (by rw [(allZ_iff hok).2 h2] at h; cases h)); rw [List.length_map] at f2; refine ⟨?_, hB⟩; cases hz : allZ zs zs.length <;> simp_all <;> omega)
  ·
    first | (have hg1p := of_decide_eq_false hg1) | skip
    refine LS.vg rfl rfl rfl hg1 (by decide) (Val.move rfl) ?_
    refine LS.vg rfl rfl rfl hg1 (by decide) (Val.len Try.underlying27 rfl) ?_
    refine LS.vg rfl rfl rfl hg1 (by decide) (Val.gtr rfl rfl) ?_
    refine LS.vv rfl rfl (by decide) (Val.pickF rfl hg1 rfl) ?_
    refine LS.nil ?_
    first | refine W.condD rfl (fun hc2 => ?_) (fun hc2 => ?_) | refine W.cond rfl (fun hc2 => ?_) (fun hc2 => ?_)
    ·
      refine W.seqR ?_
      refine LS.vv rfl rfl (by decide) (Val.move rfl) ?_
      refine LS.m rfl (Step.call body15 rfl rfl (by decide) rfl (CallsV.mono (at_any zs _ _ _ _ (hr.below hB) rfl 1 (by omega) hl) ?_))
      rintro _ w3 ⟨y, e, rfl, he, _, _, hb3⟩
      replace hM := hM.below hb3
      replace hB := hB.trans (hb3.mono hB.size)
      refine LS.vv rfl rfl (by decide) (Val.move rfl) ?_
      refine LS.vv rfl rfl (by decide) (Val.extract rfl rfl) ?_
      refine LS.vv rfl rfl (by decide) (Val.extract rfl rfl) ?_
      refine LS.vv rfl rfl (by decide) (Val.assign rfl) ?_
      refine LS.vv rfl rfl (by decide) (Val.assign rfl) ?_
      refine LS.nil ?_
      refine W.seqR ?_
      refine LS.vv rfl rfl (by decide) (Val.move rfl) ?_
      refine LS.vv rfl rfl (by decide) (Val.cast (v := .bool true) (Val.neq rfl rfl) (by refine congrArg Value.bool (decide_eq_true fun h0 => ?_); have h1 := he.1 (by omega); have h2 := hb0.2 h1.1; first | (simp_all; done) | (simp_all; omega))) ?_
      refine LS.vv rfl rfl (by decide) (Val.assign rfl) ?_
      refine LS.nil ?_
      refine W.ret ?_
      refine thenP_ret ?_
      refine ret1 (by first | exact .inl rfl | exact .inr rfl) rfl ?_
      first | exact ⟨rfl, hB⟩ | (exfalso; first | contradiction | omega | (simp_all; done)) | (obtain rfl : x = 16 := (by omega); obtain rfl : k = zs.length := (by omega); have f1 := fun h => roots_zero ((allZ_iff hok).1 h) 16 (by omega); have f2 := fun h : allZ zs zs.length = false => roots_few (okF_iff_small hok).1 (fun h2 => (by rw [(allZ_iff hok).2 h2] at h; cases h)); rw [List.length_map] at f2; refine ⟨?_, hB⟩; cases hz : allZ zs zs.length <;> simp_all <;> omega)
    ·
      have hok := hb0.1 (by simp_all)
      have hl64 : zs.length ≤ 64 := by omega
      refine W.skip ?_
      refine thenP_normal ?_
      refine W.seqR ?_
      refine LS.vv rfl rfl (by decide) (Val.cast (v := .int .i64 ((0 : Nat) : Int)) (Val.assign rfl) rfl) ?_
      refine LS.nil ?_
      refine W.seq ?_
      refine W.seqR ?_
      refine LS.vv rfl rfl (by decide) (Val.cast (v := .int .i64 ((0 : Nat) : Int)) (Val.assign rfl) rfl) ?_
      refine LS.nil ?_
      refine W.block ?_
      refine W.loop (α := Nat) (fun x => [(5, .int .i64 (rootsN (zs.map Int.toNat) x : Int)), (6, .int .i64 (x : Int))]) [(0, _)] (fun x w => (x ≤ 16) ∧ Mem w w0.heap.size [] ∧ Below w0.heap.size w0 w) (fun x => 16 - x) (0) (Sub.cons rfl (Sub.cons rfl (Sub.nil _))) (Sub.cons rfl (Sub.nil _)) ?_ ?_
      · exact ⟨Nat.zero_le _, hM, hB⟩
      rintro x w4 ⟨hx, hM, hB⟩
      try simp only at hM
      simp only [List.cons_append, List.nil_append]
      have hrs := rootsN_succ (zs.map Int.toNat) x
      have hrl := rootsN_le (zs.map Int.toNat) x
      refine W.seq ?_
      refine W.seqR ?_
      refine LS.vv rfl rfl (by decide) (Val.move rfl) ?_
      refine LS.vv rfl rfl (by decide) (Val.lss rfl rfl) ?_
      refine LS.nil ?_
      first | refine W.condD rfl (fun hc3 => ?_) (fun hc3 => ?_) | refine W.cond rfl (fun hc3 => ?_) (fun hc3 => ?_)
      ·
        refine W.skip ?_
        refine thenP_normal ?_
        refine W.seq ?_
        refine W.block ?_
        refine W.seqR ?_
        refine LS.vv rfl rfl (by decide) (Val.move rfl) ?_
        refine LS.vv rfl rfl (by decide) (Val.move rfl) ?_
        refine LS.m rfl (Step.call body15 rfl rfl (by decide) rfl (CallsV.mono (at_any zs _ _ _ _ (hr.below hB) rfl x (by omega) hl) ?_))
        rintro _ w5 ⟨y, e, rfl, he, hy, hy16, hb5⟩
        replace hM := hM.below hb5
        replace hB := hB.trans (hb5.mono hB.size)
        obtain rfl : e = 0 := he.2 ⟨hok, by omega⟩
        replace hy := hy rfl
        refine LS.vv rfl rfl (by decide) (Val.move rfl) ?_
        refine LS.vv rfl rfl (by decide) (Val.extract rfl rfl) ?_
        refine LS.vv rfl rfl (by decide) (Val.extract rfl rfl) ?_
        refine LS.vv rfl rfl (by decide) (Val.assign rfl) ?_
        refine LS.vv rfl rfl (by decide) (Val.assign rfl) ?_
        refine LS.nil ?_
        refine W.seq ?_
        refine W.seqR ?_
        refine LS.vv rfl rfl (by decide) (Val.move rfl) ?_
        refine LS.vv rfl rfl (by decide) (Val.neq rfl rfl) ?_
        refine LS.vv rfl rfl (by decide) (Val.move rfl) ?_
        refine LS.split 2 rfl (fun hg4 => ?_) (fun hg4 => ?_)
        ·
          first | (have hg4p := of_decide_eq_true hg4) | skip
          refine LS.s rfl rfl rfl hg4 (by decide) ?_
          refine LS.s rfl rfl rfl hg4 (by decide) ?_
          refine LS.s rfl rfl rfl hg4 (by decide) ?_
          refine LS.s rfl rfl rfl hg4 (by decide) ?_
          refine LS.vv rfl rfl (by decide) (Val.pickT rfl hg4 rfl) ?_
          refine LS.nil ?_
          refine W.condT rfl ?_
          refine W.seqR ?_
          refine LS.vv rfl rfl (by decide) (Val.assign rfl) ?_
          refine LS.nil ?_
          refine W.ret ?_
          refine thenP_ret ?_
          refine inBlk_ret ?_
          refine thenP_ret ?_
          refine thenP_ret ?_
          refine inBlk_ret ?_
          refine thenP_ret ?_
          refine ret1 (by first | exact .inl rfl | exact .inr rfl) rfl ?_
          first | exact ⟨rfl, hB⟩ | (exfalso; first | contradiction | omega | (simp_all; done)) | (obtain rfl : x = 16 := (by omega); obtain rfl : k = zs.length := (by omega); have f1 := fun h => roots_zero ((allZ_iff hok).1 h) 16 (by omega); have f2 := fun h : allZ zs zs.length = false => roots_few (okF_iff_small hok).1 (fun h2 => (by rw [(allZ_iff hok).2 h2] at h; cases h)); rw [List.length_map] at f2; refine ⟨?_, hB⟩; cases hz : allZ zs zs.length <;> simp_all <;> omega)
        ·
          first | (have hg4p := of_decide_eq_false hg4) | skip
          refine LS.vg rfl rfl rfl hg4 (by decide) (Val.move rfl) ?_
          refine LS.mg rfl rfl hg4 (Step.lit rfl rfl (by decide) Try.underlying27 elem3 rfl rfl (by omega) (by simp [Value.oneCell']) (Nat.le_refl _) ?_)
          rintro w6 hO6 hg6 hbl6 hsz6
          replace hM := hM.add hB.size hbl6 hO6
          replace hB := hB.trans (hbl6.mono hB.size)
          generalize w5.heap.size = gg6 at *
          refine LS.mg rfl rfl hg4 (Step.call body14 rfl rfl (by decide) rfl (CallsV.mono (numbersN [(y : Int)] _ _ _ _ hM.o0.rd rfl (by omega)) ?_))
          rintro _ w7 ⟨b1, rfl, hb1, hb7⟩
          replace hM := hM.below hb7
          replace hB := hB.trans (hb7.mono hB.size)
          obtain rfl : b1 = true := hb1.2 (by simp [OkF]; omega)
          refine LS.vg rfl rfl rfl hg4 (by decide) (Val.not rfl) ?_
          refine LS.vv rfl rfl (by decide) (Val.pickF rfl hg4 rfl) ?_
          refine LS.nil ?_
          first | refine W.condD rfl (fun hc5 => ?_) (fun hc5 => ?_) | refine W.cond rfl (fun hc5 => ?_) (fun hc5 => ?_)
          ·
            refine W.seqR ?_
            refine LS.vv rfl rfl (by decide) (Val.assign rfl) ?_
            refine LS.nil ?_
            refine W.ret ?_
            refine thenP_ret ?_
            refine inBlk_ret ?_
            refine thenP_ret ?_
            refine thenP_ret ?_
            refine inBlk_ret ?_
            refine thenP_ret ?_
            refine ret1 (by first | exact .inl rfl | exact .inr rfl) rfl ?_
            first | exact ⟨rfl, hB⟩ | (exfalso; first | contradiction | omega | (simp_all; done)) | (obtain rfl : x = 16 := (by omega); obtain rfl : k = zs.length := (by omega); have f1 := fun h => roots_zero ((allZ_iff hok).1 h) 16 (by omega); have f2 := fun h : allZ zs zs.length = false => roots_few (okF_iff_small hok).1 (fun h2 => (by rw [(allZ_iff hok).2 h2] at h; cases h)); rw [List.length_map] at f2; refine ⟨?_, hB⟩; cases hz : allZ zs zs.length <;> simp_all <;> omega)
          ·
            refine W.skip ?_
            refine thenP_normal ?_
            refine W.seqR ?_
            refine LS.vv rfl rfl (by decide) (Val.move rfl) ?_
            refine LS.vv rfl rfl (by decide) (Val.eql rfl rfl) ?_
            refine LS.nil ?_
            first | refine W.condD rfl (fun hc6 => ?_) (fun hc6 => ?_) | refine W.cond rfl (fun hc6 => ?_) (fun hc6 => ?_)
            ·
              refine W.reg ?_
              refine LS.vv rfl rfl (by decide) (Val.move rfl) ?_
              first | refine LS.vv rfl rfl (by decide) (Val.addN (j := 1) rfl rfl (by omega)) ?_ | refine LS.vv rfl rfl (by decide) (Val.add64 rfl rfl (by omega)) ?_
              refine LS.vv rfl rfl (by decide) (Val.assign rfl) ?_
              refine LS.nil ?_
              refine inBlk_normal ?_
              refine thenP_normal ?_
              refine W.reg ?_
              refine LS.vv rfl rfl (by decide) (Val.move rfl) ?_
              first | refine LS.vv rfl rfl (by decide) (Val.addN (j := 1) rfl rfl (by omega)) ?_ | refine LS.vv rfl rfl (by decide) (Val.add64 rfl rfl (by omega)) ?_
              refine LS.vv rfl rfl (by decide) (Val.assign rfl) ?_
              refine LS.nil ?_
              refine thenP_normal ?_
              refine ⟨x + 1, ?_, ?_, ⟨by omega, hM.tail, hB⟩, by omega⟩
              · exact Sub.cons' rfl (by rw [hrs]; first | rw [if_pos (by omega)] | rw [if_neg (by omega)]) (Sub.cons rfl (Sub.nil _))
              · repeat (first | exact Sub.nil _ | refine Sub.cons rfl ?_)
            ·
              refine W.skip ?_
              refine inBlk_normal ?_
              refine thenP_normal ?_
              refine W.reg ?_
              refine LS.vv rfl rfl (by decide) (Val.move rfl) ?_
              first | refine LS.vv rfl rfl (by decide) (Val.addN (j := 1) rfl rfl (by omega)) ?_ | refine LS.vv rfl rfl (by decide) (Val.add64 rfl rfl (by omega)) ?_
              refine LS.vv rfl rfl (by decide) (Val.assign rfl) ?_
              refine LS.nil ?_
              refine thenP_normal ?_
              refine ⟨x + 1, ?_, ?_, ⟨by omega, hM.tail, hB⟩, by omega⟩
              · exact Sub.cons' rfl (by rw [hrs]; first | rw [if_pos (by omega)] | rw [if_neg (by omega)]) (Sub.cons rfl (Sub.nil _))
              · repeat (first | exact Sub.nil _ | refine Sub.cons rfl ?_)
      ·
        refine W.exit ?_
        refine thenP_exit ?_
        refine thenP_exit ?_
        refine inBlk_exit ?_
        refine thenP_normal ?_
        refine W.seqR ?_
        refine LS.vv rfl rfl (by decide) (Val.assign rfl) ?_
        refine LS.nil ?_
        refine W.seq ?_
        refine W.seqR ?_
        refine LS.vv rfl rfl (by decide) (Val.move rfl) ?_
        refine LS.vv rfl rfl (by decide) (Val.len Try.underlying27 rfl) ?_
        refine LS.vv rfl rfl (by decide) (Val.cast (v := .int .i64 ((0 : Nat) : Int)) (Val.move rfl) rfl) ?_
        refine LS.nil ?_
        refine W.block ?_
        refine W.loop (α := Nat) (fun k => [(9, .bool (allZ zs k)), (51, .int .i64 (k : Int))]) [(0, _), (5, _), (49, _), (50, _)] (fun k w => (k ≤ zs.length) ∧ Mem w w0.heap.size [] ∧ Below w0.heap.size w0 w) (fun k => zs.length - k) (0) (Sub.cons rfl (Sub.cons rfl (Sub.nil _))) (Sub.cons rfl (Sub.cons rfl (Sub.cons rfl (Sub.cons rfl (Sub.nil _))))) ?_ ?_
        · exact ⟨Nat.zero_le _, hM, hB⟩
        rintro k w8 ⟨hk, hM, hB⟩
        try simp only at hM
        simp only [List.cons_append, List.nil_append]
        have haz := allZ_succ zs k
        refine W.seqR ?_
        refine LS.vv rfl rfl (by decide) (Val.lss rfl rfl) ?_
        refine LS.nil ?_
        refine W.seq ?_
        first | refine W.condD rfl (fun hc7 => ?_) (fun hc7 => ?_) | refine W.cond rfl (fun hc7 => ?_) (fun hc7 => ?_)
        ·
          refine W.skip ?_
          refine thenP_normal ?_
          refine W.seq ?_
          refine W.block ?_
          refine W.seqR ?_
          refine LS.vv rfl rfl (by decide) (Val.index1 Try.underlying27 elem3 rfl rfl (by omega) ((hr.below hB)) (iv_lt (by omega))) ?_
          refine LS.m rfl (Step.load rfl rfl (by decide) flat3 rfl ((hr.below hB)) (iv_at (by omega)) ?_)
          refine LS.vv rfl rfl (by decide) (Val.assign rfl) ?_
          refine LS.nil ?_
          refine W.reg ?_
          refine LS.vv rfl rfl (by decide) (Val.move rfl) ?_
          refine LS.vv rfl rfl (by decide) (Val.move rfl) ?_
          refine LS.split 1 rfl (fun hg8 => ?_) (fun hg8 => ?_)
          ·
            first | (have hg8p := of_decide_eq_true hg8) | skip
            refine LS.vg rfl rfl rfl hg8 (by decide) (Val.move rfl) ?_
            refine LS.vg rfl rfl rfl hg8 (by decide) (Val.eql rfl rfl) ?_
            refine LS.vv rfl rfl (by decide) (Val.pickT rfl hg8 rfl) ?_
            refine LS.vv rfl rfl (by decide) (Val.assign rfl) ?_
            refine LS.nil ?_
            refine inBlk_normal ?_
            refine thenP_normal ?_
            refine W.reg ?_
            first | refine LS.vv rfl rfl (by decide) (Val.addN (j := 1) rfl rfl (by omega)) ?_ | refine LS.vv rfl rfl (by decide) (Val.add64 rfl rfl (by omega)) ?_
            refine LS.vv rfl rfl (by decide) (Val.move rfl) ?_
            refine LS.nil ?_
            refine thenP_normal ?_
            refine ⟨k + 1, ?_, ?_, ⟨by omega, hM, hB⟩, by omega⟩
            · exact Sub.cons' rfl (by rw [haz]; simp_all) (Sub.cons rfl (Sub.nil _))
            · repeat (first | exact Sub.nil _ | refine Sub.cons rfl ?_)
          ·
            first | (have hg8p := of_decide_eq_false hg8) | skip
            refine LS.s rfl rfl rfl hg8 (by decide) ?_
            refine LS.s rfl rfl rfl hg8 (by decide) ?_
            refine LS.vv rfl rfl (by decide) (Val.pickF rfl hg8 rfl) ?_
            refine LS.vv rfl rfl (by decide) (Val.assign rfl) ?_
            refine LS.nil ?_
            refine inBlk_normal ?_
            refine thenP_normal ?_
            refine W.reg ?_
            first | refine LS.vv rfl rfl (by decide) (Val.addN (j := 1) rfl rfl (by omega)) ?_ | refine LS.vv rfl rfl (by decide) (Val.add64 rfl rfl (by omega)) ?_
            refine LS.vv rfl rfl (by decide) (Val.move rfl) ?_
            refine LS.nil ?_
            refine thenP_normal ?_
            refine ⟨k + 1, ?_, ?_, ⟨by omega, hM, hB⟩, by omega⟩
            · exact Sub.cons' rfl (by rw [haz]; simp_all) (Sub.cons rfl (Sub.nil _))
            · repeat (first | exact Sub.nil _ | refine Sub.cons rfl ?_)
        ·
          refine W.exit ?_
          refine thenP_exit ?_
          refine thenP_exit ?_
          refine inBlk_exit ?_
          refine thenP_normal ?_
          refine W.seqR ?_
          refine LS.vv rfl rfl (by decide) (Val.move rfl) ?_
          refine LS.vv rfl rfl (by decide) (Val.move rfl) ?_
          refine LS.split 1 rfl (fun hg9 => ?_) (fun hg9 => ?_)
          ·
            first | (have hg9p := of_decide_eq_true hg9) | skip
            refine LS.vg rfl rfl rfl hg9 (by decide) (Val.move rfl) ?_
            refine LS.vg rfl rfl rfl hg9 (by decide) (Val.eql rfl rfl) ?_
            refine LS.vv rfl rfl (by decide) (Val.pickT rfl hg9 rfl) ?_
            refine LS.vv rfl rfl (by decide) (Val.move rfl) ?_
            refine LS.split 5 rfl (fun hg10 => ?_) (fun hg10 => ?_)
            ·
              first | (have hg10p := of_decide_eq_true hg10) | skip
              refine LS.s rfl rfl rfl hg10 (by decide) ?_
              refine LS.s rfl rfl rfl hg10 (by decide) ?_
              refine LS.s rfl rfl rfl hg10 (by decide) ?_
              refine LS.skipU rfl rfl rfl (by decide) ?_
              refine LS.skipU rfl rfl rfl (by decide) ?_
              refine LS.skipU rfl rfl rfl (by decide) ?_
              refine LS.skipU rfl rfl rfl (by decide) ?_
              refine LS.s rfl rfl rfl hg10 (by decide) ?_
              refine LS.vv rfl rfl (by decide) (Val.pickT rfl hg10 rfl) ?_
              refine LS.vv rfl rfl (by decide) (Val.assign rfl) ?_
              refine LS.nil ?_
              refine W.ret ?_
              refine ret1 (by first | exact .inl rfl | exact .inr rfl) rfl ?_
              first | exact ⟨rfl, hB⟩ | (exfalso; first | contradiction | omega | (simp_all; done)) | (obtain rfl : x = 16 := (by omega); obtain rfl : k = zs.length := (by omega); have f1 := fun h => roots_zero ((allZ_iff hok).1 h) 16 (by omega); have f2 := fun h : allZ zs zs.length = false => roots_few (okF_iff_small hok).1 (fun h2 => (by rw [(allZ_iff hok).2 h2] at h; cases h)); rw [List.length_map] at f2; refine ⟨?_, hB⟩; cases hz : allZ zs zs.length <;> simp_all <;> omega)
            ·
              first | (have hg10p := of_decide_eq_false hg10) | skip
              refine LS.vg rfl rfl rfl hg10 (by decide) (Val.move rfl) ?_
              refine LS.vg rfl rfl rfl hg10 (by decide) (Val.not rfl) ?_
              refine LS.vg rfl rfl rfl hg10 (by decide) (Val.move rfl) ?_
              refine LS.split 8 rfl (fun hg11 => ?_) (fun hg11 => ?_)
              ·
                first | (have hg11p := of_decide_eq_true hg11) | skip
                refine LS.vg rfl rfl rfl hg11 (by decide) (Val.move rfl) ?_
                refine LS.vg rfl rfl rfl hg11 (by decide) (Val.move rfl) ?_
                refine LS.vg rfl rfl rfl hg11 (by decide) (Val.len Try.underlying27 rfl) ?_
                refine LS.vg rfl rfl rfl hg11 (by decide) (Val.lss rfl rfl) ?_
                refine LS.vg rfl rfl rfl hg10 (by decide) (Val.pickT rfl hg11 rfl) ?_
                refine LS.vv rfl rfl (by decide) (Val.pickF rfl hg10 rfl) ?_
                refine LS.vv rfl rfl (by decide) (Val.assign rfl) ?_
                refine LS.nil ?_
                refine W.ret ?_
                refine ret1 (by first | exact .inl rfl | exact .inr rfl) rfl ?_
                first | exact ⟨rfl, hB⟩ | (exfalso; first | contradiction | omega | (simp_all; done)) | (obtain rfl : x = 16 := (by omega); obtain rfl : k = zs.length := (by omega); have f1 := fun h => roots_zero ((allZ_iff hok).1 h) 16 (by omega); have f2 := fun h : allZ zs zs.length = false => roots_few (okF_iff_small hok).1 (fun h2 => (by rw [(allZ_iff hok).2 h2] at h; cases h)); rw [List.length_map] at f2; refine ⟨?_, hB⟩; cases hz : allZ zs zs.length <;> simp_all <;> omega)
              ·
                first | (have hg11p := of_decide_eq_false hg11) | skip
                refine LS.s rfl rfl rfl hg11 (by decide) ?_
                refine LS.s rfl rfl rfl hg11 (by decide) ?_
                refine LS.s rfl rfl rfl hg11 (by decide) ?_
                refine LS.s rfl rfl rfl hg11 (by decide) ?_
                refine LS.vg rfl rfl rfl hg10 (by decide) (Val.pickF rfl hg11 rfl) ?_
                refine LS.vv rfl rfl (by decide) (Val.pickF rfl hg10 rfl) ?_
                refine LS.vv rfl rfl (by decide) (Val.assign rfl) ?_
                refine LS.nil ?_
                refine W.ret ?_
                refine ret1 (by first | exact .inl rfl | exact .inr rfl) rfl ?_
                first | exact ⟨rfl, hB⟩ | (exfalso; first | contradiction | omega | (simp_all; done)) | (obtain rfl : x = 16 := (by omega); obtain rfl : k = zs.length := (by omega); have f1 := fun h => roots_zero ((allZ_iff hok).1 h) 16 (by omega); have f2 := fun h : allZ zs zs.length = false => roots_few (okF_iff_small hok).1 (fun h2 => (by rw [(allZ_iff hok).2 h2] at h; cases h)); rw [List.length_map] at f2; refine ⟨?_, hB⟩; cases hz : allZ zs zs.length <;> simp_all <;> omega)
          ·
            first | (have hg9p := of_decide_eq_false hg9) | skip
            refine LS.s rfl rfl rfl hg9 (by decide) ?_
            refine LS.s rfl rfl rfl hg9 (by decide) ?_
            refine LS.vv rfl rfl (by decide) (Val.pickF rfl hg9 rfl) ?_
            refine LS.vv rfl rfl (by decide) (Val.move rfl) ?_
            refine LS.vg rfl rfl rfl rfl (by decide) (Val.move rfl) ?_
            refine LS.vg rfl rfl rfl rfl (by decide) (Val.not rfl) ?_
            refine LS.vg rfl rfl rfl rfl (by decide) (Val.move rfl) ?_
            refine LS.split 8 rfl (fun hg12 => ?_) (fun hg12 => ?_)
            ·
              first | (have hg12p := of_decide_eq_true hg12) | skip
              refine LS.vg rfl rfl rfl hg12 (by decide) (Val.move rfl) ?_
              refine LS.vg rfl rfl rfl hg12 (by decide) (Val.move rfl) ?_
              refine LS.vg rfl rfl rfl hg12 (by decide) (Val.len Try.underlying27 rfl) ?_
              refine LS.vg rfl rfl rfl hg12 (by decide) (Val.lss rfl rfl) ?_
              refine LS.vg rfl rfl rfl rfl (by decide) (Val.pickT rfl hg12 rfl) ?_
              refine LS.vv rfl rfl (by decide) (Val.pickF rfl rfl rfl) ?_
              refine LS.vv rfl rfl (by decide) (Val.assign rfl) ?_
              refine LS.nil ?_
              refine W.ret ?_
              refine ret1 (by first | exact .inl rfl | exact .inr rfl) rfl ?_
              first | exact ⟨rfl, hB⟩ | (exfalso; first | contradiction | omega | (simp_all; done)) | (obtain rfl : x = 16 := (by omega); obtain rfl : k = zs.length := (by omega); have f1 := fun h => roots_zero ((allZ_iff hok).1 h) 16 (by omega); have f2 := fun h : allZ zs zs.length = false => roots_few (okF_iff_small hok).1 (fun h2 => (by rw [(allZ_iff hok).2 h2] at h; cases h)); rw [List.length_map] at f2; refine ⟨?_, hB⟩; cases hz : allZ zs zs.length <;> simp_all <;> omega)
            ·
              first | (have hg12p := of_decide_eq_false hg12) | skip
              refine LS.s rfl rfl rfl hg12 (by decide) ?_
              refine LS.s rfl rfl rfl hg12 (by decide) ?_
              refine LS.s rfl rfl rfl hg12 (by decide) ?_
              refine LS.s rfl rfl rfl hg12 (by decide) ?_
              refine LS.vg rfl rfl rfl rfl (by decide) (Val.pickF rfl hg12 rfl) ?_
              refine LS.vv rfl rfl (by decide) (Val.pickF rfl rfl rfl) ?_
              refine LS.vv rfl rfl (by decide) (Val.assign rfl) ?_
              refine LS.nil ?_
              refine W.ret ?_
              refine ret1 (by first | exact .inl rfl | exact .inr rfl) rfl ?_
              first | exact ⟨rfl, hB⟩ | (exfalso; first | contradiction | omega | (simp_all; done)) | (obtain rfl : x = 16 := (by omega); obtain rfl : k = zs.length := (by omega); have f1 := fun h => roots_zero ((allZ_iff hok).1 h) 16 (by omega); have f2 := fun h : allZ zs zs.length = false => roots_few (okF_iff_small hok).1 (fun h2 => (by rw [(allZ_iff hok).2 h2] at h; cases h)); rw [List.length_map] at f2; refine ⟨?_, hB⟩; cases hz : allZ zs zs.length <;> simp_all <;> omega)

end Go.Proofs.Ytnaebllojkodbaa
