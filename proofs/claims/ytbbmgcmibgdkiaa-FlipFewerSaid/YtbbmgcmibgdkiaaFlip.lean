/-
  The walks of package flip.
-/
import Derived.Test.YtbbmgcmibgdkiaaMark
namespace Go.Proofs.Ytbbmgcmibgdkiaa
open Go Go.RowKit V
set_option linter.unusedVariables false

theorem bad_any (cs : List Nat) (p : Option Addr) (c : Nat) (x : Nat) (w0 : World) (hr : Rd w0 p (uv cs)) (hl : cs.length ≤ 9223372036854775807) (hcs : ∀ x ∈ cs, x < 4294967296) (hx : x < 4294967296) (h8 : cs.length ≤ 8) :
    CallsV Try.prog 57 #[.slice p cs.length c, .int .u32 (x : Int)] w0 (fun v w => v = .int .i64 (badN cs x : Int) ∧ Below w0.heap.size w0 w) := by
  refine enter1 Try.func57 rfl Try.ntmps57 (by simp) rfl ?_
  have hB := Below.refl w0.heap.size w0
  simp only [argLoc, Nat.zero_add]
  have hlt : ∀ j, j < cs.length → gn cs j < 4294967296 := fun j hj => by rw [gn_lt hj]; exact hcs _ (List.getElem_mem hj)
  refine W.seqR ?_
  refine LS.vv rfl rfl (by decide) (Val.cast (v := .int .i64 ((0 : Nat) : Int)) (Val.assign rfl) rfl) ?_
  refine LS.nil ?_
  refine W.seqR ?_
  refine LS.vv rfl rfl (by decide) (Val.cast (v := .int .i64 ((0 : Nat) : Int)) (Val.assign rfl) rfl) ?_
  refine LS.nil ?_
  refine W.seq ?_
  refine W.seqR ?_
  refine LS.vv rfl rfl (by decide) (Val.move rfl) ?_
  refine LS.vv rfl rfl (by decide) (Val.len Try.underlying45 rfl) ?_
  refine LS.vv rfl rfl (by decide) (Val.cast (v := .int .i64 ((0 : Nat) : Int)) (Val.move rfl) rfl) ?_
  refine LS.nil ?_
  refine W.block ?_
  refine W.loop (α := Nat) (fun k => [(5, .int .i64 (badTo cs x k : Int)), (10, .int .i64 (k : Int))]) [(1, _), (8, _), (9, _)] (fun k w => k ≤ cs.length ∧ Below w0.heap.size w0 w) (fun k => cs.length - k) (0) (Sub.cons rfl (Sub.cons rfl (Sub.nil _))) (Sub.cons rfl (Sub.cons rfl (Sub.cons rfl (Sub.nil _)))) ?_ ?_
  · exact ⟨Nat.zero_le _, hB⟩
  rintro k w1 ⟨hk, hB⟩
  simp only [List.cons_append, List.nil_append]
  have hm1 := badTo_le cs x k
  have han : gn cs k &&& x < 2 ^ 32 := Nat.and_lt_two_pow _ (by omega)
  refine W.seqR ?_
  refine LS.vv rfl rfl (by decide) (Val.lss rfl rfl) ?_
  refine LS.nil ?_
  refine W.seq ?_
  first | refine W.condD rfl (fun hc1 => ?_) (fun hc1 => ?_) | refine W.cond rfl (fun hc1 => ?_) (fun hc1 => ?_)
  ·
    have hltk := hlt k (by omega)
    have hpc : popc (gn cs k &&& x) ≤ 32 := popTo_le _ 32
    refine W.skip ?_
    refine thenP_normal ?_
    refine W.seq ?_
    refine W.block ?_
    refine W.seqR ?_
    refine LS.vv rfl rfl (by decide) (Val.index1 Try.underlying45 elem22 rfl rfl (by omega) hr (uv_lt (by omega))) ?_
    refine LS.m rfl (Step.load rfl rfl (by decide) flat22 rfl (hr.below hB) (uv_at (by omega)) ?_)
    refine LS.vv rfl rfl (by decide) (Val.assign rfl) ?_
    refine LS.nil ?_
    refine W.reg ?_
    refine LS.vv rfl rfl (by decide) (Val.move rfl) ?_
    refine LS.vv rfl rfl (by decide) (Val.move rfl) ?_
    refine LS.vv rfl rfl (by decide) (Val.move rfl) ?_
    refine LS.vv rfl rfl (by decide) (Val.andU32 rfl rfl (by omega) (by omega)) ?_
    refine LS.m rfl (Step.call body63 rfl rfl (by decide) rfl (CallsV.mono (ones32_any _ _ han) ?_))
    rintro _ w2 ⟨rfl, hb2⟩
    replace hB := hB.trans (hb2.mono hB.size)
    first | refine LS.vv rfl rfl (by decide) (Val.remN (j := 2) rfl rfl (by omega)) ?_ | refine LS.vv rfl rfl (by decide) (Val.rem rfl rfl (by omega) (by omega)) ?_ | refine LS.vv rfl rfl (by decide) (Val.remT rfl rfl (by omega)) ?_
    first | refine LS.vv rfl rfl (by decide) (Val.addN rfl rfl (by omega)) ?_ | refine LS.vv rfl rfl (by decide) (Val.add64 rfl rfl (by omega)) ?_
    refine LS.vv rfl rfl (by decide) (Val.assign rfl) ?_
    refine LS.nil ?_
    refine inBlk_normal ?_
    refine thenP_normal ?_
    refine W.reg ?_
    first | refine LS.vv rfl rfl (by decide) (Val.addN (j := 1) rfl rfl (by omega)) ?_ | refine LS.vv rfl rfl (by decide) (Val.add64 rfl rfl (by omega)) ?_
    refine LS.vv rfl rfl (by decide) (Val.move rfl) ?_
    refine LS.nil ?_
    refine thenP_normal ?_
    refine ⟨k + 1, ?_, ?_, ⟨by omega, hB⟩, by omega⟩
    · exact Sub.cons rfl (Sub.cons rfl (Sub.nil _))
    · repeat (first | exact Sub.nil _ | refine Sub.cons rfl ?_)
  ·
    refine W.exit ?_
    refine thenP_exit ?_
    refine thenP_exit ?_
    refine inBlk_exit ?_
    refine thenP_normal ?_
    refine W.seqR ?_
    refine LS.vv rfl rfl (by decide) (Val.move rfl) ?_
    refine LS.vv rfl rfl (by decide) (Val.assign rfl) ?_
    refine LS.nil ?_
    refine W.ret ?_
    refine ret1 (by first | exact .inl rfl | exact .inr rfl) rfl ?_
    exact ⟨by rw [badN, show k = cs.length by omega], hB⟩

theorem step_any (m : Nat) (cs : List Nat) (p : Option Addr) (c : Nat) (x : Nat) (w0 : World) (hr : Rd w0 p (uv cs)) (hl : cs.length ≤ 9223372036854775807) (hcs : ∀ x ∈ cs, x < 4294967296) (hx : x < 4294967296) (h8 : cs.length ≤ 8) (hm : m ≤ 12) :
    CallsV Try.prog 56 #[.int .i64 (m : Int), .slice p cs.length c, .int .u32 (x : Int)] w0 (fun v w => ∃ (y : Nat) (b : Bool), v = .tuple #[.int .u32 (y : Int), .bool b] ∧ StepR cs m x y b ∧ Below w0.heap.size w0 w) := by
  refine enter2 Try.func56 rfl Try.ntmps56 (by simp) rfl ?_
  have hB := Below.refl w0.heap.size w0
  simp only [argLoc, Nat.zero_add, Nat.reduceAdd]
  refine W.seqR ?_
  refine LS.vv rfl rfl (by decide) (Val.cast (v := .int .u32 ((0 : Nat) : Int)) (Val.assign rfl) rfl) ?_
  refine LS.vv rfl rfl (by decide) (Val.assign rfl) ?_
  refine LS.nil ?_
  refine W.seqR ?_
  refine LS.vv rfl rfl (by decide) (Val.move rfl) ?_
  refine LS.vv rfl rfl (by decide) (Val.move rfl) ?_
  refine LS.vv rfl rfl (by decide) (Val.move rfl) ?_
  refine LS.m rfl (Step.call body57 rfl rfl (by decide) rfl (CallsV.mono (bad_any cs _ _ _ _ (hr.below hB) hl hcs (by omega) h8) ?_))
  rintro _ w1 ⟨rfl, hb1⟩
  replace hB := hB.trans (hb1.mono hB.size)
  refine LS.vv rfl rfl (by decide) (Val.assign rfl) ?_
  refine LS.vv rfl rfl (by decide) (Val.assign rfl) ?_
  refine LS.nil ?_
  refine W.seq ?_
  refine W.seqR ?_
  refine LS.vv rfl rfl (by decide) (Val.move rfl) ?_
  refine LS.vv rfl rfl (by decide) (Val.cast (v := .int .i64 ((0 : Nat) : Int)) (Val.move rfl) rfl) ?_
  refine LS.nil ?_
  refine W.block ?_
  refine W.loop (α := Nat × Nat) (fun g => [(8, .int .u32 (g.2 : Int)), (9, .int .i64 (badN cs g.2 : Int)), (17, .int .i64 (g.1 : Int))]) [(1, _), (2, _), (16, _)] (fun g w => (g.1 ≤ m ∧ ((g.2 = x ∧ ∀ j, j < g.1 → badN cs x ≤ badN cs (x ^^^ (1 <<< j))) ∨ ∃ i, i < g.1 ∧ g.2 = x ^^^ (1 <<< i) ∧ badN cs g.2 < badN cs x)) ∧ Below w0.heap.size w0 w) (fun g => m - g.1) ((0, x)) (Sub.cons rfl (Sub.cons rfl (Sub.cons rfl (Sub.nil _)))) (Sub.cons rfl (Sub.cons rfl (Sub.cons rfl (Sub.nil _)))) ?_ ?_
  · exact ⟨⟨Nat.zero_le _, .inl ⟨rfl, fun j hj => by simp only at hj; omega⟩⟩, hB⟩
  rintro ⟨k, b⟩ w2 ⟨⟨hk, hor⟩, hB⟩
  simp only [List.cons_append, List.nil_append]
  simp only at hk hor
  refine W.seqR ?_
  refine LS.vv rfl rfl (by decide) (Val.lss rfl rfl) ?_
  refine LS.nil ?_
  refine W.seq ?_
  first | refine W.condD rfl (fun hc1 => ?_) (fun hc1 => ?_) | refine W.cond rfl (fun hc1 => ?_) (fun hc1 => ?_)
  ·
    have hsl := shl_one_lt (show k < 32 by omega)
    have hxo : x ^^^ (1 <<< k) < 2 ^ 32 := Nat.xor_lt_two_pow (by omega) (by omega)
    refine W.skip ?_
    refine thenP_normal ?_
    refine W.seq ?_
    refine W.block ?_
    refine W.seqR ?_
    refine LS.vv rfl rfl (by decide) (Val.move rfl) ?_
    refine LS.vv rfl rfl (by decide) (Val.assign rfl) ?_
    refine LS.nil ?_
    refine W.seqR ?_
    refine LS.vv rfl rfl (by decide) (Val.move rfl) ?_
    refine LS.vv rfl rfl (by decide) (Val.move rfl) ?_
    refine LS.vv rfl rfl (by decide) (Val.move rfl) ?_
    refine LS.vv rfl rfl (by decide) (Val.shlU32 (i := 1) rfl rfl (by omega) (by omega)) ?_
    refine LS.vv rfl rfl (by decide) (Val.xorU32 rfl rfl (by omega) (by omega)) ?_
    refine LS.m rfl (Step.call body57 rfl rfl (by decide) rfl (CallsV.mono (bad_any cs _ _ _ _ (hr.below hB) hl hcs (by omega) h8) ?_))
    rintro _ w3 ⟨rfl, hb3⟩
    replace hB := hB.trans (hb3.mono hB.size)
    refine LS.vv rfl rfl (by decide) (Val.assign rfl) ?_
    refine LS.nil ?_
    refine W.seqR ?_
    refine LS.vv rfl rfl (by decide) (Val.move rfl) ?_
    refine LS.vv rfl rfl (by decide) (Val.move rfl) ?_
    refine LS.vv rfl rfl (by decide) (Val.lss rfl rfl) ?_
    refine LS.nil ?_
    first | refine W.condD rfl (fun hc2 => ?_) (fun hc2 => ?_) | refine W.cond rfl (fun hc2 => ?_) (fun hc2 => ?_)
    ·
      refine W.reg ?_
      refine LS.vv rfl rfl (by decide) (Val.move rfl) ?_
      refine LS.vv rfl rfl (by decide) (Val.move rfl) ?_
      refine LS.vv rfl rfl (by decide) (Val.shlU32 (i := 1) rfl rfl (by omega) (by omega)) ?_
      refine LS.vv rfl rfl (by decide) (Val.xorU32 rfl rfl (by omega) (by omega)) ?_
      refine LS.vv rfl rfl (by decide) (Val.move rfl) ?_
      refine LS.vv rfl rfl (by decide) (Val.assign rfl) ?_
      refine LS.vv rfl rfl (by decide) (Val.assign rfl) ?_
      refine LS.nil ?_
      refine inBlk_normal ?_
      refine thenP_normal ?_
      refine W.reg ?_
      first | refine LS.vv rfl rfl (by decide) (Val.addN (j := 1) rfl rfl (by omega)) ?_ | refine LS.vv rfl rfl (by decide) (Val.add64 rfl rfl (by omega)) ?_
      refine LS.vv rfl rfl (by decide) (Val.move rfl) ?_
      refine LS.nil ?_
      refine thenP_normal ?_
      have hx2 : badN cs b ≤ badN cs x := by
        rcases hor with h | ⟨i, h1, h2, h3⟩
        · rw [h.1]; exact Nat.le_refl _
        · omega
      first
        | (have hlt2 : badN cs (x ^^^ (1 <<< k)) < badN cs b := by omega
           refine ⟨(k + 1, x ^^^ (1 <<< k)), ?_, ?_, ⟨⟨by simp only; omega, .inr ⟨k, by simp only; omega, rfl, by simp only; omega⟩⟩, hB⟩, by simp only; omega⟩
           · exact Sub.cons rfl (Sub.cons rfl (Sub.cons rfl (Sub.nil _)))
           · repeat (first | exact Sub.nil _ | refine Sub.cons rfl ?_))
        | (have hge2 : badN cs b ≤ badN cs (x ^^^ (1 <<< k)) := by omega
           refine ⟨(k + 1, b), ?_, ?_, ⟨⟨by simp only; omega, ?_⟩, hB⟩, by simp only; omega⟩
           · exact Sub.cons rfl (Sub.cons rfl (Sub.cons rfl (Sub.nil _)))
           · repeat (first | exact Sub.nil _ | refine Sub.cons rfl ?_)
           · rcases hor with ⟨h1, h2⟩ | ⟨i, h1, h2, h3⟩
             · refine .inl ⟨h1, fun j hj => ?_⟩
               simp only at hj
               by_cases e : j = k
               · subst e; rw [h1] at hge2; exact hge2
               · exact h2 j (by omega)
             · exact .inr ⟨i, by simp only; omega, h2, h3⟩)
    ·
      refine W.skip ?_
      refine inBlk_normal ?_
      refine thenP_normal ?_
      refine W.reg ?_
      first | refine LS.vv rfl rfl (by decide) (Val.addN (j := 1) rfl rfl (by omega)) ?_ | refine LS.vv rfl rfl (by decide) (Val.add64 rfl rfl (by omega)) ?_
      refine LS.vv rfl rfl (by decide) (Val.move rfl) ?_
      refine LS.nil ?_
      refine thenP_normal ?_
      have hx2 : badN cs b ≤ badN cs x := by
        rcases hor with h | ⟨i, h1, h2, h3⟩
        · rw [h.1]; exact Nat.le_refl _
        · omega
      first
        | (have hlt2 : badN cs (x ^^^ (1 <<< k)) < badN cs b := by omega
           refine ⟨(k + 1, x ^^^ (1 <<< k)), ?_, ?_, ⟨⟨by simp only; omega, .inr ⟨k, by simp only; omega, rfl, by simp only; omega⟩⟩, hB⟩, by simp only; omega⟩
           · exact Sub.cons rfl (Sub.cons rfl (Sub.cons rfl (Sub.nil _)))
           · repeat (first | exact Sub.nil _ | refine Sub.cons rfl ?_))
        | (have hge2 : badN cs b ≤ badN cs (x ^^^ (1 <<< k)) := by omega
           refine ⟨(k + 1, b), ?_, ?_, ⟨⟨by simp only; omega, ?_⟩, hB⟩, by simp only; omega⟩
           · exact Sub.cons rfl (Sub.cons rfl (Sub.cons rfl (Sub.nil _)))
           · repeat (first | exact Sub.nil _ | refine Sub.cons rfl ?_)
           · rcases hor with ⟨h1, h2⟩ | ⟨i, h1, h2, h3⟩
             · refine .inl ⟨h1, fun j hj => ?_⟩
               simp only at hj
               by_cases e : j = k
               · subst e; rw [h1] at hge2; exact hge2
               · exact h2 j (by omega)
             · exact .inr ⟨i, by simp only; omega, h2, h3⟩)
  ·
    obtain rfl : k = m := by omega
    refine W.exit ?_
    refine thenP_exit ?_
    refine thenP_exit ?_
    refine inBlk_exit ?_
    refine thenP_normal ?_
    refine W.seqR ?_
    refine LS.vv rfl rfl (by decide) (Val.move rfl) ?_
    refine LS.vv rfl rfl (by decide) (Val.move rfl) ?_
    refine LS.vv rfl rfl (by decide) (Val.move rfl) ?_
    refine LS.vv rfl rfl (by decide) (Val.neq rfl rfl) ?_
    refine LS.vv rfl rfl (by decide) (Val.assign rfl) ?_
    refine LS.vv rfl rfl (by decide) (Val.assign rfl) ?_
    refine LS.nil ?_
    refine W.ret ?_
    refine ret2 (by first | exact .inl rfl | exact .inr rfl) rfl rfl ?_
    rcases hor with ⟨h1, h2⟩ | ⟨i, h1, h2, h3⟩
    · exact ⟨_, _, rfl, .inr ⟨by simp; omega, h1, h2⟩, hB⟩
    · exact ⟨_, _, rfl, .inl ⟨by (have := xor_ne (w := x) (show i < 32 by omega); simp; omega), i, h1, h2, h3⟩, hB⟩

theorem Bad_any (n : Int) (cs : List Nat) (p : Option Addr) (c : Nat) (x : Nat) (w0 : World) (hr : Rd w0 p (uv cs)) (hl : cs.length ≤ 9223372036854775807) (hcs : ∀ x ∈ cs, x < 4294967296) (hx : x < 4294967296) :
    CallsV Try.prog 36 #[.int .i64 n, .slice p cs.length c, .int .u32 (x : Int)] w0 (fun v w => ∃ k e : Nat, v = .tuple #[.int .i64 (k : Int), .int .i64 (e : Int)] ∧ (e = 0 ↔ OkR n cs ∧ x < 2 ^ n.toNat) ∧ (e = 0 → k = badN cs x) ∧ Below w0.heap.size w0 w) := by
  refine enter2 Try.func36 rfl Try.ntmps36 (by simp) rfl ?_
  have hB := Below.refl w0.heap.size w0
  simp only [argLoc, Nat.zero_add, Nat.reduceAdd]
  refine W.seqR ?_
  refine LS.vv rfl rfl (by decide) (Val.cast (v := .int .i64 ((0 : Nat) : Int)) (Val.assign rfl) rfl) ?_
  refine LS.vv rfl rfl (by decide) (Val.cast (v := .int .i64 ((0 : Nat) : Int)) (Val.assign rfl) rfl) ?_
  refine LS.nil ?_
  refine W.seq ?_
  refine W.seqR ?_
  refine LS.vv rfl rfl (by decide) (Val.move rfl) ?_
  refine LS.vv rfl rfl (by decide) (Val.move rfl) ?_
  refine LS.vv rfl rfl (by decide) (Val.move rfl) ?_
  refine LS.m rfl (Step.call body32 rfl rfl (by decide) rfl (CallsV.mono (Mark_any n cs _ _ x _ (hr.below hB) hl hcs hx) ?_))
  rintro _ w1 ⟨m0, e, rfl, he, hm0, hm1, hb1⟩
  replace hB := hB.trans (hb1.mono hB.size)
  refine LS.vv rfl rfl (by decide) (Val.move rfl) ?_
  refine LS.vv rfl rfl (by decide) (Val.extract rfl rfl) ?_
  refine LS.vv rfl rfl (by decide) (Val.extract rfl rfl) ?_
  refine LS.vv rfl rfl (by decide) (Val.assign rfl) ?_
  refine LS.vv rfl rfl (by decide) (Val.assign rfl) ?_
  refine LS.nil ?_
  refine W.seqR ?_
  refine LS.vv rfl rfl (by decide) (Val.move rfl) ?_
  refine LS.vv rfl rfl (by decide) (Val.neq rfl rfl) ?_
  refine LS.nil ?_
  first | refine W.condD rfl (fun hc1 => ?_) (fun hc1 => ?_) | refine W.cond rfl (fun hc1 => ?_) (fun hc1 => ?_)
  ·
    refine W.seqR ?_
    refine LS.vv rfl rfl (by decide) (Val.move rfl) ?_
    refine LS.vv rfl rfl (by decide) (Val.cast (v := .int .i64 ((0 : Nat) : Int)) (Val.assign rfl) rfl) ?_
    refine LS.vv rfl rfl (by decide) (Val.assign rfl) ?_
    refine LS.nil ?_
    refine W.ret ?_
    refine thenP_ret ?_
    refine ret2 (by first | exact .inl rfl | exact .inr rfl) rfl rfl ?_
    first | exact ⟨0, e, rfl, he, fun h => by omega, hB⟩ | exact ⟨_, 0, rfl, ⟨fun _ => hok, fun _ => rfl⟩, fun _ => rfl, hB⟩
  ·
    have hok := he.1 (by omega)
    have hn1 := hok.1.1.1
    have hn2 := hok.1.1.2.1
    have h8 := hok.1.2
    obtain ⟨m, rfl⟩ := Int.eq_ofNat_of_zero_le hn1
    refine W.skip ?_
    refine thenP_normal ?_
    refine W.seqR ?_
    refine LS.vv rfl rfl (by decide) (Val.move rfl) ?_
    refine LS.vv rfl rfl (by decide) (Val.move rfl) ?_
    refine LS.m rfl (Step.call body57 rfl rfl (by decide) rfl (CallsV.mono (bad_any cs _ _ _ _ (hr.below hB) hl hcs hx h8) ?_))
    rintro _ w2 ⟨rfl, hb2⟩
    replace hB := hB.trans (hb2.mono hB.size)
    refine LS.vv rfl rfl (by decide) (Val.assign rfl) ?_
    refine LS.vv rfl rfl (by decide) (Val.cast (v := .int .i64 ((0 : Nat) : Int)) (Val.assign rfl) rfl) ?_
    refine LS.nil ?_
    refine W.ret ?_
    refine ret2 (by first | exact .inl rfl | exact .inr rfl) rfl rfl ?_
    first | exact ⟨0, e, rfl, he, fun h => by omega, hB⟩ | exact ⟨_, 0, rfl, ⟨fun _ => hok, fun _ => rfl⟩, fun _ => rfl, hB⟩

theorem Step_any (n : Int) (cs : List Nat) (p : Option Addr) (c : Nat) (x : Nat) (w0 : World) (hr : Rd w0 p (uv cs)) (hl : cs.length ≤ 9223372036854775807) (hcs : ∀ x ∈ cs, x < 4294967296) (hx : x < 4294967296) :
    CallsV Try.prog 35 #[.int .i64 n, .slice p cs.length c, .int .u32 (x : Int)] w0 (fun v w => ∃ (y : Nat) (b : Bool) (e : Nat), v = .tuple #[.int .u32 (y : Int), .bool b, .int .i64 (e : Int)] ∧ (e = 0 ↔ OkR n cs ∧ x < 2 ^ n.toNat) ∧ (e = 0 → StepR cs n.toNat x y b) ∧ (e ≠ 0 → y = 0) ∧ Below w0.heap.size w0 w) := by
  refine enter3 Try.func35 rfl Try.ntmps35 (by simp) rfl ?_
  have hB := Below.refl w0.heap.size w0
  simp only [argLoc, Nat.zero_add, Nat.reduceAdd]
  refine W.seqR ?_
  refine LS.vv rfl rfl (by decide) (Val.cast (v := .int .u32 ((0 : Nat) : Int)) (Val.assign rfl) rfl) ?_
  refine LS.vv rfl rfl (by decide) (Val.assign rfl) ?_
  refine LS.vv rfl rfl (by decide) (Val.cast (v := .int .i64 ((0 : Nat) : Int)) (Val.assign rfl) rfl) ?_
  refine LS.nil ?_
  refine W.seq ?_
  refine W.seqR ?_
  refine LS.vv rfl rfl (by decide) (Val.move rfl) ?_
  refine LS.vv rfl rfl (by decide) (Val.move rfl) ?_
  refine LS.vv rfl rfl (by decide) (Val.move rfl) ?_
  refine LS.m rfl (Step.call body32 rfl rfl (by decide) rfl (CallsV.mono (Mark_any n cs _ _ x _ (hr.below hB) hl hcs hx) ?_))
  rintro _ w1 ⟨m0, e, rfl, he, hm0, hm1, hb1⟩
  replace hB := hB.trans (hb1.mono hB.size)
  refine LS.vv rfl rfl (by decide) (Val.move rfl) ?_
  refine LS.vv rfl rfl (by decide) (Val.extract rfl rfl) ?_
  refine LS.vv rfl rfl (by decide) (Val.extract rfl rfl) ?_
  refine LS.vv rfl rfl (by decide) (Val.assign rfl) ?_
  refine LS.vv rfl rfl (by decide) (Val.assign rfl) ?_
  refine LS.nil ?_
  refine W.seqR ?_
  refine LS.vv rfl rfl (by decide) (Val.move rfl) ?_
  refine LS.vv rfl rfl (by decide) (Val.neq rfl rfl) ?_
  refine LS.nil ?_
  first | refine W.condD rfl (fun hc1 => ?_) (fun hc1 => ?_) | refine W.cond rfl (fun hc1 => ?_) (fun hc1 => ?_)
  ·
    refine W.seqR ?_
    refine LS.vv rfl rfl (by decide) (Val.move rfl) ?_
    refine LS.vv rfl rfl (by decide) (Val.cast (v := .int .u32 ((0 : Nat) : Int)) (Val.assign rfl) rfl) ?_
    refine LS.vv rfl rfl (by decide) (Val.assign rfl) ?_
    refine LS.vv rfl rfl (by decide) (Val.assign rfl) ?_
    refine LS.nil ?_
    refine W.ret ?_
    refine thenP_ret ?_
    refine ret3 (by first | exact .inl rfl | exact .inr rfl) rfl rfl rfl ?_
    first | exact ⟨0, false, e, rfl, he, fun h => by omega, fun _ => rfl, hB⟩ | exact ⟨y, b, 0, rfl, ⟨fun _ => hok, fun _ => rfl⟩, fun _ => hst, fun h => absurd rfl h, hB⟩
  ·
    have hok := he.1 (by omega)
    have hn1 := hok.1.1.1
    have hn2 := hok.1.1.2.1
    have h8 := hok.1.2
    obtain ⟨m, rfl⟩ := Int.eq_ofNat_of_zero_le hn1
    refine W.skip ?_
    refine thenP_normal ?_
    refine W.seqR ?_
    refine LS.vv rfl rfl (by decide) (Val.move rfl) ?_
    refine LS.vv rfl rfl (by decide) (Val.move rfl) ?_
    refine LS.vv rfl rfl (by decide) (Val.move rfl) ?_
    refine LS.m rfl (Step.call body56 rfl rfl (by decide) rfl (CallsV.mono (step_any m cs _ _ x _ (hr.below hB) hl hcs hx h8 (by omega)) ?_))
    rintro _ w2 ⟨y, b, rfl, hst, hb2⟩
    replace hB := hB.trans (hb2.mono hB.size)
    refine LS.vv rfl rfl (by decide) (Val.move rfl) ?_
    refine LS.vv rfl rfl (by decide) (Val.extract rfl rfl) ?_
    refine LS.vv rfl rfl (by decide) (Val.extract rfl rfl) ?_
    refine LS.vv rfl rfl (by decide) (Val.assign rfl) ?_
    refine LS.vv rfl rfl (by decide) (Val.assign rfl) ?_
    refine LS.nil ?_
    refine W.seqR ?_
    refine LS.vv rfl rfl (by decide) (Val.move rfl) ?_
    refine LS.vv rfl rfl (by decide) (Val.move rfl) ?_
    refine LS.vv rfl rfl (by decide) (Val.assign rfl) ?_
    refine LS.vv rfl rfl (by decide) (Val.assign rfl) ?_
    refine LS.vv rfl rfl (by decide) (Val.cast (v := .int .i64 ((0 : Nat) : Int)) (Val.assign rfl) rfl) ?_
    refine LS.nil ?_
    refine W.ret ?_
    refine ret3 (by first | exact .inl rfl | exact .inr rfl) rfl rfl rfl ?_
    first | exact ⟨0, false, e, rfl, he, fun h => by omega, fun _ => rfl, hB⟩ | exact ⟨y, b, 0, rfl, ⟨fun _ => hok, fun _ => rfl⟩, fun _ => hst, fun h => absurd rfl h, hB⟩

end Go.Proofs.Ytbbmgcmibgdkiaa
