/-
  The walks of package double.
-/
import Derived.Test.YtnaebllojkodbaaField
import Derived.Test.YtnaebllojkodbaaDouble2Plain
import Derived.Test.YtnaebllojkodbaaVmem6
import Derived.Test.YtnaebllojkodbaaVfin
import Derived.Test.YtnaebllojkodbaaVfacts2
namespace Go.Proofs.Ytnaebllojkodbaa
open Go Go.RowKit V
set_option linter.unusedVariables false

theorem sm_toNat {zs : List Int} (h : OkF zs) : Sm (zs.map Int.toNat) := sm_of fun x hx => by
  obtain ⟨z, hz, rfl⟩ := List.mem_map.1 hx
  have := h z hz
  omega
theorem iv_toNat {zs : List Int} (h : OkF zs) : iv zs = nv (zs.map Int.toNat) := by
  unfold iv nv
  rw [List.map_map]
  refine List.map_congr_left fun z hz => ?_
  have := h z hz
  exact congrArg (Value.int .i64) (Int.toNat_of_nonneg this.1).symm
theorem below_refl_base {B : Nat} {w : World} (_ : B ≤ w.heap.size) : Below B w w := Below.refl B w

theorem gn_take_mem {gs : List Nat} {k j : Nat} (h : j < k) (hk : k ≤ gs.length) : gn gs j ∈ gs.take k := by
  have hj : j < (gs.take k).length := by rw [List.length_take]; omega
  have : (gs.take k)[j] = gn gs j := by rw [List.getElem_take, gn_lt (by omega)]
  rw [← this]; exact List.getElem_mem hj
theorem len_one {gs : List Nat} {k : Nat} (hk : k ≤ gs.length) (h : k = 1) : gs.take k = [gn gs 0] := by
  subst h
  match gs, hk with
  | a :: r, _ => rfl
theorem len_two {gs : List Nat} {k : Nat} (hk : k ≤ gs.length) (h : k = 2) : gs.take k = [gn gs 0, gn gs 1] := by
  subst h
  match gs, hk with
  | a :: b :: r, _ => rfl
theorem dfill_p {l gs : List Nat} {p q k : Nat} {h : Bool} (hk : k ≤ gs.length) (h1 : k = 1) (hh : h = true) : dfill l (gs.take k) p q h = l.set (gn gs 0) p := by
  subst hh; rw [len_one hk h1]; rfl
theorem dfill_q1 {l gs : List Nat} {p q k : Nat} {h : Bool} (hk : k ≤ gs.length) (h1 : k = 1) (hh : h = false) : dfill l (gs.take k) p q h = l.set (gn gs 0) (fdiv q (fpow 2 (gn gs 0))) := by
  subst hh; rw [len_one hk h1]; rfl
theorem dfill_two {l gs : List Nat} {p q k : Nat} {h : Bool} (hk : k ≤ gs.length) (h1 : k = 2) : dfill l (gs.take k) p q h = (l.set (gn gs 0) (fdiv (q ^^^ fmul p (fpow 2 (gn gs 1))) (fpow 2 (gn gs 0) ^^^ fpow 2 (gn gs 1)))).set (gn gs 1) (fdiv (q ^^^ fmul p (fpow 2 (gn gs 1))) (fpow 2 (gn gs 0) ^^^ fpow 2 (gn gs 1)) ^^^ p) := by
  rw [len_two hk h1]; rfl
theorem dfill_none {l gs : List Nat} {p q k : Nat} {h : Bool} (hk : k ≤ gs.length) (h1 : k ≠ 1) (h2 : k ≠ 2) : dfill l (gs.take k) p q h = l := by
  have hl : (gs.take k).length = k := by rw [List.length_take]; omega
  generalize gs.take k = ins at *
  unfold dfill
  split
  · exact absurd hl.symm h1
  · exact absurd hl.symm h2
  · rfl

theorem divide_any (a b : Nat) (w0 : World) (ha : a < 16) (hb : b < 16) :
    CallsV Try.prog 59 #[.int .i64 (a : Int), .int .i64 (b : Int)] w0 (fun v w => v = .int .i64 (fdiv a b : Int) ∧ Below w0.heap.size w0 w) := by
  refine enter1 Try.func59 rfl Try.ntmps59 (by simp) rfl ?_
  have hB := Below.refl w0.heap.size w0
  simp only [argLoc, Nat.zero_add]
  refine W.seqR ?_
  refine LS.vv rfl rfl (by decide) (Val.cast (v := .int .i64 ((0 : Nat) : Int)) (Val.assign rfl) rfl) ?_
  refine LS.nil ?_
  refine W.seqR ?_
  refine LS.vv rfl rfl (by decide) (Val.move rfl) ?_
  refine LS.vv rfl rfl (by decide) (Val.move rfl) ?_
  refine LS.m rfl (Step.call body35 rfl rfl (by decide) rfl (CallsV.mono (power_any b 14 _ hb (by omega)) ?_))
  rintro _ w1 ⟨rfl, hb1⟩
  replace hB := hB.trans (hb1.mono hB.size)
  refine LS.m rfl (Step.call body32 rfl rfl (by decide) rfl (CallsV.mono (times_any a (fpow b 14) _ ha (fpow_lt hb 14)) ?_))
  rintro _ w2 ⟨rfl, hb2⟩
  replace hB := hB.trans (hb2.mono hB.size)
  refine LS.vv rfl rfl (by decide) (Val.assign rfl) ?_
  refine LS.nil ?_
  refine W.ret ?_
  refine ret1 (by first | exact .inl rfl | exact .inr rfl) rfl ?_
  exact ⟨rfl, hB⟩

theorem sums_any (l : List Nat) (p : Option Addr) (c m : Nat) (w0 : World) (hr : Rd w0 p (nv l)) (hm : l.length = m) (hs : Sm l) (h12 : m ≤ 12) :
    CallsV Try.prog 44 #[.slice p m c] w0 (fun v w => v = .tuple #[.int .i64 (pS l : Int), .int .i64 (qS l : Int)] ∧ Below w0.heap.size w0 w) := by
  refine enter2 Try.func44 rfl Try.ntmps44 (by simp) rfl ?_
  have hB := Below.refl w0.heap.size w0
  simp only [argLoc]
  have hM := Mem.nil w0 w0.heap.size
  subst hm
  refine W.seqR ?_
  refine LS.vv rfl rfl (by decide) (Val.cast (v := .int .i64 ((0 : Nat) : Int)) (Val.assign rfl) rfl) ?_
  refine LS.vv rfl rfl (by decide) (Val.cast (v := .int .i64 ((0 : Nat) : Int)) (Val.assign rfl) rfl) ?_
  refine LS.nil ?_
  refine W.seqR ?_
  refine LS.vv rfl rfl (by decide) (Val.cast (v := .int .i64 ((0 : Nat) : Int)) (Val.assign rfl) rfl) ?_
  refine LS.vv rfl rfl (by decide) (Val.cast (v := .int .i64 ((0 : Nat) : Int)) (Val.assign rfl) rfl) ?_
  refine LS.nil ?_
  refine W.seq ?_
  refine W.seqR ?_
  refine LS.vv rfl rfl (by decide) (Val.move rfl) ?_
  refine LS.vv rfl rfl (by decide) (Val.len Try.underlying27 rfl) ?_
  refine LS.vv rfl rfl (by decide) (Val.cast (v := .int .i64 ((0 : Nat) : Int)) (Val.move rfl) rfl) ?_
  refine LS.nil ?_
  refine W.block ?_
  refine W.loop (α := Nat) (fun k => [(4, .int .i64 (pTo' l k : Int)), (5, .int .i64 (qTo' l k : Int)), (10, .int .i64 (k : Int))]) [(8, _), (9, _)] (fun k w => (k ≤ l.length) ∧ Mem w w0.heap.size [] ∧ Below w0.heap.size w0 w) (fun k => l.length - k) (0) (Sub.cons rfl (Sub.cons rfl (Sub.cons rfl (Sub.nil _)))) (Sub.cons rfl (Sub.cons rfl (Sub.nil _))) ?_ ?_
  · exact ⟨Nat.zero_le _, hM, hB⟩
  rintro k w1 ⟨hk, hM, hB⟩
  try simp only at hM
  simp only [List.cons_append, List.nil_append]
  have hp1 := pTo'_lt hs k
  have hq1 := qTo'_lt hs k
  have hgk := hs k
  refine W.seqR ?_
  refine LS.vv rfl rfl (by decide) (Val.lss rfl rfl) ?_
  refine LS.nil ?_
  refine W.seq ?_
  first | refine W.condD rfl (fun hc1 => ?_) (fun hc1 => ?_) | refine W.cond rfl (fun hc1 => ?_) (fun hc1 => ?_)
  ·
    refine W.skip ?_
    refine thenP_normal ?_
    refine W.seq ?_
    refine W.block ?_
    refine W.seqR ?_
    refine LS.vv rfl rfl (by decide) (Val.move rfl) ?_
    refine LS.vv rfl rfl (by decide) (Val.index1 Try.underlying27 elem3 rfl rfl (by omega) ((hr.below hB)) (nv_lt (by omega))) ?_
    refine LS.m rfl (Step.load rfl rfl (by decide) flat3 rfl ((hr.below hB)) (nv_at (by omega)) ?_)
    refine LS.vv rfl rfl (by decide) (Val.assign rfl) ?_
    refine LS.vv rfl rfl (by decide) (Val.assign rfl) ?_
    refine LS.nil ?_
    refine W.seqR ?_
    refine LS.vv rfl rfl (by decide) (Val.move rfl) ?_
    refine LS.vv rfl rfl (by decide) (Val.move rfl) ?_
    refine LS.vv rfl rfl (by decide) (Val.xor64 rfl rfl (by omega) (by omega)) ?_
    refine LS.vv rfl rfl (by decide) (Val.assign rfl) ?_
    refine LS.nil ?_
    refine W.reg ?_
    refine LS.vv rfl rfl (by decide) (Val.move rfl) ?_
    refine LS.vv rfl rfl (by decide) (Val.move rfl) ?_
    refine LS.vv rfl rfl (by decide) (Val.move rfl) ?_
    refine LS.m rfl (Step.call body35 rfl rfl (by decide) rfl (CallsV.mono (power_any 2 k _ (by omega) (by omega)) ?_))
    rintro _ w2 ⟨rfl, hb2⟩
    replace hM := hM.below hb2
    replace hB := hB.trans (hb2.mono hB.size)
    have hpk := pw2 k
    have hfm := fmul_lt hgk hpk
    refine LS.m rfl (Step.call body32 rfl rfl (by decide) rfl (CallsV.mono (times_any (gn l k) (fpow 2 k) _ hgk hpk) ?_))
    rintro _ w3 ⟨rfl, hb3⟩
    replace hM := hM.below hb3
    replace hB := hB.trans (hb3.mono hB.size)
    refine LS.vv rfl rfl (by decide) (Val.xor64 rfl rfl (by omega) (by omega)) ?_
    refine LS.vv rfl rfl (by decide) (Val.assign rfl) ?_
    refine LS.nil ?_
    refine inBlk_normal ?_
    refine thenP_normal ?_
    refine W.reg ?_
    first | refine LS.vv rfl rfl (by decide) (Val.addN (j := 1) rfl rfl (by omega)) ?_ | refine LS.vv rfl rfl (by decide) (Val.add64 rfl rfl (by omega)) ?_
    refine LS.vv rfl rfl (by decide) (Val.move rfl) ?_
    refine LS.nil ?_
    refine thenP_normal ?_
    refine ⟨k + 1, ?_, ?_, ⟨by omega, hM, hB⟩, by omega⟩
    · exact (Sub.cons' rfl (by rw [pTo'_succ]) (Sub.cons' rfl (by rw [qTo'_succ]) (Sub.cons rfl (Sub.nil _))))
    · repeat (first | exact Sub.nil _ | refine Sub.cons rfl ?_)
  ·
    refine W.exit ?_
    refine thenP_exit ?_
    refine thenP_exit ?_
    refine inBlk_exit ?_
    refine thenP_normal ?_
    refine W.seqR ?_
    refine LS.vv rfl rfl (by decide) (Val.move rfl) ?_
    refine LS.vv rfl rfl (by decide) (Val.move rfl) ?_
    refine LS.vv rfl rfl (by decide) (Val.assign rfl) ?_
    refine LS.vv rfl rfl (by decide) (Val.assign rfl) ?_
    refine LS.nil ?_
    refine W.ret ?_
    refine ret2 (by first | exact .inl rfl | exact .inr rfl) rfl rfl ?_
    (have hkm : k = l.length := (by omega); subst hkm; exact ⟨rfl, hB⟩)

theorem dput_any (zs : List Int) (p : Option Addr) (c : Nat) (w0 : World) (hr : Rd w0 p (iv zs)) :
    CallsV Try.prog 29 #[.slice p zs.length c] w0 (fun v w => ∃ P Q e : Nat, v = .tuple #[.int .i64 (P : Int), .int .i64 (Q : Int), .int .i64 (e : Int)] ∧ (e = 0 ↔ zs.length ≠ 0 ∧ zs.length ≤ 12 ∧ OkF zs) ∧ (e = 0 → P = pS (zs.map Int.toNat) ∧ Q = qS (zs.map Int.toNat)) ∧ Below w0.heap.size w0 w) := by
  refine enter3 Try.func29 rfl Try.ntmps29 (by simp) rfl ?_
  have hB := Below.refl w0.heap.size w0
  simp only [argLoc]
  have hM := Mem.nil w0 w0.heap.size
  refine W.seqR ?_
  refine LS.vv rfl rfl (by decide) (Val.cast (v := .int .i64 ((0 : Nat) : Int)) (Val.assign rfl) rfl) ?_
  refine LS.vv rfl rfl (by decide) (Val.cast (v := .int .i64 ((0 : Nat) : Int)) (Val.assign rfl) rfl) ?_
  refine LS.vv rfl rfl (by decide) (Val.cast (v := .int .i64 ((0 : Nat) : Int)) (Val.assign rfl) rfl) ?_
  refine LS.nil ?_
  refine W.seq ?_
  refine W.seqR ?_
  refine LS.vv rfl rfl (by decide) (Val.move rfl) ?_
  refine LS.vv rfl rfl (by decide) (Val.len Try.underlying27 rfl) ?_
  refine LS.vv rfl rfl (by decide) (Val.eql rfl rfl) ?_
  refine LS.nil ?_
  first | refine W.condD rfl (fun hc1 => ?_) (fun hc1 => ?_) | refine W.cond rfl (fun hc1 => ?_) (fun hc1 => ?_)
  ·
    refine W.seqR ?_
    refine LS.vv rfl rfl (by decide) (Val.cast (v := .int .i64 ((0 : Nat) : Int)) (Val.assign rfl) rfl) ?_
    refine LS.vv rfl rfl (by decide) (Val.cast (v := .int .i64 ((0 : Nat) : Int)) (Val.assign rfl) rfl) ?_
    refine LS.vv rfl rfl (by decide) (Val.cast (v := .int .i64 ((3 : Nat) : Int)) (Val.assign rfl) rfl) ?_
    refine LS.nil ?_
    refine W.ret ?_
    refine thenP_ret ?_
    refine ret3 (by first | exact .inl rfl | exact .inr rfl) rfl rfl rfl ?_
    first | (refine ⟨0, 0, 3, rfl, ⟨fun h => by omega, fun h => by omega⟩, fun h => by omega, hB⟩; done) | (refine ⟨0, 0, 1, rfl, ⟨fun h => by omega, fun h => by omega⟩, fun h => by omega, hB⟩; done) | (refine ⟨0, 0, e, rfl, ⟨fun h => by omega, fun h => he.2 h.2.2⟩, fun h => by omega, hB⟩; done) | exact ⟨_, _, 0, rfl, ⟨fun _ => ⟨by omega, by omega, hok⟩, fun _ => rfl⟩, fun _ => ⟨rfl, rfl⟩, hB⟩
  ·
    refine W.skip ?_
    refine thenP_normal ?_
    refine W.seq ?_
    refine W.seqR ?_
    refine LS.vv rfl rfl (by decide) (Val.move rfl) ?_
    refine LS.vv rfl rfl (by decide) (Val.len Try.underlying27 rfl) ?_
    refine LS.vv rfl rfl (by decide) (Val.gtr rfl rfl) ?_
    refine LS.nil ?_
    first | refine W.condD rfl (fun hc2 => ?_) (fun hc2 => ?_) | refine W.cond rfl (fun hc2 => ?_) (fun hc2 => ?_)
    ·
      refine W.seqR ?_
      refine LS.vv rfl rfl (by decide) (Val.cast (v := .int .i64 ((0 : Nat) : Int)) (Val.assign rfl) rfl) ?_
      refine LS.vv rfl rfl (by decide) (Val.cast (v := .int .i64 ((0 : Nat) : Int)) (Val.assign rfl) rfl) ?_
      refine LS.vv rfl rfl (by decide) (Val.cast (v := .int .i64 ((1 : Nat) : Int)) (Val.assign rfl) rfl) ?_
      refine LS.nil ?_
      refine W.ret ?_
      refine thenP_ret ?_
      refine ret3 (by first | exact .inl rfl | exact .inr rfl) rfl rfl rfl ?_
      first | (refine ⟨0, 0, 3, rfl, ⟨fun h => by omega, fun h => by omega⟩, fun h => by omega, hB⟩; done) | (refine ⟨0, 0, 1, rfl, ⟨fun h => by omega, fun h => by omega⟩, fun h => by omega, hB⟩; done) | (refine ⟨0, 0, e, rfl, ⟨fun h => by omega, fun h => he.2 h.2.2⟩, fun h => by omega, hB⟩; done) | exact ⟨_, _, 0, rfl, ⟨fun _ => ⟨by omega, by omega, hok⟩, fun _ => rfl⟩, fun _ => ⟨rfl, rfl⟩, hB⟩
    ·
      refine W.skip ?_
      refine thenP_normal ?_
      refine W.seq ?_
      refine W.seqR ?_
      refine LS.vv rfl rfl (by decide) (Val.move rfl) ?_
      refine LS.m rfl (Step.call body31 rfl rfl (by decide) rfl (CallsV.mono (fcheck_any zs _ _ _ (hr.below hB) (by omega)) ?_))
      rintro _ w1 ⟨e, rfl, he, he4, hb1⟩
      replace hM := hM.below hb1
      replace hB := hB.trans (hb1.mono hB.size)
      refine LS.vv rfl rfl (by decide) (Val.assign rfl) ?_
      refine LS.nil ?_
      refine W.seqR ?_
      refine LS.vv rfl rfl (by decide) (Val.move rfl) ?_
      refine LS.vv rfl rfl (by decide) (Val.neq rfl rfl) ?_
      refine LS.nil ?_
      first | refine W.condD rfl (fun hc3 => ?_) (fun hc3 => ?_) | refine W.cond rfl (fun hc3 => ?_) (fun hc3 => ?_)
      ·
        refine W.seqR ?_
        refine LS.vv rfl rfl (by decide) (Val.move rfl) ?_
        refine LS.vv rfl rfl (by decide) (Val.cast (v := .int .i64 ((0 : Nat) : Int)) (Val.assign rfl) rfl) ?_
        refine LS.vv rfl rfl (by decide) (Val.cast (v := .int .i64 ((0 : Nat) : Int)) (Val.assign rfl) rfl) ?_
        refine LS.vv rfl rfl (by decide) (Val.assign rfl) ?_
        refine LS.nil ?_
        refine W.ret ?_
        refine thenP_ret ?_
        refine ret3 (by first | exact .inl rfl | exact .inr rfl) rfl rfl rfl ?_
        first | (refine ⟨0, 0, 3, rfl, ⟨fun h => by omega, fun h => by omega⟩, fun h => by omega, hB⟩; done) | (refine ⟨0, 0, 1, rfl, ⟨fun h => by omega, fun h => by omega⟩, fun h => by omega, hB⟩; done) | (refine ⟨0, 0, e, rfl, ⟨fun h => by omega, fun h => he.2 h.2.2⟩, fun h => by omega, hB⟩; done) | exact ⟨_, _, 0, rfl, ⟨fun _ => ⟨by omega, by omega, hok⟩, fun _ => rfl⟩, fun _ => ⟨rfl, rfl⟩, hB⟩
      ·
        refine W.skip ?_
        refine thenP_normal ?_
        refine W.seqR ?_
        refine LS.vv rfl rfl (by decide) (Val.move rfl) ?_
        have hok := he.1 (by omega)
        have hsm := sm_toNat hok
        have hiv := iv_toNat hok
        refine LS.m rfl (Step.call body44 rfl rfl (by decide) rfl (CallsV.mono (sums_any (zs.map Int.toNat) _ _ _ _ (by rw [← hiv]; exact hr.below hB) (by simp) hsm (by omega)) ?_))
        rintro _ w2 ⟨rfl, hb2⟩
        replace hM := hM.below hb2
        replace hB := hB.trans (hb2.mono hB.size)
        refine LS.vv rfl rfl (by decide) (Val.move rfl) ?_
        refine LS.vv rfl rfl (by decide) (Val.extract rfl rfl) ?_
        refine LS.vv rfl rfl (by decide) (Val.extract rfl rfl) ?_
        refine LS.vv rfl rfl (by decide) (Val.assign rfl) ?_
        refine LS.vv rfl rfl (by decide) (Val.assign rfl) ?_
        refine LS.nil ?_
        refine W.seqR ?_
        refine LS.vv rfl rfl (by decide) (Val.move rfl) ?_
        refine LS.vv rfl rfl (by decide) (Val.move rfl) ?_
        refine LS.vv rfl rfl (by decide) (Val.assign rfl) ?_
        refine LS.vv rfl rfl (by decide) (Val.assign rfl) ?_
        refine LS.vv rfl rfl (by decide) (Val.cast (v := .int .i64 ((0 : Nat) : Int)) (Val.assign rfl) rfl) ?_
        refine LS.nil ?_
        refine W.ret ?_
        refine ret3 (by first | exact .inl rfl | exact .inr rfl) rfl rfl rfl ?_
        first | (refine ⟨0, 0, 3, rfl, ⟨fun h => by omega, fun h => by omega⟩, fun h => by omega, hB⟩; done) | (refine ⟨0, 0, 1, rfl, ⟨fun h => by omega, fun h => by omega⟩, fun h => by omega, hB⟩; done) | (refine ⟨0, 0, e, rfl, ⟨fun h => by omega, fun h => he.2 h.2.2⟩, fun h => by omega, hB⟩; done) | exact ⟨_, _, 0, rfl, ⟨fun _ => ⟨by omega, by omega, hok⟩, fun _ => rfl⟩, fun _ => ⟨rfl, rfl⟩, hB⟩

theorem fill_any (l gs : List Nat) (p q n c1 c2 m ml k ck cg : Nat) (h : Bool) (pd pg : Option Addr) (B : Nat) (S : List Ob) (w0 : World) (hM0 : Mem w0 B (⟨3, pg, m, cg, nv gs⟩ :: ⟨3, pd, ml, c1, nv l⟩ :: S)) (hB0 : B ≤ w0.heap.size) (hm : gs.length = m) (hml : l.length = ml) (hk : k ≤ m) (hp : p < 16) (hq : q < 16) (hn : n ≤ l.length) (h12 : n ≤ 12) (hi : ∀ a ∈ gs.take k, a < n) :
    CallsV Try.prog 48 #[.slice pd n c2, .slice pg k ck, .int .i64 (p : Int), .int .i64 (q : Int), .bool h] w0 (fun v w => Mem w B (⟨3, pg, m, cg, nv gs⟩ :: ⟨3, pd, ml, c1, nv (dfill l (gs.take k) p q h)⟩ :: S) ∧ Below B w0 w) := by
  refine enter0 Try.func48 rfl Try.ntmps48 (by simp) rfl ?_
  have hB : Below B w0 w0 := below_refl_base hB0
  simp only [argLoc, Nat.zero_add, Nat.reduceAdd]
  have hM := hM0
  subst hm
  subst hml
  have hg0 : 0 < k → gn gs 0 < n := fun h => hi _ (gn_take_mem h (by omega))
  have hg1 : 1 < k → gn gs 1 < n := fun h => hi _ (gn_take_mem h (by omega))
  have hw0 := pw2 (gn gs 0)
  have hw1 := pw2 (gn gs 1)
  refine W.block ?_
  refine W.seqR ?_
  refine LS.vv rfl rfl (by decide) (Val.move rfl) ?_
  refine LS.vv rfl rfl (by decide) (Val.len Try.underlying27 rfl) ?_
  refine LS.vv rfl rfl (by decide) (Val.eql rfl rfl) ?_
  refine LS.vv rfl rfl (by decide) (Val.move rfl) ?_
  refine LS.split 3 rfl (fun hg1 => ?_) (fun hg1 => ?_)
  ·
    first | (have hg1p := of_decide_eq_true hg1) | skip
    refine LS.vg rfl rfl rfl hg1 (by decide) (Val.move rfl) ?_
    refine LS.vv rfl rfl (by decide) (Val.pickT rfl hg1 rfl) ?_
    refine LS.vv rfl rfl (by decide) (Val.assign rfl) ?_
    refine LS.nil ?_
    first | refine W.condD rfl (fun hc2 => ?_) (fun hc2 => ?_) | refine W.cond rfl (fun hc2 => ?_) (fun hc2 => ?_)
    ·
      have h1 : k = 1 := by omega
      refine W.reg ?_
      refine LS.vv rfl rfl (by decide) (Val.move rfl) ?_
      refine LS.vv rfl rfl (by decide) (Val.move rfl) ?_
      refine LS.vv rfl rfl (by decide) (Val.index1 (j := 0) Try.underlying27 elem3 rfl rfl (by first | omega | (simp only [List.length_set]; omega)) (hM.o0.rd) (nv_lt (by first | omega | (simp only [List.length_set]; omega)))) ?_
      refine LS.m rfl (Step.load rfl rfl (by decide) flat3 rfl (hM.o0.rd) (nv_at (by first | omega | (simp only [List.length_set]; omega))) ?_)
      refine LS.vv rfl rfl (by decide) (Val.move rfl) ?_
      refine LS.vv rfl rfl (by decide) (Val.index1 Try.underlying27 elem3 rfl rfl (by first | omega | (simp only [List.length_set]; omega)) (hM.o1.rd) (nv_lt (by first | omega | (simp only [List.length_set]; omega)))) ?_
      refine LS.m rfl (Step.store (B := B) rfl rfl flat3 elem3 rfl rfl rfl (hM.o1) (by first | omega | (simp only [List.length_set]; omega)) (Nat.le_trans hB0 hB.size) ?_)
      rintro w1 hO1 hg1 hbl1 hsz1
      replace hM := hM.s1 hg1 hO1 inl_block
      try simp only [nv_app1, nv_app, nv_set, nv_rep, nv_one, nv_cons, nv_take, nv_drop, List.nil_append] at hM
      replace hB := hB.trans hbl1
      refine LS.nil ?_
      refine inBlk_normal ?_
      refine ret0 (by first | exact .inl rfl | exact .inr rfl) ?_
      first | (refine ⟨?_, hB⟩; rw [dfill_two hk h2]; exact hM) | (refine ⟨?_, hB⟩; rw [dfill_p hk h1 (by simp_all)]; exact hM) | (refine ⟨?_, hB⟩; rw [dfill_q1 hk h1 (by simp_all)]; exact hM) | (refine ⟨?_, hB⟩; rw [dfill_none hk (by first | omega | simp_all) (by omega)]; exact hM)
    ·
      refine W.seqR ?_
      refine LS.vv rfl rfl (by decide) (Val.move rfl) ?_
      refine LS.vv rfl rfl (by decide) (Val.len Try.underlying27 rfl) ?_
      refine LS.vv rfl rfl (by decide) (Val.eql rfl rfl) ?_
      refine LS.vv rfl rfl (by decide) (Val.assign rfl) ?_
      refine LS.nil ?_
      first | refine W.condD rfl (fun hc3 => ?_) (fun hc3 => ?_) | refine W.cond rfl (fun hc3 => ?_) (fun hc3 => ?_)
      ·
        have h1 : k = 1 := by omega
        refine W.regF 11 [(0, true), (1, true), (2, true), (3, true), (4, true), (5, true), (6, true), (7, true), (8, false), (9, false), (10, true), (11, false)] mixed (by kernel_rfl) hB hM ?_
        replace hB := hB.drew
        replace hM := hM.drew
        refine DF.vv rfl rfl rfl (by decide) (Val.move rfl) ?_
        refine DF.vv rfl rfl rfl (by decide) (Val.move rfl) ?_
        refine DF.vv rfl rfl rfl (by decide) (Val.index1 (j := 0) Try.underlying27 elem3 rfl rfl (by first | omega | (simp only [List.length_set]; omega)) (hM.o0.rd) (nv_lt (by first | omega | (simp only [List.length_set]; omega)))) ?_
        refine DF.vv rfl rfl rfl (by decide) (Val.load flat3 rfl (fun _ h => h.2.o0.rd) (nv_at (by first | omega | (simp only [List.length_set]; omega)))) ?_
        refine DF.vv rfl rfl rfl (by decide) (Val.move rfl) ?_
        refine DF.vv rfl rfl rfl (by decide) (Val.move rfl) ?_
        refine DF.vv rfl rfl rfl (by decide) (Val.index1 (j := 0) Try.underlying27 elem3 rfl rfl (by first | omega | (simp only [List.length_set]; omega)) (hM.o0.rd) (nv_lt (by first | omega | (simp only [List.length_set]; omega)))) ?_
        refine DF.vv rfl rfl rfl (by decide) (Val.load flat3 rfl (fun _ h => h.2.o0.rd) (nv_at (by first | omega | (simp only [List.length_set]; omega)))) ?_
        refine DF.m rfl rfl (Step.call body35 rfl rfl (by decide) rfl (CallsV.mono (power_any 2 (gn gs 0) _ (by omega) (by omega)) ?_))
        rintro _ w2 ⟨rfl, hb2⟩
        replace hM := hM.below hb2
        replace hB := hB.trans (hb2.mono (Nat.le_trans hB0 hB.size))
        refine ⟨fun _ => ⟨hB, hM⟩, ?_⟩
        refine DF.m rfl rfl (Step.call body59 rfl rfl (by decide) rfl (CallsV.mono (divide_any q (fpow 2 (gn gs 0)) _ hq hw0) ?_))
        rintro _ w3 ⟨rfl, hb3⟩
        replace hM := hM.below hb3
        replace hB := hB.trans (hb3.mono (Nat.le_trans hB0 hB.size))
        refine ⟨fun _ => ⟨hB, hM⟩, ?_⟩
        refine DF.vv rfl rfl rfl (by decide) (Val.index1 Try.underlying27 elem3 rfl rfl (by first | omega | (simp only [List.length_set]; omega)) (hM.o1.rd) (nv_lt (by first | omega | (simp only [List.length_set]; omega)))) ?_
        refine DF.m rfl rfl (Step.store (B := B) rfl rfl flat3 elem3 rfl rfl rfl (hM.o1) (by first | omega | (simp only [List.length_set]; omega)) (Nat.le_trans hB0 hB.size) ?_)
        rintro w4 hO4 hg4 hbl4 hsz4
        replace hM := hM.s1 hg4 hO4 inl_block
        try simp only [nv_app1, nv_app, nv_set, nv_rep, nv_one, nv_cons, nv_take, nv_drop, List.nil_append] at hM
        replace hB := hB.trans hbl4
        refine ⟨fun h => absurd rfl h, ?_⟩
        refine DF.nil ?_
        refine inBlk_normal ?_
        refine ret0 (by first | exact .inl rfl | exact .inr rfl) ?_
        first | (refine ⟨?_, hB⟩; rw [dfill_two hk h2]; exact hM) | (refine ⟨?_, hB⟩; rw [dfill_p hk h1 (by simp_all)]; exact hM) | (refine ⟨?_, hB⟩; rw [dfill_q1 hk h1 (by simp_all)]; exact hM) | (refine ⟨?_, hB⟩; rw [dfill_none hk (by first | omega | simp_all) (by omega)]; exact hM)
      ·
        refine W.seqR ?_
        refine LS.vv rfl rfl (by decide) (Val.move rfl) ?_
        refine LS.vv rfl rfl (by decide) (Val.len Try.underlying27 rfl) ?_
        refine LS.vv rfl rfl (by decide) (Val.eql rfl rfl) ?_
        refine LS.vv rfl rfl (by decide) (Val.assign rfl) ?_
        refine LS.nil ?_
        first | refine W.condD rfl (fun hc4 => ?_) (fun hc4 => ?_) | refine W.cond rfl (fun hc4 => ?_) (fun hc4 => ?_)
        ·
          have h2 : k = 2 := by omega
          refine W.seqF 10 [(0, true), (1, true), (2, true), (4, true), (5, true), (6, true), (3, false), (7, false), (8, true), (9, true)] mixed (by kernel_rfl) hB hM ?_
          replace hB := hB.drew
          replace hM := hM.drew
          refine DF.vv rfl rfl rfl (by decide) (Val.move rfl) ?_
          refine DF.vv rfl rfl rfl (by decide) (Val.index1 (j := 0) Try.underlying27 elem3 rfl rfl (by first | omega | (simp only [List.length_set]; omega)) (hM.o0.rd) (nv_lt (by first | omega | (simp only [List.length_set]; omega)))) ?_
          refine DF.vv rfl rfl rfl (by decide) (Val.load flat3 rfl (fun _ h => h.2.o0.rd) (nv_at (by first | omega | (simp only [List.length_set]; omega)))) ?_
          refine DF.vv rfl rfl rfl (by decide) (Val.move rfl) ?_
          refine DF.vv rfl rfl rfl (by decide) (Val.index1 (j := 1) Try.underlying27 elem3 rfl rfl (by first | omega | (simp only [List.length_set]; omega)) (hM.o0.rd) (nv_lt (by first | omega | (simp only [List.length_set]; omega)))) ?_
          refine DF.vv rfl rfl rfl (by decide) (Val.load flat3 rfl (fun _ h => h.2.o0.rd) (nv_at (by first | omega | (simp only [List.length_set]; omega)))) ?_
          refine DF.m rfl rfl (Step.call body35 rfl rfl (by decide) rfl (CallsV.mono (power_any 2 (gn gs 0) _ (by omega) (by omega)) ?_))
          rintro _ w5 ⟨rfl, hb5⟩
          replace hM := hM.below hb5
          replace hB := hB.trans (hb5.mono (Nat.le_trans hB0 hB.size))
          refine ⟨fun _ => ⟨hB, hM⟩, ?_⟩
          refine DF.m rfl rfl (Step.call body35 rfl rfl (by decide) rfl (CallsV.mono (power_any 2 (gn gs 1) _ (by omega) (by omega)) ?_))
          rintro _ w6 ⟨rfl, hb6⟩
          replace hM := hM.below hb6
          replace hB := hB.trans (hb6.mono (Nat.le_trans hB0 hB.size))
          refine ⟨fun _ => ⟨hB, hM⟩, ?_⟩
          refine DF.vv rfl rfl rfl (by decide) (Val.assign rfl) ?_
          refine DF.vv rfl rfl rfl (by decide) (Val.assign rfl) ?_
          refine DF.nil ?_
          refine W.seqR ?_
          refine LS.vv rfl rfl (by decide) (Val.move rfl) ?_
          refine LS.vv rfl rfl (by decide) (Val.move rfl) ?_
          refine LS.vv rfl rfl (by decide) (Val.move rfl) ?_
          refine LS.m rfl (Step.call body32 rfl rfl (by decide) rfl (CallsV.mono (times_any p (fpow 2 (gn gs 1)) _ hp hw1) ?_))
          rintro _ w7 ⟨rfl, hb7⟩
          replace hM := hM.below hb7
          replace hB := hB.trans (hb7.mono (Nat.le_trans hB0 hB.size))
          have hfm := fmul_lt hp hw1
          have hx1 := xor16 hq hfm
          have hx2 := xor16 hw0 hw1
          refine LS.vv rfl rfl (by decide) (Val.xor64 rfl rfl (by first | omega | (simp only [List.length_set]; omega)) (by first | omega | (simp only [List.length_set]; omega))) ?_
          refine LS.vv rfl rfl (by decide) (Val.move rfl) ?_
          refine LS.vv rfl rfl (by decide) (Val.move rfl) ?_
          refine LS.vv rfl rfl (by decide) (Val.xor64 rfl rfl (by first | omega | (simp only [List.length_set]; omega)) (by first | omega | (simp only [List.length_set]; omega))) ?_
          refine LS.m rfl (Step.call body59 rfl rfl (by decide) rfl (CallsV.mono (divide_any (q ^^^ fmul p (fpow 2 (gn gs 1))) (fpow 2 (gn gs 0) ^^^ fpow 2 (gn gs 1)) _ hx1 hx2) ?_))
          rintro _ w8 ⟨rfl, hb8⟩
          replace hM := hM.below hb8
          replace hB := hB.trans (hb8.mono (Nat.le_trans hB0 hB.size))
          have hx3 := fdiv_lt hx1 hx2
          refine LS.vv rfl rfl (by decide) (Val.assign rfl) ?_
          refine LS.nil ?_
          refine W.regT (S := fun w => Below B w0 w) (.val 0 (.val 1 (.val 2 (.val 4 (.val 5 (.val 6 (.val 8 (.val 9 (.val 10 (.val 11 (.two (.mem 3 (.mem 7 (.val 12 (.mem 13 (.val 14 (.mem 15 (.done))))))) (.mem 7 (.mem 3 (.val 12 (.mem 13 (.val 14 (.mem 15 (.done)))))))))))))))))) mixed (by kernel_rfl) hB.drew ?_
          replace hB := hB.drew
          replace hM := hM.drew
          refine DT.vv rfl rfl rfl (by decide) (Val.move rfl) ?_
          refine DT.vv rfl rfl rfl (by decide) (Val.move rfl) ?_
          refine DT.vv rfl rfl rfl (by decide) (Val.index1 (j := 0) Try.underlying27 elem3 rfl rfl (by first | omega | (simp only [List.length_set]; omega)) (hM.o0.rd) (nv_lt (by first | omega | (simp only [List.length_set]; omega)))) ?_
          refine DT.vv rfl rfl rfl (by decide) (Val.move rfl) ?_
          refine DT.vv rfl rfl rfl (by decide) (Val.move rfl) ?_
          refine DT.vv rfl rfl rfl (by decide) (Val.index1 (j := 1) Try.underlying27 elem3 rfl rfl (by first | omega | (simp only [List.length_set]; omega)) (hM.o0.rd) (nv_lt (by first | omega | (simp only [List.length_set]; omega)))) ?_
          refine DT.vv rfl rfl rfl (by decide) (Val.move rfl) ?_
          refine DT.vv rfl rfl rfl (by decide) (Val.move rfl) ?_
          refine DT.vv rfl rfl rfl (by decide) (Val.move rfl) ?_
          refine DT.vv rfl rfl rfl (by decide) (Val.xor64 rfl rfl (by first | omega | (simp only [List.length_set]; omega)) (by first | omega | (simp only [List.length_set]; omega))) ?_
          refine DT.two ?_ ?_
          ·
            refine DT.m rfl rfl (Step.load rfl rfl (by decide) flat3 rfl (hM.o0.rd) (nv_at (by first | omega | (simp only [List.length_set]; omega))) ?_)
            refine ⟨hB, ?_⟩
            refine DT.m rfl rfl (Step.load rfl rfl (by decide) flat3 rfl (hM.o0.rd) (nv_at (by first | omega | (simp only [List.length_set]; omega))) ?_)
            refine ⟨hB, ?_⟩
            refine DT.vv rfl rfl rfl (by decide) (Val.index1 Try.underlying27 elem3 rfl rfl (by first | omega | (simp only [List.length_set]; omega)) (hM.o1.rd) (nv_lt (by first | omega | (simp only [List.length_set]; omega)))) ?_
            refine DT.m rfl rfl (Step.store (B := B) rfl rfl flat3 elem3 rfl rfl rfl (hM.o1) (by first | omega | (simp only [List.length_set]; omega)) (Nat.le_trans hB0 hB.size) ?_)
            rintro w9 hO9 hg9 hbl9 hsz9
            replace hM := hM.s1 hg9 hO9 inl_block
            try simp only [nv_app1, nv_app, nv_set, nv_rep, nv_one, nv_cons, nv_take, nv_drop, List.nil_append] at hM
            replace hB := hB.trans hbl9
            refine ⟨hB, ?_⟩
            refine DT.vv rfl rfl rfl (by decide) (Val.index1 Try.underlying27 elem3 rfl rfl (by first | omega | (simp only [List.length_set]; omega)) (hM.o1.rd) (nv_lt (by first | omega | (simp only [List.length_set]; omega)))) ?_
            refine DT.m rfl rfl (Step.store (B := B) rfl rfl flat3 elem3 rfl rfl rfl (hM.o1) (by first | omega | (simp only [List.length_set]; omega)) (Nat.le_trans hB0 hB.size) ?_)
            rintro w10 hO10 hg10 hbl10 hsz10
            replace hM := hM.s1 hg10 hO10 inl_block
            try simp only [nv_app1, nv_app, nv_set, nv_rep, nv_one, nv_cons, nv_take, nv_drop, List.nil_append] at hM
            replace hB := hB.trans hbl10
            refine ⟨hB, ?_⟩
            refine DT.nil ?_
            refine inBlk_normal ?_
            refine ret0 (by first | exact .inl rfl | exact .inr rfl) ?_
            first | (refine ⟨?_, hB⟩; rw [dfill_two hk h2]; exact hM) | (refine ⟨?_, hB⟩; rw [dfill_p hk h1 (by simp_all)]; exact hM) | (refine ⟨?_, hB⟩; rw [dfill_q1 hk h1 (by simp_all)]; exact hM) | (refine ⟨?_, hB⟩; rw [dfill_none hk (by first | omega | simp_all) (by omega)]; exact hM)
          ·
            refine DT.m rfl rfl (Step.load rfl rfl (by decide) flat3 rfl (hM.o0.rd) (nv_at (by first | omega | (simp only [List.length_set]; omega))) ?_)
            refine ⟨hB, ?_⟩
            refine DT.m rfl rfl (Step.load rfl rfl (by decide) flat3 rfl (hM.o0.rd) (nv_at (by first | omega | (simp only [List.length_set]; omega))) ?_)
            refine ⟨hB, ?_⟩
            refine DT.vv rfl rfl rfl (by decide) (Val.index1 Try.underlying27 elem3 rfl rfl (by first | omega | (simp only [List.length_set]; omega)) (hM.o1.rd) (nv_lt (by first | omega | (simp only [List.length_set]; omega)))) ?_
            refine DT.m rfl rfl (Step.store (B := B) rfl rfl flat3 elem3 rfl rfl rfl (hM.o1) (by first | omega | (simp only [List.length_set]; omega)) (Nat.le_trans hB0 hB.size) ?_)
            rintro w11 hO11 hg11 hbl11 hsz11
            replace hM := hM.s1 hg11 hO11 inl_block
            try simp only [nv_app1, nv_app, nv_set, nv_rep, nv_one, nv_cons, nv_take, nv_drop, List.nil_append] at hM
            replace hB := hB.trans hbl11
            refine ⟨hB, ?_⟩
            refine DT.vv rfl rfl rfl (by decide) (Val.index1 Try.underlying27 elem3 rfl rfl (by first | omega | (simp only [List.length_set]; omega)) (hM.o1.rd) (nv_lt (by first | omega | (simp only [List.length_set]; omega)))) ?_
            refine DT.m rfl rfl (Step.store (B := B) rfl rfl flat3 elem3 rfl rfl rfl (hM.o1) (by first | omega | (simp only [List.length_set]; omega)) (Nat.le_trans hB0 hB.size) ?_)
            rintro w12 hO12 hg12 hbl12 hsz12
            replace hM := hM.s1 hg12 hO12 inl_block
            try simp only [nv_app1, nv_app, nv_set, nv_rep, nv_one, nv_cons, nv_take, nv_drop, List.nil_append] at hM
            replace hB := hB.trans hbl12
            refine ⟨hB, ?_⟩
            refine DT.nil ?_
            refine inBlk_normal ?_
            refine ret0 (by first | exact .inl rfl | exact .inr rfl) ?_
            first | (refine ⟨?_, hB⟩; rw [dfill_two hk h2]; exact hM) | (refine ⟨?_, hB⟩; rw [dfill_p hk h1 (by simp_all)]; exact hM) | (refine ⟨?_, hB⟩; rw [dfill_q1 hk h1 (by simp_all)]; exact hM) | (refine ⟨?_, hB⟩; rw [dfill_none hk (by first | omega | simp_all) (by omega)]; exact hM)
        ·
          refine W.skip ?_
          refine inBlk_normal ?_
          refine ret0 (by first | exact .inl rfl | exact .inr rfl) ?_
          first | (refine ⟨?_, hB⟩; rw [dfill_two hk h2]; exact hM) | (refine ⟨?_, hB⟩; rw [dfill_p hk h1 (by simp_all)]; exact hM) | (refine ⟨?_, hB⟩; rw [dfill_q1 hk h1 (by simp_all)]; exact hM) | (refine ⟨?_, hB⟩; rw [dfill_none hk (by first | omega | simp_all) (by omega)]; exact hM)
  ·
    first | (have hg1p := of_decide_eq_false hg1) | skip
    refine LS.s rfl rfl rfl hg1 (by decide) ?_
    refine LS.vv rfl rfl (by decide) (Val.pickF rfl hg1 rfl) ?_
    refine LS.vv rfl rfl (by decide) (Val.assign rfl) ?_
    refine LS.nil ?_
    refine W.condF rfl ?_
    refine W.seqR ?_
    refine LS.vv rfl rfl (by decide) (Val.move rfl) ?_
    refine LS.vv rfl rfl (by decide) (Val.len Try.underlying27 rfl) ?_
    refine LS.vv rfl rfl (by decide) (Val.eql rfl rfl) ?_
    refine LS.vv rfl rfl (by decide) (Val.assign rfl) ?_
    refine LS.nil ?_
    first | refine W.condD rfl (fun hc5 => ?_) (fun hc5 => ?_) | refine W.cond rfl (fun hc5 => ?_) (fun hc5 => ?_)
    ·
      have h1 : k = 1 := by omega
      refine W.regF 11 [(0, true), (1, true), (2, true), (3, true), (4, true), (5, true), (6, true), (7, true), (8, false), (9, false), (10, true), (11, false)] mixed (by kernel_rfl) hB hM ?_
      replace hB := hB.drew
      replace hM := hM.drew
      refine DF.vv rfl rfl rfl (by decide) (Val.move rfl) ?_
      refine DF.vv rfl rfl rfl (by decide) (Val.move rfl) ?_
      refine DF.vv rfl rfl rfl (by decide) (Val.index1 (j := 0) Try.underlying27 elem3 rfl rfl (by first | omega | (simp only [List.length_set]; omega)) (hM.o0.rd) (nv_lt (by first | omega | (simp only [List.length_set]; omega)))) ?_
      refine DF.vv rfl rfl rfl (by decide) (Val.load flat3 rfl (fun _ h => h.2.o0.rd) (nv_at (by first | omega | (simp only [List.length_set]; omega)))) ?_
      refine DF.vv rfl rfl rfl (by decide) (Val.move rfl) ?_
      refine DF.vv rfl rfl rfl (by decide) (Val.move rfl) ?_
      refine DF.vv rfl rfl rfl (by decide) (Val.index1 (j := 0) Try.underlying27 elem3 rfl rfl (by first | omega | (simp only [List.length_set]; omega)) (hM.o0.rd) (nv_lt (by first | omega | (simp only [List.length_set]; omega)))) ?_
      refine DF.vv rfl rfl rfl (by decide) (Val.load flat3 rfl (fun _ h => h.2.o0.rd) (nv_at (by first | omega | (simp only [List.length_set]; omega)))) ?_
      refine DF.m rfl rfl (Step.call body35 rfl rfl (by decide) rfl (CallsV.mono (power_any 2 (gn gs 0) _ (by omega) (by omega)) ?_))
      rintro _ w13 ⟨rfl, hb13⟩
      replace hM := hM.below hb13
      replace hB := hB.trans (hb13.mono (Nat.le_trans hB0 hB.size))
      refine ⟨fun _ => ⟨hB, hM⟩, ?_⟩
      refine DF.m rfl rfl (Step.call body59 rfl rfl (by decide) rfl (CallsV.mono (divide_any q (fpow 2 (gn gs 0)) _ hq hw0) ?_))
      rintro _ w14 ⟨rfl, hb14⟩
      replace hM := hM.below hb14
      replace hB := hB.trans (hb14.mono (Nat.le_trans hB0 hB.size))
      refine ⟨fun _ => ⟨hB, hM⟩, ?_⟩
      refine DF.vv rfl rfl rfl (by decide) (Val.index1 Try.underlying27 elem3 rfl rfl (by first | omega | (simp only [List.length_set]; omega)) (hM.o1.rd) (nv_lt (by first | omega | (simp only [List.length_set]; omega)))) ?_
      refine DF.m rfl rfl (Step.store (B := B) rfl rfl flat3 elem3 rfl rfl rfl (hM.o1) (by first | omega | (simp only [List.length_set]; omega)) (Nat.le_trans hB0 hB.size) ?_)
      rintro w15 hO15 hg15 hbl15 hsz15
      replace hM := hM.s1 hg15 hO15 inl_block
      try simp only [nv_app1, nv_app, nv_set, nv_rep, nv_one, nv_cons, nv_take, nv_drop, List.nil_append] at hM
      replace hB := hB.trans hbl15
      refine ⟨fun h => absurd rfl h, ?_⟩
      refine DF.nil ?_
      refine inBlk_normal ?_
      refine ret0 (by first | exact .inl rfl | exact .inr rfl) ?_
      first | (refine ⟨?_, hB⟩; rw [dfill_two hk h2]; exact hM) | (refine ⟨?_, hB⟩; rw [dfill_p hk h1 (by simp_all)]; exact hM) | (refine ⟨?_, hB⟩; rw [dfill_q1 hk h1 (by simp_all)]; exact hM) | (refine ⟨?_, hB⟩; rw [dfill_none hk (by first | omega | simp_all) (by omega)]; exact hM)
    ·
      refine W.seqR ?_
      refine LS.vv rfl rfl (by decide) (Val.move rfl) ?_
      refine LS.vv rfl rfl (by decide) (Val.len Try.underlying27 rfl) ?_
      refine LS.vv rfl rfl (by decide) (Val.eql rfl rfl) ?_
      refine LS.vv rfl rfl (by decide) (Val.assign rfl) ?_
      refine LS.nil ?_
      first | refine W.condD rfl (fun hc6 => ?_) (fun hc6 => ?_) | refine W.cond rfl (fun hc6 => ?_) (fun hc6 => ?_)
      ·
        have h2 : k = 2 := by omega
        refine W.seqF 10 [(0, true), (1, true), (2, true), (4, true), (5, true), (6, true), (3, false), (7, false), (8, true), (9, true)] mixed (by kernel_rfl) hB hM ?_
        replace hB := hB.drew
        replace hM := hM.drew
        refine DF.vv rfl rfl rfl (by decide) (Val.move rfl) ?_
        refine DF.vv rfl rfl rfl (by decide) (Val.index1 (j := 0) Try.underlying27 elem3 rfl rfl (by first | omega | (simp only [List.length_set]; omega)) (hM.o0.rd) (nv_lt (by first | omega | (simp only [List.length_set]; omega)))) ?_
        refine DF.vv rfl rfl rfl (by decide) (Val.load flat3 rfl (fun _ h => h.2.o0.rd) (nv_at (by first | omega | (simp only [List.length_set]; omega)))) ?_
        refine DF.vv rfl rfl rfl (by decide) (Val.move rfl) ?_
        refine DF.vv rfl rfl rfl (by decide) (Val.index1 (j := 1) Try.underlying27 elem3 rfl rfl (by first | omega | (simp only [List.length_set]; omega)) (hM.o0.rd) (nv_lt (by first | omega | (simp only [List.length_set]; omega)))) ?_
        refine DF.vv rfl rfl rfl (by decide) (Val.load flat3 rfl (fun _ h => h.2.o0.rd) (nv_at (by first | omega | (simp only [List.length_set]; omega)))) ?_
        refine DF.m rfl rfl (Step.call body35 rfl rfl (by decide) rfl (CallsV.mono (power_any 2 (gn gs 0) _ (by omega) (by omega)) ?_))
        rintro _ w16 ⟨rfl, hb16⟩
        replace hM := hM.below hb16
        replace hB := hB.trans (hb16.mono (Nat.le_trans hB0 hB.size))
        refine ⟨fun _ => ⟨hB, hM⟩, ?_⟩
        refine DF.m rfl rfl (Step.call body35 rfl rfl (by decide) rfl (CallsV.mono (power_any 2 (gn gs 1) _ (by omega) (by omega)) ?_))
        rintro _ w17 ⟨rfl, hb17⟩
        replace hM := hM.below hb17
        replace hB := hB.trans (hb17.mono (Nat.le_trans hB0 hB.size))
        refine ⟨fun _ => ⟨hB, hM⟩, ?_⟩
        refine DF.vv rfl rfl rfl (by decide) (Val.assign rfl) ?_
        refine DF.vv rfl rfl rfl (by decide) (Val.assign rfl) ?_
        refine DF.nil ?_
        refine W.seqR ?_
        refine LS.vv rfl rfl (by decide) (Val.move rfl) ?_
        refine LS.vv rfl rfl (by decide) (Val.move rfl) ?_
        refine LS.vv rfl rfl (by decide) (Val.move rfl) ?_
        refine LS.m rfl (Step.call body32 rfl rfl (by decide) rfl (CallsV.mono (times_any p (fpow 2 (gn gs 1)) _ hp hw1) ?_))
        rintro _ w18 ⟨rfl, hb18⟩
        replace hM := hM.below hb18
        replace hB := hB.trans (hb18.mono (Nat.le_trans hB0 hB.size))
        have hfm := fmul_lt hp hw1
        have hx1 := xor16 hq hfm
        have hx2 := xor16 hw0 hw1
        refine LS.vv rfl rfl (by decide) (Val.xor64 rfl rfl (by first | omega | (simp only [List.length_set]; omega)) (by first | omega | (simp only [List.length_set]; omega))) ?_
        refine LS.vv rfl rfl (by decide) (Val.move rfl) ?_
        refine LS.vv rfl rfl (by decide) (Val.move rfl) ?_
        refine LS.vv rfl rfl (by decide) (Val.xor64 rfl rfl (by first | omega | (simp only [List.length_set]; omega)) (by first | omega | (simp only [List.length_set]; omega))) ?_
        refine LS.m rfl (Step.call body59 rfl rfl (by decide) rfl (CallsV.mono (divide_any (q ^^^ fmul p (fpow 2 (gn gs 1))) (fpow 2 (gn gs 0) ^^^ fpow 2 (gn gs 1)) _ hx1 hx2) ?_))
        rintro _ w19 ⟨rfl, hb19⟩
        replace hM := hM.below hb19
        replace hB := hB.trans (hb19.mono (Nat.le_trans hB0 hB.size))
        have hx3 := fdiv_lt hx1 hx2
        refine LS.vv rfl rfl (by decide) (Val.assign rfl) ?_
        refine LS.nil ?_
        refine W.regT (S := fun w => Below B w0 w) (.val 0 (.val 1 (.val 2 (.val 4 (.val 5 (.val 6 (.val 8 (.val 9 (.val 10 (.val 11 (.two (.mem 3 (.mem 7 (.val 12 (.mem 13 (.val 14 (.mem 15 (.done))))))) (.mem 7 (.mem 3 (.val 12 (.mem 13 (.val 14 (.mem 15 (.done)))))))))))))))))) mixed (by kernel_rfl) hB.drew ?_
        replace hB := hB.drew
        replace hM := hM.drew
        refine DT.vv rfl rfl rfl (by decide) (Val.move rfl) ?_
        refine DT.vv rfl rfl rfl (by decide) (Val.move rfl) ?_
        refine DT.vv rfl rfl rfl (by decide) (Val.index1 (j := 0) Try.underlying27 elem3 rfl rfl (by first | omega | (simp only [List.length_set]; omega)) (hM.o0.rd) (nv_lt (by first | omega | (simp only [List.length_set]; omega)))) ?_
        refine DT.vv rfl rfl rfl (by decide) (Val.move rfl) ?_
        refine DT.vv rfl rfl rfl (by decide) (Val.move rfl) ?_
        refine DT.vv rfl rfl rfl (by decide) (Val.index1 (j := 1) Try.underlying27 elem3 rfl rfl (by first | omega | (simp only [List.length_set]; omega)) (hM.o0.rd) (nv_lt (by first | omega | (simp only [List.length_set]; omega)))) ?_
        refine DT.vv rfl rfl rfl (by decide) (Val.move rfl) ?_
        refine DT.vv rfl rfl rfl (by decide) (Val.move rfl) ?_
        refine DT.vv rfl rfl rfl (by decide) (Val.move rfl) ?_
        refine DT.vv rfl rfl rfl (by decide) (Val.xor64 rfl rfl (by first | omega | (simp only [List.length_set]; omega)) (by first | omega | (simp only [List.length_set]; omega))) ?_
        refine DT.two ?_ ?_
        ·
          refine DT.m rfl rfl (Step.load rfl rfl (by decide) flat3 rfl (hM.o0.rd) (nv_at (by first | omega | (simp only [List.length_set]; omega))) ?_)
          refine ⟨hB, ?_⟩
          refine DT.m rfl rfl (Step.load rfl rfl (by decide) flat3 rfl (hM.o0.rd) (nv_at (by first | omega | (simp only [List.length_set]; omega))) ?_)
          refine ⟨hB, ?_⟩
          refine DT.vv rfl rfl rfl (by decide) (Val.index1 Try.underlying27 elem3 rfl rfl (by first | omega | (simp only [List.length_set]; omega)) (hM.o1.rd) (nv_lt (by first | omega | (simp only [List.length_set]; omega)))) ?_
          refine DT.m rfl rfl (Step.store (B := B) rfl rfl flat3 elem3 rfl rfl rfl (hM.o1) (by first | omega | (simp only [List.length_set]; omega)) (Nat.le_trans hB0 hB.size) ?_)
          rintro w20 hO20 hg20 hbl20 hsz20
          replace hM := hM.s1 hg20 hO20 inl_block
          try simp only [nv_app1, nv_app, nv_set, nv_rep, nv_one, nv_cons, nv_take, nv_drop, List.nil_append] at hM
          replace hB := hB.trans hbl20
          refine ⟨hB, ?_⟩
          refine DT.vv rfl rfl rfl (by decide) (Val.index1 Try.underlying27 elem3 rfl rfl (by first | omega | (simp only [List.length_set]; omega)) (hM.o1.rd) (nv_lt (by first | omega | (simp only [List.length_set]; omega)))) ?_
          refine DT.m rfl rfl (Step.store (B := B) rfl rfl flat3 elem3 rfl rfl rfl (hM.o1) (by first | omega | (simp only [List.length_set]; omega)) (Nat.le_trans hB0 hB.size) ?_)
          rintro w21 hO21 hg21 hbl21 hsz21
          replace hM := hM.s1 hg21 hO21 inl_block
          try simp only [nv_app1, nv_app, nv_set, nv_rep, nv_one, nv_cons, nv_take, nv_drop, List.nil_append] at hM
          replace hB := hB.trans hbl21
          refine ⟨hB, ?_⟩
          refine DT.nil ?_
          refine inBlk_normal ?_
          refine ret0 (by first | exact .inl rfl | exact .inr rfl) ?_
          first | (refine ⟨?_, hB⟩; rw [dfill_two hk h2]; exact hM) | (refine ⟨?_, hB⟩; rw [dfill_p hk h1 (by simp_all)]; exact hM) | (refine ⟨?_, hB⟩; rw [dfill_q1 hk h1 (by simp_all)]; exact hM) | (refine ⟨?_, hB⟩; rw [dfill_none hk (by first | omega | simp_all) (by omega)]; exact hM)
        ·
          refine DT.m rfl rfl (Step.load rfl rfl (by decide) flat3 rfl (hM.o0.rd) (nv_at (by first | omega | (simp only [List.length_set]; omega))) ?_)
          refine ⟨hB, ?_⟩
          refine DT.m rfl rfl (Step.load rfl rfl (by decide) flat3 rfl (hM.o0.rd) (nv_at (by first | omega | (simp only [List.length_set]; omega))) ?_)
          refine ⟨hB, ?_⟩
          refine DT.vv rfl rfl rfl (by decide) (Val.index1 Try.underlying27 elem3 rfl rfl (by first | omega | (simp only [List.length_set]; omega)) (hM.o1.rd) (nv_lt (by first | omega | (simp only [List.length_set]; omega)))) ?_
          refine DT.m rfl rfl (Step.store (B := B) rfl rfl flat3 elem3 rfl rfl rfl (hM.o1) (by first | omega | (simp only [List.length_set]; omega)) (Nat.le_trans hB0 hB.size) ?_)
          rintro w22 hO22 hg22 hbl22 hsz22
          replace hM := hM.s1 hg22 hO22 inl_block
          try simp only [nv_app1, nv_app, nv_set, nv_rep, nv_one, nv_cons, nv_take, nv_drop, List.nil_append] at hM
          replace hB := hB.trans hbl22
          refine ⟨hB, ?_⟩
          refine DT.vv rfl rfl rfl (by decide) (Val.index1 Try.underlying27 elem3 rfl rfl (by first | omega | (simp only [List.length_set]; omega)) (hM.o1.rd) (nv_lt (by first | omega | (simp only [List.length_set]; omega)))) ?_
          refine DT.m rfl rfl (Step.store (B := B) rfl rfl flat3 elem3 rfl rfl rfl (hM.o1) (by first | omega | (simp only [List.length_set]; omega)) (Nat.le_trans hB0 hB.size) ?_)
          rintro w23 hO23 hg23 hbl23 hsz23
          replace hM := hM.s1 hg23 hO23 inl_block
          try simp only [nv_app1, nv_app, nv_set, nv_rep, nv_one, nv_cons, nv_take, nv_drop, List.nil_append] at hM
          replace hB := hB.trans hbl23
          refine ⟨hB, ?_⟩
          refine DT.nil ?_
          refine inBlk_normal ?_
          refine ret0 (by first | exact .inl rfl | exact .inr rfl) ?_
          first | (refine ⟨?_, hB⟩; rw [dfill_two hk h2]; exact hM) | (refine ⟨?_, hB⟩; rw [dfill_p hk h1 (by simp_all)]; exact hM) | (refine ⟨?_, hB⟩; rw [dfill_q1 hk h1 (by simp_all)]; exact hM) | (refine ⟨?_, hB⟩; rw [dfill_none hk (by first | omega | simp_all) (by omega)]; exact hM)
      ·
        refine W.skip ?_
        refine inBlk_normal ?_
        refine ret0 (by first | exact .inl rfl | exact .inr rfl) ?_
        first | (refine ⟨?_, hB⟩; rw [dfill_two hk h2]; exact hM) | (refine ⟨?_, hB⟩; rw [dfill_p hk h1 (by simp_all)]; exact hM) | (refine ⟨?_, hB⟩; rw [dfill_q1 hk h1 (by simp_all)]; exact hM) | (refine ⟨?_, hB⟩; rw [dfill_none hk (by first | omega | simp_all) (by omega)]; exact hM)

end Go.Proofs.Ytnaebllojkodbaa
