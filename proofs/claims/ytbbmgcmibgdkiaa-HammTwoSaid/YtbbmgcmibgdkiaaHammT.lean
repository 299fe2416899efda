/-
  The statement HammTwo.
-/
import Derived.Test.YtbbmgcmibgdkiaaHammF
import Derived.Test.YtbbmgcmibgdkiaaRefs
import Derived.Test.YtbbmgcmibgdkiaaHamm2Plain
namespace Go.Proofs.Ytbbmgcmibgdkiaa
open Go Go.RowKit V
set_option linter.unusedVariables false

theorem Fix_len (r : Int) (d : List Bool) (p : Option Addr) (c : Nat) (n : Nat) (w0 : World) (hr : Rd w0 p (bv d)) (hn : d.length = n) :
    CallsV Try.prog 25 #[.int .i64 r, .slice p n c] w0 (fun v w => ∃ (p2 : Option Addr) (c2 : Nat) (L : List Bool) (P e : Nat), v = .tuple #[.slice p2 L.length c2, .int .i64 (P : Int), .int .i64 (e : Int)] ∧ Own w w0.heap.size 4 p2 L.length c2 (bv L) ∧ (e = 0 ↔ 2 ≤ r ∧ r ≤ 4 ∧ d.length = 2 ^ r.toNat - 1) ∧ (e = 0 → L = datTo (mended d) (2 ^ r.toNat - 1) ∧ P = pt d) ∧ (e ≠ 0 → L = []) ∧ Below w0.heap.size w0 w) := by
  subst hn; exact Fix_any r d p c w0 hr

theorem odd_any (d : List Bool) (p : Option Addr) (c : Nat) (n : Nat) (w0 : World) (hr : Rd w0 p (bv d)) (hn : d.length = n) (hl : n ≤ 1000) :
    CallsV Try.prog 50 #[.slice p n c] w0 (fun v w => v = .bool (oddOf d) ∧ Below w0.heap.size w0 w) := by
  refine enter1 Try.func50 rfl Try.ntmps50 (by simp) rfl ?_
  have hB := Below.refl w0.heap.size w0
  simp only [argLoc]
  refine W.seqR ?_
  refine LS.vv rfl rfl (by decide) (Val.assign rfl) ?_
  refine LS.nil ?_
  refine W.seqR ?_
  refine LS.vv rfl rfl (by decide) (Val.assign rfl) ?_
  refine LS.nil ?_
  refine W.seq ?_
  refine W.seqR ?_
  refine LS.vv rfl rfl (by decide) (Val.move rfl) ?_
  refine LS.vv rfl rfl (by decide) (Val.len Try.underlying23 rfl) ?_
  refine LS.vv rfl rfl (by decide) (Val.cast (v := .int .i64 ((0 : Nat) : Int)) (Val.move rfl) rfl) ?_
  refine LS.nil ?_
  refine W.block ?_
  refine W.loop (α := Nat) (fun k => [(3, .bool (oddTo d k)), (8, .int .i64 (k : Int))]) [(6, _), (7, _)] (fun k w => k ≤ n ∧ Below w0.heap.size w0 w) (fun k => n - k) (0) (Sub.cons rfl (Sub.cons rfl (Sub.nil _))) (Sub.cons rfl (Sub.cons rfl (Sub.nil _))) ?_ ?_
  · exact ⟨Nat.zero_le _, hB⟩
  rintro k w1 ⟨hk, hB⟩
  simp only [List.cons_append, List.nil_append]
  refine W.seqR ?_
  refine LS.vv rfl rfl (by decide) (Val.lss rfl rfl) ?_
  refine LS.nil ?_
  refine W.seq ?_
  first | refine W.condD rfl (fun hc1 => ?_) (fun hc1 => ?_) | refine W.cond rfl (fun hc1 => ?_) (fun hc1 => ?_)
  ·
    refine W.skip ?_
    refine thenP_normal ?_
    refine W.seq ?_
    refine W.block ?_
    refine W.seqR ?_
    refine LS.vv rfl rfl (by decide) (Val.index1 Try.underlying23 elem4 rfl rfl (by omega) hr (bv_lt (by omega))) ?_
    refine LS.m rfl (Step.load rfl rfl (by decide) flat4 rfl (hr.below hB) (bv_at (by omega)) ?_)
    refine LS.vv rfl rfl (by decide) (Val.assign rfl) ?_
    refine LS.nil ?_
    refine W.reg ?_
    refine LS.vv rfl rfl (by decide) (Val.move rfl) ?_
    refine LS.vv rfl rfl (by decide) (Val.move rfl) ?_
    refine LS.vv rfl rfl (by decide) (Val.neqB Try.underlying4 rfl rfl) ?_
    refine LS.vv rfl rfl (by decide) (Val.assign rfl) ?_
    refine LS.nil ?_
    refine inBlk_normal ?_
    refine thenP_normal ?_
    refine W.reg ?_
    first | refine LS.vv rfl rfl (by decide) (Val.addN (j := 1) rfl rfl (by omega)) ?_ | refine LS.vv rfl rfl (by decide) (Val.add64 rfl rfl (by omega)) ?_
    refine LS.vv rfl rfl (by decide) (Val.move rfl) ?_
    refine LS.nil ?_
    refine thenP_normal ?_
    refine ⟨k + 1, ?_, ?_, ⟨by omega, hB⟩, by omega⟩
    · exact Sub.cons rfl (Sub.cons rfl (Sub.nil _))
    · repeat (first | exact Sub.nil _ | refine Sub.cons rfl ?_)
  ·
    refine W.exit ?_
    refine thenP_exit ?_
    refine thenP_exit ?_
    refine inBlk_exit ?_
    refine thenP_normal ?_
    refine W.seqR ?_
    refine LS.vv rfl rfl (by decide) (Val.move rfl) ?_
    refine LS.vv rfl rfl (by decide) (Val.assign rfl) ?_
    refine LS.nil ?_
    refine W.ret ?_
    refine ret1 (by first | exact .inl rfl | exact .inr rfl) rfl ?_
    exact ⟨by rw [oddOf, hn, show k = n by omega], hB⟩

theorem Put2_any (r : Int) (d : List Bool) (p : Option Addr) (c : Nat) (w0 : World) (hr : Rd w0 p (bv d)) :
    CallsV Try.prog 27 #[.int .i64 r, .slice p d.length c] w0 (fun v w => ∃ (p2 : Option Addr) (c2 : Nat) (L : List Bool) (e : Nat), v = .tuple #[.slice p2 L.length c2, .int .i64 (e : Int)] ∧ Own w w0.heap.size 4 p2 L.length c2 (bv L) ∧ (e = 0 ↔ 2 ≤ r ∧ r ≤ 4 ∧ d.length = 2 ^ r.toNat - 1 - r.toNat) ∧ (e = 0 → L = word2 r.toNat d) ∧ Below w0.heap.size w0 w) := by
  refine enter2 Try.func27 rfl Try.ntmps27 (by simp) rfl ?_
  have hB := Below.refl w0.heap.size w0
  simp only [argLoc, Nat.zero_add]
  refine W.seqR ?_
  refine LS.vv rfl rfl (by decide) (Val.assign rfl) ?_
  refine LS.vv rfl rfl (by decide) (Val.cast (v := .int .i64 ((0 : Nat) : Int)) (Val.assign rfl) rfl) ?_
  refine LS.nil ?_
  refine W.seqR ?_
  refine LS.vv rfl rfl (by decide) (Val.move rfl) ?_
  refine LS.vv rfl rfl (by decide) (Val.move rfl) ?_
  refine LS.m rfl (Step.call body24 rfl rfl (by decide) rfl (CallsV.mono (Put_any r d _ _ _ (hr.below hB)) ?_))
  rintro _ w1 ⟨p1, c1, L, e, rfl, hO, he, hL, hL0, hb1⟩
  replace hB := hB.trans (hb1.mono hB.size)
  refine LS.vv rfl rfl (by decide) (Val.move rfl) ?_
  refine LS.vv rfl rfl (by decide) (Val.extract rfl rfl) ?_
  refine LS.vv rfl rfl (by decide) (Val.extract rfl rfl) ?_
  refine LS.vv rfl rfl (by decide) (Val.assign rfl) ?_
  refine LS.vv rfl rfl (by decide) (Val.assign rfl) ?_
  refine LS.nil ?_
  refine W.seq ?_
  refine W.seqR ?_
  refine LS.vv rfl rfl (by decide) (Val.move rfl) ?_
  refine LS.vv rfl rfl (by decide) (Val.neq rfl rfl) ?_
  refine LS.nil ?_
  first | refine W.condD rfl (fun hc1 => ?_) (fun hc1 => ?_) | refine W.cond rfl (fun hc1 => ?_) (fun hc1 => ?_)
  ·
    refine W.seqR ?_
    refine LS.vv rfl rfl (by decide) (Val.move rfl) ?_
    refine LS.vv rfl rfl (by decide) (Val.assign rfl) ?_
    refine LS.vv rfl rfl (by decide) (Val.assign rfl) ?_
    refine LS.nil ?_
    refine W.ret ?_
    refine thenP_ret ?_
    refine ret2 (by first | exact .inl rfl | exact .inr rfl) rfl rfl ?_
    exact ⟨none, 0, [], e, rfl, Own.nil _ _ _, he, fun h => by omega, hB⟩
  ·
    refine W.skip ?_
    refine thenP_normal ?_
    refine W.seqR ?_
    refine LS.vv rfl rfl (by decide) (Val.move rfl) ?_
    refine LS.vv rfl rfl (by decide) (Val.move rfl) ?_
    have hE : e = 0 := by omega
    obtain ⟨q1, q2, q3⟩ := he.1 hE
    obtain rfl := hL hE
    have hwl := wordOf_len r.toNat d
    have hp4 : 2 ^ r.toNat ≤ 2 ^ 4 := Nat.pow_le_pow_right (by omega) (by omega)
    refine LS.m rfl (Step.call body50 rfl rfl (by decide) rfl (CallsV.mono (odd_any (wordOf r.toNat d) _ _ _ _ hO.rd rfl (by omega)) ?_))
    rintro _ w2 ⟨rfl, hb2⟩
    replace hB := hB.trans (hb2.mono hB.size)
    replace hO := hO.below hb2
    refine LS.m rfl (Step.lit (B := w0.heap.size) rfl rfl (by decide) Try.underlying23 elem4 rfl rfl (by omega) (by simp [Value.oneCell']) hB.size ?_)
    rintro w3 hO3 hg3 hbl3 hsz3
    replace hB := hB.trans (hbl3.mono hB.size)
    replace hO := hO.below hbl3
    refine LS.m rfl (Step.append (B := w0.heap.size) rfl rfl (by decide) Try.underlying23 elem4 rfl rfl rfl rfl (hO) (hO3.rd) (rfl) ((by simp [Value.oneCell'])) (by omega) (by omega) hB.size ?_)
    rintro p4 c4 w4 hO4 hg4 hbl4
    replace hB := hB.trans hbl4
    refine LS.vv rfl rfl (by decide) (Val.assign rfl) ?_
    refine LS.vv rfl rfl (by decide) (Val.cast (v := .int .i64 ((0 : Nat) : Int)) (Val.assign rfl) rfl) ?_
    refine LS.nil ?_
    refine W.ret ?_
    refine ret2 (by first | exact .inl rfl | exact .inr rfl) rfl rfl ?_
    have h2l : (word2 r.toNat d).length = (wordOf r.toNat d).length + 1 := by rw [word2, List.length_append]; rfl
    refine ⟨_, _, word2 r.toNat d, 0, by first | (rw [h2l]; done) | (rw [h2l]; rfl), ?_, ⟨fun _ => ⟨q1, q2, q3⟩, fun _ => rfl⟩, fun _ => rfl, hB⟩
    rw [h2l, word2, bv, List.map_append]; exact hO4

theorem Fix2_any (m : Nat) (d : List Bool) (p : Option Addr) (c : Nat) (n : Nat) (w0 : World) (hr : Rd w0 p (bv d)) (h2 : 2 ≤ m) (h4 : m ≤ 4) (hd : d.length = 2 ^ m) (hn : n = 2 ^ m) (hc : n ≤ c) :
    CallsV Try.prog 28 #[.int .i64 (m : Int), .slice p n c] w0 (fun v w => ∃ (p2 : Option Addr) (c2 : Nat) (L : List Bool) (P e : Nat), v = .tuple #[.slice p2 L.length c2, .int .i64 (P : Int), .int .i64 (e : Int)] ∧ Own w w0.heap.size 4 p2 L.length c2 (bv L) ∧ (e = 0 ∧ L = datTo (mended (d.take (2 ^ m - 1))) (2 ^ m - 1) ∧ (pt (d.take (2 ^ m - 1)) = 0 ∨ oddOf d = true) ∨ e = 8 ∧ L = [] ∧ pt (d.take (2 ^ m - 1)) ≠ 0 ∧ oddOf d = false) ∧ Below w0.heap.size w0 w) := by
  refine enter3 Try.func28 rfl Try.ntmps28 (by simp) rfl ?_
  have hB := Below.refl w0.heap.size w0
  simp only [argLoc, Nat.zero_add]
  have hp2 : 2 ^ 2 ≤ 2 ^ m := Nat.pow_le_pow_right (by omega) h2
  have hp4 : 2 ^ m ≤ 2 ^ 4 := Nat.pow_le_pow_right (by omega) h4
  have htk : (d.take (2 ^ m - 1)).length = 2 ^ m - 1 := by rw [List.length_take]; omega
  refine W.seqR ?_
  refine LS.vv rfl rfl (by decide) (Val.assign rfl) ?_
  refine LS.vv rfl rfl (by decide) (Val.cast (v := .int .i64 ((0 : Nat) : Int)) (Val.assign rfl) rfl) ?_
  refine LS.vv rfl rfl (by decide) (Val.cast (v := .int .i64 ((0 : Nat) : Int)) (Val.assign rfl) rfl) ?_
  refine LS.nil ?_
  refine W.seq ?_
  refine W.seqR ?_
  refine LS.vv rfl rfl (by decide) (Val.move rfl) ?_
  refine LS.vv rfl rfl (by decide) (Val.lss rfl rfl) ?_
  refine LS.vv rfl rfl (by decide) (Val.move rfl) ?_
  refine LS.split 2 rfl (fun hg1 => ?_) (fun hg1 => ?_)
  ·
    first | (have hg1p := of_decide_eq_true hg1) | skip
    refine LS.s rfl rfl rfl hg1 (by decide) ?_
    refine LS.s rfl rfl rfl hg1 (by decide) ?_
    refine LS.vv rfl rfl (by decide) (Val.pickT rfl hg1 rfl) ?_
    refine LS.nil ?_
    refine W.condT rfl ?_
    refine W.seqR ?_
    refine LS.vv rfl rfl (by decide) (Val.assign rfl) ?_
    refine LS.vv rfl rfl (by decide) (Val.cast (v := .int .i64 ((0 : Nat) : Int)) (Val.assign rfl) rfl) ?_
    refine LS.vv rfl rfl (by decide) (Val.cast (v := .int .i64 ((4 : Nat) : Int)) (Val.assign rfl) rfl) ?_
    refine LS.nil ?_
    refine W.ret ?_
    refine thenP_ret ?_
    refine ret3 (by first | exact .inl rfl | exact .inr rfl) rfl rfl rfl ?_
    first
    | (exfalso; omega)
    | (refine ⟨none, 0, [], 0, 8, rfl, Own.nil _ _ _, .inr ⟨rfl, rfl, ?_, ?_⟩, hB⟩
       · have hx := of_decide_eq_true ‹decide ((P : Int) ≠ _) = true›
         omega
       · simpa using ‹(!oddOf d) = true›)
    | (refine ⟨p5, c5, D, P, 0, rfl, hO, .inl ⟨rfl, hD1, .inr ?_⟩, hB⟩
       simpa using ‹(!oddOf d) = false›)
    | (refine ⟨p5, c5, D, P, 0, rfl, hO, .inl ⟨rfl, hD1, .inl ?_⟩, hB⟩
       have hx := of_decide_eq_false ‹decide ((P : Int) ≠ _) = false›
       omega)
  ·
    first | (have hg1p := of_decide_eq_false hg1) | skip
    refine LS.vg rfl rfl rfl hg1 (by decide) (Val.move rfl) ?_
    refine LS.vg rfl rfl rfl hg1 (by decide) (Val.gtr rfl rfl) ?_
    refine LS.vv rfl rfl (by decide) (Val.pickF rfl hg1 rfl) ?_
    refine LS.nil ?_
    first | refine W.condD rfl (fun hc2 => ?_) (fun hc2 => ?_) | refine W.cond rfl (fun hc2 => ?_) (fun hc2 => ?_)
    ·
      exfalso; omega
    ·
      refine W.skip ?_
      refine thenP_normal ?_
      refine W.seq ?_
      refine W.seqR ?_
      refine LS.vv rfl rfl (by decide) (Val.move rfl) ?_
      refine LS.vv rfl rfl (by decide) (Val.len Try.underlying23 rfl) ?_
      refine LS.vv rfl rfl (by decide) (Val.move rfl) ?_
      refine LS.vv rfl rfl (by decide) (Val.cast (v := .int .i64 ((2 ^ m : Nat) : Int)) (Val.shl64 (i := 1) rfl rfl (by omega) (by omega)) (by exact pow_cast m)) ?_
      refine LS.vv rfl rfl (by decide) (Val.neq rfl rfl) ?_
      refine LS.nil ?_
      first | refine W.condD rfl (fun hc3 => ?_) (fun hc3 => ?_) | refine W.cond rfl (fun hc3 => ?_) (fun hc3 => ?_)
      ·
        exfalso; omega
      ·
        refine W.skip ?_
        refine thenP_normal ?_
        refine W.seqR ?_
        refine LS.vv rfl rfl (by decide) (Val.move rfl) ?_
        refine LS.vv rfl rfl (by decide) (Val.move rfl) ?_
        refine LS.vv rfl rfl (by decide) (Val.move rfl) ?_
        refine LS.vv rfl rfl (by decide) (Val.len Try.underlying23 rfl) ?_
        refine LS.vv rfl rfl (by decide) (Val.subN (j := 1) rfl rfl (by omega) (by omega)) ?_
        refine LS.vv rfl rfl (by decide) (Val.sliceTo Try.underlying23 elem4 rfl rfl (by omega)) ?_
        rw [show n - 1 = 2 ^ m - 1 by omega]
        have hbs := hB.size
        refine LS.m rfl (Step.call body25 rfl rfl (by decide) rfl (CallsV.mono (Fix_len _ (d.take (2 ^ m - 1)) _ _ _ _ (by (have := (hr.below hB).take (2 ^ m - 1); simpa [bv, List.map_take] using this)) htk) ?_))
        rintro _ w1 ⟨p5, c5, D, P, e, rfl, hO, he, hD, _, hb1⟩
        replace hB := hB.trans (hb1.mono hB.size)
        have hE : e = 0 := he.2 ⟨by omega, by omega, by rw [Int.toNat_natCast]; exact htk⟩
        obtain ⟨hD1, hP1⟩ := hD hE
        rw [Int.toNat_natCast] at hD1
        replace hO := hO.base hbs
        refine LS.vv rfl rfl (by decide) (Val.move rfl) ?_
        refine LS.vv rfl rfl (by decide) (Val.extract rfl rfl) ?_
        refine LS.vv rfl rfl (by decide) (Val.extract rfl rfl) ?_
        refine LS.vv rfl rfl (by decide) (Val.extract rfl rfl) ?_
        refine LS.vv rfl rfl (by decide) (Val.assign rfl) ?_
        refine LS.vv rfl rfl (by decide) (Val.assign rfl) ?_
        refine LS.vv rfl rfl (by decide) (Val.assign rfl) ?_
        refine LS.nil ?_
        refine W.seq ?_
        refine W.seqR ?_
        refine LS.vv rfl rfl (by decide) (Val.move rfl) ?_
        refine LS.vv rfl rfl (by decide) (Val.neq rfl rfl) ?_
        refine LS.vv rfl rfl (by decide) (Val.move rfl) ?_
        refine LS.split 2 rfl (fun hg4 => ?_) (fun hg4 => ?_)
        ·
          first | (have hg4p := of_decide_eq_true hg4) | skip
          refine LS.vg rfl rfl rfl hg4 (by decide) (Val.move rfl) ?_
          refine LS.mg rfl rfl hg4 (Step.call body50 rfl rfl (by decide) rfl (CallsV.mono (odd_any d _ _ _ _ (hr.below hB) (by omega) (by omega)) ?_))
          rintro _ w2 ⟨rfl, hb2⟩
          replace hB := hB.trans (hb2.mono hB.size)
          replace hO := hO.below hb2
          refine LS.vg rfl rfl rfl hg4 (by decide) (Val.not rfl) ?_
          refine LS.vv rfl rfl (by decide) (Val.pickT rfl hg4 rfl) ?_
          refine LS.nil ?_
          first | refine W.condD rfl (fun hc5 => ?_) (fun hc5 => ?_) | refine W.cond rfl (fun hc5 => ?_) (fun hc5 => ?_)
          ·
            refine W.seqR ?_
            refine LS.vv rfl rfl (by decide) (Val.assign rfl) ?_
            refine LS.vv rfl rfl (by decide) (Val.cast (v := .int .i64 ((0 : Nat) : Int)) (Val.assign rfl) rfl) ?_
            refine LS.vv rfl rfl (by decide) (Val.cast (v := .int .i64 ((8 : Nat) : Int)) (Val.assign rfl) rfl) ?_
            refine LS.nil ?_
            refine W.ret ?_
            refine thenP_ret ?_
            refine ret3 (by first | exact .inl rfl | exact .inr rfl) rfl rfl rfl ?_
            first
            | (exfalso; omega)
            | (refine ⟨none, 0, [], 0, 8, rfl, Own.nil _ _ _, .inr ⟨rfl, rfl, ?_, ?_⟩, hB⟩
               · have hx := of_decide_eq_true ‹decide ((P : Int) ≠ _) = true›
                 omega
               · simpa using ‹(!oddOf d) = true›)
            | (refine ⟨p5, c5, D, P, 0, rfl, hO, .inl ⟨rfl, hD1, .inr ?_⟩, hB⟩
               simpa using ‹(!oddOf d) = false›)
            | (refine ⟨p5, c5, D, P, 0, rfl, hO, .inl ⟨rfl, hD1, .inl ?_⟩, hB⟩
               have hx := of_decide_eq_false ‹decide ((P : Int) ≠ _) = false›
               omega)
          ·
            refine W.skip ?_
            refine thenP_normal ?_
            refine W.seqR ?_
            refine LS.vv rfl rfl (by decide) (Val.move rfl) ?_
            refine LS.vv rfl rfl (by decide) (Val.move rfl) ?_
            refine LS.vv rfl rfl (by decide) (Val.assign rfl) ?_
            refine LS.vv rfl rfl (by decide) (Val.assign rfl) ?_
            refine LS.vv rfl rfl (by decide) (Val.cast (v := .int .i64 ((0 : Nat) : Int)) (Val.assign rfl) rfl) ?_
            refine LS.nil ?_
            refine W.ret ?_
            refine ret3 (by first | exact .inl rfl | exact .inr rfl) rfl rfl rfl ?_
            first
            | (exfalso; omega)
            | (refine ⟨none, 0, [], 0, 8, rfl, Own.nil _ _ _, .inr ⟨rfl, rfl, ?_, ?_⟩, hB⟩
               · have hx := of_decide_eq_true ‹decide ((P : Int) ≠ _) = true›
                 omega
               · simpa using ‹(!oddOf d) = true›)
            | (refine ⟨p5, c5, D, P, 0, rfl, hO, .inl ⟨rfl, hD1, .inr ?_⟩, hB⟩
               simpa using ‹(!oddOf d) = false›)
            | (refine ⟨p5, c5, D, P, 0, rfl, hO, .inl ⟨rfl, hD1, .inl ?_⟩, hB⟩
               have hx := of_decide_eq_false ‹decide ((P : Int) ≠ _) = false›
               omega)
        ·
          first | (have hg4p := of_decide_eq_false hg4) | skip
          refine LS.s rfl rfl rfl hg4 (by decide) ?_
          refine LS.s rfl rfl rfl hg4 (by decide) ?_
          refine LS.s rfl rfl rfl hg4 (by decide) ?_
          refine LS.vv rfl rfl (by decide) (Val.pickF rfl hg4 rfl) ?_
          refine LS.nil ?_
          refine W.condF rfl ?_
          refine W.skip ?_
          refine thenP_normal ?_
          refine W.seqR ?_
          refine LS.vv rfl rfl (by decide) (Val.move rfl) ?_
          refine LS.vv rfl rfl (by decide) (Val.move rfl) ?_
          refine LS.vv rfl rfl (by decide) (Val.assign rfl) ?_
          refine LS.vv rfl rfl (by decide) (Val.assign rfl) ?_
          refine LS.vv rfl rfl (by decide) (Val.cast (v := .int .i64 ((0 : Nat) : Int)) (Val.assign rfl) rfl) ?_
          refine LS.nil ?_
          refine W.ret ?_
          refine ret3 (by first | exact .inl rfl | exact .inr rfl) rfl rfl rfl ?_
          first
          | (exfalso; omega)
          | (refine ⟨none, 0, [], 0, 8, rfl, Own.nil _ _ _, .inr ⟨rfl, rfl, ?_, ?_⟩, hB⟩
             · have hx := of_decide_eq_true ‹decide ((P : Int) ≠ _) = true›
               omega
             · simpa using ‹(!oddOf d) = true›)
          | (refine ⟨p5, c5, D, P, 0, rfl, hO, .inl ⟨rfl, hD1, .inr ?_⟩, hB⟩
             simpa using ‹(!oddOf d) = false›)
          | (refine ⟨p5, c5, D, P, 0, rfl, hO, .inl ⟨rfl, hD1, .inl ?_⟩, hB⟩
             have hx := of_decide_eq_false ‹decide ((P : Int) ≠ _) = false›
             omega)

theorem hammTwo_any (r : Int) (d : List Bool) (p : Option Addr) (c : Nat) (ii jj : Nat) (w0 : World) (hr : Rd w0 p (bv d)) (hl9 : d.length ≤ 9223372036854775807) (hi8 : ii < 256) (hj8 : jj < 256) :
    CallsV Try.prog 8 #[.int .i64 r, .slice p d.length c, .int .u8 (ii : Int), .int .u8 (jj : Int)] w0 (fun v w => v = .bool true ∧ Below w0.heap.size w0 w) := by
  refine enter1 Try.func8 rfl Try.ntmps8 (by simp) rfl ?_
  have hB := Below.refl w0.heap.size w0
  simp only [argLoc, Nat.zero_add, Nat.reduceAdd]
  refine W.seqR ?_
  refine LS.vv rfl rfl (by decide) (Val.assign rfl) ?_
  refine LS.nil ?_
  refine W.seqR ?_
  refine LS.vv rfl rfl (by decide) (Val.move rfl) ?_
  refine LS.vv rfl rfl (by decide) (Val.move rfl) ?_
  refine LS.m rfl (Step.call body27 rfl rfl (by decide) rfl (CallsV.mono (Put2_any r d _ _ _ (hr.below hB)) ?_))
  rintro _ w1 ⟨p1, c1, L, e, rfl, hO, he, hL, hb1⟩
  replace hB := hB.trans (hb1.mono hB.size)
  refine LS.vv rfl rfl (by decide) (Val.move rfl) ?_
  refine LS.vv rfl rfl (by decide) (Val.extract rfl rfl) ?_
  refine LS.vv rfl rfl (by decide) (Val.extract rfl rfl) ?_
  refine LS.vv rfl rfl (by decide) (Val.assign rfl) ?_
  refine LS.vv rfl rfl (by decide) (Val.assign rfl) ?_
  refine LS.nil ?_
  refine W.seq ?_
  refine W.seqR ?_
  refine LS.vv rfl rfl (by decide) (Val.move rfl) ?_
  refine LS.vv rfl rfl (by decide) (Val.lss rfl rfl) ?_
  refine LS.vv rfl rfl (by decide) (Val.move rfl) ?_
  refine LS.split 2 rfl (fun hg1 => ?_) (fun hg1 => ?_)
  ·
    first | (have hg1p := of_decide_eq_true hg1) | skip
    refine LS.s rfl rfl rfl hg1 (by decide) ?_
    refine LS.s rfl rfl rfl hg1 (by decide) ?_
    refine LS.vv rfl rfl (by decide) (Val.pickT rfl hg1 rfl) ?_
    refine LS.vv rfl rfl (by decide) (Val.move rfl) ?_
    refine LS.s rfl rfl rfl rfl (by decide) ?_
    refine LS.s rfl rfl rfl rfl (by decide) ?_
    refine LS.s rfl rfl rfl rfl (by decide) ?_
    refine LS.s rfl rfl rfl rfl (by decide) ?_
    refine LS.s rfl rfl rfl rfl (by decide) ?_
    refine LS.s rfl rfl rfl rfl (by decide) ?_
    refine LS.s rfl rfl rfl rfl (by decide) ?_
    refine LS.s rfl rfl rfl rfl (by decide) ?_
    refine LS.s rfl rfl rfl rfl (by decide) ?_
    refine LS.vv rfl rfl (by decide) (Val.pickT rfl rfl rfl) ?_
    refine LS.nil ?_
    refine W.condT rfl ?_
    refine W.seqR ?_
    refine LS.vv rfl rfl (by decide) (Val.move rfl) ?_
    refine LS.vv rfl rfl (by decide) (Val.cast (v := .bool true) (Val.neq rfl rfl) (by refine congrArg Value.bool (decide_eq_true ?_); intro h0; have hq := he.1 (by omega); omega)) ?_
    refine LS.vv rfl rfl (by decide) (Val.assign rfl) ?_
    refine LS.nil ?_
    refine W.ret ?_
    refine thenP_ret ?_
    refine ret1 (by first | exact .inl rfl | exact .inr rfl) rfl ?_
    first | exact ⟨rfl, hB⟩ | contradiction | (exfalso; omega)
  ·
    first | (have hg1p := of_decide_eq_false hg1) | skip
    refine LS.vg rfl rfl rfl hg1 (by decide) (Val.move rfl) ?_
    refine LS.vg rfl rfl rfl hg1 (by decide) (Val.gtr rfl rfl) ?_
    refine LS.vv rfl rfl (by decide) (Val.pickF rfl hg1 rfl) ?_
    refine LS.vv rfl rfl (by decide) (Val.move rfl) ?_
    refine LS.split 6 rfl (fun hg2 => ?_) (fun hg2 => ?_)
    ·
      first | (have hg2p := of_decide_eq_true hg2) | skip
      refine LS.s rfl rfl rfl hg2 (by decide) ?_
      refine LS.s rfl rfl rfl hg2 (by decide) ?_
      refine LS.s rfl rfl rfl hg2 (by decide) ?_
      refine LS.s rfl rfl rfl hg2 (by decide) ?_
      refine LS.s rfl rfl rfl hg2 (by decide) ?_
      refine LS.s rfl rfl rfl hg2 (by decide) ?_
      refine LS.s rfl rfl rfl hg2 (by decide) ?_
      refine LS.s rfl rfl rfl hg2 (by decide) ?_
      refine LS.s rfl rfl rfl hg2 (by decide) ?_
      refine LS.vv rfl rfl (by decide) (Val.pickT rfl hg2 rfl) ?_
      refine LS.nil ?_
      refine W.condT rfl ?_
      refine W.seqR ?_
      refine LS.vv rfl rfl (by decide) (Val.move rfl) ?_
      refine LS.vv rfl rfl (by decide) (Val.cast (v := .bool true) (Val.neq rfl rfl) (by refine congrArg Value.bool (decide_eq_true ?_); intro h0; have hq := he.1 (by omega); omega)) ?_
      refine LS.vv rfl rfl (by decide) (Val.assign rfl) ?_
      refine LS.nil ?_
      refine W.ret ?_
      refine thenP_ret ?_
      refine ret1 (by first | exact .inl rfl | exact .inr rfl) rfl ?_
      first | exact ⟨rfl, hB⟩ | contradiction | (exfalso; omega)
    ·
      first | (have hg2p := of_decide_eq_false hg2) | skip
      refine LS.vg rfl rfl rfl hg2 (by decide) (Val.move rfl) ?_
      refine LS.vg rfl rfl rfl hg2 (by decide) (Val.len Try.underlying23 rfl) ?_
      refine LS.vg rfl rfl rfl hg2 (by decide) (Val.move rfl) ?_
      refine LS.vg rfl rfl rfl hg2 (by decide) (Val.conv rfl Try.underlying3 Try.underlying38 (IntWalk.u64_in _ (by omega))) ?_
      obtain ⟨m, hm⟩ := Int.eq_ofNat_of_zero_le (show 0 ≤ r by omega)
      subst hm
      simp only [Int.toNat_natCast] at *
      have hp2 : 2 ^ 2 ≤ 2 ^ m := Nat.pow_le_pow_right (by omega) (by omega)
      have hp4 : 2 ^ m ≤ 2 ^ 4 := Nat.pow_le_pow_right (by omega) (by omega)
      have hsh : (1 : Nat) <<< m = 2 ^ m := by rw [Nat.shiftLeft_eq, Nat.one_mul]
      have hmn : m + 1 ≤ 2 ^ m := Nat.lt_two_pow_self
      refine LS.vg rfl rfl rfl hg2 (by decide) (Val.cast (v := .int .i64 ((2 ^ m : Nat) : Int)) (Val.shl64 (i := 1) rfl rfl (by omega) (by omega)) (by exact pow_cast m)) ?_
      refine LS.vg rfl rfl rfl hg2 (by decide) (Val.subN (j := 1) rfl rfl (by omega) (by omega)) ?_
      refine LS.vg rfl rfl rfl hg2 (by decide) (Val.move rfl) ?_
      refine LS.vg rfl rfl rfl hg2 (by decide) (Val.subN rfl rfl (by omega) (by omega)) ?_
      refine LS.vg rfl rfl rfl hg2 (by decide) (Val.neq rfl rfl) ?_
      refine LS.vv rfl rfl (by decide) (Val.pickF rfl hg2 rfl) ?_
      refine LS.nil ?_
      first | refine W.condD rfl (fun hc3 => ?_) (fun hc3 => ?_) | refine W.cond rfl (fun hc3 => ?_) (fun hc3 => ?_)
      ·
        refine W.seqR ?_
        refine LS.vv rfl rfl (by decide) (Val.move rfl) ?_
        refine LS.vv rfl rfl (by decide) (Val.cast (v := .bool true) (Val.neq rfl rfl) (by refine congrArg Value.bool (decide_eq_true ?_); intro h0; have hq := he.1 (by omega); omega)) ?_
        refine LS.vv rfl rfl (by decide) (Val.assign rfl) ?_
        refine LS.nil ?_
        refine W.ret ?_
        refine thenP_ret ?_
        refine ret1 (by first | exact .inl rfl | exact .inr rfl) rfl ?_
        first | exact ⟨rfl, hB⟩ | contradiction | (exfalso; omega)
      ·
        refine W.skip ?_
        refine thenP_normal ?_
        refine W.seq ?_
        refine W.seqR ?_
        refine LS.vv rfl rfl (by decide) (Val.move rfl) ?_
        have hE : e = 0 := he.2 ⟨by omega, by omega, by omega⟩
        obtain rfl := hL hE
        have hwl : (word2 m d).length = 2 ^ m := (word2_len m d).trans (by omega)
        have h2m : 2 ≤ m := by omega
        have h4m : m ≤ 4 := by omega
        have hdw := dat_word h2m h4m (show d.length = 2 ^ m - 1 - m by omega)
        rw [hwl]
        rw [hwl] at hO
        refine LS.vv rfl rfl (by decide) (Val.cast (v := .bool false) (Val.neq rfl rfl) (by simp; omega)) ?_
        refine LS.vv rfl rfl (by decide) (Val.move rfl) ?_
        refine LS.vg rfl rfl rfl rfl (by decide) (Val.move rfl) ?_
        refine LS.vg rfl rfl rfl rfl (by decide) (Val.len Try.underlying23 rfl) ?_
        refine LS.vg rfl rfl rfl rfl (by decide) (Val.move rfl) ?_
        refine LS.vg rfl rfl rfl rfl (by decide) (Val.conv rfl Try.underlying3 Try.underlying38 (IntWalk.u64_in _ (by omega))) ?_
        refine LS.vg rfl rfl rfl rfl (by decide) (Val.cast (v := .int .i64 ((2 ^ m : Nat) : Int)) (Val.shl64 (i := 1) rfl rfl (by omega) (by omega)) (by exact pow_cast m)) ?_
        refine LS.vg rfl rfl rfl rfl (by decide) (Val.cast (v := .bool false) (Val.neq rfl rfl) (by simp)) ?_
        refine LS.vv rfl rfl (by decide) (Val.pickF rfl rfl rfl) ?_
        refine LS.nil ?_
        refine W.condF rfl ?_
        refine W.skip ?_
        refine thenP_normal ?_
        refine W.seqR ?_
        refine LS.vv rfl rfl (by decide) (Val.move rfl) ?_
        refine LS.vv rfl rfl (by decide) (Val.conv rfl Try.underlying5 Try.underlying3 (IntWalk.i64_in _ (by omega))) ?_
        refine LS.vv rfl rfl (by decide) (Val.move rfl) ?_
        refine LS.vv rfl rfl (by decide) (Val.len Try.underlying23 rfl) ?_
        refine LS.vv rfl rfl (by decide) (Val.remN rfl rfl (by omega)) ?_
        have hmd := Nat.mod_lt ii (show 0 < 2 ^ m by omega)
        generalize hiq : ii % (2 ^ m) = a
        rw [hiq] at hmd
        refine LS.vv rfl rfl (by decide) (Val.assign rfl) ?_
        refine LS.nil ?_
        refine W.seqR ?_
        refine LS.vv rfl rfl (by decide) (Val.move rfl) ?_
        refine LS.vv rfl rfl (by decide) (Val.conv rfl Try.underlying5 Try.underlying3 (IntWalk.i64_in _ (by omega))) ?_
        refine LS.vv rfl rfl (by decide) (Val.move rfl) ?_
        refine LS.vv rfl rfl (by decide) (Val.len Try.underlying23 rfl) ?_
        refine LS.vv rfl rfl (by decide) (Val.remN rfl rfl (by omega)) ?_
        have hme := Nat.mod_lt jj (show 0 < 2 ^ m by omega)
        generalize hjq : jj % (2 ^ m) = b
        rw [hjq] at hme
        have hom := one_mended h2m h4m d hmd
        have hfl : (flipAt (word2 m d) a).length = 2 ^ m := by rw [flipAt_len, hwl]
        have hod := odd_flip (l := word2 m d) (a := a) (by omega)
        rw [word2_odd] at hod
        refine LS.vv rfl rfl (by decide) (Val.assign rfl) ?_
        refine LS.nil ?_
        refine W.seqR ?_
        refine LS.vv rfl rfl (by decide) (Val.move rfl) ?_
        refine LS.vv rfl rfl (by decide) (Val.move rfl) ?_
        refine LS.vv rfl rfl (by decide) (Val.move rfl) ?_
        refine LS.m rfl (Step.lit (B := w0.heap.size) rfl rfl (by decide) Try.underlying69 elem3 rfl rfl (by omega) (by simp [Value.oneCell']) hB.size ?_)
        rintro w2 hO2 hg2 hbl2 hsz2
        replace hB := hB.trans (hbl2.mono hB.size)
        have hOp := hO2
        replace hO := hO.below hbl2
        refine LS.m rfl (Step.call body26 rfl rfl (by decide) rfl (CallsV.mono (turned_any (word2 m d) _ _ (2 ^ m) [a] _ _ _ hO.rd hwl (by omega) (by simpa [nv] using hOp.rd) (by simp) (by intro j hj; match j, hj with | 0, _ => exact hmd)) ?_))
        rintro _ w3 ⟨p2, c2, rfl, hOt, hb3⟩
        replace hB := hB.trans (hb3.mono hB.size)
        replace hO := hO.below hb3
        refine LS.m rfl (Step.call body28 rfl rfl (by decide) rfl (CallsV.mono (Fix2_any m (flipAt (word2 m d) a) _ _ _ _ hOt.rd h2m h4m hfl rfl hOt.le_cap) ?_))
        rintro _ w4 ⟨p3, c3, D, P, f, rfl, hOd, hor, hb4⟩
        replace hB := hB.trans (hb4.mono hB.size)
        have hF : f = 0 ∧ D = d := by
          rcases hor with ⟨h1, h3, _⟩ | ⟨_, _, _, h3⟩
          · rw [hom, hdw] at h3; exact ⟨h1, h3⟩
          · rw [hod] at h3; cases h3
        obtain ⟨hF, rfl⟩ := hF
        clear hor
        replace hO := hO.below hb4
        refine LS.vv rfl rfl (by decide) (Val.move rfl) ?_
        refine LS.vv rfl rfl (by decide) (Val.extract rfl rfl) ?_
        refine LS.vv rfl rfl (by decide) (Val.extract rfl rfl) ?_
        refine LS.vv rfl rfl (by decide) (Val.extract rfl rfl) ?_
        refine LS.vv rfl rfl (by decide) (Val.assign rfl) ?_
        refine LS.vv rfl rfl (by decide) (Val.assign rfl) ?_
        refine LS.vv rfl rfl (by decide) (Val.assign rfl) ?_
        refine LS.nil ?_
        refine W.seq ?_
        refine W.seqR ?_
        refine LS.vv rfl rfl (by decide) (Val.move rfl) ?_
        refine LS.vv rfl rfl (by decide) (Val.cast (v := .bool false) (Val.neq rfl rfl) (by first | (simp; done) | (simp; omega))) ?_
        refine LS.vv rfl rfl (by decide) (Val.move rfl) ?_
        refine LS.vg rfl rfl rfl rfl (by decide) (Val.move rfl) ?_
        refine LS.vg rfl rfl rfl rfl (by decide) (Val.move rfl) ?_
        refine LS.mg rfl rfl rfl (Step.call body21 rfl rfl (by decide) rfl (CallsV.mono (boolsEq_any D D _ _ _ _ _ hOd.rd (hr.below hB) hl9) ?_))
        rintro _ w5 ⟨rfl, hb5⟩
        replace hB := hB.trans (hb5.mono hB.size)
        rw [show decide (D = D) = true from decide_eq_true rfl]
        replace hO := hO.below hb5
        refine LS.vg rfl rfl rfl rfl (by decide) (Val.not rfl) ?_
        refine LS.vv rfl rfl (by decide) (Val.pickF rfl rfl rfl) ?_
        refine LS.nil ?_
        first | refine W.condD rfl (fun hc4 => ?_) (fun hc4 => ?_) | refine W.cond rfl (fun hc4 => ?_) (fun hc4 => ?_)
        ·
          refine W.seqR ?_
          refine LS.vv rfl rfl (by decide) (Val.assign rfl) ?_
          refine LS.nil ?_
          refine W.ret ?_
          refine thenP_ret ?_
          refine ret1 (by first | exact .inl rfl | exact .inr rfl) rfl ?_
          first | exact ⟨rfl, hB⟩ | contradiction | (exfalso; omega)
        ·
          refine W.skip ?_
          refine thenP_normal ?_
          refine W.seqR ?_
          refine LS.vv rfl rfl (by decide) (Val.move rfl) ?_
          refine LS.vv rfl rfl (by decide) (Val.move rfl) ?_
          refine LS.vv rfl rfl (by decide) (Val.move rfl) ?_
          refine LS.vv rfl rfl (by decide) (Val.move rfl) ?_
          refine LS.m rfl (Step.lit (B := w0.heap.size) rfl rfl (by decide) Try.underlying69 elem3 rfl rfl (by omega) (by simp [Value.oneCell']) hB.size ?_)
          rintro w6 hO6 hg6 hbl6 hsz6
          replace hB := hB.trans (hbl6.mono hB.size)
          have hOp2 := hO6
          replace hO := hO.below hbl6
          refine LS.m rfl (Step.call body26 rfl rfl (by decide) rfl (CallsV.mono (turned_any (word2 m D) _ _ (2 ^ m) [a, b] _ _ _ hO.rd hwl (by omega) (by simpa [nv] using hOp2.rd) (by simp) (by intro j hj; match j, hj with | 0, _ => exact hmd | 1, _ => exact hme)) ?_))
          rintro _ w7 ⟨p4, c4, rfl, hOu, hb7⟩
          replace hB := hB.trans (hb7.mono hB.size)
          have hfl2 : (flipAt (flipAt (word2 m D) a) b).length = 2 ^ m := by rw [flipAt_len, hfl]
          have hod2 := odd_flip (l := flipAt (word2 m D) a) (a := b) (by omega)
          rw [hod] at hod2
          refine LS.m rfl (Step.call body28 rfl rfl (by decide) rfl (CallsV.mono (Fix2_any m (flipAt (flipAt (word2 m D) a) b) _ _ _ _ hOu.rd h2m h4m hfl2 rfl hOu.le_cap) ?_))
          rintro _ w8 ⟨p5, c5, D2, P2, f2, rfl, hOe, hor2, hb8⟩
          replace hB := hB.trans (hb8.mono hB.size)
          refine LS.vv rfl rfl (by decide) (Val.move rfl) ?_
          refine LS.vv rfl rfl (by decide) (Val.extract rfl rfl) ?_
          refine LS.vv rfl rfl (by decide) (Val.extract rfl rfl) ?_
          refine LS.vv rfl rfl (by decide) (Val.extract rfl rfl) ?_
          refine LS.vv rfl rfl (by decide) (Val.assign rfl) ?_
          refine LS.vv rfl rfl (by decide) (Val.assign rfl) ?_
          refine LS.nil ?_
          refine W.seq ?_
          refine W.seqR ?_
          refine LS.vv rfl rfl (by decide) (Val.move rfl) ?_
          refine LS.vv rfl rfl (by decide) (Val.move rfl) ?_
          refine LS.vv rfl rfl (by decide) (Val.eql rfl rfl) ?_
          refine LS.nil ?_
          first | refine W.condD rfl (fun hc5 => ?_) (fun hc5 => ?_) | refine W.cond rfl (fun hc5 => ?_) (fun hc5 => ?_)
          ·
            refine W.seqR ?_
            refine LS.vv rfl rfl (by decide) (Val.move rfl) ?_
            have hab : a = b := by omega
            subst hab
            rw [flip_flip (by omega), word2_take] at hor2
            have hptw := pt_word h2m h4m D
            have hF2 : f2 = 0 ∧ D2 = D := by
              rcases hor2 with ⟨h1, h3, _⟩ | ⟨_, _, h3, _⟩
              · rw [mended_zero hptw, hdw] at h3; exact ⟨h1, h3⟩
              · exact absurd hptw h3
            obtain ⟨hF2, rfl⟩ := hF2
            refine LS.vv rfl rfl (by decide) (Val.cast (v := .bool true) (Val.eql rfl rfl) (by first | (simp; done) | (simp; omega))) ?_
            refine LS.vv rfl rfl (by decide) (Val.move rfl) ?_
            refine LS.vg rfl rfl rfl rfl (by decide) (Val.move rfl) ?_
            refine LS.vg rfl rfl rfl rfl (by decide) (Val.move rfl) ?_
            refine LS.mg rfl rfl rfl (Step.call body21 rfl rfl (by decide) rfl (CallsV.mono (boolsEq_any D2 D2 _ _ _ _ _ hOe.rd (hr.below hB) hl9) ?_))
            rintro _ w9 ⟨rfl, hb9⟩
            replace hB := hB.trans (hb9.mono hB.size)
            rw [show decide (D2 = D2) = true from decide_eq_true rfl]
            refine LS.vv rfl rfl (by decide) (Val.pickT rfl rfl rfl) ?_
            refine LS.vv rfl rfl (by decide) (Val.assign rfl) ?_
            refine LS.nil ?_
            refine W.ret ?_
            refine thenP_ret ?_
            refine ret1 (by first | exact .inl rfl | exact .inr rfl) rfl ?_
            first | exact ⟨rfl, hB⟩ | contradiction | (exfalso; omega)
          ·
            refine W.skip ?_
            refine thenP_normal ?_
            refine W.seqR ?_
            refine LS.vv rfl rfl (by decide) (Val.move rfl) ?_
            have hab : a ≠ b := by omega
            have htp := two_pt h2m h4m D hmd hme hab
            have hF2 : f2 = 8 ∧ D2 = [] := by
              rcases hor2 with ⟨_, _, h3⟩ | ⟨h1, h3, _, _⟩
              · rcases h3 with h3 | h3
                · exact absurd h3 htp
                · rw [hod2] at h3; cases h3
              · exact ⟨h1, h3⟩
            obtain ⟨hF2, rfl⟩ := hF2
            refine LS.vv rfl rfl (by decide) (Val.cast (v := .bool true) (Val.eql rfl rfl) (by first | (simp; done) | (simp; omega))) ?_
            refine LS.vv rfl rfl (by decide) (Val.move rfl) ?_
            refine LS.vg rfl rfl rfl rfl (by decide) (Val.move rfl) ?_
            refine LS.vg rfl rfl rfl rfl (by decide) (Val.len Try.underlying23 rfl) ?_
            refine LS.vg rfl rfl rfl rfl (by decide) (Val.cast (v := .bool true) (Val.eql rfl rfl) (by rfl)) ?_
            refine LS.vv rfl rfl (by decide) (Val.pickT rfl rfl rfl) ?_
            refine LS.vv rfl rfl (by decide) (Val.assign rfl) ?_
            refine LS.nil ?_
            refine W.ret ?_
            refine ret1 (by first | exact .inl rfl | exact .inr rfl) rfl ?_
            first | exact ⟨rfl, hB⟩ | contradiction | (exfalso; omega)

end Go.Proofs.Ytbbmgcmibgdkiaa
