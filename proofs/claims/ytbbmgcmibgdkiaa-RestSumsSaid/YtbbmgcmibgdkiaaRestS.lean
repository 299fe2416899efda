/-
  The statement RestSums.
-/
import Derived.Test.YtbbmgcmibgdkiaaRest
namespace Go.Proofs.Ytbbmgcmibgdkiaa
open Go Go.RowKit V
set_option linter.unusedVariables false

def difTo (xs bs : List Bool) : Nat → List Bool := iter (fun i l => l ++ [decide (gb xs i ≠ gb bs i)]) []
theorem difTo_succ (xs bs : List Bool) (k : Nat) : difTo xs bs (k + 1) = difTo xs bs k ++ [decide (gb xs k ≠ gb bs k)] := rfl
theorem difTo_len (xs bs : List Bool) : ∀ k, (difTo xs bs k).length = k
  | 0 => rfl
  | k + 1 => by rw [difTo_succ, List.length_append, difTo_len xs bs k]; rfl
theorem difTo_get (xs bs : List Bool) : ∀ k j, j < k → gb (difTo xs bs k) j = (gb xs j != gb bs j)
  | 0, j, h => by omega
  | k + 1, j, h => by
    have hl := difTo_len xs bs k
    rw [difTo_succ]
    by_cases e : j = k
    · subst e
      have e1 : gb (difTo xs bs j ++ [decide (gb xs j ≠ gb bs j)]) j = decide (gb xs j ≠ gb bs j) := by
        unfold gb; rw [List.getD_eq_getElem?_getD, List.getElem?_append_right (by omega), hl, Nat.sub_self]; rfl
      rw [e1]
      cases gb xs j <;> cases gb bs j <;> rfl
    · rw [← difTo_get xs bs k j (by omega)]
      unfold gb
      simp only [List.getD_eq_getElem?_getD]
      rw [List.getElem?_append_left (by omega)]

theorem Rest_len (g : Nat) (bs : List Bool) (p : Option Addr) (c : Nat) (n : Nat) (w0 : World) (hr : Rd w0 p (bv bs)) (hg : g < 4294967296) (hn : bs.length = n) :
    CallsV Try.prog 15 #[.int .u32 (g : Int), .slice p n c] w0 (fun v w => ∃ r e : Nat, v = .tuple #[.int .u32 (r : Int), .int .i64 (e : Int)] ∧ (e = 0 ↔ OkG g ∧ bs.length ≤ 64) ∧ (e = 0 → r = restOf g (bitLen g - 1) bs) ∧ r < 4294967296 ∧ Below w0.heap.size w0 w) := by
  subst hn; exact Rest_any g bs p c w0 hr hg

theorem restSums_any (g : Nat) (xs bs : List Bool) (p q : Option Addr) (c d : Nat) (w0 : World) (hg : g < 4294967296) (hr1 : Rd w0 p (bv xs)) (hr2 : Rd w0 q (bv bs)) :
    CallsV Try.prog 3 #[.int .u32 (g : Int), .slice p xs.length c, .slice q bs.length d] w0 (fun v w => v = .bool true ∧ Below w0.heap.size w0 w) := by
  refine enter1 Try.func3 rfl Try.ntmps3 (by simp) rfl ?_
  have hB := Below.refl w0.heap.size w0
  simp only [argLoc, Nat.zero_add, Nat.reduceAdd]
  refine W.seqR ?_
  refine LS.vv rfl rfl (by decide) (Val.assign rfl) ?_
  refine LS.nil ?_
  refine W.seqR ?_
  refine LS.vv rfl rfl (by decide) (Val.move rfl) ?_
  refine LS.vv rfl rfl (by decide) (Val.move rfl) ?_
  refine LS.m rfl (Step.call body15 rfl rfl (by decide) rfl (CallsV.mono (Rest_any g xs _ _ _ (hr1.below hB) hg) ?_))
  rintro _ w1 ⟨x, e, rfl, he, hx, hxl, hb1⟩
  replace hB := hB.trans (hb1.mono hB.size)
  refine LS.vv rfl rfl (by decide) (Val.move rfl) ?_
  refine LS.vv rfl rfl (by decide) (Val.extract rfl rfl) ?_
  refine LS.vv rfl rfl (by decide) (Val.extract rfl rfl) ?_
  refine LS.vv rfl rfl (by decide) (Val.assign rfl) ?_
  refine LS.vv rfl rfl (by decide) (Val.assign rfl) ?_
  refine LS.nil ?_
  refine W.seqR ?_
  refine LS.vv rfl rfl (by decide) (Val.move rfl) ?_
  refine LS.vv rfl rfl (by decide) (Val.move rfl) ?_
  refine LS.m rfl (Step.call body15 rfl rfl (by decide) rfl (CallsV.mono (Rest_any g bs _ _ _ (hr2.below hB) hg) ?_))
  rintro _ w2 ⟨y, f, rfl, hf, hy, hyl, hb2⟩
  replace hB := hB.trans (hb2.mono hB.size)
  refine LS.vv rfl rfl (by decide) (Val.move rfl) ?_
  refine LS.vv rfl rfl (by decide) (Val.extract rfl rfl) ?_
  refine LS.vv rfl rfl (by decide) (Val.extract rfl rfl) ?_
  refine LS.vv rfl rfl (by decide) (Val.assign rfl) ?_
  refine LS.vv rfl rfl (by decide) (Val.assign rfl) ?_
  refine LS.nil ?_
  refine W.seq ?_
  refine W.seqR ?_
  refine LS.vv rfl rfl (by decide) (Val.move rfl) ?_
  refine LS.vv rfl rfl (by decide) (Val.move rfl) ?_
  refine LS.m rfl (Step.call body16 rfl rfl (by decide) rfl (CallsV.mono (restCheck_any g xs _ _ _ hg) ?_))
  rintro _ w3 ⟨e1, rfl, he1, hb3⟩
  replace hB := hB.trans (hb3.mono hB.size)
  have hee : e = 0 ↔ e1 = 0 := he.trans he1.symm
  refine LS.vv rfl rfl (by decide) (Val.neq rfl rfl) ?_
  refine LS.vv rfl rfl (by decide) (Val.move rfl) ?_
  refine LS.split 4 rfl (fun hg1 => ?_) (fun hg1 => ?_)
  ·
    first | (have hg1p := of_decide_eq_true hg1) | skip
    refine LS.s rfl rfl rfl hg1 (by decide) ?_
    refine LS.s rfl rfl rfl hg1 (by decide) ?_
    refine LS.s rfl rfl rfl hg1 (by decide) ?_
    refine LS.s rfl rfl rfl hg1 (by decide) ?_
    refine LS.vv rfl rfl (by decide) (Val.pickT rfl hg1 rfl) ?_
    refine LS.nil ?_
    refine W.condT rfl ?_
    refine W.seqR ?_
    refine LS.vv rfl rfl (by decide) (Val.move rfl) ?_
    refine LS.vv rfl rfl (by decide) (Val.neq rfl rfl) ?_
    refine LS.vv rfl rfl (by decide) (Val.move rfl) ?_
    refine LS.split 2 rfl (fun hg2 => ?_) (fun hg2 => ?_)
    ·
      first | (have hg2p := of_decide_eq_true hg2) | skip
      refine LS.s rfl rfl rfl hg2 (by decide) ?_
      refine LS.s rfl rfl rfl hg2 (by decide) ?_
      refine LS.vv rfl rfl (by decide) (Val.pickT rfl hg2 rfl) ?_
      refine LS.vv rfl rfl (by decide) (Val.assign rfl) ?_
      refine LS.nil ?_
      refine W.ret ?_
      refine thenP_ret ?_
      refine ret1 (by first | exact .inl rfl | exact .inr rfl) rfl ?_
      first | exact ⟨rfl, hB⟩ | (exfalso; omega)
    ·
      first | (have hg2p := of_decide_eq_false hg2) | skip
      refine LS.vg rfl rfl rfl hg2 (by decide) (Val.move rfl) ?_
      refine LS.vg rfl rfl rfl hg2 (by decide) (Val.cast (v := .bool true) (Val.neq rfl rfl) (by first | (refine congrArg Value.bool (decide_eq_true ?_); omega) | (simp; done) | (simp; omega))) ?_
      refine LS.vv rfl rfl (by decide) (Val.pickF rfl hg2 rfl) ?_
      refine LS.vv rfl rfl (by decide) (Val.assign rfl) ?_
      refine LS.nil ?_
      refine W.ret ?_
      refine thenP_ret ?_
      refine ret1 (by first | exact .inl rfl | exact .inr rfl) rfl ?_
      first | exact ⟨rfl, hB⟩ | (exfalso; omega)
  ·
    first | (have hg1p := of_decide_eq_false hg1) | skip
    refine LS.vg rfl rfl rfl hg1 (by decide) (Val.move rfl) ?_
    refine LS.vg rfl rfl rfl hg1 (by decide) (Val.move rfl) ?_
    refine LS.mg rfl rfl hg1 (Step.call body16 rfl rfl (by decide) rfl (CallsV.mono (restCheck_any g bs _ _ _ hg) ?_))
    rintro _ w4 ⟨e2, rfl, he2, hb4⟩
    replace hB := hB.trans (hb4.mono hB.size)
    have hff : f = 0 ↔ e2 = 0 := hf.trans he2.symm
    refine LS.vg rfl rfl rfl hg1 (by decide) (Val.neq rfl rfl) ?_
    refine LS.vv rfl rfl (by decide) (Val.pickF rfl hg1 rfl) ?_
    refine LS.nil ?_
    first | refine W.condD rfl (fun hc3 => ?_) (fun hc3 => ?_) | refine W.cond rfl (fun hc3 => ?_) (fun hc3 => ?_)
    ·
      refine W.seqR ?_
      refine LS.vv rfl rfl (by decide) (Val.move rfl) ?_
      refine LS.vv rfl rfl (by decide) (Val.neq rfl rfl) ?_
      refine LS.vv rfl rfl (by decide) (Val.move rfl) ?_
      refine LS.split 2 rfl (fun hg4 => ?_) (fun hg4 => ?_)
      ·
        first | (have hg4p := of_decide_eq_true hg4) | skip
        refine LS.s rfl rfl rfl hg4 (by decide) ?_
        refine LS.s rfl rfl rfl hg4 (by decide) ?_
        refine LS.vv rfl rfl (by decide) (Val.pickT rfl hg4 rfl) ?_
        refine LS.vv rfl rfl (by decide) (Val.assign rfl) ?_
        refine LS.nil ?_
        refine W.ret ?_
        refine thenP_ret ?_
        refine ret1 (by first | exact .inl rfl | exact .inr rfl) rfl ?_
        first | exact ⟨rfl, hB⟩ | (exfalso; omega)
      ·
        first | (have hg4p := of_decide_eq_false hg4) | skip
        refine LS.vg rfl rfl rfl hg4 (by decide) (Val.move rfl) ?_
        refine LS.vg rfl rfl rfl hg4 (by decide) (Val.cast (v := .bool true) (Val.neq rfl rfl) (by first | (refine congrArg Value.bool (decide_eq_true ?_); omega) | (simp; done) | (simp; omega))) ?_
        refine LS.vv rfl rfl (by decide) (Val.pickF rfl hg4 rfl) ?_
        refine LS.vv rfl rfl (by decide) (Val.assign rfl) ?_
        refine LS.nil ?_
        refine W.ret ?_
        refine thenP_ret ?_
        refine ret1 (by first | exact .inl rfl | exact .inr rfl) rfl ?_
        first | exact ⟨rfl, hB⟩ | (exfalso; omega)
    ·
      refine W.skip ?_
      refine thenP_normal ?_
      refine W.seqR ?_
      refine LS.vv rfl rfl (by decide) (Val.move rfl) ?_
      refine LS.m rfl (Step.lit (B := w0.heap.size) rfl rfl (by decide) Try.underlying23 elem4 rfl rfl (by omega) (by simp [Value.oneCell']) hB.size ?_)
      rintro w5 hO5 hg5 hbl5 hsz5
      replace hB := hB.trans (hbl5.mono hB.size)
      have hE : e = 0 := he.2 (he1.1 (by omega))
      have hF : f = 0 := hf.2 (he2.1 (by omega))
      have hok := he1.1 (by omega)
      have hok2 := he2.1 (by omega)
      have h64 := hok.2
      have h642 := hok2.2
      obtain rfl := hx hE
      obtain rfl := hy hF
      have hG := hok.1
      have hdg := hG.deg
      refine LS.m rfl (Step.call body15 rfl rfl (by decide) rfl (CallsV.mono (Rest_any g [true] _ _ _ (hO5.rd) hg) ?_))
      rintro _ w6 ⟨z, h, rfl, hh, hz, hzl, hb6⟩
      replace hB := hB.trans (hb6.mono hB.size)
      have hH : h = 0 := hh.2 ⟨hG, by decide⟩
      obtain rfl := hz hH
      have h1 := rest_one hdg
      refine LS.vv rfl rfl (by decide) (Val.move rfl) ?_
      refine LS.vv rfl rfl (by decide) (Val.extract rfl rfl) ?_
      refine LS.vv rfl rfl (by decide) (Val.extract rfl rfl) ?_
      refine LS.vv rfl rfl (by decide) (Val.assign rfl) ?_
      refine LS.vv rfl rfl (by decide) (Val.assign rfl) ?_
      refine LS.nil ?_
      refine W.seq ?_
      refine W.seqR ?_
      refine LS.vv rfl rfl (by decide) (Val.move rfl) ?_
      refine LS.vv rfl rfl (by decide) (Val.cast (v := .bool false) (Val.neq rfl rfl) (by simp; omega)) ?_
      refine LS.vv rfl rfl (by decide) (Val.move rfl) ?_
      refine LS.vg rfl rfl rfl rfl (by decide) (Val.move rfl) ?_
      refine LS.vg rfl rfl rfl rfl (by decide) (Val.cast (v := .bool false) (Val.neq rfl rfl) (by simp; omega)) ?_
      refine LS.vv rfl rfl (by decide) (Val.pickF rfl rfl rfl) ?_
      refine LS.vv rfl rfl (by decide) (Val.move rfl) ?_
      refine LS.vg rfl rfl rfl rfl (by decide) (Val.move rfl) ?_
      refine LS.vg rfl rfl rfl rfl (by decide) (Val.cast (v := .bool false) (Val.neq rfl rfl) (by simp; omega)) ?_
      refine LS.vv rfl rfl (by decide) (Val.pickF rfl rfl rfl) ?_
      refine LS.vv rfl rfl (by decide) (Val.move rfl) ?_
      refine LS.vg rfl rfl rfl rfl (by decide) (Val.move rfl) ?_
      refine LS.vg rfl rfl rfl rfl (by decide) (Val.cast (v := .bool false) (Val.neq rfl rfl) (by simp; omega)) ?_
      refine LS.vv rfl rfl (by decide) (Val.pickF rfl rfl rfl) ?_
      refine LS.nil ?_
      refine W.condF rfl ?_
      refine W.skip ?_
      refine thenP_normal ?_
      refine W.seq ?_
      refine W.seqR ?_
      refine LS.vv rfl rfl (by decide) (Val.move rfl) ?_
      refine LS.m rfl (Step.call body17 rfl rfl (by decide) rfl (CallsV.mono (size_any g _ hg) ?_))
      rintro _ w7 ⟨rfl, hb7⟩
      replace hB := hB.trans (hb7.mono hB.size)
      first | refine LS.vv rfl rfl (by decide) (Val.remN (j := 2) rfl rfl (by omega)) ?_ | refine LS.vv rfl rfl (by decide) (Val.rem rfl rfl (by omega) (by omega)) ?_ | refine LS.vv rfl rfl (by decide) (Val.remT rfl rfl (by omega)) ?_
      refine LS.vv rfl rfl (by decide) (Val.eql rfl rfl) ?_
      refine LS.vv rfl rfl (by decide) (Val.move rfl) ?_
      refine LS.split 4 rfl (fun hg5 => ?_) (fun hg5 => ?_)
      ·
        first | (have hg5p := of_decide_eq_true hg5) | skip
        refine LS.vg rfl rfl rfl hg5 (by decide) (Val.move rfl) ?_
        refine LS.mg rfl rfl hg5 (Step.call body18 rfl rfl (by decide) rfl (CallsV.mono (oddBits_any xs _ _ _ (hr1.below hB) (by omega)) ?_))
        rintro _ w8 ⟨rfl, hb8⟩
        replace hB := hB.trans (hb8.mono hB.size)
        refine LS.vv rfl rfl (by decide) (Val.pickT rfl hg5 rfl) ?_
        refine LS.vv rfl rfl (by decide) (Val.move rfl) ?_
        refine LS.split 8 rfl (fun hg6 => ?_) (fun hg6 => ?_)
        ·
          first | (have hg6p := of_decide_eq_true hg6) | skip
          refine LS.vg rfl rfl rfl hg6 (by decide) (Val.move rfl) ?_
          have hpar := rest_parity hdg (by omega) xs xs.length
          have hodd : onesTo xs xs.length % 2 = 1 := of_decide_eq_true ‹_›
          have hnz : restOf g (bitLen g - 1) xs ≠ 0 := fun h => by (have hp0 : popc (restOf g (bitLen g - 1) xs) = 0 := by rw [h]; exact popTo_of_zero 32); unfold restOf at hp0; omega
          refine LS.vg rfl rfl rfl hg6 (by decide) (Val.cast (v := .bool false) (Val.eql rfl rfl) (by simp; omega)) ?_
          refine LS.vv rfl rfl (by decide) (Val.pickT rfl hg6 rfl) ?_
          refine LS.nil ?_
          refine W.condF rfl ?_
          refine W.skip ?_
          refine thenP_normal ?_
          refine W.seq ?_
          refine W.seqR ?_
          refine LS.vv rfl rfl (by decide) (Val.move rfl) ?_
          refine LS.vv rfl rfl (by decide) (Val.len Try.underlying23 rfl) ?_
          refine LS.vv rfl rfl (by decide) (Val.move rfl) ?_
          refine LS.vv rfl rfl (by decide) (Val.len Try.underlying23 rfl) ?_
          refine LS.vv rfl rfl (by decide) (Val.neq rfl rfl) ?_
          refine LS.nil ?_
          first | refine W.condD rfl (fun hc7 => ?_) (fun hc7 => ?_) | refine W.cond rfl (fun hc7 => ?_) (fun hc7 => ?_)
          ·
            refine W.seqR ?_
            refine LS.vv rfl rfl (by decide) (Val.assign rfl) ?_
            refine LS.nil ?_
            refine W.ret ?_
            refine thenP_ret ?_
            refine ret1 (by first | exact .inl rfl | exact .inr rfl) rfl ?_
            first | exact ⟨rfl, hB⟩ | (exfalso; omega)
          ·
            have hlen : xs.length = bs.length := by omega
            refine W.skip ?_
            refine thenP_normal ?_
            refine W.seqR ?_
            refine LS.vv rfl rfl (by decide) (Val.assign rfl) ?_
            refine LS.nil ?_
            refine W.seq ?_
            refine W.seqR ?_
            refine LS.vv rfl rfl (by decide) (Val.cast (v := .int .i64 ((0 : Nat) : Int)) (Val.assign rfl) rfl) ?_
            refine LS.nil ?_
            refine W.block ?_
            refine W.loop (α := Nat × Option Addr × Nat) (fun g => [(13, .slice g.2.1 g.1 g.2.2), (14, .int .i64 (g.1 : Int))]) [(0, _), (1, _), (2, _), (7, _), (9, _)] (fun g w => (g.1 ≤ xs.length ∧ Own w w0.heap.size 4 g.2.1 g.1 g.2.2 (bv (difTo xs bs g.1))) ∧ Below w0.heap.size w0 w) (fun g => xs.length - g.1) ((0, none, 0)) (Sub.cons rfl (Sub.cons rfl (Sub.nil _))) (Sub.cons rfl (Sub.cons rfl (Sub.cons rfl (Sub.cons rfl (Sub.cons rfl (Sub.nil _)))))) ?_ ?_
            · exact ⟨⟨Nat.zero_le _, Own.nil _ _ _⟩, hB⟩
            rintro ⟨k, p1, c1⟩ w9 ⟨⟨hk, hO⟩, hB⟩
            simp only [List.cons_append, List.nil_append]
            simp only at hk hO
            refine W.seq ?_
            refine W.seqR ?_
            refine LS.vv rfl rfl (by decide) (Val.move rfl) ?_
            refine LS.vv rfl rfl (by decide) (Val.move rfl) ?_
            refine LS.vv rfl rfl (by decide) (Val.len Try.underlying23 rfl) ?_
            refine LS.vv rfl rfl (by decide) (Val.lss rfl rfl) ?_
            refine LS.nil ?_
            first | refine W.condD rfl (fun hc8 => ?_) (fun hc8 => ?_) | refine W.cond rfl (fun hc8 => ?_) (fun hc8 => ?_)
            ·
              refine W.skip ?_
              refine thenP_normal ?_
              refine W.seq ?_
              refine W.block ?_
              refine W.regD (S := fun w => Below w0.heap.size w0 w) [(0, true), (1, true), (2, true), (3, true), (4, true), (5, true), (6, true), (7, true), (8, true), (9, true), (10, false), (11, false), (12, true)] mixed (by kernel_rfl) hB.drew ?_
              replace hB := hB.drew
              refine DX.vv rfl rfl rfl (by decide) (Val.move rfl) ?_
              refine DX.vv rfl rfl rfl (by decide) (Val.move rfl) ?_
              refine DX.vv rfl rfl rfl (by decide) (Val.move rfl) ?_
              refine DX.vv rfl rfl rfl (by decide) (Val.index1 Try.underlying23 elem4 rfl rfl (by omega) hr1 (bv_lt (by omega))) ?_
              refine DX.vv rfl rfl rfl (by decide) (Val.load flat4 rfl (fun _ h => hr1.below h) (bv_at (by omega))) ?_
              refine DX.vv rfl rfl rfl (by decide) (Val.move rfl) ?_
              refine DX.vv rfl rfl rfl (by decide) (Val.move rfl) ?_
              refine DX.vv rfl rfl rfl (by decide) (Val.index1 Try.underlying23 elem4 rfl rfl (by omega) hr2 (bv_lt (by omega))) ?_
              refine DX.vv rfl rfl rfl (by decide) (Val.load flat4 rfl (fun _ h => hr2.below h) (bv_at (by omega))) ?_
              refine DX.vv rfl rfl rfl (by decide) (Val.neqB Try.underlying4 rfl rfl) ?_
              refine DX.m rfl rfl (Step.lit (B := w0.heap.size) rfl rfl (by decide) Try.underlying23 elem4 rfl rfl (by omega) (by simp [Value.oneCell']) hB.size ?_)
              rintro w10 hO10 hg10 hbl10 hsz10
              replace hB := hB.trans (hbl10.mono hB.size)
              refine ⟨hB, ?_⟩
              replace hO := hO.drew.below hbl10
              refine DX.m rfl rfl (Step.append (B := w0.heap.size) rfl rfl (by decide) Try.underlying23 elem4 rfl rfl rfl rfl (hO) (hO10.rd) (rfl) ((by simp [Value.oneCell'])) (by omega) (by omega) hB.size ?_)
              rintro p11 c11 w11 hO11 hg11 hbl11
              replace hB := hB.trans hbl11
              refine ⟨hB, ?_⟩
              refine DX.vv rfl rfl rfl (by decide) (Val.assign rfl) ?_
              refine DX.nil ?_
              refine inBlk_normal ?_
              refine thenP_normal ?_
              refine W.reg ?_
              refine LS.vv rfl rfl (by decide) (Val.move rfl) ?_
              first | refine LS.vv rfl rfl (by decide) (Val.addN (j := 1) rfl rfl (by omega)) ?_ | refine LS.vv rfl rfl (by decide) (Val.add64 rfl rfl (by omega)) ?_
              refine LS.vv rfl rfl (by decide) (Val.assign rfl) ?_
              refine LS.nil ?_
              refine thenP_normal ?_
              refine ⟨(k + 1, p11, c11), ?_, ?_, ⟨⟨by simp only; omega, ?_⟩, hB⟩, by simp only; omega⟩
              · exact Sub.cons rfl (Sub.cons rfl (Sub.nil _))
              · repeat (first | exact Sub.nil _ | refine Sub.cons rfl ?_)
              · simp only [difTo_succ, bv, List.map_append]; exact hO11
            ·
              obtain rfl : k = xs.length := by omega
              refine W.exit ?_
              refine thenP_exit ?_
              refine thenP_exit ?_
              refine inBlk_exit ?_
              refine thenP_normal ?_
              refine W.seqR ?_
              refine LS.vv rfl rfl (by decide) (Val.move rfl) ?_
              refine LS.vv rfl rfl (by decide) (Val.move rfl) ?_
              have hzl2 := difTo_len xs bs xs.length
              have hrd := hO.rd
              refine LS.m rfl (Step.call body15 rfl rfl (by decide) rfl (CallsV.mono (Rest_len g (difTo xs bs xs.length) _ _ _ _ hrd hg (difTo_len xs bs xs.length)) ?_))
              rintro _ w12 ⟨zz, hh2, rfl, hhe, hzz, hzzl, hb12⟩
              replace hB := hB.trans (hb12.mono hB.size)
              have hH2 : hh2 = 0 := hhe.2 ⟨hG, by omega⟩
              obtain rfl := hzz hH2
              have hxor : restOf g (bitLen g - 1) (difTo xs bs xs.length) = restOf g (bitLen g - 1) xs ^^^ restOf g (bitLen g - 1) bs := by (unfold restOf; rw [hzl2, ‹xs.length = bs.length›]; exact rest_xor hdg (fun j hj => difTo_get xs bs _ j hj) _ (Nat.le_refl _))
              refine LS.vv rfl rfl (by decide) (Val.move rfl) ?_
              refine LS.vv rfl rfl (by decide) (Val.extract rfl rfl) ?_
              refine LS.vv rfl rfl (by decide) (Val.extract rfl rfl) ?_
              refine LS.vv rfl rfl (by decide) (Val.assign rfl) ?_
              refine LS.vv rfl rfl (by decide) (Val.assign rfl) ?_
              refine LS.nil ?_
              refine W.seqR ?_
              refine LS.vv rfl rfl (by decide) (Val.move rfl) ?_
              refine LS.vv rfl rfl (by decide) (Val.cast (v := .bool true) (Val.eql rfl rfl) (by simp; omega)) ?_
              refine LS.vv rfl rfl (by decide) (Val.move rfl) ?_
              refine LS.vg rfl rfl rfl rfl (by decide) (Val.move rfl) ?_
              refine LS.vg rfl rfl rfl rfl (by decide) (Val.move rfl) ?_
              refine LS.vg rfl rfl rfl rfl (by decide) (Val.move rfl) ?_
              refine LS.vg rfl rfl rfl rfl (by decide) (Val.xorU32 rfl rfl (by omega) (by omega)) ?_
              refine LS.vg rfl rfl rfl rfl (by decide) (Val.cast (v := .bool true) (Val.eql rfl rfl) (by exact congrArg Value.bool (decide_eq_true (by rw [hxor])))) ?_
              refine LS.vv rfl rfl (by decide) (Val.pickT rfl rfl rfl) ?_
              refine LS.vv rfl rfl (by decide) (Val.assign rfl) ?_
              refine LS.nil ?_
              refine W.ret ?_
              refine ret1 (by first | exact .inl rfl | exact .inr rfl) rfl ?_
              first | exact ⟨rfl, hB⟩ | (exfalso; omega)
        ·
          first | (have hg6p := of_decide_eq_false hg6) | skip
          refine LS.s rfl rfl rfl hg6 (by decide) ?_
          refine LS.s rfl rfl rfl hg6 (by decide) ?_
          refine LS.vv rfl rfl (by decide) (Val.pickF rfl hg6 rfl) ?_
          refine LS.nil ?_
          refine W.condF rfl ?_
          refine W.skip ?_
          refine thenP_normal ?_
          refine W.seq ?_
          refine W.seqR ?_
          refine LS.vv rfl rfl (by decide) (Val.move rfl) ?_
          refine LS.vv rfl rfl (by decide) (Val.len Try.underlying23 rfl) ?_
          refine LS.vv rfl rfl (by decide) (Val.move rfl) ?_
          refine LS.vv rfl rfl (by decide) (Val.len Try.underlying23 rfl) ?_
          refine LS.vv rfl rfl (by decide) (Val.neq rfl rfl) ?_
          refine LS.nil ?_
          first | refine W.condD rfl (fun hc9 => ?_) (fun hc9 => ?_) | refine W.cond rfl (fun hc9 => ?_) (fun hc9 => ?_)
          ·
            refine W.seqR ?_
            refine LS.vv rfl rfl (by decide) (Val.assign rfl) ?_
            refine LS.nil ?_
            refine W.ret ?_
            refine thenP_ret ?_
            refine ret1 (by first | exact .inl rfl | exact .inr rfl) rfl ?_
            first | exact ⟨rfl, hB⟩ | (exfalso; omega)
          ·
            have hlen : xs.length = bs.length := by omega
            refine W.skip ?_
            refine thenP_normal ?_
            refine W.seqR ?_
            refine LS.vv rfl rfl (by decide) (Val.assign rfl) ?_
            refine LS.nil ?_
            refine W.seq ?_
            refine W.seqR ?_
            refine LS.vv rfl rfl (by decide) (Val.cast (v := .int .i64 ((0 : Nat) : Int)) (Val.assign rfl) rfl) ?_
            refine LS.nil ?_
            refine W.block ?_
            refine W.loop (α := Nat × Option Addr × Nat) (fun g => [(13, .slice g.2.1 g.1 g.2.2), (14, .int .i64 (g.1 : Int))]) [(0, _), (1, _), (2, _), (7, _), (9, _)] (fun g w => (g.1 ≤ xs.length ∧ Own w w0.heap.size 4 g.2.1 g.1 g.2.2 (bv (difTo xs bs g.1))) ∧ Below w0.heap.size w0 w) (fun g => xs.length - g.1) ((0, none, 0)) (Sub.cons rfl (Sub.cons rfl (Sub.nil _))) (Sub.cons rfl (Sub.cons rfl (Sub.cons rfl (Sub.cons rfl (Sub.cons rfl (Sub.nil _)))))) ?_ ?_
            · exact ⟨⟨Nat.zero_le _, Own.nil _ _ _⟩, hB⟩
            rintro ⟨k, p1, c1⟩ w13 ⟨⟨hk, hO⟩, hB⟩
            simp only [List.cons_append, List.nil_append]
            simp only at hk hO
            refine W.seq ?_
            refine W.seqR ?_
            refine LS.vv rfl rfl (by decide) (Val.move rfl) ?_
            refine LS.vv rfl rfl (by decide) (Val.move rfl) ?_
            refine LS.vv rfl rfl (by decide) (Val.len Try.underlying23 rfl) ?_
            refine LS.vv rfl rfl (by decide) (Val.lss rfl rfl) ?_
            refine LS.nil ?_
            first | refine W.condD rfl (fun hc10 => ?_) (fun hc10 => ?_) | refine W.cond rfl (fun hc10 => ?_) (fun hc10 => ?_)
            ·
              refine W.skip ?_
              refine thenP_normal ?_
              refine W.seq ?_
              refine W.block ?_
              refine W.regD (S := fun w => Below w0.heap.size w0 w) [(0, true), (1, true), (2, true), (3, true), (4, true), (5, true), (6, true), (7, true), (8, true), (9, true), (10, false), (11, false), (12, true)] mixed (by kernel_rfl) hB.drew ?_
              replace hB := hB.drew
              refine DX.vv rfl rfl rfl (by decide) (Val.move rfl) ?_
              refine DX.vv rfl rfl rfl (by decide) (Val.move rfl) ?_
              refine DX.vv rfl rfl rfl (by decide) (Val.move rfl) ?_
              refine DX.vv rfl rfl rfl (by decide) (Val.index1 Try.underlying23 elem4 rfl rfl (by omega) hr1 (bv_lt (by omega))) ?_
              refine DX.vv rfl rfl rfl (by decide) (Val.load flat4 rfl (fun _ h => hr1.below h) (bv_at (by omega))) ?_
              refine DX.vv rfl rfl rfl (by decide) (Val.move rfl) ?_
              refine DX.vv rfl rfl rfl (by decide) (Val.move rfl) ?_
              refine DX.vv rfl rfl rfl (by decide) (Val.index1 Try.underlying23 elem4 rfl rfl (by omega) hr2 (bv_lt (by omega))) ?_
              refine DX.vv rfl rfl rfl (by decide) (Val.load flat4 rfl (fun _ h => hr2.below h) (bv_at (by omega))) ?_
              refine DX.vv rfl rfl rfl (by decide) (Val.neqB Try.underlying4 rfl rfl) ?_
              refine DX.m rfl rfl (Step.lit (B := w0.heap.size) rfl rfl (by decide) Try.underlying23 elem4 rfl rfl (by omega) (by simp [Value.oneCell']) hB.size ?_)
              rintro w14 hO14 hg14 hbl14 hsz14
              replace hB := hB.trans (hbl14.mono hB.size)
              refine ⟨hB, ?_⟩
              replace hO := hO.drew.below hbl14
              refine DX.m rfl rfl (Step.append (B := w0.heap.size) rfl rfl (by decide) Try.underlying23 elem4 rfl rfl rfl rfl (hO) (hO14.rd) (rfl) ((by simp [Value.oneCell'])) (by omega) (by omega) hB.size ?_)
              rintro p15 c15 w15 hO15 hg15 hbl15
              replace hB := hB.trans hbl15
              refine ⟨hB, ?_⟩
              refine DX.vv rfl rfl rfl (by decide) (Val.assign rfl) ?_
              refine DX.nil ?_
              refine inBlk_normal ?_
              refine thenP_normal ?_
              refine W.reg ?_
              refine LS.vv rfl rfl (by decide) (Val.move rfl) ?_
              first | refine LS.vv rfl rfl (by decide) (Val.addN (j := 1) rfl rfl (by omega)) ?_ | refine LS.vv rfl rfl (by decide) (Val.add64 rfl rfl (by omega)) ?_
              refine LS.vv rfl rfl (by decide) (Val.assign rfl) ?_
              refine LS.nil ?_
              refine thenP_normal ?_
              refine ⟨(k + 1, p15, c15), ?_, ?_, ⟨⟨by simp only; omega, ?_⟩, hB⟩, by simp only; omega⟩
              · exact Sub.cons rfl (Sub.cons rfl (Sub.nil _))
              · repeat (first | exact Sub.nil _ | refine Sub.cons rfl ?_)
              · simp only [difTo_succ, bv, List.map_append]; exact hO15
            ·
              obtain rfl : k = xs.length := by omega
              refine W.exit ?_
              refine thenP_exit ?_
              refine thenP_exit ?_
              refine inBlk_exit ?_
              refine thenP_normal ?_
              refine W.seqR ?_
              refine LS.vv rfl rfl (by decide) (Val.move rfl) ?_
              refine LS.vv rfl rfl (by decide) (Val.move rfl) ?_
              have hzl2 := difTo_len xs bs xs.length
              have hrd := hO.rd
              refine LS.m rfl (Step.call body15 rfl rfl (by decide) rfl (CallsV.mono (Rest_len g (difTo xs bs xs.length) _ _ _ _ hrd hg (difTo_len xs bs xs.length)) ?_))
              rintro _ w16 ⟨zz, hh2, rfl, hhe, hzz, hzzl, hb16⟩
              replace hB := hB.trans (hb16.mono hB.size)
              have hH2 : hh2 = 0 := hhe.2 ⟨hG, by omega⟩
              obtain rfl := hzz hH2
              have hxor : restOf g (bitLen g - 1) (difTo xs bs xs.length) = restOf g (bitLen g - 1) xs ^^^ restOf g (bitLen g - 1) bs := by (unfold restOf; rw [hzl2, ‹xs.length = bs.length›]; exact rest_xor hdg (fun j hj => difTo_get xs bs _ j hj) _ (Nat.le_refl _))
              refine LS.vv rfl rfl (by decide) (Val.move rfl) ?_
              refine LS.vv rfl rfl (by decide) (Val.extract rfl rfl) ?_
              refine LS.vv rfl rfl (by decide) (Val.extract rfl rfl) ?_
              refine LS.vv rfl rfl (by decide) (Val.assign rfl) ?_
              refine LS.vv rfl rfl (by decide) (Val.assign rfl) ?_
              refine LS.nil ?_
              refine W.seqR ?_
              refine LS.vv rfl rfl (by decide) (Val.move rfl) ?_
              refine LS.vv rfl rfl (by decide) (Val.cast (v := .bool true) (Val.eql rfl rfl) (by simp; omega)) ?_
              refine LS.vv rfl rfl (by decide) (Val.move rfl) ?_
              refine LS.vg rfl rfl rfl rfl (by decide) (Val.move rfl) ?_
              refine LS.vg rfl rfl rfl rfl (by decide) (Val.move rfl) ?_
              refine LS.vg rfl rfl rfl rfl (by decide) (Val.move rfl) ?_
              refine LS.vg rfl rfl rfl rfl (by decide) (Val.xorU32 rfl rfl (by omega) (by omega)) ?_
              refine LS.vg rfl rfl rfl rfl (by decide) (Val.cast (v := .bool true) (Val.eql rfl rfl) (by exact congrArg Value.bool (decide_eq_true (by rw [hxor])))) ?_
              refine LS.vv rfl rfl (by decide) (Val.pickT rfl rfl rfl) ?_
              refine LS.vv rfl rfl (by decide) (Val.assign rfl) ?_
              refine LS.nil ?_
              refine W.ret ?_
              refine ret1 (by first | exact .inl rfl | exact .inr rfl) rfl ?_
              first | exact ⟨rfl, hB⟩ | (exfalso; omega)
      ·
        first | (have hg5p := of_decide_eq_false hg5) | skip
        refine LS.s rfl rfl rfl hg5 (by decide) ?_
        refine LS.s rfl rfl rfl hg5 (by decide) ?_
        refine LS.vv rfl rfl (by decide) (Val.pickF rfl hg5 rfl) ?_
        refine LS.vv rfl rfl (by decide) (Val.move rfl) ?_
        refine LS.s rfl rfl rfl rfl (by decide) ?_
        refine LS.s rfl rfl rfl rfl (by decide) ?_
        refine LS.vv rfl rfl (by decide) (Val.pickF rfl rfl rfl) ?_
        refine LS.nil ?_
        refine W.condF rfl ?_
        refine W.skip ?_
        refine thenP_normal ?_
        refine W.seq ?_
        refine W.seqR ?_
        refine LS.vv rfl rfl (by decide) (Val.move rfl) ?_
        refine LS.vv rfl rfl (by decide) (Val.len Try.underlying23 rfl) ?_
        refine LS.vv rfl rfl (by decide) (Val.move rfl) ?_
        refine LS.vv rfl rfl (by decide) (Val.len Try.underlying23 rfl) ?_
        refine LS.vv rfl rfl (by decide) (Val.neq rfl rfl) ?_
        refine LS.nil ?_
        first | refine W.condD rfl (fun hc11 => ?_) (fun hc11 => ?_) | refine W.cond rfl (fun hc11 => ?_) (fun hc11 => ?_)
        ·
          refine W.seqR ?_
          refine LS.vv rfl rfl (by decide) (Val.assign rfl) ?_
          refine LS.nil ?_
          refine W.ret ?_
          refine thenP_ret ?_
          refine ret1 (by first | exact .inl rfl | exact .inr rfl) rfl ?_
          first | exact ⟨rfl, hB⟩ | (exfalso; omega)
        ·
          have hlen : xs.length = bs.length := by omega
          refine W.skip ?_
          refine thenP_normal ?_
          refine W.seqR ?_
          refine LS.vv rfl rfl (by decide) (Val.assign rfl) ?_
          refine LS.nil ?_
          refine W.seq ?_
          refine W.seqR ?_
          refine LS.vv rfl rfl (by decide) (Val.cast (v := .int .i64 ((0 : Nat) : Int)) (Val.assign rfl) rfl) ?_
          refine LS.nil ?_
          refine W.block ?_
          refine W.loop (α := Nat × Option Addr × Nat) (fun g => [(13, .slice g.2.1 g.1 g.2.2), (14, .int .i64 (g.1 : Int))]) [(0, _), (1, _), (2, _), (7, _), (9, _)] (fun g w => (g.1 ≤ xs.length ∧ Own w w0.heap.size 4 g.2.1 g.1 g.2.2 (bv (difTo xs bs g.1))) ∧ Below w0.heap.size w0 w) (fun g => xs.length - g.1) ((0, none, 0)) (Sub.cons rfl (Sub.cons rfl (Sub.nil _))) (Sub.cons rfl (Sub.cons rfl (Sub.cons rfl (Sub.cons rfl (Sub.cons rfl (Sub.nil _)))))) ?_ ?_
          · exact ⟨⟨Nat.zero_le _, Own.nil _ _ _⟩, hB⟩
          rintro ⟨k, p1, c1⟩ w17 ⟨⟨hk, hO⟩, hB⟩
          simp only [List.cons_append, List.nil_append]
          simp only at hk hO
          refine W.seq ?_
          refine W.seqR ?_
          refine LS.vv rfl rfl (by decide) (Val.move rfl) ?_
          refine LS.vv rfl rfl (by decide) (Val.move rfl) ?_
          refine LS.vv rfl rfl (by decide) (Val.len Try.underlying23 rfl) ?_
          refine LS.vv rfl rfl (by decide) (Val.lss rfl rfl) ?_
          refine LS.nil ?_
          first | refine W.condD rfl (fun hc12 => ?_) (fun hc12 => ?_) | refine W.cond rfl (fun hc12 => ?_) (fun hc12 => ?_)
          ·
            refine W.skip ?_
            refine thenP_normal ?_
            refine W.seq ?_
            refine W.block ?_
            refine W.regD (S := fun w => Below w0.heap.size w0 w) [(0, true), (1, true), (2, true), (3, true), (4, true), (5, true), (6, true), (7, true), (8, true), (9, true), (10, false), (11, false), (12, true)] mixed (by kernel_rfl) hB.drew ?_
            replace hB := hB.drew
            refine DX.vv rfl rfl rfl (by decide) (Val.move rfl) ?_
            refine DX.vv rfl rfl rfl (by decide) (Val.move rfl) ?_
            refine DX.vv rfl rfl rfl (by decide) (Val.move rfl) ?_
            refine DX.vv rfl rfl rfl (by decide) (Val.index1 Try.underlying23 elem4 rfl rfl (by omega) hr1 (bv_lt (by omega))) ?_
            refine DX.vv rfl rfl rfl (by decide) (Val.load flat4 rfl (fun _ h => hr1.below h) (bv_at (by omega))) ?_
            refine DX.vv rfl rfl rfl (by decide) (Val.move rfl) ?_
            refine DX.vv rfl rfl rfl (by decide) (Val.move rfl) ?_
            refine DX.vv rfl rfl rfl (by decide) (Val.index1 Try.underlying23 elem4 rfl rfl (by omega) hr2 (bv_lt (by omega))) ?_
            refine DX.vv rfl rfl rfl (by decide) (Val.load flat4 rfl (fun _ h => hr2.below h) (bv_at (by omega))) ?_
            refine DX.vv rfl rfl rfl (by decide) (Val.neqB Try.underlying4 rfl rfl) ?_
            refine DX.m rfl rfl (Step.lit (B := w0.heap.size) rfl rfl (by decide) Try.underlying23 elem4 rfl rfl (by omega) (by simp [Value.oneCell']) hB.size ?_)
            rintro w18 hO18 hg18 hbl18 hsz18
            replace hB := hB.trans (hbl18.mono hB.size)
            refine ⟨hB, ?_⟩
            replace hO := hO.drew.below hbl18
            refine DX.m rfl rfl (Step.append (B := w0.heap.size) rfl rfl (by decide) Try.underlying23 elem4 rfl rfl rfl rfl (hO) (hO18.rd) (rfl) ((by simp [Value.oneCell'])) (by omega) (by omega) hB.size ?_)
            rintro p19 c19 w19 hO19 hg19 hbl19
            replace hB := hB.trans hbl19
            refine ⟨hB, ?_⟩
            refine DX.vv rfl rfl rfl (by decide) (Val.assign rfl) ?_
            refine DX.nil ?_
            refine inBlk_normal ?_
            refine thenP_normal ?_
            refine W.reg ?_
            refine LS.vv rfl rfl (by decide) (Val.move rfl) ?_
            first | refine LS.vv rfl rfl (by decide) (Val.addN (j := 1) rfl rfl (by omega)) ?_ | refine LS.vv rfl rfl (by decide) (Val.add64 rfl rfl (by omega)) ?_
            refine LS.vv rfl rfl (by decide) (Val.assign rfl) ?_
            refine LS.nil ?_
            refine thenP_normal ?_
            refine ⟨(k + 1, p19, c19), ?_, ?_, ⟨⟨by simp only; omega, ?_⟩, hB⟩, by simp only; omega⟩
            · exact Sub.cons rfl (Sub.cons rfl (Sub.nil _))
            · repeat (first | exact Sub.nil _ | refine Sub.cons rfl ?_)
            · simp only [difTo_succ, bv, List.map_append]; exact hO19
          ·
            obtain rfl : k = xs.length := by omega
            refine W.exit ?_
            refine thenP_exit ?_
            refine thenP_exit ?_
            refine inBlk_exit ?_
            refine thenP_normal ?_
            refine W.seqR ?_
            refine LS.vv rfl rfl (by decide) (Val.move rfl) ?_
            refine LS.vv rfl rfl (by decide) (Val.move rfl) ?_
            have hzl2 := difTo_len xs bs xs.length
            have hrd := hO.rd
            refine LS.m rfl (Step.call body15 rfl rfl (by decide) rfl (CallsV.mono (Rest_len g (difTo xs bs xs.length) _ _ _ _ hrd hg (difTo_len xs bs xs.length)) ?_))
            rintro _ w20 ⟨zz, hh2, rfl, hhe, hzz, hzzl, hb20⟩
            replace hB := hB.trans (hb20.mono hB.size)
            have hH2 : hh2 = 0 := hhe.2 ⟨hG, by omega⟩
            obtain rfl := hzz hH2
            have hxor : restOf g (bitLen g - 1) (difTo xs bs xs.length) = restOf g (bitLen g - 1) xs ^^^ restOf g (bitLen g - 1) bs := by (unfold restOf; rw [hzl2, ‹xs.length = bs.length›]; exact rest_xor hdg (fun j hj => difTo_get xs bs _ j hj) _ (Nat.le_refl _))
            refine LS.vv rfl rfl (by decide) (Val.move rfl) ?_
            refine LS.vv rfl rfl (by decide) (Val.extract rfl rfl) ?_
            refine LS.vv rfl rfl (by decide) (Val.extract rfl rfl) ?_
            refine LS.vv rfl rfl (by decide) (Val.assign rfl) ?_
            refine LS.vv rfl rfl (by decide) (Val.assign rfl) ?_
            refine LS.nil ?_
            refine W.seqR ?_
            refine LS.vv rfl rfl (by decide) (Val.move rfl) ?_
            refine LS.vv rfl rfl (by decide) (Val.cast (v := .bool true) (Val.eql rfl rfl) (by simp; omega)) ?_
            refine LS.vv rfl rfl (by decide) (Val.move rfl) ?_
            refine LS.vg rfl rfl rfl rfl (by decide) (Val.move rfl) ?_
            refine LS.vg rfl rfl rfl rfl (by decide) (Val.move rfl) ?_
            refine LS.vg rfl rfl rfl rfl (by decide) (Val.move rfl) ?_
            refine LS.vg rfl rfl rfl rfl (by decide) (Val.xorU32 rfl rfl (by omega) (by omega)) ?_
            refine LS.vg rfl rfl rfl rfl (by decide) (Val.cast (v := .bool true) (Val.eql rfl rfl) (by exact congrArg Value.bool (decide_eq_true (by rw [hxor])))) ?_
            refine LS.vv rfl rfl (by decide) (Val.pickT rfl rfl rfl) ?_
            refine LS.vv rfl rfl (by decide) (Val.assign rfl) ?_
            refine LS.nil ?_
            refine W.ret ?_
            refine ret1 (by first | exact .inl rfl | exact .inr rfl) rfl ?_
            first | exact ⟨rfl, hB⟩ | (exfalso; omega)

end Go.Proofs.Ytbbmgcmibgdkiaa
