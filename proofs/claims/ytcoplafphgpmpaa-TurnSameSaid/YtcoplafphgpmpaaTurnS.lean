/-
  The statement TurnSame.
-/
import Derived.Test.YtcoplafphgpmpaaTurn1
import Derived.Test.YtcoplafphgpmpaaRefsY
namespace Go.Proofs.Ytcoplafphgpmpaa
open Go Go.RowKit V
set_option linter.unusedVariables false
set_option linter.unusedSimpArgs false

theorem sameL_any (t : List Nat) (p : Option Addr) (c k : Nat) (w0 : World) (hr : Rd w0 p (yv t)) (h256 : ∀ x ∈ t, x < 256) (hk : k < 256) (hmx : t.length ≤ 9223372036854775807) (hcap : t.length ≤ c) :
    CallsV Try.prog 6 #[.slice p t.length c, .int .u8 (k : Int)] w0 (fun v w => v = .bool true ∧ Below w0.heap.size w0 w) := by
  refine enter1 Try.func6 rfl Try.ntmps6 (by simp) rfl ?_
  have hB := Below.refl w0.heap.size w0
  simp only [argLoc, Nat.zero_add]
  have hM := Mem.nil w0 w0.heap.size
  refine W.seqR ?_
  refine LS.vv rfl rfl (by decide) (Val.assign rfl) ?_
  refine LS.nil ?_
  refine W.seqR ?_
  refine LS.vv rfl rfl (by decide) (Val.move rfl) ?_
  refine LS.m rfl (Step.call body19 rfl rfl (by decide) rfl (CallsV.mono (turn_any t _ _ _ _ (hr.below hB) rfl h256 hmx) ?_))
  rintro _ w1 ⟨p1, c1, l, a, e, rfl, hO1, he, hT, hb1⟩
  replace hM := hM.add hB.size hb1 hO1
  replace hB := hB.trans (hb1.mono hB.size)
  refine LS.vv rfl rfl (by decide) (Val.move rfl) ?_
  refine LS.vv rfl rfl (by decide) (Val.extract rfl rfl) ?_
  refine LS.vv rfl rfl (by decide) (Val.extract rfl rfl) ?_
  refine LS.vv rfl rfl (by decide) (Val.extract rfl rfl) ?_
  refine LS.vv rfl rfl (by decide) (Val.assign rfl) ?_
  refine LS.vv rfl rfl (by decide) (Val.assign rfl) ?_
  refine LS.vv rfl rfl (by decide) (Val.assign rfl) ?_
  refine LS.nil ?_
  refine W.seq ?_
  refine W.seqR ?_
  refine LS.vv rfl rfl (by decide) (Val.move rfl) ?_
  refine LS.vv rfl rfl (by decide) (Val.len Try.underlying22 rfl) ?_
  refine LS.vv rfl rfl (by decide) (Val.gtr rfl rfl) ?_
  refine LS.nil ?_
  first | refine W.condD rfl (fun hc1 => ?_) (fun hc1 => ?_) | refine W.cond rfl (fun hc1 => ?_) (fun hc1 => ?_)
  ·
    refine W.seqR ?_
    refine LS.vv rfl rfl (by decide) (Val.move rfl) ?_
    refine LS.vv rfl rfl (by decide) (Val.cast (v := .bool true) (Val.neq rfl rfl) (by refine congrArg Value.bool (decide_eq_true ?_); omega)) ?_
    refine LS.vv rfl rfl (by decide) (Val.assign rfl) ?_
    refine LS.nil ?_
    refine W.ret ?_
    refine thenP_ret ?_
    refine ret1 (by first | exact .inl rfl | exact .inr rfl) rfl ?_
    first | exact ⟨rfl, hB⟩ | contradiction | (exfalso; omega)
  ·
    refine W.skip ?_
    refine thenP_normal ?_
    refine W.seq ?_
    refine W.seqR ?_
    refine LS.vv rfl rfl (by decide) (Val.move rfl) ?_
    refine LS.vv rfl rfl (by decide) (Val.len Try.underlying22 rfl) ?_
    refine LS.vv rfl rfl (by decide) (Val.eql rfl rfl) ?_
    refine LS.nil ?_
    first | refine W.condD rfl (fun hc2 => ?_) (fun hc2 => ?_) | refine W.cond rfl (fun hc2 => ?_) (fun hc2 => ?_)
    ·
      refine W.seqR ?_
      refine LS.vv rfl rfl (by decide) (Val.move rfl) ?_
      have h64 : t.length ≤ 64 := by omega
      have he0 : e = 0 := he.2 h64
      have hTl := (hT he0).len
      refine LS.vv rfl rfl (by decide) (Val.cast (v := .bool true) (Val.eql rfl rfl) (by refine congrArg Value.bool (decide_eq_true ?_); omega)) ?_
      refine LS.vv rfl rfl (by decide) (Val.move rfl) ?_
      refine LS.vg rfl rfl rfl rfl (by decide) (Val.move rfl) ?_
      refine LS.vg rfl rfl rfl rfl (by decide) (Val.len Try.underlying22 rfl) ?_
      refine LS.vg rfl rfl rfl rfl (by decide) (Val.cast (v := .bool true) (Val.eql rfl rfl) (by refine congrArg Value.bool (decide_eq_true ?_); omega)) ?_
      refine LS.vv rfl rfl (by decide) (Val.pickT rfl rfl rfl) ?_
      refine LS.vv rfl rfl (by decide) (Val.assign rfl) ?_
      refine LS.nil ?_
      refine W.ret ?_
      refine thenP_ret ?_
      refine ret1 (by first | exact .inl rfl | exact .inr rfl) rfl ?_
      first | exact ⟨rfl, hB⟩ | contradiction | (exfalso; omega)
    ·
      refine W.skip ?_
      refine thenP_normal ?_
      refine W.seqR ?_
      refine LS.vv rfl rfl (by decide) (Val.move rfl) ?_
      refine LS.vv rfl rfl (by decide) (Val.conv rfl Try.underlying5 Try.underlying3 (IntWalk.i64_in _ (by omega))) ?_
      refine LS.vv rfl rfl (by decide) (Val.move rfl) ?_
      refine LS.vv rfl rfl (by decide) (Val.len Try.underlying22 rfl) ?_
      have h64 : t.length ≤ 64 := by omega
      have he0 : e = 0 := he.2 h64
      have hTT := hT he0
      have hTl := hTT.len
      have hkm := Nat.mod_lt k (show 0 < t.length by omega)
      first | refine LS.vv rfl rfl (by decide) (Val.remN rfl rfl (by omega)) ?_ | refine LS.vv rfl rfl (by decide) (Val.rem rfl rfl (by omega) (by omega)) ?_ | refine LS.vv rfl rfl (by decide) (Val.remT rfl rfl (by omega)) ?_
      refine LS.vv rfl rfl (by decide) (Val.assign rfl) ?_
      refine LS.nil ?_
      refine W.seqD (S := fun w => Below w0.heap.size w0 w) [(1, true), (2, true), (3, true), (5, true), (6, true), (7, true), (0, false), (4, false), (8, false), (9, false), (10, true), (11, true), (12, true), (13, true), (14, true), (15, true), (16, true)] mixed (by kernel_rfl) hB.drew ?_
      replace hB := hB.drew
      replace hM := hM.drew
      refine DX.vv rfl rfl rfl (by decide) (Val.move rfl) ?_
      refine DX.vv rfl rfl rfl (by decide) (Val.move rfl) ?_
      refine DX.vv rfl rfl rfl (by decide) (Val.sliceFrom Try.underlying22 elem5 rfl rfl (by omega) (by omega)) ?_
      refine DX.vv rfl rfl rfl (by decide) (Val.move rfl) ?_
      refine DX.vv rfl rfl rfl (by decide) (Val.move rfl) ?_
      refine DX.vv rfl rfl rfl (by decide) (Val.sliceTo Try.underlying22 elem5 rfl rfl (by omega)) ?_
      refine DX.m rfl rfl (Step.lit rfl rfl (by decide) Try.underlying22 elem5 rfl rfl (by omega) (by simp [Value.oneCell']) (Nat.le_refl _) ?_)
      rintro w2 hO2 hg2 hbl2 hsz2
      replace hM := hM.add hB.size hbl2 hO2
      try simp only [yv_app1, yv_app, yv_set, yv_rep, yv_one, yv_cons, yv_take, yv_drop, List.nil_append] at hM
      replace hB := hB.trans (hbl2.mono hB.size)
      generalize w1.drew.heap.size = gg2 at *
      refine ⟨hB, ?_⟩
      refine DX.m rfl rfl (Step.append2 (B := w0.heap.size) rfl rfl (by decide) Try.underlying22 elem5 rfl rfl rfl rfl (hM.o0) ((hr.below hB).cut_yv hcap) (by first | rfl | (simp; done) | (simp; omega)) (by first | exact one_map _ (fun _ => rfl) _ | simp [Value.oneCell']) (by omega) (by omega) hB.size ?_)
      rintro p3 c3 w3 hO3 hg3 hbl3 hbk3
      replace hM := hM.s0 hg3 hO3 hbk3
      try simp only [yv_app1, yv_app, yv_set, yv_rep, yv_one, yv_cons, yv_take, yv_drop, List.nil_append] at hM
      replace hB := hB.trans hbl3
      refine ⟨hB, ?_⟩
      refine DX.m rfl rfl (Step.append2 (B := w0.heap.size) rfl rfl (by decide) Try.underlying22 elem5 rfl rfl rfl rfl (hM.o0) (Rd.take_yv (k := k % t.length) (hr.below hB)) (by simp only [yv, List.length_map, List.length_take]; omega) (by first | exact one_map _ (fun _ => rfl) _ | simp [Value.oneCell']) (by omega) (by omega) hB.size ?_)
      rintro p4 c4 w4 hO4 hg4 hbl4 hbk4
      replace hM := hM.s0 hg4 hO4 hbk4
      try simp only [yv_app1, yv_app, yv_set, yv_rep, yv_one, yv_cons, yv_take, yv_drop, List.nil_append] at hM
      replace hB := hB.trans hbl4
      refine ⟨hB, ?_⟩
      refine DX.m rfl rfl (Step.call body19 rfl rfl (by decide) rfl (CallsV.mono (turn_any (rot t (k % t.length)) _ _ _ _ hM.o0.rd (by rw [rot_len (by omega)]; omega) (rot_256 h256 _) (by omega)) ?_))
      rintro _ w5 ⟨p3, c3, l3, a3, f, rfl, hO3, hf, hT3, hb5⟩
      replace hM := hM.add hB.size hb5 hO3
      replace hB := hB.trans (hb5.mono hB.size)
      have hf0 : f = 0 := hf.2 (by omega)
      obtain rfl := hTT.same h64 h256 (Nat.le_of_lt hkm) (hT3 hf0)
      refine ⟨hB, ?_⟩
      refine DX.vv rfl rfl rfl (by decide) (Val.move rfl) ?_
      refine DX.vv rfl rfl rfl (by decide) (Val.extract rfl rfl) ?_
      refine DX.vv rfl rfl rfl (by decide) (Val.extract rfl rfl) ?_
      refine DX.vv rfl rfl rfl (by decide) (Val.extract rfl rfl) ?_
      refine DX.vv rfl rfl rfl (by decide) (Val.assign rfl) ?_
      refine DX.vv rfl rfl rfl (by decide) (Val.assign rfl) ?_
      refine DX.vv rfl rfl rfl (by decide) (Val.assign rfl) ?_
      refine DX.nil ?_
      refine W.seq ?_
      refine W.seqR ?_
      refine LS.vv rfl rfl (by decide) (Val.move rfl) ?_
      refine LS.vv rfl rfl (by decide) (Val.cast (v := .bool false) (Val.neq rfl rfl) (by first | rfl | (refine congrArg Value.bool (decide_eq_false ?_); omega))) ?_
      refine LS.vv rfl rfl (by decide) (Val.move rfl) ?_
      refine LS.vg rfl rfl rfl rfl (by decide) (Val.move rfl) ?_
      refine LS.vg rfl rfl rfl rfl (by decide) (Val.cast (v := .bool false) (Val.neq rfl rfl) (by first | rfl | (refine congrArg Value.bool (decide_eq_false ?_); omega))) ?_
      refine LS.vv rfl rfl (by decide) (Val.pickF rfl rfl rfl) ?_
      refine LS.vv rfl rfl (by decide) (Val.move rfl) ?_
      refine LS.vg rfl rfl rfl rfl (by decide) (Val.move rfl) ?_
      refine LS.vg rfl rfl rfl rfl (by decide) (Val.move rfl) ?_
      refine LS.mg rfl rfl rfl (Step.call body16 rfl rfl (by decide) rfl (CallsV.mono (bytesEq_any l l _ _ _ _ _ hM.o2.rd hM.o0.rd (by omega)) ?_))
      rintro _ w6 ⟨rfl, hb6⟩
      replace hM := hM.below hb6
      replace hB := hB.trans (hb6.mono hB.size)
      rw [show decide (l = l) = true from by simp]
      refine LS.vg rfl rfl rfl rfl (by decide) (Val.cast (v := .bool false) (Val.not rfl) (by rfl)) ?_
      refine LS.vv rfl rfl (by decide) (Val.pickF rfl rfl rfl) ?_
      refine LS.vv rfl rfl (by decide) (Val.move rfl) ?_
      refine LS.vg rfl rfl rfl rfl (by decide) (Val.move rfl) ?_
      refine LS.vg rfl rfl rfl rfl (by decide) (Val.len Try.underlying22 rfl) ?_
      refine LS.vg rfl rfl rfl rfl (by decide) (Val.move rfl) ?_
      refine LS.vg rfl rfl rfl rfl (by decide) (Val.len Try.underlying22 rfl) ?_
      refine LS.vg rfl rfl rfl rfl (by decide) (Val.cast (v := .bool false) (Val.neq rfl rfl) (by first | rfl | (refine congrArg Value.bool (decide_eq_false ?_); omega))) ?_
      refine LS.vv rfl rfl (by decide) (Val.pickF rfl rfl rfl) ?_
      refine LS.nil ?_
      refine W.condF rfl ?_
      refine W.skip ?_
      refine thenP_normal ?_
      refine W.seq ?_
      refine W.seqR ?_
      refine LS.vv rfl rfl (by decide) (Val.move rfl) ?_
      refine LS.vv rfl rfl (by decide) (Val.len Try.underlying22 rfl) ?_
      refine LS.vv rfl rfl (by decide) (Val.cast (v := .int .i64 ((0 : Nat) : Int)) (Val.move rfl) rfl) ?_
      refine LS.nil ?_
      refine W.block ?_
      replace hM := hM.er1.er0
      refine W.loop (α := Nat) (fun q => [(78, .int .i64 (q : Int))]) [(0, _), (5, _), (76, _), (77, _)] (fun q w => (q ≤ t.length) ∧ Mem w w0.heap.size [⟨5, p1, l.length, c1, yv l⟩] ∧ Below w0.heap.size w0 w) (fun q => t.length - q) (0) (Sub.cons rfl (Sub.nil _)) (Sub.cons rfl (Sub.cons rfl (Sub.cons rfl (Sub.cons rfl (Sub.nil _))))) ?_ ?_
      · exact ⟨Nat.zero_le _, hM, hB⟩
      rintro q w7 ⟨hq, hM, hB⟩
      try simp only at hM
      simp only [List.cons_append, List.nil_append]
      refine W.seqR ?_
      refine LS.vv rfl rfl (by decide) (Val.lss rfl rfl) ?_
      refine LS.nil ?_
      refine W.seq ?_
      first | refine W.condD rfl (fun hc3 => ?_) (fun hc3 => ?_) | refine W.cond rfl (fun hc3 => ?_) (fun hc3 => ?_)
      ·
        refine W.skip ?_
        refine thenP_normal ?_
        refine W.seq ?_
        refine W.block ?_
        refine W.seqR ?_
        refine LS.vv rfl rfl (by decide) (Val.index1 Try.underlying22 elem5 rfl rfl (by omega) ((hr.below hB)) (yv_lt (by omega))) ?_
        refine LS.m rfl (Step.load rfl rfl (by decide) flat5 rfl ((hr.below hB)) (yv_at (by omega)) ?_)
        refine LS.vv rfl rfl (by decide) (Val.assign rfl) ?_
        refine LS.nil ?_
        refine W.seqR ?_
        refine LS.vv rfl rfl (by decide) (Val.cast (v := .int .i64 ((0 : Nat) : Int)) (Val.assign rfl) rfl) ?_
        refine LS.nil ?_
        refine W.seqR ?_
        refine LS.vv rfl rfl (by decide) (Val.cast (v := .int .i64 ((0 : Nat) : Int)) (Val.assign rfl) rfl) ?_
        refine LS.nil ?_
        refine W.seq ?_
        refine W.seqR ?_
        refine LS.vv rfl rfl (by decide) (Val.cast (v := .int .i64 ((0 : Nat) : Int)) (Val.assign rfl) rfl) ?_
        refine LS.nil ?_
        refine W.block ?_
        refine W.loop (α := Nat) (fun j => [(14, .int .i64 (cntB t (gn t q) j : Int)), (15, .int .i64 (cntB l (gn t q) j : Int)), (16, .int .i64 (j : Int))]) [(0, _), (5, _), (13, _), (76, _), (77, _), (78, _)] (fun j w => (j ≤ t.length) ∧ Mem w w0.heap.size [⟨5, p1, l.length, c1, yv l⟩] ∧ Below w0.heap.size w0 w) (fun j => t.length - j) (0) (Sub.cons rfl (Sub.cons rfl (Sub.cons rfl (Sub.nil _)))) (Sub.cons rfl (Sub.cons rfl (Sub.cons rfl (Sub.cons rfl (Sub.cons rfl (Sub.cons rfl (Sub.nil _))))))) ?_ ?_
        · exact ⟨Nat.zero_le _, hM, hB⟩
        rintro j w8 ⟨hj, hM, hB⟩
        try simp only at hM
        simp only [List.cons_append, List.nil_append]
        have hc1 := cntB_le t (gn t q) j
        have hc2 := cntB_le l (gn t q) j
        have hs1 := cntB_succ t (gn t q) j
        have hs2 := cntB_succ l (gn t q) j
        refine W.seq ?_
        refine W.seqR ?_
        refine LS.vv rfl rfl (by decide) (Val.move rfl) ?_
        refine LS.vv rfl rfl (by decide) (Val.move rfl) ?_
        refine LS.vv rfl rfl (by decide) (Val.len Try.underlying22 rfl) ?_
        refine LS.vv rfl rfl (by decide) (Val.lss rfl rfl) ?_
        refine LS.nil ?_
        first | refine W.condD rfl (fun hc4 => ?_) (fun hc4 => ?_) | refine W.cond rfl (fun hc4 => ?_) (fun hc4 => ?_)
        ·
          refine W.skip ?_
          refine thenP_normal ?_
          refine W.seq ?_
          refine W.block ?_
          refine W.seq ?_
          refine W.seqR ?_
          refine LS.vv rfl rfl (by decide) (Val.move rfl) ?_
          refine LS.vv rfl rfl (by decide) (Val.move rfl) ?_
          refine LS.vv rfl rfl (by decide) (Val.index1 Try.underlying22 elem5 rfl rfl (by omega) ((hr.below hB)) (yv_lt (by omega))) ?_
          refine LS.m rfl (Step.load rfl rfl (by decide) flat5 rfl ((hr.below hB)) (yv_at (by omega)) ?_)
          refine LS.vv rfl rfl (by decide) (Val.move rfl) ?_
          refine LS.vv rfl rfl (by decide) (Val.eql rfl rfl) ?_
          refine LS.nil ?_
          first | refine W.condD rfl (fun hc5 => ?_) (fun hc5 => ?_) | refine W.cond rfl (fun hc5 => ?_) (fun hc5 => ?_)
          ·
            refine W.reg ?_
            refine LS.vv rfl rfl (by decide) (Val.move rfl) ?_
            first | refine LS.vv rfl rfl (by decide) (Val.addN (j := 1) rfl rfl (by omega)) ?_ | refine LS.vv rfl rfl (by decide) (Val.add64 rfl rfl (by omega)) ?_
            refine LS.vv rfl rfl (by decide) (Val.assign rfl) ?_
            refine LS.nil ?_
            refine thenP_normal ?_
            refine W.seqR ?_
            refine LS.vv rfl rfl (by decide) (Val.move rfl) ?_
            refine LS.vv rfl rfl (by decide) (Val.move rfl) ?_
            refine LS.vv rfl rfl (by decide) (Val.index1 Try.underlying22 elem5 rfl rfl (by omega) (hM.o0.rd) (yv_lt (by omega))) ?_
            refine LS.m rfl (Step.load rfl rfl (by decide) flat5 rfl (hM.o0.rd) (yv_at (by omega)) ?_)
            refine LS.vv rfl rfl (by decide) (Val.move rfl) ?_
            refine LS.vv rfl rfl (by decide) (Val.eql rfl rfl) ?_
            refine LS.nil ?_
            first | refine W.condD rfl (fun hc6 => ?_) (fun hc6 => ?_) | refine W.cond rfl (fun hc6 => ?_) (fun hc6 => ?_)
            ·
              refine W.reg ?_
              refine LS.vv rfl rfl (by decide) (Val.move rfl) ?_
              first | refine LS.vv rfl rfl (by decide) (Val.addN (j := 1) rfl rfl (by omega)) ?_ | refine LS.vv rfl rfl (by decide) (Val.add64 rfl rfl (by omega)) ?_
              refine LS.vv rfl rfl (by decide) (Val.assign rfl) ?_
              refine LS.nil ?_
              refine inBlk_normal ?_
              refine thenP_normal ?_
              refine W.reg ?_
              refine LS.vv rfl rfl (by decide) (Val.move rfl) ?_
              first | refine LS.vv rfl rfl (by decide) (Val.addN (j := 1) rfl rfl (by omega)) ?_ | refine LS.vv rfl rfl (by decide) (Val.add64 rfl rfl (by omega)) ?_
              refine LS.vv rfl rfl (by decide) (Val.assign rfl) ?_
              refine LS.nil ?_
              refine thenP_normal ?_
              refine ⟨j + 1, ?_, ?_, ⟨by omega, hM, hB⟩, by omega⟩
              · exact Sub.cons' rfl (by first | rw [hs1, if_pos (by omega)] | rw [hs1, if_neg (by omega)]; rfl) (Sub.cons' rfl (by first | rw [hs2, if_pos (by omega)] | rw [hs2, if_neg (by omega)]; rfl) (Sub.cons rfl (Sub.nil _)))
              · repeat (first | exact Sub.nil _ | refine Sub.cons rfl ?_)
            ·
              refine W.skip ?_
              refine inBlk_normal ?_
              refine thenP_normal ?_
              refine W.reg ?_
              refine LS.vv rfl rfl (by decide) (Val.move rfl) ?_
              first | refine LS.vv rfl rfl (by decide) (Val.addN (j := 1) rfl rfl (by omega)) ?_ | refine LS.vv rfl rfl (by decide) (Val.add64 rfl rfl (by omega)) ?_
              refine LS.vv rfl rfl (by decide) (Val.assign rfl) ?_
              refine LS.nil ?_
              refine thenP_normal ?_
              refine ⟨j + 1, ?_, ?_, ⟨by omega, hM, hB⟩, by omega⟩
              · exact Sub.cons' rfl (by first | rw [hs1, if_pos (by omega)] | rw [hs1, if_neg (by omega)]; rfl) (Sub.cons' rfl (by first | rw [hs2, if_pos (by omega)] | rw [hs2, if_neg (by omega)]; rfl) (Sub.cons rfl (Sub.nil _)))
              · repeat (first | exact Sub.nil _ | refine Sub.cons rfl ?_)
          ·
            refine W.skip ?_
            refine thenP_normal ?_
            refine W.seqR ?_
            refine LS.vv rfl rfl (by decide) (Val.move rfl) ?_
            refine LS.vv rfl rfl (by decide) (Val.move rfl) ?_
            refine LS.vv rfl rfl (by decide) (Val.index1 Try.underlying22 elem5 rfl rfl (by omega) (hM.o0.rd) (yv_lt (by omega))) ?_
            refine LS.m rfl (Step.load rfl rfl (by decide) flat5 rfl (hM.o0.rd) (yv_at (by omega)) ?_)
            refine LS.vv rfl rfl (by decide) (Val.move rfl) ?_
            refine LS.vv rfl rfl (by decide) (Val.eql rfl rfl) ?_
            refine LS.nil ?_
            first | refine W.condD rfl (fun hc7 => ?_) (fun hc7 => ?_) | refine W.cond rfl (fun hc7 => ?_) (fun hc7 => ?_)
            ·
              refine W.reg ?_
              refine LS.vv rfl rfl (by decide) (Val.move rfl) ?_
              first | refine LS.vv rfl rfl (by decide) (Val.addN (j := 1) rfl rfl (by omega)) ?_ | refine LS.vv rfl rfl (by decide) (Val.add64 rfl rfl (by omega)) ?_
              refine LS.vv rfl rfl (by decide) (Val.assign rfl) ?_
              refine LS.nil ?_
              refine inBlk_normal ?_
              refine thenP_normal ?_
              refine W.reg ?_
              refine LS.vv rfl rfl (by decide) (Val.move rfl) ?_
              first | refine LS.vv rfl rfl (by decide) (Val.addN (j := 1) rfl rfl (by omega)) ?_ | refine LS.vv rfl rfl (by decide) (Val.add64 rfl rfl (by omega)) ?_
              refine LS.vv rfl rfl (by decide) (Val.assign rfl) ?_
              refine LS.nil ?_
              refine thenP_normal ?_
              refine ⟨j + 1, ?_, ?_, ⟨by omega, hM, hB⟩, by omega⟩
              · exact Sub.cons' rfl (by first | rw [hs1, if_pos (by omega)] | rw [hs1, if_neg (by omega)]; rfl) (Sub.cons' rfl (by first | rw [hs2, if_pos (by omega)] | rw [hs2, if_neg (by omega)]; rfl) (Sub.cons rfl (Sub.nil _)))
              · repeat (first | exact Sub.nil _ | refine Sub.cons rfl ?_)
            ·
              refine W.skip ?_
              refine inBlk_normal ?_
              refine thenP_normal ?_
              refine W.reg ?_
              refine LS.vv rfl rfl (by decide) (Val.move rfl) ?_
              first | refine LS.vv rfl rfl (by decide) (Val.addN (j := 1) rfl rfl (by omega)) ?_ | refine LS.vv rfl rfl (by decide) (Val.add64 rfl rfl (by omega)) ?_
              refine LS.vv rfl rfl (by decide) (Val.assign rfl) ?_
              refine LS.nil ?_
              refine thenP_normal ?_
              refine ⟨j + 1, ?_, ?_, ⟨by omega, hM, hB⟩, by omega⟩
              · exact Sub.cons' rfl (by first | rw [hs1, if_pos (by omega)] | rw [hs1, if_neg (by omega)]; rfl) (Sub.cons' rfl (by first | rw [hs2, if_pos (by omega)] | rw [hs2, if_neg (by omega)]; rfl) (Sub.cons rfl (Sub.nil _)))
              · repeat (first | exact Sub.nil _ | refine Sub.cons rfl ?_)
        ·
          refine W.exit ?_
          refine thenP_exit ?_
          refine thenP_exit ?_
          refine inBlk_exit ?_
          refine thenP_normal ?_
          refine W.seqR ?_
          refine LS.vv rfl rfl (by decide) (Val.move rfl) ?_
          refine LS.vv rfl rfl (by decide) (Val.move rfl) ?_
          obtain rfl : j = t.length := by omega
          have hcp := cntB_perm (hTT.perm h256) (gn t q)
          rw [hTl] at hcp
          refine LS.vv rfl rfl (by decide) (Val.cast (v := .bool false) (Val.neq rfl rfl) (by refine congrArg Value.bool (decide_eq_false ?_); omega)) ?_
          refine LS.nil ?_
          refine W.condF rfl ?_
          refine W.skip ?_
          refine inBlk_normal ?_
          refine thenP_normal ?_
          refine W.reg ?_
          first | refine LS.vv rfl rfl (by decide) (Val.addN (j := 1) rfl rfl (by omega)) ?_ | refine LS.vv rfl rfl (by decide) (Val.add64 rfl rfl (by omega)) ?_
          refine LS.vv rfl rfl (by decide) (Val.move rfl) ?_
          refine LS.nil ?_
          refine thenP_normal ?_
          refine ⟨q + 1, ?_, ?_, ⟨by omega, hM, hB⟩, by omega⟩
          · exact (Sub.cons rfl (Sub.nil _))
          · repeat (first | exact Sub.nil _ | refine Sub.cons rfl ?_)
      ·
        refine W.exit ?_
        refine thenP_exit ?_
        refine thenP_exit ?_
        refine inBlk_exit ?_
        refine thenP_normal ?_
        refine W.seqR ?_
        refine LS.vv rfl rfl (by decide) (Val.assign rfl) ?_
        refine LS.nil ?_
        refine W.ret ?_
        refine ret1 (by first | exact .inl rfl | exact .inr rfl) rfl ?_
        first | exact ⟨rfl, hB⟩ | contradiction | (exfalso; omega)

end Go.Proofs.Ytcoplafphgpmpaa
