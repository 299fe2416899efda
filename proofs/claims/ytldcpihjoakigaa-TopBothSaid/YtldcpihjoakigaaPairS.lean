/-
  The pair of sites: step.
-/
import Derived.Test.YtldcpihjoakigaaPairA
namespace Go.Proofs.Ytldcpihjoakigaa
open Go Go.RowKit V
set_option linter.unusedVariables false
set_option linter.unusedSimpArgs false

theorem toX {w : World} {B : Nat} {x q0 q1 q2 q3 a b : Oz} {t0 t1 S : List Oz} (h : Mz w B (x :: q0 :: q1 :: q2 :: q3 :: a :: b :: (t0 ++ (t1 ++ S)))) : Mz w B (q0 :: q1 :: q2 :: q3 :: a :: b :: (t0 ++ (t1 ++ (x :: S)))) := by
  refine h.perm (List.Perm.symm ?_)
  refine (List.perm_append_comm_assoc [x] [q0, q1, q2, q3, a, b] (t0 ++ (t1 ++ S))).trans (List.Perm.append_left [q0, q1, q2, q3, a, b] ?_)
  exact (List.perm_append_comm_assoc [x] t0 (t1 ++ S)).trans ((List.perm_append_comm_assoc [x] t1 S).append_left t0)
theorem PI.drop {w : World} {B d : Nat} {q : PG} {s : PS} {x : Oz} {S : List Oz} (h : PI w B d q s (x :: S)) : PI w B d q s S := by
  obtain ⟨T0, T1, pw, cw, hM, r⟩ := h.ex
  refine ⟨T0, T1, pw, cw, hM.sub ?_, r⟩
  repeat apply List.Sublist.cons_cons
  exact List.Sublist.append (List.Sublist.refl _) (List.Sublist.append (List.Sublist.refl _) (List.sublist_cons_self _ _))

theorem step_any (d B : Nat) (q : PG) (s : PS) (S : List Oz) (w0 : World) (hI : PI w0 B d q s S) (hB0 : B ≤ w0.heap.size) (hk : PK d s) (x : St) (hxv : x.val < 256) :
    CallsV Try.prog 25 #[.pointer (some ⟨q.g, 0, none⟩), .agg #[.int .i64 x.kind, .int .i64 x.site, .int .i64 x.block, .int .u8 (x.val : Int)]] w0 (fun v w => v = .tuple #[.int .u8 ((pnew d s x).2.1 : Int), .int .i64 ((pnew d s x).2.2 : Int)] ∧ PI w B d q (pnew d s x).1 S ∧ Below B w0 w) := by
  refine enter2 Try.func25 rfl Try.ntmps25 (by simp) rfl ?_
  have hB := Below.refl B w0
  simp only [argLoc, Nat.zero_add]
  obtain ⟨T0, T1, pw, cw, hM, hD0, hT0, hD1, hT1⟩ := hI.ex
  have k1 := hk.put; have k2 := hk.got; have k3 := hk.sent; have k4 := hk.wr; have k5 := hk.main; have hd3 := hk.hd3; have hd6 := hk.hd6
  have hs0 : Shape d (dT T0) := by rw [hD0]; exact hk.sh0
  have hs1 : Shape d (dT T1) := by rw [hD1]; exact hk.sh1
  have hcw := hM.o1.le_cap
  refine W.seqR ?_
  refine LS.m rfl (Step.boxZ rfl rfl (by decide) rfl rfl ?_)
  rintro w1 hO1 hg1 hbl1 hsz1
  replace hM := hM.add (Nat.le_trans hB0 hB.size) hbl1 hO1
  try simp only [List.length_cons, List.length_nil, Nat.zero_add, Nat.reduceAdd, Value.cells, List.toList_toArray, List.append_nil, List.set_cons_zero, List.set_cons_succ] at hM
  replace hB := hB.trans (hbl1.mono (Nat.le_trans hB0 hB.size))
  skip
  refine LS.vv rfl rfl (by decide) (Val.cast (v := .int .u8 ((0 : Nat) : Int)) (Val.assign rfl) rfl) ?_
  refine LS.vv rfl rfl (by decide) (Val.cast (v := .int .i64 ((0 : Nat) : Int)) (Val.assign rfl) rfl) ?_
  refine LS.nil ?_
  refine W.seq ?_
  refine W.block ?_
  refine W.seqR ?_
  refine LS.vv rfl rfl (by decide) (Val.fieldAddr0 fld45_0 rfl) ?_
  refine LS.m rfl (Step.load rfl rfl (by decide) flat3 rfl (hM.o0.rd) (rfl) ?_)
  refine LS.vv rfl rfl (by decide) (Val.lss rfl rfl) ?_
  refine LS.vv rfl rfl (by decide) (Val.move rfl) ?_
  refine LS.split 3 rfl (fun hg1 => ?_) (fun hg1 => ?_)
  ·
    first | (have hg1p := of_decide_eq_true hg1) | skip
    refine LS.s rfl rfl rfl hg1 (by decide) ?_
    refine LS.s rfl rfl rfl hg1 (by decide) ?_
    refine LS.s rfl rfl rfl hg1 (by decide) ?_
    refine LS.vv rfl rfl (by decide) (Val.pickT rfl hg1 rfl) ?_
    refine LS.vv rfl rfl (by decide) (Val.assign rfl) ?_
    refine LS.nil ?_
    refine W.condT rfl ?_
    refine W.seqR ?_
    refine LS.vv rfl rfl (by decide) (Val.cast (v := .int .u8 ((0 : Nat) : Int)) (Val.assign rfl) rfl) ?_
    refine LS.vv rfl rfl (by decide) (Val.cast (v := .int .i64 ((6 : Nat) : Int)) (Val.assign rfl) rfl) ?_
    refine LS.nil ?_
    refine W.ret ?_
    refine inBlk_ret ?_
    refine thenP_ret ?_
    refine ret2 (by first | exact .inl rfl | exact .inr rfl) rfl rfl ?_
    replace hM := hM.er0
    first
      | (exfalso; omega)
      | (have e : pnew d s x = (s, 0, 6) := (by unfold pnew; rw [if_pos (by omega)]); rw [e]; exact ⟨rfl, ⟨T0, T1, pw, cw, hM, hD0, hT0, hD1, hT1⟩, hB⟩)
      | (have e : pnew d s x = ((pwr d s x).1, 0, (pwr d s x).2) := (by unfold pnew; rw [if_neg (by omega), if_pos (by omega)]); rw [e]; exact ⟨rfl, ⟨T0b, T1b, pwb, cwb, hM, hD0b, hT0b, hD1b, hT1b⟩, hB⟩)
      | (have e : pnew d s x = ((pch d s).1, 0, (pch d s).2) := (by unfold pnew; rw [if_neg (by omega), if_neg (by omega), if_pos (by omega)]); rw [e]; exact ⟨rfl, ⟨T0b, T1b, pwb, cwb, hM, hD0b, hT0b, hD1b, hT1b⟩, hB⟩)
      | (have e : pnew d s x = pat d s x := (by unfold pnew; rw [if_neg (by omega), if_neg (by omega), if_neg (by omega), if_pos (by omega)]); rw [e]; exact ⟨rfl, ⟨T0b, T1b, pwb, cwb, hM, hD0b, hT0b, hD1b, hT1b⟩, hB⟩)
      | (have e : pnew d s x = (s, 0, 7) := (by unfold pnew; rw [if_neg (by omega), if_neg (by omega), if_neg (by omega), if_neg (by omega), if_pos (by omega)]); rw [e]; exact ⟨rfl, ⟨T0, T1, pw, cw, hM, hD0, hT0, hD1, hT1⟩, hB⟩)
      | (have e : pnew d s x = ({ s with l := ldo s.l x.kind, D1 := pputs d s.t1 (wsl (ldo s.l x.kind) s.l.put) s.D1 }, 0, lcode s.l x.kind) := (by unfold pnew; rw [if_neg (by omega), if_neg (by omega), if_neg (by omega), if_neg (by omega), if_neg (by omega)]); rw [e]; exact ⟨rfl, ⟨T0b, T1b, pwb, cwb, hM, hD0b, hT0b, hD1b, hT1b⟩, hB⟩)
  ·
    first | (have hg1p := of_decide_eq_false hg1) | skip
    refine LS.vg rfl rfl rfl hg1 (by decide) (Val.fieldAddr0 fld45_0 rfl) ?_
    refine LS.mg rfl rfl hg1 (Step.load rfl rfl (by decide) flat3 rfl (hM.o0.rd) (rfl) ?_)
    refine LS.vg rfl rfl rfl hg1 (by decide) (Val.gtr rfl rfl) ?_
    refine LS.vv rfl rfl (by decide) (Val.pickF rfl hg1 rfl) ?_
    refine LS.vv rfl rfl (by decide) (Val.assign rfl) ?_
    refine LS.nil ?_
    first | refine W.condD rfl (fun hc2 => ?_) (fun hc2 => ?_) | refine W.cond rfl (fun hc2 => ?_) (fun hc2 => ?_)
    ·
      refine W.seqR ?_
      refine LS.vv rfl rfl (by decide) (Val.cast (v := .int .u8 ((0 : Nat) : Int)) (Val.assign rfl) rfl) ?_
      refine LS.vv rfl rfl (by decide) (Val.cast (v := .int .i64 ((6 : Nat) : Int)) (Val.assign rfl) rfl) ?_
      refine LS.nil ?_
      refine W.ret ?_
      refine inBlk_ret ?_
      refine thenP_ret ?_
      refine ret2 (by first | exact .inl rfl | exact .inr rfl) rfl rfl ?_
      replace hM := hM.er0
      first
        | (exfalso; omega)
        | (have e : pnew d s x = (s, 0, 6) := (by unfold pnew; rw [if_pos (by omega)]); rw [e]; exact ⟨rfl, ⟨T0, T1, pw, cw, hM, hD0, hT0, hD1, hT1⟩, hB⟩)
        | (have e : pnew d s x = ((pwr d s x).1, 0, (pwr d s x).2) := (by unfold pnew; rw [if_neg (by omega), if_pos (by omega)]); rw [e]; exact ⟨rfl, ⟨T0b, T1b, pwb, cwb, hM, hD0b, hT0b, hD1b, hT1b⟩, hB⟩)
        | (have e : pnew d s x = ((pch d s).1, 0, (pch d s).2) := (by unfold pnew; rw [if_neg (by omega), if_neg (by omega), if_pos (by omega)]); rw [e]; exact ⟨rfl, ⟨T0b, T1b, pwb, cwb, hM, hD0b, hT0b, hD1b, hT1b⟩, hB⟩)
        | (have e : pnew d s x = pat d s x := (by unfold pnew; rw [if_neg (by omega), if_neg (by omega), if_neg (by omega), if_pos (by omega)]); rw [e]; exact ⟨rfl, ⟨T0b, T1b, pwb, cwb, hM, hD0b, hT0b, hD1b, hT1b⟩, hB⟩)
        | (have e : pnew d s x = (s, 0, 7) := (by unfold pnew; rw [if_neg (by omega), if_neg (by omega), if_neg (by omega), if_neg (by omega), if_pos (by omega)]); rw [e]; exact ⟨rfl, ⟨T0, T1, pw, cw, hM, hD0, hT0, hD1, hT1⟩, hB⟩)
        | (have e : pnew d s x = ({ s with l := ldo s.l x.kind, D1 := pputs d s.t1 (wsl (ldo s.l x.kind) s.l.put) s.D1 }, 0, lcode s.l x.kind) := (by unfold pnew; rw [if_neg (by omega), if_neg (by omega), if_neg (by omega), if_neg (by omega), if_neg (by omega)]); rw [e]; exact ⟨rfl, ⟨T0b, T1b, pwb, cwb, hM, hD0b, hT0b, hD1b, hT1b⟩, hB⟩)
    ·
      refine W.seqR ?_
      refine LS.vv rfl rfl (by decide) (Val.fieldAddr0 fld45_0 rfl) ?_
      refine LS.m rfl (Step.load rfl rfl (by decide) flat3 rfl (hM.o0.rd) (rfl) ?_)
      refine LS.vv rfl rfl (by decide) (Val.eql rfl rfl) ?_
      refine LS.vv rfl rfl (by decide) (Val.assign rfl) ?_
      refine LS.nil ?_
      first | refine W.condD rfl (fun hc3 => ?_) (fun hc3 => ?_) | refine W.cond rfl (fun hc3 => ?_) (fun hc3 => ?_)
      ·
        refine W.seqR ?_
        refine LS.vv rfl rfl (by decide) (Val.move rfl) ?_
        refine LS.m rfl (Step.loadAgg0 rfl rfl (by decide) agg45 rfl (hM.o0.rd) rfl (by decide) ?_)
        refine LS.m rfl (Step.call body32 rfl rfl (by decide) rfl (CallsV.mono (write_any d B q s _ _ ⟨T0, T1, pw, cw, toX hM, hD0, hT0, hD1, hT1⟩ (Nat.le_trans hB0 hB.size) hk x hxv) ?_))
        rintro _ w2 ⟨rfl, hI2, hb2⟩
        obtain ⟨T0b, T1b, pwb, cwb, hM, hD0b, hT0b, hD1b, hT1b⟩ := (PI.drop hI2).ex
        replace hB := hB.trans hb2
        refine LS.vv rfl rfl (by decide) (Val.cast (v := .int .u8 ((0 : Nat) : Int)) (Val.assign rfl) rfl) ?_
        refine LS.vv rfl rfl (by decide) (Val.assign rfl) ?_
        refine LS.nil ?_
        refine W.ret ?_
        refine inBlk_ret ?_
        refine thenP_ret ?_
        refine ret2 (by first | exact .inl rfl | exact .inr rfl) rfl rfl ?_
        first
          | (exfalso; omega)
          | (have e : pnew d s x = (s, 0, 6) := (by unfold pnew; rw [if_pos (by omega)]); rw [e]; exact ⟨rfl, ⟨T0, T1, pw, cw, hM, hD0, hT0, hD1, hT1⟩, hB⟩)
          | (have e : pnew d s x = ((pwr d s x).1, 0, (pwr d s x).2) := (by unfold pnew; rw [if_neg (by omega), if_pos (by omega)]); rw [e]; exact ⟨rfl, ⟨T0b, T1b, pwb, cwb, hM, hD0b, hT0b, hD1b, hT1b⟩, hB⟩)
          | (have e : pnew d s x = ((pch d s).1, 0, (pch d s).2) := (by unfold pnew; rw [if_neg (by omega), if_neg (by omega), if_pos (by omega)]); rw [e]; exact ⟨rfl, ⟨T0b, T1b, pwb, cwb, hM, hD0b, hT0b, hD1b, hT1b⟩, hB⟩)
          | (have e : pnew d s x = pat d s x := (by unfold pnew; rw [if_neg (by omega), if_neg (by omega), if_neg (by omega), if_pos (by omega)]); rw [e]; exact ⟨rfl, ⟨T0b, T1b, pwb, cwb, hM, hD0b, hT0b, hD1b, hT1b⟩, hB⟩)
          | (have e : pnew d s x = (s, 0, 7) := (by unfold pnew; rw [if_neg (by omega), if_neg (by omega), if_neg (by omega), if_neg (by omega), if_pos (by omega)]); rw [e]; exact ⟨rfl, ⟨T0, T1, pw, cw, hM, hD0, hT0, hD1, hT1⟩, hB⟩)
          | (have e : pnew d s x = ({ s with l := ldo s.l x.kind, D1 := pputs d s.t1 (wsl (ldo s.l x.kind) s.l.put) s.D1 }, 0, lcode s.l x.kind) := (by unfold pnew; rw [if_neg (by omega), if_neg (by omega), if_neg (by omega), if_neg (by omega), if_neg (by omega)]); rw [e]; exact ⟨rfl, ⟨T0b, T1b, pwb, cwb, hM, hD0b, hT0b, hD1b, hT1b⟩, hB⟩)
      ·
        refine W.seqR ?_
        refine LS.vv rfl rfl (by decide) (Val.fieldAddr0 fld45_0 rfl) ?_
        refine LS.m rfl (Step.load rfl rfl (by decide) flat3 rfl (hM.o0.rd) (rfl) ?_)
        refine LS.vv rfl rfl (by decide) (Val.eql rfl rfl) ?_
        refine LS.vv rfl rfl (by decide) (Val.assign rfl) ?_
        refine LS.nil ?_
        first | refine W.condD rfl (fun hc4 => ?_) (fun hc4 => ?_) | refine W.cond rfl (fun hc4 => ?_) (fun hc4 => ?_)
        ·
          refine W.seqR ?_
          refine LS.vv rfl rfl (by decide) (Val.move rfl) ?_
          refine LS.m rfl (Step.call body33 rfl rfl (by decide) rfl (CallsV.mono (change_any d B q s _ _ ⟨T0, T1, pw, cw, toX hM, hD0, hT0, hD1, hT1⟩ (Nat.le_trans hB0 hB.size) hk) ?_))
          rintro _ w3 ⟨rfl, hI3, hb3⟩
          obtain ⟨T0b, T1b, pwb, cwb, hM, hD0b, hT0b, hD1b, hT1b⟩ := (PI.drop hI3).ex
          replace hB := hB.trans hb3
          refine LS.vv rfl rfl (by decide) (Val.cast (v := .int .u8 ((0 : Nat) : Int)) (Val.assign rfl) rfl) ?_
          refine LS.vv rfl rfl (by decide) (Val.assign rfl) ?_
          refine LS.nil ?_
          refine W.ret ?_
          refine inBlk_ret ?_
          refine thenP_ret ?_
          refine ret2 (by first | exact .inl rfl | exact .inr rfl) rfl rfl ?_
          first
            | (exfalso; omega)
            | (have e : pnew d s x = (s, 0, 6) := (by unfold pnew; rw [if_pos (by omega)]); rw [e]; exact ⟨rfl, ⟨T0, T1, pw, cw, hM, hD0, hT0, hD1, hT1⟩, hB⟩)
            | (have e : pnew d s x = ((pwr d s x).1, 0, (pwr d s x).2) := (by unfold pnew; rw [if_neg (by omega), if_pos (by omega)]); rw [e]; exact ⟨rfl, ⟨T0b, T1b, pwb, cwb, hM, hD0b, hT0b, hD1b, hT1b⟩, hB⟩)
            | (have e : pnew d s x = ((pch d s).1, 0, (pch d s).2) := (by unfold pnew; rw [if_neg (by omega), if_neg (by omega), if_pos (by omega)]); rw [e]; exact ⟨rfl, ⟨T0b, T1b, pwb, cwb, hM, hD0b, hT0b, hD1b, hT1b⟩, hB⟩)
            | (have e : pnew d s x = pat d s x := (by unfold pnew; rw [if_neg (by omega), if_neg (by omega), if_neg (by omega), if_pos (by omega)]); rw [e]; exact ⟨rfl, ⟨T0b, T1b, pwb, cwb, hM, hD0b, hT0b, hD1b, hT1b⟩, hB⟩)
            | (have e : pnew d s x = (s, 0, 7) := (by unfold pnew; rw [if_neg (by omega), if_neg (by omega), if_neg (by omega), if_neg (by omega), if_pos (by omega)]); rw [e]; exact ⟨rfl, ⟨T0, T1, pw, cw, hM, hD0, hT0, hD1, hT1⟩, hB⟩)
            | (have e : pnew d s x = ({ s with l := ldo s.l x.kind, D1 := pputs d s.t1 (wsl (ldo s.l x.kind) s.l.put) s.D1 }, 0, lcode s.l x.kind) := (by unfold pnew; rw [if_neg (by omega), if_neg (by omega), if_neg (by omega), if_neg (by omega), if_neg (by omega)]); rw [e]; exact ⟨rfl, ⟨T0b, T1b, pwb, cwb, hM, hD0b, hT0b, hD1b, hT1b⟩, hB⟩)
        ·
          refine W.seqR ?_
          refine LS.vv rfl rfl (by decide) (Val.fieldAddr0 fld45_0 rfl) ?_
          refine LS.m rfl (Step.load rfl rfl (by decide) flat3 rfl (hM.o0.rd) (rfl) ?_)
          refine LS.vv rfl rfl (by decide) (Val.geq rfl rfl) ?_
          refine LS.vv rfl rfl (by decide) (Val.assign rfl) ?_
          refine LS.nil ?_
          first | refine W.condD rfl (fun hc5 => ?_) (fun hc5 => ?_) | refine W.cond rfl (fun hc5 => ?_) (fun hc5 => ?_)
          ·
            refine W.seqR ?_
            refine LS.vv rfl rfl (by decide) (Val.move rfl) ?_
            refine LS.m rfl (Step.loadAgg0 rfl rfl (by decide) agg45 rfl (hM.o0.rd) rfl (by decide) ?_)
            refine LS.m rfl (Step.call body34 rfl rfl (by decide) rfl (CallsV.mono (at_any d B q s _ _ ⟨T0, T1, pw, cw, toX hM, hD0, hT0, hD1, hT1⟩ (Nat.le_trans hB0 hB.size) hk x) ?_))
            rintro _ w4 ⟨rfl, hI4, hb4⟩
            obtain ⟨T0b, T1b, pwb, cwb, hM, hD0b, hT0b, hD1b, hT1b⟩ := (PI.drop hI4).ex
            replace hB := hB.trans hb4
            refine LS.vv rfl rfl (by decide) (Val.extract rfl rfl) ?_
            refine LS.vv rfl rfl (by decide) (Val.extract rfl rfl) ?_
            refine LS.vv rfl rfl (by decide) (Val.assign rfl) ?_
            refine LS.vv rfl rfl (by decide) (Val.assign rfl) ?_
            refine LS.nil ?_
            refine W.ret ?_
            refine inBlk_ret ?_
            refine thenP_ret ?_
            refine ret2 (by first | exact .inl rfl | exact .inr rfl) rfl rfl ?_
            first
              | (exfalso; omega)
              | (have e : pnew d s x = (s, 0, 6) := (by unfold pnew; rw [if_pos (by omega)]); rw [e]; exact ⟨rfl, ⟨T0, T1, pw, cw, hM, hD0, hT0, hD1, hT1⟩, hB⟩)
              | (have e : pnew d s x = ((pwr d s x).1, 0, (pwr d s x).2) := (by unfold pnew; rw [if_neg (by omega), if_pos (by omega)]); rw [e]; exact ⟨rfl, ⟨T0b, T1b, pwb, cwb, hM, hD0b, hT0b, hD1b, hT1b⟩, hB⟩)
              | (have e : pnew d s x = ((pch d s).1, 0, (pch d s).2) := (by unfold pnew; rw [if_neg (by omega), if_neg (by omega), if_pos (by omega)]); rw [e]; exact ⟨rfl, ⟨T0b, T1b, pwb, cwb, hM, hD0b, hT0b, hD1b, hT1b⟩, hB⟩)
              | (have e : pnew d s x = pat d s x := (by unfold pnew; rw [if_neg (by omega), if_neg (by omega), if_neg (by omega), if_pos (by omega)]); rw [e]; exact ⟨rfl, ⟨T0b, T1b, pwb, cwb, hM, hD0b, hT0b, hD1b, hT1b⟩, hB⟩)
              | (have e : pnew d s x = (s, 0, 7) := (by unfold pnew; rw [if_neg (by omega), if_neg (by omega), if_neg (by omega), if_neg (by omega), if_pos (by omega)]); rw [e]; exact ⟨rfl, ⟨T0, T1, pw, cw, hM, hD0, hT0, hD1, hT1⟩, hB⟩)
              | (have e : pnew d s x = ({ s with l := ldo s.l x.kind, D1 := pputs d s.t1 (wsl (ldo s.l x.kind) s.l.put) s.D1 }, 0, lcode s.l x.kind) := (by unfold pnew; rw [if_neg (by omega), if_neg (by omega), if_neg (by omega), if_neg (by omega), if_neg (by omega)]); rw [e]; exact ⟨rfl, ⟨T0b, T1b, pwb, cwb, hM, hD0b, hT0b, hD1b, hT1b⟩, hB⟩)
          ·
            refine W.seqR ?_
            refine LS.vv rfl rfl (by decide) (Val.move rfl) ?_
            first | refine LS.vv rfl rfl (by decide) (Val.nilCheck rfl) ?_ | refine LS.vv rfl rfl (by decide) (Val.nilCheckP rfl) ?_
            refine LS.vv rfl rfl (by decide) (Val.fieldAddr0 fld75_2 rfl) ?_
            refine LS.m rfl (Step.load rfl rfl (by decide) flat3 rfl (hM.o1.rd) (rfl) ?_)
            refine LS.vv rfl rfl (by decide) (Val.eql rfl rfl) ?_
            refine LS.vv rfl rfl (by decide) (Val.assign rfl) ?_
            refine LS.nil ?_
            first | refine W.condD rfl (fun hc6 => ?_) (fun hc6 => ?_) | refine W.cond rfl (fun hc6 => ?_) (fun hc6 => ?_)
            ·
              refine W.seqR ?_
              refine LS.vv rfl rfl (by decide) (Val.cast (v := .int .u8 ((0 : Nat) : Int)) (Val.assign rfl) rfl) ?_
              refine LS.vv rfl rfl (by decide) (Val.cast (v := .int .i64 ((7 : Nat) : Int)) (Val.assign rfl) rfl) ?_
              refine LS.nil ?_
              refine W.ret ?_
              refine inBlk_ret ?_
              refine thenP_ret ?_
              refine ret2 (by first | exact .inl rfl | exact .inr rfl) rfl rfl ?_
              replace hM := hM.er0
              first
                | (exfalso; omega)
                | (have e : pnew d s x = (s, 0, 6) := (by unfold pnew; rw [if_pos (by omega)]); rw [e]; exact ⟨rfl, ⟨T0, T1, pw, cw, hM, hD0, hT0, hD1, hT1⟩, hB⟩)
                | (have e : pnew d s x = ((pwr d s x).1, 0, (pwr d s x).2) := (by unfold pnew; rw [if_neg (by omega), if_pos (by omega)]); rw [e]; exact ⟨rfl, ⟨T0b, T1b, pwb, cwb, hM, hD0b, hT0b, hD1b, hT1b⟩, hB⟩)
                | (have e : pnew d s x = ((pch d s).1, 0, (pch d s).2) := (by unfold pnew; rw [if_neg (by omega), if_neg (by omega), if_pos (by omega)]); rw [e]; exact ⟨rfl, ⟨T0b, T1b, pwb, cwb, hM, hD0b, hT0b, hD1b, hT1b⟩, hB⟩)
                | (have e : pnew d s x = pat d s x := (by unfold pnew; rw [if_neg (by omega), if_neg (by omega), if_neg (by omega), if_pos (by omega)]); rw [e]; exact ⟨rfl, ⟨T0b, T1b, pwb, cwb, hM, hD0b, hT0b, hD1b, hT1b⟩, hB⟩)
                | (have e : pnew d s x = (s, 0, 7) := (by unfold pnew; rw [if_neg (by omega), if_neg (by omega), if_neg (by omega), if_neg (by omega), if_pos (by omega)]); rw [e]; exact ⟨rfl, ⟨T0, T1, pw, cw, hM, hD0, hT0, hD1, hT1⟩, hB⟩)
                | (have e : pnew d s x = ({ s with l := ldo s.l x.kind, D1 := pputs d s.t1 (wsl (ldo s.l x.kind) s.l.put) s.D1 }, 0, lcode s.l x.kind) := (by unfold pnew; rw [if_neg (by omega), if_neg (by omega), if_neg (by omega), if_neg (by omega), if_neg (by omega)]); rw [e]; exact ⟨rfl, ⟨T0b, T1b, pwb, cwb, hM, hD0b, hT0b, hD1b, hT1b⟩, hB⟩)
            ·
              refine W.skip ?_
              refine inBlk_normal ?_
              refine thenP_normal ?_
              refine W.seqR ?_
              refine LS.vv rfl rfl (by decide) (Val.move rfl) ?_
              first | refine LS.vv rfl rfl (by decide) (Val.nilCheck rfl) ?_ | refine LS.vv rfl rfl (by decide) (Val.nilCheckP rfl) ?_
              refine LS.vv rfl rfl (by decide) (Val.fieldAddr0 fld75_0 rfl) ?_
              refine LS.vv rfl rfl (by decide) (Val.fieldAddr fld67_4 rfl (hM.o1.rd) (by simp [lnR])) ?_
              refine LS.m rfl (Step.load rfl rfl (by decide) flat3 rfl (hM.o1.rd) (rfl) ?_)
              refine LS.vv rfl rfl (by decide) (Val.assign rfl) ?_
              refine LS.nil ?_
              refine W.seqD (S := fun w => Below B w0 w) [(0, true), (1, true), (2, true), (3, true), (4, false), (5, false), (6, true), (7, true), (8, true), (9, true), (10, true)] mixed (by kernel_rfl) hB.drew ?_
              replace hB := hB.drew
              replace hM := hM.drew
              refine DX.vv rfl rfl rfl (by decide) (Val.move rfl) ?_
              first | refine DX.vv rfl rfl rfl (by decide) (Val.nilCheck rfl) ?_ | refine DX.vv rfl rfl rfl (by decide) (Val.nilCheckP rfl) ?_
              refine DX.vv rfl rfl rfl (by decide) (Val.fieldAddr0 fld75_0 rfl) ?_
              refine DX.vv rfl rfl rfl (by decide) (Val.fieldAddr0 fld45_0 rfl) ?_
              refine DX.m rfl rfl (Step.load rfl rfl (by decide) flat3 rfl (hM.o0.rd) (rfl) ?_)
              refine ⟨hB, ?_⟩
              replace hM := hM.sw0
              refine DX.m rfl rfl (Step.call body22 rfl rfl (by decide) rfl (CallsV.mono (DoP_any s.l pw cw q.g (pR q s) x.kind B _ _ hM (Nat.le_trans hB0 hB.size) ⟨by omega, by omega, by omega⟩) ?_))
              rintro _ w5 ⟨⟨bb, rfl⟩, hM5, hb5⟩
              replace hM := hM5
              replace hB := hB.trans hb5
              refine ⟨hB, ?_⟩
              refine DX.vv rfl rfl rfl (by decide) (Val.move rfl) ?_
              refine DX.vv rfl rfl rfl (by decide) (Val.extract rfl rfl) ?_
              refine DX.vv rfl rfl rfl (by decide) (Val.extract rfl rfl) ?_
              refine DX.vv rfl rfl rfl (by decide) (Val.assign rfl) ?_
              refine DX.vv rfl rfl rfl (by decide) (Val.assign rfl) ?_
              refine DX.nil ?_
              refine W.seqR ?_
              refine LS.vv rfl rfl (by decide) (Val.move rfl) ?_
              refine LS.vv rfl rfl (by decide) (Val.move rfl) ?_
              have hw := ldo_wr' s.l x.kind
              replace hM := hM.er1
              obtain ⟨z1, z2, z3⟩ := ldo_ok x.kind k1 k2 k3
              have hI2 : PI _ B d q { s with l := ldo s.l x.kind } S := ⟨T0, T1, pw, cw, by { have e9 : wO (ldo s.l x.kind) pw cw = wO s.l pw cw := (by simp only [wO, hw.1]); show Mz _ B (pO q { s with l := ldo s.l x.kind } pw cw :: wO (ldo s.l x.kind) pw cw :: _); rw [e9]; exact hM }, hD0, hT0, hD1, hT1⟩
              have hk2 : PK d { s with l := ldo s.l x.kind } := ⟨hd3, hd6, z1, z2, z3, by show (ldo s.l x.kind).wr.length ≤ 1000; rw [hw.1]; exact k4, fun y hy => hk.kept y (by rw [← hw.1]; exact hy), hk.main, hk.sh0, hk.sh1⟩
              refine LS.m rfl (Step.call body35 rfl rfl (by decide) rfl (CallsV.mono (put_any d B q { s with l := ldo s.l x.kind } S _ hI2 (Nat.le_trans hB0 hB.size) hk2 s.l.put hw.2.2) ?_))
              rintro _ w6 ⟨hI6, hb6⟩
              obtain ⟨T0b, T1b, pwb, cwb, hM, hD0b, hT0b, hD1b, hT1b⟩ := hI6.ex
              replace hB := hB.trans hb6
              refine LS.nil ?_
              refine W.seqR ?_
              refine LS.vv rfl rfl (by decide) (Val.move rfl) ?_
              refine LS.vv rfl rfl (by decide) (Val.cast (v := .int .u8 ((0 : Nat) : Int)) (Val.assign rfl) rfl) ?_
              refine LS.vv rfl rfl (by decide) (Val.assign rfl) ?_
              refine LS.nil ?_
              refine W.ret ?_
              refine ret2 (by first | exact .inl rfl | exact .inr rfl) rfl rfl ?_
              first
                | (exfalso; omega)
                | (have e : pnew d s x = (s, 0, 6) := (by unfold pnew; rw [if_pos (by omega)]); rw [e]; exact ⟨rfl, ⟨T0, T1, pw, cw, hM, hD0, hT0, hD1, hT1⟩, hB⟩)
                | (have e : pnew d s x = ((pwr d s x).1, 0, (pwr d s x).2) := (by unfold pnew; rw [if_neg (by omega), if_pos (by omega)]); rw [e]; exact ⟨rfl, ⟨T0b, T1b, pwb, cwb, hM, hD0b, hT0b, hD1b, hT1b⟩, hB⟩)
                | (have e : pnew d s x = ((pch d s).1, 0, (pch d s).2) := (by unfold pnew; rw [if_neg (by omega), if_neg (by omega), if_pos (by omega)]); rw [e]; exact ⟨rfl, ⟨T0b, T1b, pwb, cwb, hM, hD0b, hT0b, hD1b, hT1b⟩, hB⟩)
                | (have e : pnew d s x = pat d s x := (by unfold pnew; rw [if_neg (by omega), if_neg (by omega), if_neg (by omega), if_pos (by omega)]); rw [e]; exact ⟨rfl, ⟨T0b, T1b, pwb, cwb, hM, hD0b, hT0b, hD1b, hT1b⟩, hB⟩)
                | (have e : pnew d s x = (s, 0, 7) := (by unfold pnew; rw [if_neg (by omega), if_neg (by omega), if_neg (by omega), if_neg (by omega), if_pos (by omega)]); rw [e]; exact ⟨rfl, ⟨T0, T1, pw, cw, hM, hD0, hT0, hD1, hT1⟩, hB⟩)
                | (have e : pnew d s x = ({ s with l := ldo s.l x.kind, D1 := pputs d s.t1 (wsl (ldo s.l x.kind) s.l.put) s.D1 }, 0, lcode s.l x.kind) := (by unfold pnew; rw [if_neg (by omega), if_neg (by omega), if_neg (by omega), if_neg (by omega), if_neg (by omega)]); rw [e]; exact ⟨rfl, ⟨T0b, T1b, pwb, cwb, hM, hD0b, hT0b, hD1b, hT1b⟩, hB⟩)

end Go.Proofs.Ytldcpihjoakigaa
