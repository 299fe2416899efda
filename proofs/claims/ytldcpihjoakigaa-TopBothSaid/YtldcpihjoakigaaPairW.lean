/-
  The pair of sites: write.
-/
import Derived.Test.YtldcpihjoakigaaPairP
namespace Go.Proofs.Ytldcpihjoakigaa
open Go Go.RowKit V
set_option linter.unusedVariables false
set_option linter.unusedSimpArgs false

theorem lnR_w {s : SL} {x : St} {pw p : Option Addr} {cw c : Nat} {R : List Value} : (lnR s pw cw R).set 1 (.slice p (s.wr.length + 1) c) = lnR { s with wr := s.wr ++ [x] } p c R := by simp [lnR]
theorem lnR_put {s : SL} {pw : Option Addr} {cw : Nat} {R : List Value} {n : Nat} : (lnR s pw cw R).set 4 (.int .i64 (n : Int)) = lnR { s with put := n } pw cw R := by simp [lnR]
theorem lnR_told {l : SL} {s : PS} {q : PG} {pw : Option Addr} {cw : Nat} {n : Nat} : (lnR l pw cw (pR q s)).set 9 (.int .i64 (n : Int)) = lnR l pw cw (pR q { s with told := n }) := by simp [lnR, pR]
theorem lnR_main {l : SL} {s : PS} {q : PG} {pw : Option Addr} {cw : Nat} : (lnR l pw cw (pR q s)).set 8 (.int .i64 1) = lnR l pw cw (pR q { s with main := 1 }) := by simp [lnR, pR]

theorem write0_any (d B : Nat) (q : PG) (s : PS) (S : List Oz) (w0 : World) (hI : PI w0 B d q s S) (hB0 : B ≤ w0.heap.size) (hk : PK d s) (x : St) (hxv : x.val < 256) (hm : s.main = 0) :
    CallsV Try.prog 32 #[.pointer (some ⟨q.g, 0, none⟩), .agg #[.int .i64 x.kind, .int .i64 x.site, .int .i64 x.block, .int .u8 (x.val : Int)]] w0 (fun v w => v = .int .i64 ((pwr d s x).2 : Int) ∧ PI w B d q (pwr d s x).1 S ∧ Below B w0 w) := by
  refine enter1 Try.func32 rfl Try.ntmps32 (by simp) rfl ?_
  have hB := Below.refl B w0
  simp only [argLoc, Nat.zero_add]
  obtain ⟨T0, T1, pw, cw, hM, hD0, hT0, hD1, hT1⟩ := hI.ex
  have k1 := hk.put; have k2 := hk.got; have k3 := hk.sent; have k4 := hk.wr; have k5 := hk.main; have hd3 := hk.hd3; have hd6 := hk.hd6
  have hs0 : Shape d (dT T0) := by rw [hD0]; exact hk.sh0
  have hs1 : Shape d (dT T1) := by rw [hD1]; exact hk.sh1
  have hcw := hM.o1.le_cap
  refine W.seqR ?_
  refine LS.m rfl (Step.boxZ rfl rfl (by decide) rfl rfl ?_)
  rintro w1 hO1 hg1 hbl1 hsz1
  replace hM := hM.add (Nat.le_trans hB0 hB.size) hbl1 hO1
  try simp only [List.length_cons, List.length_nil, Nat.zero_add, Nat.reduceAdd, Value.cells, List.toList_toArray, List.append_nil, List.set_cons_zero, List.set_cons_succ] at hM
  replace hB := hB.trans (hbl1.mono (Nat.le_trans hB0 hB.size))
  skip
  refine LS.vv rfl rfl (by decide) (Val.cast (v := .int .i64 ((0 : Nat) : Int)) (Val.assign rfl) rfl) ?_
  refine LS.nil ?_
  refine W.seq ?_
  refine W.seqR ?_
  refine LS.vv rfl rfl (by decide) (Val.fieldAddr0 fld45_2 rfl) ?_
  refine LS.m rfl (Step.load rfl rfl (by decide) flat3 rfl (hM.o0.rd) (rfl) ?_)
  refine LS.vv rfl rfl (by decide) (Val.lss rfl rfl) ?_
  refine LS.vv rfl rfl (by decide) (Val.move rfl) ?_
  refine LS.split 3 rfl (fun hg1 => ?_) (fun hg1 => ?_)
  ·
    first | (have hg1p := of_decide_eq_true hg1) | skip
    refine LS.s rfl rfl rfl hg1 (by decide) ?_
    refine LS.s rfl rfl rfl hg1 (by decide) ?_
    refine LS.s rfl rfl rfl hg1 (by decide) ?_
    refine LS.vv rfl rfl (by decide) (Val.pickT rfl hg1 rfl) ?_
    refine LS.nil ?_
    refine W.condT rfl ?_
    refine W.seqR ?_
    refine LS.vv rfl rfl (by decide) (Val.cast (v := .int .i64 ((2 : Nat) : Int)) (Val.assign rfl) rfl) ?_
    refine LS.nil ?_
    refine W.ret ?_
    refine thenP_ret ?_
    refine ret1 (by first | exact .inl rfl | exact .inr rfl) rfl ?_
    replace hM := hM.er0
    first
      | (exfalso; omega)
      | (have e : pwr d s x = (s, 2) := (by unfold pwr; rw [if_pos (by omega)])
         rw [e]
         exact ⟨rfl, ⟨T0, T1, pw, cw, hM, hD0, hT0, hD1, hT1⟩, hB⟩)
      | (have e : pwr d s x = ({ s with D0 := aWrite d s.D0 s.t0 x.block.toNat x.val, l := { s.l with wr := s.l.wr ++ [x] } }, 0) := (by unfold pwr; rw [if_neg (by omega), if_pos hm])
         rw [e]
         rw [lnR_w (x := x)] at hM
         refine ⟨rfl, ⟨T2, T1, p0, c0, ?_, by rw [hT2, hD0], hl2, hD1, hT1⟩, hB⟩
         unfold PM; simp only [wO]
         rw [← sv_app1, List.length_append]
         exact hM)
  ·
    first | (have hg1p := of_decide_eq_false hg1) | skip
    refine LS.vg rfl rfl rfl hg1 (by decide) (Val.fieldAddr0 fld45_2 rfl) ?_
    refine LS.mg rfl rfl hg1 (Step.load rfl rfl (by decide) flat3 rfl (hM.o0.rd) (rfl) ?_)
    refine LS.vg rfl rfl rfl hg1 (by decide) (Val.geq rfl rfl) ?_
    refine LS.vv rfl rfl (by decide) (Val.pickF rfl hg1 rfl) ?_
    refine LS.nil ?_
    first | refine W.condD rfl (fun hc2 => ?_) (fun hc2 => ?_) | refine W.cond rfl (fun hc2 => ?_) (fun hc2 => ?_)
    ·
      refine W.seqR ?_
      refine LS.vv rfl rfl (by decide) (Val.cast (v := .int .i64 ((2 : Nat) : Int)) (Val.assign rfl) rfl) ?_
      refine LS.nil ?_
      refine W.ret ?_
      refine thenP_ret ?_
      refine ret1 (by first | exact .inl rfl | exact .inr rfl) rfl ?_
      replace hM := hM.er0
      first
        | (exfalso; omega)
        | (have e : pwr d s x = (s, 2) := (by unfold pwr; rw [if_pos (by omega)])
           rw [e]
           exact ⟨rfl, ⟨T0, T1, pw, cw, hM, hD0, hT0, hD1, hT1⟩, hB⟩)
        | (have e : pwr d s x = ({ s with D0 := aWrite d s.D0 s.t0 x.block.toNat x.val, l := { s.l with wr := s.l.wr ++ [x] } }, 0) := (by unfold pwr; rw [if_neg (by omega), if_pos hm])
           rw [e]
           rw [lnR_w (x := x)] at hM
           refine ⟨rfl, ⟨T2, T1, p0, c0, ?_, by rw [hT2, hD0], hl2, hD1, hT1⟩, hB⟩
           unfold PM; simp only [wO]
           rw [← sv_app1, List.length_append]
           exact hM)
    ·
      refine W.skip ?_
      refine thenP_normal ?_
      refine W.seqFz 13 [(0, true), (1, true), (2, true), (3, true), (4, true), (5, true), (6, true), (7, true), (8, true), (9, true), (10, true), (11, true), (12, true), (13, false)] mixed (by kernel_rfl) hB hM ?_
      replace hB := hB.drew
      replace hM := hM.drew
      refine DF.vv rfl rfl rfl (by decide) (Val.move rfl) ?_
      refine DF.vv rfl rfl rfl (by decide) (Val.move rfl) ?_
      first | refine DF.vv rfl rfl rfl (by decide) (Val.nilCheck rfl) ?_ | refine DF.vv rfl rfl rfl (by decide) (Val.nilCheckP rfl) ?_
      refine DF.vv rfl rfl rfl (by decide) (Val.fieldAddr0 fld75_2 rfl) ?_
      refine DF.vv rfl rfl rfl (by decide) (Val.load flat3 rfl (fun _ h => h.2.o1.rd) (rfl)) ?_
      first | refine DF.vv rfl rfl rfl (by decide) (Val.nilCheck rfl) ?_ | refine DF.vv rfl rfl rfl (by decide) (Val.nilCheckP rfl) ?_
      refine DF.vv rfl rfl rfl (by decide) (Val.fieldAddr0 fld75_1 rfl) ?_
      refine DF.vv rfl rfl rfl (by decide) (Val.indexArrZ (j := s.main) (q := 6) Try.underlying73 elem59 rfl rfl hM.o1.rd (by simp [lnR]) (by omega)) ?_
      refine DF.vv rfl rfl rfl (by decide) (Val.load flat59 rfl (fun _ h => h.2.o1.rd) ((show _ = some (Value.pointer (some ⟨q.g0, 0, none⟩)) from by rw [hm]; rfl))) ?_
      refine DF.vv rfl rfl rfl (by decide) (Val.fieldAddr0 fld45_2 rfl) ?_
      have hblk : ([.int .i64 x.kind, .int .i64 x.site, .int .i64 x.block, .int .u8 (x.val : Int)] : List Value)[2]? = some (.int .i64 (((x.block.toNat : Nat)) : Int)) := by { simp; omega }
      refine DF.vv rfl rfl rfl (by decide) (Val.load flat3 rfl (fun _ h => h.2.o0.rd) (hblk)) ?_
      refine DF.vv rfl rfl rfl (by decide) (Val.fieldAddr0 fld45_3 rfl) ?_
      refine DF.vv rfl rfl rfl (by decide) (Val.load flat5 rfl (fun _ h => h.2.o0.rd) (rfl)) ?_
      refine DF.m rfl rfl (Step.call body30 rfl rfl (by decide) rfl (CallsV.mono (Write_any T0 s.t0 q.po0 q.g0 q.co0 d B _ _ (to0_3 hM) (Nat.le_trans hB0 hB.size) hT0 hs0 hd3 hd6 x.block.toNat x.val (by omega) hxv) ?_))
      rintro _ w2 ⟨T2, hM2, hT2, hl2, hb2⟩
      replace hM := from0_3 hM2
      replace hB := hB.trans hb2
      refine ⟨fun h => absurd rfl h, ?_⟩
      refine DF.nil ?_
      refine W.seq ?_
      refine W.seqR ?_
      refine LS.vv rfl rfl (by decide) (Val.move rfl) ?_
      first | refine LS.vv rfl rfl (by decide) (Val.nilCheck rfl) ?_ | refine LS.vv rfl rfl (by decide) (Val.nilCheckP rfl) ?_
      refine LS.vv rfl rfl (by decide) (Val.fieldAddr0 fld75_2 rfl) ?_
      refine LS.m rfl (Step.load rfl rfl (by decide) flat3 rfl (hM.o1.rd) (rfl) ?_)
      refine LS.vv rfl rfl (by decide) (Val.eql rfl rfl) ?_
      refine LS.nil ?_
      first | refine W.condD rfl (fun hc3 => ?_) (fun hc3 => ?_) | refine W.cond rfl (fun hc3 => ?_) (fun hc3 => ?_)
      ·
        refine W.regT (S := fun w => Below B w0 w ∧ Mz w B _) (.val 0 (.val 1 (.val 2 (.val 3 (.val 4 (.val 6 (.two (.mem 5 (.mem 7 (.mem 8 (.val 9 (.val 10 (.val 11 (.mem 12 (.done)))))))) (.mem 7 (.mem 5 (.mem 8 (.val 9 (.val 10 (.val 11 (.mem 12 (.done))))))))))))))) mixed (by kernel_rfl) ⟨hB.drew, hM.drew.er2.er1⟩ ?_
        replace hB := hB.drew
        replace hM := hM.drew
        refine DT.vv rfl rfl rfl (by decide) (Val.move rfl) ?_
        refine DT.vv rfl rfl rfl (by decide) (Val.move rfl) ?_
        first | refine DT.vv rfl rfl rfl (by decide) (Val.nilCheck rfl) ?_ | refine DT.vv rfl rfl rfl (by decide) (Val.nilCheckP rfl) ?_
        refine DT.vv rfl rfl rfl (by decide) (Val.fieldAddr0 fld75_0 rfl) ?_
        refine DT.vv rfl rfl rfl (by decide) (Val.fieldAddr fld67_1 rfl (hM.o1.rd) (by simp [lnR])) ?_
        refine DT.vv rfl rfl rfl (by decide) (Val.loadAgg0 agg45 rfl (fun _ h => h.2.o0.rd) rfl (by decide)) ?_
        refine DT.two ?_ ?_
        ·
          refine DT.m rfl rfl (Step.load rfl rfl (by decide) flat37 rfl (hM.o1.rd) (rfl) ?_)
          refine ⟨⟨hB, hM.er2.er1⟩, ?_⟩
          refine DT.m rfl rfl (Step.litZ rfl rfl (by decide) Try.underlying37 elem45 rfl (by decide) rfl rfl (by decide) ?_)
          rintro w3 hO3 hg3 hbl3 hsz3
          replace hM := hM.add (Nat.le_trans hB0 hB.size) hbl3 hO3
          try simp only [List.length_cons, List.length_nil, Nat.zero_add, Nat.reduceAdd, Value.cells, List.toList_toArray, List.append_nil, List.set_cons_zero, List.set_cons_succ] at hM
          replace hB := hB.trans (hbl3.mono (Nat.le_trans hB0 hB.size))
          generalize w2.drew.heap.size = gg3 at *
          refine ⟨⟨hB, hM.er3.er2.er0⟩, ?_⟩
          refine DT.m rfl rfl (Step.appendZ (B := B) rfl rfl (by decide) Try.underlying37 elem45 rfl (by decide) rfl rfl (hM.o3) (hM.o0.rd) (by first | rfl | (simp; done) | (simp; omega)) (by first | exact one_map _ (fun _ => rfl) _ | simp [Value.oneCell']) (by omega) (by omega) (Nat.le_trans hB0 hB.size) ?_)
          rintro p4 c4 w4 hO4 hg4 hbl4 hbk4
          replace hM := hM.s3 (e := _) hg4 hO4 hbk4
          replace hM := hM.tail
          replace hB := hB.trans hbl4
          refine ⟨⟨hB, hM.er2.er1⟩, ?_⟩
          first | refine DT.vv rfl rfl rfl (by decide) (Val.nilCheck rfl) ?_ | refine DT.vv rfl rfl rfl (by decide) (Val.nilCheckP rfl) ?_
          refine DT.vv rfl rfl rfl (by decide) (Val.fieldAddr0 fld75_0 rfl) ?_
          refine DT.vv rfl rfl rfl (by decide) (Val.fieldAddr fld67_1 rfl (hM.o1.rd) (by simp [lnR])) ?_
          refine DT.m rfl rfl (Step.storeZ (B := B) rfl rfl flat37 elem37 rfl rfl rfl (hM.o1) (by simp [lnR]) (Nat.le_trans hB0 hB.size) ?_)
          rintro w5 hO5 hg5 hbl5 hsz5
          replace hM := hM.s1 (e := _) hg5 hO5 inl_block
          try simp only [List.set_cons_zero, List.set_cons_succ] at hM
          replace hB := hB.trans hbl5
          refine ⟨⟨hB, hM.er2.er1⟩, ?_⟩
          refine DT.nil ?_
          refine thenP_normal ?_
          refine W.seqR ?_
          refine LS.vv rfl rfl (by decide) (Val.cast (v := .int .i64 ((0 : Nat) : Int)) (Val.assign rfl) rfl) ?_
          refine LS.nil ?_
          refine W.ret ?_
          refine ret1 (by first | exact .inl rfl | exact .inr rfl) rfl ?_
          replace hM := hM.er0
          first
            | (exfalso; omega)
            | (have e : pwr d s x = (s, 2) := (by unfold pwr; rw [if_pos (by omega)])
               rw [e]
               exact ⟨rfl, ⟨T0, T1, pw, cw, hM, hD0, hT0, hD1, hT1⟩, hB⟩)
            | (have e : pwr d s x = ({ s with D0 := aWrite d s.D0 s.t0 x.block.toNat x.val, l := { s.l with wr := s.l.wr ++ [x] } }, 0) := (by unfold pwr; rw [if_neg (by omega), if_pos hm])
               rw [e]
               rw [lnR_w (x := x)] at hM
               refine ⟨rfl, ⟨T2, T1, p4, c4, ?_, by rw [hT2, hD0], hl2, hD1, hT1⟩, hB⟩
               unfold PM; simp only [wO]
               rw [← sv_app1, List.length_append]
               exact hM)
        ·
          refine DT.m rfl rfl (Step.litZ rfl rfl (by decide) Try.underlying37 elem45 rfl (by decide) rfl rfl (by decide) ?_)
          rintro w6 hO6 hg6 hbl6 hsz6
          replace hM := hM.add (Nat.le_trans hB0 hB.size) hbl6 hO6
          try simp only [List.length_cons, List.length_nil, Nat.zero_add, Nat.reduceAdd, Value.cells, List.toList_toArray, List.append_nil, List.set_cons_zero, List.set_cons_succ] at hM
          replace hB := hB.trans (hbl6.mono (Nat.le_trans hB0 hB.size))
          generalize w2.drew.heap.size = gg6 at *
          refine ⟨⟨hB, hM.er3.er2.er0⟩, ?_⟩
          refine DT.m rfl rfl (Step.load rfl rfl (by decide) flat37 rfl (hM.o2.rd) (rfl) ?_)
          refine ⟨⟨hB, hM.er3.er2.er0⟩, ?_⟩
          refine DT.m rfl rfl (Step.appendZ (B := B) rfl rfl (by decide) Try.underlying37 elem45 rfl (by decide) rfl rfl (hM.o3) (hM.o0.rd) (by first | rfl | (simp; done) | (simp; omega)) (by first | exact one_map _ (fun _ => rfl) _ | simp [Value.oneCell']) (by omega) (by omega) (Nat.le_trans hB0 hB.size) ?_)
          rintro p7 c7 w7 hO7 hg7 hbl7 hbk7
          replace hM := hM.s3 (e := _) hg7 hO7 hbk7
          replace hM := hM.tail
          replace hB := hB.trans hbl7
          refine ⟨⟨hB, hM.er2.er1⟩, ?_⟩
          first | refine DT.vv rfl rfl rfl (by decide) (Val.nilCheck rfl) ?_ | refine DT.vv rfl rfl rfl (by decide) (Val.nilCheckP rfl) ?_
          refine DT.vv rfl rfl rfl (by decide) (Val.fieldAddr0 fld75_0 rfl) ?_
          refine DT.vv rfl rfl rfl (by decide) (Val.fieldAddr fld67_1 rfl (hM.o1.rd) (by simp [lnR])) ?_
          refine DT.m rfl rfl (Step.storeZ (B := B) rfl rfl flat37 elem37 rfl rfl rfl (hM.o1) (by simp [lnR]) (Nat.le_trans hB0 hB.size) ?_)
          rintro w8 hO8 hg8 hbl8 hsz8
          replace hM := hM.s1 (e := _) hg8 hO8 inl_block
          try simp only [List.set_cons_zero, List.set_cons_succ] at hM
          replace hB := hB.trans hbl8
          refine ⟨⟨hB, hM.er2.er1⟩, ?_⟩
          refine DT.nil ?_
          refine thenP_normal ?_
          refine W.seqR ?_
          refine LS.vv rfl rfl (by decide) (Val.cast (v := .int .i64 ((0 : Nat) : Int)) (Val.assign rfl) rfl) ?_
          refine LS.nil ?_
          refine W.ret ?_
          refine ret1 (by first | exact .inl rfl | exact .inr rfl) rfl ?_
          replace hM := hM.er0
          first
            | (exfalso; omega)
            | (have e : pwr d s x = (s, 2) := (by unfold pwr; rw [if_pos (by omega)])
               rw [e]
               exact ⟨rfl, ⟨T0, T1, pw, cw, hM, hD0, hT0, hD1, hT1⟩, hB⟩)
            | (have e : pwr d s x = ({ s with D0 := aWrite d s.D0 s.t0 x.block.toNat x.val, l := { s.l with wr := s.l.wr ++ [x] } }, 0) := (by unfold pwr; rw [if_neg (by omega), if_pos hm])
               rw [e]
               rw [lnR_w (x := x)] at hM
               refine ⟨rfl, ⟨T2, T1, p7, c7, ?_, by rw [hT2, hD0], hl2, hD1, hT1⟩, hB⟩
               unfold PM; simp only [wO]
               rw [← sv_app1, List.length_append]
               exact hM)
      ·
        refine W.skip ?_
        refine thenP_normal ?_
        refine W.seqR ?_
        refine LS.vv rfl rfl (by decide) (Val.cast (v := .int .i64 ((0 : Nat) : Int)) (Val.assign rfl) rfl) ?_
        refine LS.nil ?_
        refine W.ret ?_
        refine ret1 (by first | exact .inl rfl | exact .inr rfl) rfl ?_
        replace hM := hM.er0
        first
          | (exfalso; omega)
          | (have e : pwr d s x = (s, 2) := (by unfold pwr; rw [if_pos (by omega)])
             rw [e]
             exact ⟨rfl, ⟨T0, T1, pw, cw, hM, hD0, hT0, hD1, hT1⟩, hB⟩)
          | (have e : pwr d s x = ({ s with D0 := aWrite d s.D0 s.t0 x.block.toNat x.val, l := { s.l with wr := s.l.wr ++ [x] } }, 0) := (by unfold pwr; rw [if_neg (by omega), if_pos hm])
             rw [e]
             rw [lnR_w (x := x)] at hM
             refine ⟨rfl, ⟨T2, T1, p0, c0, ?_, by rw [hT2, hD0], hl2, hD1, hT1⟩, hB⟩
             unfold PM; simp only [wO]
             rw [← sv_app1, List.length_append]
             exact hM)

theorem write1_any (d B : Nat) (q : PG) (s : PS) (S : List Oz) (w0 : World) (hI : PI w0 B d q s S) (hB0 : B ≤ w0.heap.size) (hk : PK d s) (x : St) (hxv : x.val < 256) (hm : s.main = 1) :
    CallsV Try.prog 32 #[.pointer (some ⟨q.g, 0, none⟩), .agg #[.int .i64 x.kind, .int .i64 x.site, .int .i64 x.block, .int .u8 (x.val : Int)]] w0 (fun v w => v = .int .i64 ((pwr d s x).2 : Int) ∧ PI w B d q (pwr d s x).1 S ∧ Below B w0 w) := by
  refine enter1 Try.func32 rfl Try.ntmps32 (by simp) rfl ?_
  have hB := Below.refl B w0
  simp only [argLoc, Nat.zero_add]
  obtain ⟨T0, T1, pw, cw, hM, hD0, hT0, hD1, hT1⟩ := hI.ex
  have k1 := hk.put; have k2 := hk.got; have k3 := hk.sent; have k4 := hk.wr; have k5 := hk.main; have hd3 := hk.hd3; have hd6 := hk.hd6
  have hs0 : Shape d (dT T0) := by rw [hD0]; exact hk.sh0
  have hs1 : Shape d (dT T1) := by rw [hD1]; exact hk.sh1
  have hcw := hM.o1.le_cap
  refine W.seqR ?_
  refine LS.m rfl (Step.boxZ rfl rfl (by decide) rfl rfl ?_)
  rintro w1 hO1 hg1 hbl1 hsz1
  replace hM := hM.add (Nat.le_trans hB0 hB.size) hbl1 hO1
  try simp only [List.length_cons, List.length_nil, Nat.zero_add, Nat.reduceAdd, Value.cells, List.toList_toArray, List.append_nil, List.set_cons_zero, List.set_cons_succ] at hM
  replace hB := hB.trans (hbl1.mono (Nat.le_trans hB0 hB.size))
  skip
  refine LS.vv rfl rfl (by decide) (Val.cast (v := .int .i64 ((0 : Nat) : Int)) (Val.assign rfl) rfl) ?_
  refine LS.nil ?_
  refine W.seq ?_
  refine W.seqR ?_
  refine LS.vv rfl rfl (by decide) (Val.fieldAddr0 fld45_2 rfl) ?_
  refine LS.m rfl (Step.load rfl rfl (by decide) flat3 rfl (hM.o0.rd) (rfl) ?_)
  refine LS.vv rfl rfl (by decide) (Val.lss rfl rfl) ?_
  refine LS.vv rfl rfl (by decide) (Val.move rfl) ?_
  refine LS.split 3 rfl (fun hg1 => ?_) (fun hg1 => ?_)
  ·
    first | (have hg1p := of_decide_eq_true hg1) | skip
    refine LS.s rfl rfl rfl hg1 (by decide) ?_
    refine LS.s rfl rfl rfl hg1 (by decide) ?_
    refine LS.s rfl rfl rfl hg1 (by decide) ?_
    refine LS.vv rfl rfl (by decide) (Val.pickT rfl hg1 rfl) ?_
    refine LS.nil ?_
    refine W.condT rfl ?_
    refine W.seqR ?_
    refine LS.vv rfl rfl (by decide) (Val.cast (v := .int .i64 ((2 : Nat) : Int)) (Val.assign rfl) rfl) ?_
    refine LS.nil ?_
    refine W.ret ?_
    refine thenP_ret ?_
    refine ret1 (by first | exact .inl rfl | exact .inr rfl) rfl ?_
    replace hM := hM.er0
    first
      | (exfalso; omega)
      | (have e : pwr d s x = (s, 2) := (by unfold pwr; rw [if_pos (by omega)])
         rw [e]
         exact ⟨rfl, ⟨T0, T1, pw, cw, hM, hD0, hT0, hD1, hT1⟩, hB⟩)
      | (have e : pwr d s x = ({ s with D1 := aWrite d s.D1 s.t1 x.block.toNat x.val }, 0) := (by unfold pwr; rw [if_neg (by omega), if_neg (by omega)])
         rw [e]
         exact ⟨rfl, ⟨T0, T2, pw, cw, hM, hD0, hT0, by rw [hT2, hD1], hl2⟩, hB⟩)
  ·
    first | (have hg1p := of_decide_eq_false hg1) | skip
    refine LS.vg rfl rfl rfl hg1 (by decide) (Val.fieldAddr0 fld45_2 rfl) ?_
    refine LS.mg rfl rfl hg1 (Step.load rfl rfl (by decide) flat3 rfl (hM.o0.rd) (rfl) ?_)
    refine LS.vg rfl rfl rfl hg1 (by decide) (Val.geq rfl rfl) ?_
    refine LS.vv rfl rfl (by decide) (Val.pickF rfl hg1 rfl) ?_
    refine LS.nil ?_
    first | refine W.condD rfl (fun hc2 => ?_) (fun hc2 => ?_) | refine W.cond rfl (fun hc2 => ?_) (fun hc2 => ?_)
    ·
      refine W.seqR ?_
      refine LS.vv rfl rfl (by decide) (Val.cast (v := .int .i64 ((2 : Nat) : Int)) (Val.assign rfl) rfl) ?_
      refine LS.nil ?_
      refine W.ret ?_
      refine thenP_ret ?_
      refine ret1 (by first | exact .inl rfl | exact .inr rfl) rfl ?_
      replace hM := hM.er0
      first
        | (exfalso; omega)
        | (have e : pwr d s x = (s, 2) := (by unfold pwr; rw [if_pos (by omega)])
           rw [e]
           exact ⟨rfl, ⟨T0, T1, pw, cw, hM, hD0, hT0, hD1, hT1⟩, hB⟩)
        | (have e : pwr d s x = ({ s with D1 := aWrite d s.D1 s.t1 x.block.toNat x.val }, 0) := (by unfold pwr; rw [if_neg (by omega), if_neg (by omega)])
           rw [e]
           exact ⟨rfl, ⟨T0, T2, pw, cw, hM, hD0, hT0, by rw [hT2, hD1], hl2⟩, hB⟩)
    ·
      refine W.skip ?_
      refine thenP_normal ?_
      refine W.seqFz 13 [(0, true), (1, true), (2, true), (3, true), (4, true), (5, true), (6, true), (7, true), (8, true), (9, true), (10, true), (11, true), (12, true), (13, false)] mixed (by kernel_rfl) hB hM ?_
      replace hB := hB.drew
      replace hM := hM.drew
      refine DF.vv rfl rfl rfl (by decide) (Val.move rfl) ?_
      refine DF.vv rfl rfl rfl (by decide) (Val.move rfl) ?_
      first | refine DF.vv rfl rfl rfl (by decide) (Val.nilCheck rfl) ?_ | refine DF.vv rfl rfl rfl (by decide) (Val.nilCheckP rfl) ?_
      refine DF.vv rfl rfl rfl (by decide) (Val.fieldAddr0 fld75_2 rfl) ?_
      refine DF.vv rfl rfl rfl (by decide) (Val.load flat3 rfl (fun _ h => h.2.o1.rd) (rfl)) ?_
      first | refine DF.vv rfl rfl rfl (by decide) (Val.nilCheck rfl) ?_ | refine DF.vv rfl rfl rfl (by decide) (Val.nilCheckP rfl) ?_
      refine DF.vv rfl rfl rfl (by decide) (Val.fieldAddr0 fld75_1 rfl) ?_
      refine DF.vv rfl rfl rfl (by decide) (Val.indexArrZ (j := s.main) (q := 6) Try.underlying73 elem59 rfl rfl hM.o1.rd (by simp [lnR]) (by omega)) ?_
      refine DF.vv rfl rfl rfl (by decide) (Val.load flat59 rfl (fun _ h => h.2.o1.rd) ((show _ = some (Value.pointer (some ⟨q.g1, 0, none⟩)) from by rw [hm]; rfl))) ?_
      refine DF.vv rfl rfl rfl (by decide) (Val.fieldAddr0 fld45_2 rfl) ?_
      have hblk : ([.int .i64 x.kind, .int .i64 x.site, .int .i64 x.block, .int .u8 (x.val : Int)] : List Value)[2]? = some (.int .i64 (((x.block.toNat : Nat)) : Int)) := by { simp; omega }
      refine DF.vv rfl rfl rfl (by decide) (Val.load flat3 rfl (fun _ h => h.2.o0.rd) (hblk)) ?_
      refine DF.vv rfl rfl rfl (by decide) (Val.fieldAddr0 fld45_3 rfl) ?_
      refine DF.vv rfl rfl rfl (by decide) (Val.load flat5 rfl (fun _ h => h.2.o0.rd) (rfl)) ?_
      refine DF.m rfl rfl (Step.call body30 rfl rfl (by decide) rfl (CallsV.mono (Write_any T1 s.t1 q.po1 q.g1 q.co1 d B _ _ (to1_5 hM) (Nat.le_trans hB0 hB.size) hT1 hs1 hd3 hd6 x.block.toNat x.val (by omega) hxv) ?_))
      rintro _ w2 ⟨T2, hM2, hT2, hl2, hb2⟩
      replace hM := from1_5 hM2
      replace hB := hB.trans hb2
      refine ⟨fun h => absurd rfl h, ?_⟩
      refine DF.nil ?_
      refine W.seq ?_
      refine W.seqR ?_
      refine LS.vv rfl rfl (by decide) (Val.move rfl) ?_
      first | refine LS.vv rfl rfl (by decide) (Val.nilCheck rfl) ?_ | refine LS.vv rfl rfl (by decide) (Val.nilCheckP rfl) ?_
      refine LS.vv rfl rfl (by decide) (Val.fieldAddr0 fld75_2 rfl) ?_
      refine LS.m rfl (Step.load rfl rfl (by decide) flat3 rfl (hM.o1.rd) (rfl) ?_)
      refine LS.vv rfl rfl (by decide) (Val.eql rfl rfl) ?_
      refine LS.nil ?_
      first | refine W.condD rfl (fun hc3 => ?_) (fun hc3 => ?_) | refine W.cond rfl (fun hc3 => ?_) (fun hc3 => ?_)
      ·
        refine W.regT (S := fun w => Below B w0 w ∧ Mz w B _) (.val 0 (.val 1 (.val 2 (.val 3 (.val 4 (.val 6 (.two (.mem 5 (.mem 7 (.mem 8 (.val 9 (.val 10 (.val 11 (.mem 12 (.done)))))))) (.mem 7 (.mem 5 (.mem 8 (.val 9 (.val 10 (.val 11 (.mem 12 (.done))))))))))))))) mixed (by kernel_rfl) ⟨hB.drew, hM.drew.er2.er1⟩ ?_
        replace hB := hB.drew
        replace hM := hM.drew
        refine DT.vv rfl rfl rfl (by decide) (Val.move rfl) ?_
        refine DT.vv rfl rfl rfl (by decide) (Val.move rfl) ?_
        first | refine DT.vv rfl rfl rfl (by decide) (Val.nilCheck rfl) ?_ | refine DT.vv rfl rfl rfl (by decide) (Val.nilCheckP rfl) ?_
        refine DT.vv rfl rfl rfl (by decide) (Val.fieldAddr0 fld75_0 rfl) ?_
        refine DT.vv rfl rfl rfl (by decide) (Val.fieldAddr fld67_1 rfl (hM.o1.rd) (by simp [lnR])) ?_
        refine DT.vv rfl rfl rfl (by decide) (Val.loadAgg0 agg45 rfl (fun _ h => h.2.o0.rd) rfl (by decide)) ?_
        refine DT.two ?_ ?_
        ·
          refine DT.m rfl rfl (Step.load rfl rfl (by decide) flat37 rfl (hM.o1.rd) (rfl) ?_)
          refine ⟨⟨hB, hM.er2.er1⟩, ?_⟩
          refine DT.m rfl rfl (Step.litZ rfl rfl (by decide) Try.underlying37 elem45 rfl (by decide) rfl rfl (by decide) ?_)
          rintro w3 hO3 hg3 hbl3 hsz3
          replace hM := hM.add (Nat.le_trans hB0 hB.size) hbl3 hO3
          try simp only [List.length_cons, List.length_nil, Nat.zero_add, Nat.reduceAdd, Value.cells, List.toList_toArray, List.append_nil, List.set_cons_zero, List.set_cons_succ] at hM
          replace hB := hB.trans (hbl3.mono (Nat.le_trans hB0 hB.size))
          generalize w2.drew.heap.size = gg3 at *
          refine ⟨⟨hB, hM.er3.er2.er0⟩, ?_⟩
          refine DT.m rfl rfl (Step.appendZ (B := B) rfl rfl (by decide) Try.underlying37 elem45 rfl (by decide) rfl rfl (hM.o3) (hM.o0.rd) (by first | rfl | (simp; done) | (simp; omega)) (by first | exact one_map _ (fun _ => rfl) _ | simp [Value.oneCell']) (by omega) (by omega) (Nat.le_trans hB0 hB.size) ?_)
          rintro p4 c4 w4 hO4 hg4 hbl4 hbk4
          replace hM := hM.s3 (e := _) hg4 hO4 hbk4
          replace hM := hM.tail
          replace hB := hB.trans hbl4
          refine ⟨⟨hB, hM.er2.er1⟩, ?_⟩
          first | refine DT.vv rfl rfl rfl (by decide) (Val.nilCheck rfl) ?_ | refine DT.vv rfl rfl rfl (by decide) (Val.nilCheckP rfl) ?_
          refine DT.vv rfl rfl rfl (by decide) (Val.fieldAddr0 fld75_0 rfl) ?_
          refine DT.vv rfl rfl rfl (by decide) (Val.fieldAddr fld67_1 rfl (hM.o1.rd) (by simp [lnR])) ?_
          refine DT.m rfl rfl (Step.storeZ (B := B) rfl rfl flat37 elem37 rfl rfl rfl (hM.o1) (by simp [lnR]) (Nat.le_trans hB0 hB.size) ?_)
          rintro w5 hO5 hg5 hbl5 hsz5
          replace hM := hM.s1 (e := _) hg5 hO5 inl_block
          try simp only [List.set_cons_zero, List.set_cons_succ] at hM
          replace hB := hB.trans hbl5
          refine ⟨⟨hB, hM.er2.er1⟩, ?_⟩
          refine DT.nil ?_
          refine thenP_normal ?_
          refine W.seqR ?_
          refine LS.vv rfl rfl (by decide) (Val.cast (v := .int .i64 ((0 : Nat) : Int)) (Val.assign rfl) rfl) ?_
          refine LS.nil ?_
          refine W.ret ?_
          refine ret1 (by first | exact .inl rfl | exact .inr rfl) rfl ?_
          replace hM := hM.er0
          first
            | (exfalso; omega)
            | (have e : pwr d s x = (s, 2) := (by unfold pwr; rw [if_pos (by omega)])
               rw [e]
               exact ⟨rfl, ⟨T0, T1, pw, cw, hM, hD0, hT0, hD1, hT1⟩, hB⟩)
            | (have e : pwr d s x = ({ s with D1 := aWrite d s.D1 s.t1 x.block.toNat x.val }, 0) := (by unfold pwr; rw [if_neg (by omega), if_neg (by omega)])
               rw [e]
               exact ⟨rfl, ⟨T0, T2, pw, cw, hM, hD0, hT0, by rw [hT2, hD1], hl2⟩, hB⟩)
        ·
          refine DT.m rfl rfl (Step.litZ rfl rfl (by decide) Try.underlying37 elem45 rfl (by decide) rfl rfl (by decide) ?_)
          rintro w6 hO6 hg6 hbl6 hsz6
          replace hM := hM.add (Nat.le_trans hB0 hB.size) hbl6 hO6
          try simp only [List.length_cons, List.length_nil, Nat.zero_add, Nat.reduceAdd, Value.cells, List.toList_toArray, List.append_nil, List.set_cons_zero, List.set_cons_succ] at hM
          replace hB := hB.trans (hbl6.mono (Nat.le_trans hB0 hB.size))
          generalize w2.drew.heap.size = gg6 at *
          refine ⟨⟨hB, hM.er3.er2.er0⟩, ?_⟩
          refine DT.m rfl rfl (Step.load rfl rfl (by decide) flat37 rfl (hM.o2.rd) (rfl) ?_)
          refine ⟨⟨hB, hM.er3.er2.er0⟩, ?_⟩
          refine DT.m rfl rfl (Step.appendZ (B := B) rfl rfl (by decide) Try.underlying37 elem45 rfl (by decide) rfl rfl (hM.o3) (hM.o0.rd) (by first | rfl | (simp; done) | (simp; omega)) (by first | exact one_map _ (fun _ => rfl) _ | simp [Value.oneCell']) (by omega) (by omega) (Nat.le_trans hB0 hB.size) ?_)
          rintro p7 c7 w7 hO7 hg7 hbl7 hbk7
          replace hM := hM.s3 (e := _) hg7 hO7 hbk7
          replace hM := hM.tail
          replace hB := hB.trans hbl7
          refine ⟨⟨hB, hM.er2.er1⟩, ?_⟩
          first | refine DT.vv rfl rfl rfl (by decide) (Val.nilCheck rfl) ?_ | refine DT.vv rfl rfl rfl (by decide) (Val.nilCheckP rfl) ?_
          refine DT.vv rfl rfl rfl (by decide) (Val.fieldAddr0 fld75_0 rfl) ?_
          refine DT.vv rfl rfl rfl (by decide) (Val.fieldAddr fld67_1 rfl (hM.o1.rd) (by simp [lnR])) ?_
          refine DT.m rfl rfl (Step.storeZ (B := B) rfl rfl flat37 elem37 rfl rfl rfl (hM.o1) (by simp [lnR]) (Nat.le_trans hB0 hB.size) ?_)
          rintro w8 hO8 hg8 hbl8 hsz8
          replace hM := hM.s1 (e := _) hg8 hO8 inl_block
          try simp only [List.set_cons_zero, List.set_cons_succ] at hM
          replace hB := hB.trans hbl8
          refine ⟨⟨hB, hM.er2.er1⟩, ?_⟩
          refine DT.nil ?_
          refine thenP_normal ?_
          refine W.seqR ?_
          refine LS.vv rfl rfl (by decide) (Val.cast (v := .int .i64 ((0 : Nat) : Int)) (Val.assign rfl) rfl) ?_
          refine LS.nil ?_
          refine W.ret ?_
          refine ret1 (by first | exact .inl rfl | exact .inr rfl) rfl ?_
          replace hM := hM.er0
          first
            | (exfalso; omega)
            | (have e : pwr d s x = (s, 2) := (by unfold pwr; rw [if_pos (by omega)])
               rw [e]
               exact ⟨rfl, ⟨T0, T1, pw, cw, hM, hD0, hT0, hD1, hT1⟩, hB⟩)
            | (have e : pwr d s x = ({ s with D1 := aWrite d s.D1 s.t1 x.block.toNat x.val }, 0) := (by unfold pwr; rw [if_neg (by omega), if_neg (by omega)])
               rw [e]
               exact ⟨rfl, ⟨T0, T2, pw, cw, hM, hD0, hT0, by rw [hT2, hD1], hl2⟩, hB⟩)
      ·
        refine W.skip ?_
        refine thenP_normal ?_
        refine W.seqR ?_
        refine LS.vv rfl rfl (by decide) (Val.cast (v := .int .i64 ((0 : Nat) : Int)) (Val.assign rfl) rfl) ?_
        refine LS.nil ?_
        refine W.ret ?_
        refine ret1 (by first | exact .inl rfl | exact .inr rfl) rfl ?_
        replace hM := hM.er0
        first
          | (exfalso; omega)
          | (have e : pwr d s x = (s, 2) := (by unfold pwr; rw [if_pos (by omega)])
             rw [e]
             exact ⟨rfl, ⟨T0, T1, pw, cw, hM, hD0, hT0, hD1, hT1⟩, hB⟩)
          | (have e : pwr d s x = ({ s with D1 := aWrite d s.D1 s.t1 x.block.toNat x.val }, 0) := (by unfold pwr; rw [if_neg (by omega), if_neg (by omega)])
             rw [e]
             exact ⟨rfl, ⟨T0, T2, pw, cw, hM, hD0, hT0, by rw [hT2, hD1], hl2⟩, hB⟩)

end Go.Proofs.Ytldcpihjoakigaa
