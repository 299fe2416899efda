/-
  The pair of sites: change, at.
-/
import Derived.Test.YtldcpihjoakigaaPairW
namespace Go.Proofs.Ytldcpihjoakigaa
open Go Go.RowKit V
set_option linter.unusedVariables false
set_option linter.unusedSimpArgs false

theorem change_any (d B : Nat) (q : PG) (s : PS) (S : List Oz) (w0 : World) (hI : PI w0 B d q s S) (hB0 : B ≤ w0.heap.size) (hk : PK d s) :
    CallsV Try.prog 33 #[.pointer (some ⟨q.g, 0, none⟩)] w0 (fun v w => v = .int .i64 ((pch d s).2 : Int) ∧ PI w B d q (pch d s).1 S ∧ Below B w0 w) := by
  refine enter1 Try.func33 rfl Try.ntmps33 (by simp) rfl ?_
  have hB := Below.refl B w0
  simp only [argLoc]
  obtain ⟨T0, T1, pw, cw, hM, hD0, hT0, hD1, hT1⟩ := hI.ex
  have k1 := hk.put; have k2 := hk.got; have k3 := hk.sent; have k4 := hk.wr; have k5 := hk.main; have hd3 := hk.hd3; have hd6 := hk.hd6
  have hs0 : Shape d (dT T0) := by rw [hD0]; exact hk.sh0
  have hs1 : Shape d (dT T1) := by rw [hD1]; exact hk.sh1
  have hcw := hM.o1.le_cap
  refine W.seqR ?_
  refine LS.vv rfl rfl (by decide) (Val.cast (v := .int .i64 ((0 : Nat) : Int)) (Val.assign rfl) rfl) ?_
  refine LS.nil ?_
  refine W.seq ?_
  refine W.seqR ?_
  refine LS.vv rfl rfl (by decide) (Val.move rfl) ?_
  first | refine LS.vv rfl rfl (by decide) (Val.nilCheck rfl) ?_ | refine LS.vv rfl rfl (by decide) (Val.nilCheckP rfl) ?_
  refine LS.vv rfl rfl (by decide) (Val.fieldAddr0 fld75_2 rfl) ?_
  refine LS.m rfl (Step.load rfl rfl (by decide) flat3 rfl (hM.o0.rd) (rfl) ?_)
  refine LS.vv rfl rfl (by decide) (Val.eql rfl rfl) ?_
  refine LS.nil ?_
  first | refine W.condD rfl (fun hc1 => ?_) (fun hc1 => ?_) | refine W.cond rfl (fun hc1 => ?_) (fun hc1 => ?_)
  ·
    refine W.seqR ?_
    refine LS.vv rfl rfl (by decide) (Val.cast (v := .int .i64 ((7 : Nat) : Int)) (Val.assign rfl) rfl) ?_
    refine LS.nil ?_
    refine W.ret ?_
    refine thenP_ret ?_
    refine ret1 (by first | exact .inl rfl | exact .inr rfl) rfl ?_
    first
      | (have e : pch d s = (s, 7) := (by unfold pch; rw [if_pos (by omega)])
         rw [e]
         exact ⟨rfl, ⟨T0, T1, pw, cw, hM, hD0, hT0, hD1, hT1⟩, hB⟩)
      | (have e : pch d s = ({ s with told := stold s.l, l := { s.l with put := s.l.got }, D1 := pputs d s.t1 (wsl { s.l with put := s.l.got } s.l.put) s.D1, main := 1 }, 0) := (by unfold pch; rw [if_neg (by omega)])
         rw [e]
         rw [lnR_main] at hM
         subst hS2
         exact ⟨rfl, ⟨T0b, T1b, pwb, cwb, hM, hD0b, hT0b, hD1b, hT1b⟩, hB⟩)
  ·
    refine W.skip ?_
    refine thenP_normal ?_
    refine W.seqR ?_
    refine LS.vv rfl rfl (by decide) (Val.move rfl) ?_
    refine LS.vv rfl rfl (by decide) (Val.move rfl) ?_
    first | refine LS.vv rfl rfl (by decide) (Val.nilCheck rfl) ?_ | refine LS.vv rfl rfl (by decide) (Val.nilCheckP rfl) ?_
    refine LS.vv rfl rfl (by decide) (Val.fieldAddr0 fld75_0 rfl) ?_
    refine LS.m rfl (Step.call body23 rfl rfl (by decide) rfl (CallsV.mono (toldP_any s.l pw cw q.g _ _ hM.o0.rd) ?_))
    rintro _ w1 ⟨rfl, hb1⟩
    replace hM := hM.below hb1
    replace hB := hB.trans (hb1.mono (Nat.le_trans hB0 hB.size))
    first | refine LS.vv rfl rfl (by decide) (Val.nilCheck rfl) ?_ | refine LS.vv rfl rfl (by decide) (Val.nilCheckP rfl) ?_
    refine LS.vv rfl rfl (by decide) (Val.fieldAddr0 fld75_3 rfl) ?_
    refine LS.m rfl (Step.storeZ (B := B) rfl rfl flat3 elem3 rfl rfl rfl (hM.o0) (by simp [lnR]) (Nat.le_trans hB0 hB.size) ?_)
    rintro w2 hO2 hg2 hbl2 hsz2
    replace hM := hM.s0 (e := _) hg2 hO2 inl_block
    try simp only [List.set_cons_zero, List.set_cons_succ] at hM
    replace hB := hB.trans hbl2
    rw [lnR_told] at hM
    refine LS.nil ?_
    refine W.seqR ?_
    refine LS.vv rfl rfl (by decide) (Val.move rfl) ?_
    first | refine LS.vv rfl rfl (by decide) (Val.nilCheck rfl) ?_ | refine LS.vv rfl rfl (by decide) (Val.nilCheckP rfl) ?_
    refine LS.vv rfl rfl (by decide) (Val.fieldAddr0 fld75_0 rfl) ?_
    refine LS.vv rfl rfl (by decide) (Val.fieldAddr fld67_4 rfl (hM.o0.rd) (by simp [lnR])) ?_
    refine LS.m rfl (Step.load rfl rfl (by decide) flat3 rfl (hM.o0.rd) (rfl) ?_)
    refine LS.vv rfl rfl (by decide) (Val.assign rfl) ?_
    refine LS.nil ?_
    refine W.seqR ?_
    refine LS.vv rfl rfl (by decide) (Val.move rfl) ?_
    refine LS.vv rfl rfl (by decide) (Val.move rfl) ?_
    first | refine LS.vv rfl rfl (by decide) (Val.nilCheck rfl) ?_ | refine LS.vv rfl rfl (by decide) (Val.nilCheckP rfl) ?_
    refine LS.vv rfl rfl (by decide) (Val.fieldAddr0 fld75_0 rfl) ?_
    refine LS.vv rfl rfl (by decide) (Val.fieldAddr fld67_3 rfl (hM.o0.rd) (by simp [lnR])) ?_
    refine LS.m rfl (Step.load rfl rfl (by decide) flat3 rfl (hM.o0.rd) (rfl) ?_)
    first | refine LS.vv rfl rfl (by decide) (Val.nilCheck rfl) ?_ | refine LS.vv rfl rfl (by decide) (Val.nilCheckP rfl) ?_
    refine LS.vv rfl rfl (by decide) (Val.fieldAddr0 fld75_0 rfl) ?_
    refine LS.vv rfl rfl (by decide) (Val.fieldAddr fld67_4 rfl (hM.o0.rd) (by simp [lnR])) ?_
    refine LS.m rfl (Step.storeZ (B := B) rfl rfl flat3 elem3 rfl rfl rfl (hM.o0) (by simp [lnR]) (Nat.le_trans hB0 hB.size) ?_)
    rintro w3 hO3 hg3 hbl3 hsz3
    replace hM := hM.s0 (e := _) hg3 hO3 inl_block
    try simp only [List.set_cons_zero, List.set_cons_succ] at hM
    replace hB := hB.trans hbl3
    rw [lnR_put] at hM
    generalize hS2 : ({ s with told := stold s.l, l := { s.l with put := s.l.got } } : PS) = s2 at *
    have hI2 : PI _ B d q s2 S := ⟨T0, T1, pw, cw, by subst hS2; exact hM, by subst hS2; exact hD0, hT0, by subst hS2; exact hD1, hT1⟩
    have hk2 : PK d s2 := by subst hS2; exact ⟨hd3, hd6, Nat.le_refl _, hk.got, hk.sent, hk.wr, hk.kept, hk.main, hk.sh0, hk.sh1⟩
    refine LS.nil ?_
    refine W.seqR ?_
    refine LS.vv rfl rfl (by decide) (Val.move rfl) ?_
    refine LS.vv rfl rfl (by decide) (Val.move rfl) ?_
    refine LS.m rfl (Step.call body35 rfl rfl (by decide) rfl (CallsV.mono (put_any d B q s2 S _ hI2 (Nat.le_trans hB0 hB.size) hk2 s.l.put (by subst hS2; exact k1)) ?_))
    rintro _ w4 ⟨hI4, hb4⟩
    obtain ⟨T0b, T1b, pwb, cwb, hM, hD0b, hT0b, hD1b, hT1b⟩ := hI4.ex
    replace hB := hB.trans hb4
    refine LS.nil ?_
    refine W.seqR ?_
    refine LS.vv rfl rfl (by decide) (Val.move rfl) ?_
    first | refine LS.vv rfl rfl (by decide) (Val.nilCheck rfl) ?_ | refine LS.vv rfl rfl (by decide) (Val.nilCheckP rfl) ?_
    refine LS.vv rfl rfl (by decide) (Val.fieldAddr0 fld75_2 rfl) ?_
    refine LS.m rfl (Step.storeZ (B := B) rfl rfl flat3 elem3 rfl rfl rfl (hM.o0) (by simp [lnR]) (Nat.le_trans hB0 hB.size) ?_)
    rintro w5 hO5 hg5 hbl5 hsz5
    replace hM := hM.s0 (e := _) hg5 hO5 inl_block
    try simp only [List.set_cons_zero, List.set_cons_succ] at hM
    replace hB := hB.trans hbl5
    refine LS.nil ?_
    refine W.seqR ?_
    refine LS.vv rfl rfl (by decide) (Val.cast (v := .int .i64 ((0 : Nat) : Int)) (Val.assign rfl) rfl) ?_
    refine LS.nil ?_
    refine W.ret ?_
    refine ret1 (by first | exact .inl rfl | exact .inr rfl) rfl ?_
    first
      | (have e : pch d s = (s, 7) := (by unfold pch; rw [if_pos (by omega)])
         rw [e]
         exact ⟨rfl, ⟨T0, T1, pw, cw, hM, hD0, hT0, hD1, hT1⟩, hB⟩)
      | (have e : pch d s = ({ s with told := stold s.l, l := { s.l with put := s.l.got }, D1 := pputs d s.t1 (wsl { s.l with put := s.l.got } s.l.put) s.D1, main := 1 }, 0) := (by unfold pch; rw [if_neg (by omega)])
         rw [e]
         rw [lnR_main] at hM
         subst hS2
         exact ⟨rfl, ⟨T0b, T1b, pwb, cwb, hM, hD0b, hT0b, hD1b, hT1b⟩, hB⟩)

theorem pat2 {d : Nat} {s : PS} {x : St} (h : (x.site < s.main ∨ 1 < x.site ∨ x.block < 0) ∨ (x.kind = 9 ∧ 24 ≤ x.block) ∨ (x.kind ≠ 9 ∧ (d : Int) ≤ x.block)) : pat d s x = (s, 0, 2) := by
  unfold pat
  by_cases h1 : x.site < s.main ∨ 1 < x.site ∨ x.block < 0
  · rw [if_pos h1]
  · rw [if_neg h1]
    rcases h with h | ⟨h2, h3⟩ | ⟨h2, h3⟩
    · exact absurd h h1
    · rw [if_pos h2, if_pos h3]
    · rw [if_neg h2, if_pos h3]
theorem pat_rd0 {d : Nat} {s : PS} {x : St} (h1 : ¬ (x.site < s.main ∨ 1 < x.site ∨ x.block < 0)) (hk : x.kind = 9) (hb : ¬ 24 ≤ x.block) (hs : x.site = 0) : pat d s x = (s, aRead d s.D0 s.t0 x.block.toNat, 0) := by
  unfold pat; rw [if_neg h1, if_pos hk, if_neg hb, if_pos hs]
theorem pat_rd1 {d : Nat} {s : PS} {x : St} (h1 : ¬ (x.site < s.main ∨ 1 < x.site ∨ x.block < 0)) (hk : x.kind = 9) (hb : ¬ 24 ≤ x.block) (hs : ¬ x.site = 0) : pat d s x = (s, aRead d s.D1 s.t1 x.block.toNat, 0) := by
  unfold pat; rw [if_neg h1, if_pos hk, if_neg hb, if_neg hs]
theorem pat_l0 {d : Nat} {s : PS} {x : St} (h1 : ¬ (x.site < s.main ∨ 1 < x.site ∨ x.block < 0)) (hk : x.kind = 7) (hb : ¬ (d : Int) ≤ x.block) (hs : x.site = 0) : (0 ≤ s.t0 → pat d s x = (s, 0, 7)) ∧ (¬ 0 ≤ s.t0 → pat d s x = ({ s with D0 := aLost d s.D0 x.block.toNat, t0 := x.block }, 0, 0)) := by
  unfold pat; rw [if_neg h1, if_neg (by omega), if_neg hb, if_pos hs, if_pos hk]; exact ⟨fun h => if_pos h, fun h => if_neg h⟩
theorem pat_l1 {d : Nat} {s : PS} {x : St} (h1 : ¬ (x.site < s.main ∨ 1 < x.site ∨ x.block < 0)) (hk : x.kind = 7) (hb : ¬ (d : Int) ≤ x.block) (hs : ¬ x.site = 0) : (0 ≤ s.t1 → pat d s x = (s, 0, 7)) ∧ (¬ 0 ≤ s.t1 → pat d s x = ({ s with D1 := aLost d s.D1 x.block.toNat, t1 := x.block }, 0, 0)) := by
  unfold pat; rw [if_neg h1, if_neg (by omega), if_neg hb, if_neg hs, if_pos hk]; exact ⟨fun h => if_pos h, fun h => if_neg h⟩
theorem pat_r0 {d : Nat} {s : PS} {x : St} (h1 : ¬ (x.site < s.main ∨ 1 < x.site ∨ x.block < 0)) (hk9 : ¬ x.kind = 9) (hk : ¬ x.kind = 7) (hb : ¬ (d : Int) ≤ x.block) (hs : x.site = 0) : (s.t0 ≠ x.block → pat d s x = (s, 0, 7)) ∧ (¬ s.t0 ≠ x.block → pat d s x = ({ s with D0 := aRenew d s.D0 x.block.toNat, t0 := -1 }, 0, 0)) := by
  unfold pat; rw [if_neg h1, if_neg hk9, if_neg hb, if_pos hs, if_neg hk]; exact ⟨fun h => if_pos h, fun h => if_neg h⟩
theorem pat_r1 {d : Nat} {s : PS} {x : St} (h1 : ¬ (x.site < s.main ∨ 1 < x.site ∨ x.block < 0)) (hk9 : ¬ x.kind = 9) (hk : ¬ x.kind = 7) (hb : ¬ (d : Int) ≤ x.block) (hs : ¬ x.site = 0) : (s.t1 ≠ x.block → pat d s x = (s, 0, 7)) ∧ (¬ s.t1 ≠ x.block → pat d s x = ({ s with D1 := aRenew d s.D1 x.block.toNat, t1 := -1 }, 0, 0)) := by
  unfold pat; rw [if_neg h1, if_neg hk9, if_neg hb, if_neg hs, if_neg hk]; exact ⟨fun h => if_pos h, fun h => if_neg h⟩

theorem at0_any (d B : Nat) (q : PG) (s : PS) (S : List Oz) (w0 : World) (hI : PI w0 B d q s S) (hB0 : B ≤ w0.heap.size) (hk : PK d s) (x : St) (hx : x.site = 0) :
    CallsV Try.prog 34 #[.pointer (some ⟨q.g, 0, none⟩), .agg #[.int .i64 x.kind, .int .i64 x.site, .int .i64 x.block, .int .u8 (x.val : Int)]] w0 (fun v w => v = .tuple #[.int .u8 ((pat d s x).2.1 : Int), .int .i64 ((pat d s x).2.2 : Int)] ∧ PI w B d q (pat d s x).1 S ∧ Below B w0 w) := by
  refine enter2 Try.func34 rfl Try.ntmps34 (by simp) rfl ?_
  have hB := Below.refl B w0
  simp only [argLoc, Nat.zero_add]
  obtain ⟨T0, T1, pw, cw, hM, hD0, hT0, hD1, hT1⟩ := hI.ex
  have k1 := hk.put; have k2 := hk.got; have k3 := hk.sent; have k4 := hk.wr; have k5 := hk.main; have hd3 := hk.hd3; have hd6 := hk.hd6
  have hs0 : Shape d (dT T0) := by rw [hD0]; exact hk.sh0
  have hs1 : Shape d (dT T1) := by rw [hD1]; exact hk.sh1
  have hcw := hM.o1.le_cap
  have hst : ([.int .i64 x.kind, .int .i64 x.site, .int .i64 x.block, .int .u8 (x.val : Int)] : List Value)[1]? = some (.int .i64 ((0 : Nat) : Int)) := by { simp [hx] }
  refine W.seqR ?_
  refine LS.m rfl (Step.boxZ rfl rfl (by decide) rfl rfl ?_)
  rintro w1 hO1 hg1 hbl1 hsz1
  replace hM := hM.add (Nat.le_trans hB0 hB.size) hbl1 hO1
  try simp only [List.length_cons, List.length_nil, Nat.zero_add, Nat.reduceAdd, Value.cells, List.toList_toArray, List.append_nil, List.set_cons_zero, List.set_cons_succ] at hM
  replace hB := hB.trans (hbl1.mono (Nat.le_trans hB0 hB.size))
  skip
  refine LS.vv rfl rfl (by decide) (Val.cast (v := .int .u8 ((0 : Nat) : Int)) (Val.assign rfl) rfl) ?_
  refine LS.vv rfl rfl (by decide) (Val.cast (v := .int .i64 ((0 : Nat) : Int)) (Val.assign rfl) rfl) ?_
  refine LS.nil ?_
  refine W.seq ?_
  refine W.seqFz 17 [(0, true), (1, true), (2, true), (3, true), (4, true), (5, true), (6, true), (7, true), (8, true), (9, true), (10, true), (11, true), (12, true), (13, true), (14, true), (15, true), (16, true)] mixed (by kernel_rfl) hB hM ?_
  replace hB := hB.drew
  replace hM := hM.drew
  refine DF.vv rfl rfl rfl (by decide) (Val.fieldAddr0 fld45_1 rfl) ?_
  refine DF.vv rfl rfl rfl (by decide) (Val.load flat3 rfl (fun _ h => h.2.o0.rd) (rfl)) ?_
  refine DF.vv rfl rfl rfl (by decide) (Val.move rfl) ?_
  first | refine DF.vv rfl rfl rfl (by decide) (Val.nilCheck rfl) ?_ | refine DF.vv rfl rfl rfl (by decide) (Val.nilCheckP rfl) ?_
  refine DF.vv rfl rfl rfl (by decide) (Val.fieldAddr0 fld75_2 rfl) ?_
  refine DF.vv rfl rfl rfl (by decide) (Val.load flat3 rfl (fun _ h => h.2.o1.rd) (rfl)) ?_
  refine DF.vv rfl rfl rfl (by decide) (Val.lss rfl rfl) ?_
  refine DF.vv rfl rfl rfl (by decide) (Val.move rfl) ?_
  refine DF.split 7 rfl (fun hg1 => ?_) (fun hg1 => ?_)
  ·
    first | (have hg1p := of_decide_eq_true hg1) | skip
    refine DF.s rfl rfl rfl rfl hg1 (by decide) ?_
    refine DF.s rfl rfl rfl rfl hg1 (by decide) ?_
    refine DF.s rfl rfl rfl rfl hg1 (by decide) ?_
    refine DF.vv rfl rfl rfl (by decide) (Val.pickT rfl hg1 rfl) ?_
    refine DF.vv rfl rfl rfl (by decide) (Val.move rfl) ?_
    refine DF.s rfl rfl rfl rfl rfl (by decide) ?_
    refine DF.s rfl rfl rfl rfl rfl (by decide) ?_
    refine DF.s rfl rfl rfl rfl rfl (by decide) ?_
    refine DF.vv rfl rfl rfl (by decide) (Val.pickT rfl rfl rfl) ?_
    refine DF.nil ?_
    refine W.condT rfl ?_
    refine W.seqR ?_
    refine LS.vv rfl rfl (by decide) (Val.cast (v := .int .u8 ((0 : Nat) : Int)) (Val.assign rfl) rfl) ?_
    refine LS.vv rfl rfl (by decide) (Val.cast (v := .int .i64 ((2 : Nat) : Int)) (Val.assign rfl) rfl) ?_
    refine LS.nil ?_
    refine W.ret ?_
    refine thenP_ret ?_
    refine ret2 (by first | exact .inl rfl | exact .inr rfl) rfl rfl ?_
    replace hM := hM.er0
    first
      | (exfalso; omega)
      | (rw [pat2 (by omega)]; exact ⟨rfl, ⟨T0, T1, pw, cw, hM, hD0, hT0, hD1, hT1⟩, hB⟩)
      | (rw [pat_rd0 (by omega) (by omega) (by omega) (by omega), ← hD0]; exact ⟨rfl, ⟨T0, T1, pw, cw, hM, hD0, hT0, hD1, hT1⟩, hB⟩)
      | (obtain ⟨w1, w2⟩ := pat_l0 (d := d) (s := s) (x := x) (by omega) (by omega) (by omega) (by omega)
         rcases hcs with ⟨q1, rfl, rfl, rfl⟩ | ⟨q1, rfl, rfl, q2⟩
         · rw [w1 q1]; exact ⟨rfl, ⟨T2, T1, pw, cw, hM, hD0, hT0, hD1, hT1⟩, hB⟩
         · rw [w2 (by omega)]; rw [Int.toNat_of_nonneg (show 0 ≤ x.block by omega)] at hM; exact ⟨rfl, ⟨T2, T1, pw, cw, hM, by rw [q2, hD0], hl2, hD1, hT1⟩, hB⟩)
      | (obtain ⟨w1, w2⟩ := pat_r0 (d := d) (s := s) (x := x) (by omega) (by omega) (by omega) (by omega) (by omega)
         rcases hcs with ⟨q1, rfl, rfl, rfl⟩ | ⟨q1, rfl, rfl, q2⟩
         · rw [w1 (by omega)]; exact ⟨rfl, ⟨T2, T1, pw, cw, hM, hD0, hT0, hD1, hT1⟩, hB⟩
         · rw [w2 (by omega)]; exact ⟨rfl, ⟨T2, T1, pw, cw, hM, by rw [q2, hD0], hl2, hD1, hT1⟩, hB⟩)
  ·
    first | (have hg1p := of_decide_eq_false hg1) | skip
    refine DF.vg rfl rfl rfl rfl hg1 (by decide) (Val.fieldAddr0 fld45_1 rfl) ?_
    refine DF.vg rfl rfl rfl rfl hg1 (by decide) (Val.load flat3 rfl (fun _ h => h.2.o0.rd) (rfl)) ?_
    refine DF.vg rfl rfl rfl rfl hg1 (by decide) (Val.gtr rfl rfl) ?_
    refine DF.vv rfl rfl rfl (by decide) (Val.pickF rfl hg1 rfl) ?_
    refine DF.vv rfl rfl rfl (by decide) (Val.move rfl) ?_
    refine DF.split 12 rfl (fun hg2 => ?_) (fun hg2 => ?_)
    ·
      first | (have hg2p := of_decide_eq_true hg2) | skip
      refine DF.s rfl rfl rfl rfl hg2 (by decide) ?_
      refine DF.s rfl rfl rfl rfl hg2 (by decide) ?_
      refine DF.s rfl rfl rfl rfl hg2 (by decide) ?_
      refine DF.vv rfl rfl rfl (by decide) (Val.pickT rfl hg2 rfl) ?_
      refine DF.nil ?_
      refine W.condT rfl ?_
      refine W.seqR ?_
      refine LS.vv rfl rfl (by decide) (Val.cast (v := .int .u8 ((0 : Nat) : Int)) (Val.assign rfl) rfl) ?_
      refine LS.vv rfl rfl (by decide) (Val.cast (v := .int .i64 ((2 : Nat) : Int)) (Val.assign rfl) rfl) ?_
      refine LS.nil ?_
      refine W.ret ?_
      refine thenP_ret ?_
      refine ret2 (by first | exact .inl rfl | exact .inr rfl) rfl rfl ?_
      replace hM := hM.er0
      first
        | (exfalso; omega)
        | (rw [pat2 (by omega)]; exact ⟨rfl, ⟨T0, T1, pw, cw, hM, hD0, hT0, hD1, hT1⟩, hB⟩)
        | (rw [pat_rd0 (by omega) (by omega) (by omega) (by omega), ← hD0]; exact ⟨rfl, ⟨T0, T1, pw, cw, hM, hD0, hT0, hD1, hT1⟩, hB⟩)
        | (obtain ⟨w1, w2⟩ := pat_l0 (d := d) (s := s) (x := x) (by omega) (by omega) (by omega) (by omega)
           rcases hcs with ⟨q1, rfl, rfl, rfl⟩ | ⟨q1, rfl, rfl, q2⟩
           · rw [w1 q1]; exact ⟨rfl, ⟨T2, T1, pw, cw, hM, hD0, hT0, hD1, hT1⟩, hB⟩
           · rw [w2 (by omega)]; rw [Int.toNat_of_nonneg (show 0 ≤ x.block by omega)] at hM; exact ⟨rfl, ⟨T2, T1, pw, cw, hM, by rw [q2, hD0], hl2, hD1, hT1⟩, hB⟩)
        | (obtain ⟨w1, w2⟩ := pat_r0 (d := d) (s := s) (x := x) (by omega) (by omega) (by omega) (by omega) (by omega)
           rcases hcs with ⟨q1, rfl, rfl, rfl⟩ | ⟨q1, rfl, rfl, q2⟩
           · rw [w1 (by omega)]; exact ⟨rfl, ⟨T2, T1, pw, cw, hM, hD0, hT0, hD1, hT1⟩, hB⟩
           · rw [w2 (by omega)]; exact ⟨rfl, ⟨T2, T1, pw, cw, hM, by rw [q2, hD0], hl2, hD1, hT1⟩, hB⟩)
    ·
      first | (have hg2p := of_decide_eq_false hg2) | skip
      refine DF.vg rfl rfl rfl rfl hg2 (by decide) (Val.fieldAddr0 fld45_2 rfl) ?_
      refine DF.vg rfl rfl rfl rfl hg2 (by decide) (Val.load flat3 rfl (fun _ h => h.2.o0.rd) (rfl)) ?_
      refine DF.vg rfl rfl rfl rfl hg2 (by decide) (Val.lss rfl rfl) ?_
      refine DF.vv rfl rfl rfl (by decide) (Val.pickF rfl hg2 rfl) ?_
      refine DF.nil ?_
      first | refine W.condD rfl (fun hc3 => ?_) (fun hc3 => ?_) | refine W.cond rfl (fun hc3 => ?_) (fun hc3 => ?_)
      ·
        refine W.seqR ?_
        refine LS.vv rfl rfl (by decide) (Val.cast (v := .int .u8 ((0 : Nat) : Int)) (Val.assign rfl) rfl) ?_
        refine LS.vv rfl rfl (by decide) (Val.cast (v := .int .i64 ((2 : Nat) : Int)) (Val.assign rfl) rfl) ?_
        refine LS.nil ?_
        refine W.ret ?_
        refine thenP_ret ?_
        refine ret2 (by first | exact .inl rfl | exact .inr rfl) rfl rfl ?_
        replace hM := hM.er0
        first
          | (exfalso; omega)
          | (rw [pat2 (by omega)]; exact ⟨rfl, ⟨T0, T1, pw, cw, hM, hD0, hT0, hD1, hT1⟩, hB⟩)
          | (rw [pat_rd0 (by omega) (by omega) (by omega) (by omega), ← hD0]; exact ⟨rfl, ⟨T0, T1, pw, cw, hM, hD0, hT0, hD1, hT1⟩, hB⟩)
          | (obtain ⟨w1, w2⟩ := pat_l0 (d := d) (s := s) (x := x) (by omega) (by omega) (by omega) (by omega)
             rcases hcs with ⟨q1, rfl, rfl, rfl⟩ | ⟨q1, rfl, rfl, q2⟩
             · rw [w1 q1]; exact ⟨rfl, ⟨T2, T1, pw, cw, hM, hD0, hT0, hD1, hT1⟩, hB⟩
             · rw [w2 (by omega)]; rw [Int.toNat_of_nonneg (show 0 ≤ x.block by omega)] at hM; exact ⟨rfl, ⟨T2, T1, pw, cw, hM, by rw [q2, hD0], hl2, hD1, hT1⟩, hB⟩)
          | (obtain ⟨w1, w2⟩ := pat_r0 (d := d) (s := s) (x := x) (by omega) (by omega) (by omega) (by omega) (by omega)
             rcases hcs with ⟨q1, rfl, rfl, rfl⟩ | ⟨q1, rfl, rfl, q2⟩
             · rw [w1 (by omega)]; exact ⟨rfl, ⟨T2, T1, pw, cw, hM, hD0, hT0, hD1, hT1⟩, hB⟩
             · rw [w2 (by omega)]; exact ⟨rfl, ⟨T2, T1, pw, cw, hM, by rw [q2, hD0], hl2, hD1, hT1⟩, hB⟩)
      ·
        refine W.skip ?_
        refine thenP_normal ?_
        refine W.seqFz 8 [(0, true), (1, true), (2, true), (3, true), (4, true), (5, true), (6, true), (7, true)] mixed (by kernel_rfl) hB hM ?_
        replace hB := hB.drew
        replace hM := hM.drew
        refine DF.vv rfl rfl rfl (by decide) (Val.move rfl) ?_
        refine DF.vv rfl rfl rfl (by decide) (Val.fieldAddr0 fld45_1 rfl) ?_
        refine DF.vv rfl rfl rfl (by decide) (Val.load flat3 rfl (fun _ h => h.2.o0.rd) (hst)) ?_
        first | refine DF.vv rfl rfl rfl (by decide) (Val.nilCheck rfl) ?_ | refine DF.vv rfl rfl rfl (by decide) (Val.nilCheckP rfl) ?_
        refine DF.vv rfl rfl rfl (by decide) (Val.fieldAddr0 fld75_1 rfl) ?_
        refine DF.vv rfl rfl rfl (by decide) (Val.indexArrZ (j := 0) (q := 6) Try.underlying73 elem59 rfl rfl hM.o1.rd (by simp [lnR]) (by decide)) ?_
        refine DF.vv rfl rfl rfl (by decide) (Val.load flat59 rfl (fun _ h => h.2.o1.rd) (rfl)) ?_
        refine DF.vv rfl rfl rfl (by decide) (Val.assign rfl) ?_
        refine DF.nil ?_
        refine W.seq ?_
        refine W.seqR ?_
        refine LS.vv rfl rfl (by decide) (Val.fieldAddr0 fld45_0 rfl) ?_
        refine LS.m rfl (Step.load rfl rfl (by decide) flat3 rfl (hM.o0.rd) (rfl) ?_)
        refine LS.vv rfl rfl (by decide) (Val.eql rfl rfl) ?_
        refine LS.nil ?_
        first | refine W.condD rfl (fun hc4 => ?_) (fun hc4 => ?_) | refine W.cond rfl (fun hc4 => ?_) (fun hc4 => ?_)
        ·
          refine W.seq ?_
          refine W.seqR ?_
          refine LS.vv rfl rfl (by decide) (Val.fieldAddr0 fld45_2 rfl) ?_
          refine LS.m rfl (Step.load rfl rfl (by decide) flat3 rfl (hM.o0.rd) (rfl) ?_)
          refine LS.vv rfl rfl (by decide) (Val.geq rfl rfl) ?_
          refine LS.nil ?_
          first | refine W.condD rfl (fun hc5 => ?_) (fun hc5 => ?_) | refine W.cond rfl (fun hc5 => ?_) (fun hc5 => ?_)
          ·
            refine W.seqR ?_
            refine LS.vv rfl rfl (by decide) (Val.cast (v := .int .u8 ((0 : Nat) : Int)) (Val.assign rfl) rfl) ?_
            refine LS.vv rfl rfl (by decide) (Val.cast (v := .int .i64 ((2 : Nat) : Int)) (Val.assign rfl) rfl) ?_
            refine LS.nil ?_
            refine W.ret ?_
            refine thenP_ret ?_
            refine thenP_ret ?_
            refine ret2 (by first | exact .inl rfl | exact .inr rfl) rfl rfl ?_
            replace hM := hM.er0
            first
              | (exfalso; omega)
              | (rw [pat2 (by omega)]; exact ⟨rfl, ⟨T0, T1, pw, cw, hM, hD0, hT0, hD1, hT1⟩, hB⟩)
              | (rw [pat_rd0 (by omega) (by omega) (by omega) (by omega), ← hD0]; exact ⟨rfl, ⟨T0, T1, pw, cw, hM, hD0, hT0, hD1, hT1⟩, hB⟩)
              | (obtain ⟨w1, w2⟩ := pat_l0 (d := d) (s := s) (x := x) (by omega) (by omega) (by omega) (by omega)
                 rcases hcs with ⟨q1, rfl, rfl, rfl⟩ | ⟨q1, rfl, rfl, q2⟩
                 · rw [w1 q1]; exact ⟨rfl, ⟨T2, T1, pw, cw, hM, hD0, hT0, hD1, hT1⟩, hB⟩
                 · rw [w2 (by omega)]; rw [Int.toNat_of_nonneg (show 0 ≤ x.block by omega)] at hM; exact ⟨rfl, ⟨T2, T1, pw, cw, hM, by rw [q2, hD0], hl2, hD1, hT1⟩, hB⟩)
              | (obtain ⟨w1, w2⟩ := pat_r0 (d := d) (s := s) (x := x) (by omega) (by omega) (by omega) (by omega) (by omega)
                 rcases hcs with ⟨q1, rfl, rfl, rfl⟩ | ⟨q1, rfl, rfl, q2⟩
                 · rw [w1 (by omega)]; exact ⟨rfl, ⟨T2, T1, pw, cw, hM, hD0, hT0, hD1, hT1⟩, hB⟩
                 · rw [w2 (by omega)]; exact ⟨rfl, ⟨T2, T1, pw, cw, hM, by rw [q2, hD0], hl2, hD1, hT1⟩, hB⟩)
          ·
            refine W.skip ?_
            refine thenP_normal ?_
            refine W.seqR ?_
            refine LS.vv rfl rfl (by decide) (Val.move rfl) ?_
            refine LS.vv rfl rfl (by decide) (Val.fieldAddr0 fld45_2 rfl) ?_
            have hblk : ([.int .i64 x.kind, .int .i64 x.site, .int .i64 x.block, .int .u8 (x.val : Int)] : List Value)[2]? = some (.int .i64 (((x.block.toNat : Nat)) : Int)) := by { simp; omega }
            refine LS.m rfl (Step.load rfl rfl (by decide) flat3 rfl (hM.o0.rd) (hblk) ?_)
            refine LS.m rfl (Step.call body27 rfl rfl (by decide) rfl (CallsV.mono (Read_any T0 s.t0 q.po0 q.g0 q.co0 d B _ _ (to0_3 hM) (Nat.le_trans hB0 hB.size) hT0 hs0 hd3 hd6 x.block.toNat (by omega)) ?_))
            rintro _ w2 ⟨rfl, hb2⟩
            replace hM := hM.below hb2
            replace hB := hB.trans (hb2.mono (Nat.le_trans hB0 hB.size))
            refine LS.vv rfl rfl (by decide) (Val.assign rfl) ?_
            refine LS.vv rfl rfl (by decide) (Val.cast (v := .int .i64 ((0 : Nat) : Int)) (Val.assign rfl) rfl) ?_
            refine LS.nil ?_
            refine W.ret ?_
            refine thenP_ret ?_
            refine ret2 (by first | exact .inl rfl | exact .inr rfl) rfl rfl ?_
            replace hM := hM.er0
            first
              | (exfalso; omega)
              | (rw [pat2 (by omega)]; exact ⟨rfl, ⟨T0, T1, pw, cw, hM, hD0, hT0, hD1, hT1⟩, hB⟩)
              | (rw [pat_rd0 (by omega) (by omega) (by omega) (by omega), ← hD0]; exact ⟨rfl, ⟨T0, T1, pw, cw, hM, hD0, hT0, hD1, hT1⟩, hB⟩)
              | (obtain ⟨w1, w2⟩ := pat_l0 (d := d) (s := s) (x := x) (by omega) (by omega) (by omega) (by omega)
                 rcases hcs with ⟨q1, rfl, rfl, rfl⟩ | ⟨q1, rfl, rfl, q2⟩
                 · rw [w1 q1]; exact ⟨rfl, ⟨T2, T1, pw, cw, hM, hD0, hT0, hD1, hT1⟩, hB⟩
                 · rw [w2 (by omega)]; rw [Int.toNat_of_nonneg (show 0 ≤ x.block by omega)] at hM; exact ⟨rfl, ⟨T2, T1, pw, cw, hM, by rw [q2, hD0], hl2, hD1, hT1⟩, hB⟩)
              | (obtain ⟨w1, w2⟩ := pat_r0 (d := d) (s := s) (x := x) (by omega) (by omega) (by omega) (by omega) (by omega)
                 rcases hcs with ⟨q1, rfl, rfl, rfl⟩ | ⟨q1, rfl, rfl, q2⟩
                 · rw [w1 (by omega)]; exact ⟨rfl, ⟨T2, T1, pw, cw, hM, hD0, hT0, hD1, hT1⟩, hB⟩
                 · rw [w2 (by omega)]; exact ⟨rfl, ⟨T2, T1, pw, cw, hM, by rw [q2, hD0], hl2, hD1, hT1⟩, hB⟩)
        ·
          refine W.skip ?_
          refine thenP_normal ?_
          refine W.seq ?_
          refine W.seqFz 8 [(0, true), (1, true), (2, true), (3, true), (4, true), (5, true), (6, true), (7, true)] mixed (by kernel_rfl) hB hM ?_
          replace hB := hB.drew
          replace hM := hM.drew
          refine DF.vv rfl rfl rfl (by decide) (Val.fieldAddr0 fld45_2 rfl) ?_
          refine DF.vv rfl rfl rfl (by decide) (Val.load flat3 rfl (fun _ h => h.2.o0.rd) (rfl)) ?_
          refine DF.vv rfl rfl rfl (by decide) (Val.move rfl) ?_
          first | refine DF.vv rfl rfl rfl (by decide) (Val.nilCheck rfl) ?_ | refine DF.vv rfl rfl rfl (by decide) (Val.nilCheckP rfl) ?_
          refine DF.vv rfl rfl rfl (by decide) (Val.fieldAddr0 fld64_0 rfl) ?_
          refine DF.vv rfl rfl rfl (by decide) (Val.load flat28 rfl (fun _ h => h.2.o3.rd) (rfl)) ?_
          refine DF.vv rfl rfl rfl (by decide) (Val.len Try.underlying28 rfl) ?_
          refine DF.vv rfl rfl rfl (by decide) (Val.geq rfl rfl) ?_
          refine DF.nil ?_
          first | refine W.condD rfl (fun hc6 => ?_) (fun hc6 => ?_) | refine W.cond rfl (fun hc6 => ?_) (fun hc6 => ?_)
          ·
            refine W.seqR ?_
            refine LS.vv rfl rfl (by decide) (Val.cast (v := .int .u8 ((0 : Nat) : Int)) (Val.assign rfl) rfl) ?_
            refine LS.vv rfl rfl (by decide) (Val.cast (v := .int .i64 ((2 : Nat) : Int)) (Val.assign rfl) rfl) ?_
            refine LS.nil ?_
            refine W.ret ?_
            refine thenP_ret ?_
            refine ret2 (by first | exact .inl rfl | exact .inr rfl) rfl rfl ?_
            replace hM := hM.er0
            first
              | (exfalso; omega)
              | (rw [pat2 (by omega)]; exact ⟨rfl, ⟨T0, T1, pw, cw, hM, hD0, hT0, hD1, hT1⟩, hB⟩)
              | (rw [pat_rd0 (by omega) (by omega) (by omega) (by omega), ← hD0]; exact ⟨rfl, ⟨T0, T1, pw, cw, hM, hD0, hT0, hD1, hT1⟩, hB⟩)
              | (obtain ⟨w1, w2⟩ := pat_l0 (d := d) (s := s) (x := x) (by omega) (by omega) (by omega) (by omega)
                 rcases hcs with ⟨q1, rfl, rfl, rfl⟩ | ⟨q1, rfl, rfl, q2⟩
                 · rw [w1 q1]; exact ⟨rfl, ⟨T2, T1, pw, cw, hM, hD0, hT0, hD1, hT1⟩, hB⟩
                 · rw [w2 (by omega)]; rw [Int.toNat_of_nonneg (show 0 ≤ x.block by omega)] at hM; exact ⟨rfl, ⟨T2, T1, pw, cw, hM, by rw [q2, hD0], hl2, hD1, hT1⟩, hB⟩)
              | (obtain ⟨w1, w2⟩ := pat_r0 (d := d) (s := s) (x := x) (by omega) (by omega) (by omega) (by omega) (by omega)
                 rcases hcs with ⟨q1, rfl, rfl, rfl⟩ | ⟨q1, rfl, rfl, q2⟩
                 · rw [w1 (by omega)]; exact ⟨rfl, ⟨T2, T1, pw, cw, hM, hD0, hT0, hD1, hT1⟩, hB⟩
                 · rw [w2 (by omega)]; exact ⟨rfl, ⟨T2, T1, pw, cw, hM, by rw [q2, hD0], hl2, hD1, hT1⟩, hB⟩)
          ·
            refine W.skip ?_
            refine thenP_normal ?_
            refine W.seq ?_
            refine W.seqR ?_
            refine LS.vv rfl rfl (by decide) (Val.fieldAddr0 fld45_0 rfl) ?_
            refine LS.m rfl (Step.load rfl rfl (by decide) flat3 rfl (hM.o0.rd) (rfl) ?_)
            refine LS.vv rfl rfl (by decide) (Val.eql rfl rfl) ?_
            refine LS.nil ?_
            first | refine W.condD rfl (fun hc7 => ?_) (fun hc7 => ?_) | refine W.cond rfl (fun hc7 => ?_) (fun hc7 => ?_)
            ·
              refine W.seqR ?_
              refine LS.vv rfl rfl (by decide) (Val.move rfl) ?_
              refine LS.vv rfl rfl (by decide) (Val.fieldAddr0 fld45_2 rfl) ?_
              have hblk : ([.int .i64 x.kind, .int .i64 x.site, .int .i64 x.block, .int .u8 (x.val : Int)] : List Value)[2]? = some (.int .i64 (((x.block.toNat : Nat)) : Int)) := by { simp; omega }
              refine LS.m rfl (Step.load rfl rfl (by decide) flat3 rfl (hM.o0.rd) (hblk) ?_)
              refine LS.m rfl (Step.call body28 rfl rfl (by decide) rfl (CallsV.mono (Lose_any T0 s.t0 q.po0 q.g0 q.co0 d B _ _ (to0_3 hM) (Nat.le_trans hB0 hB.size) hT0 hs0 hd3 hd6 x.block.toNat (by omega)) ?_))
              rintro _ w3 ⟨T2, l2, e, rfl, hM3, hl2, hcs, hb3⟩
              replace hM := from0_3 hM3
              replace hB := hB.trans hb3
              refine LS.vv rfl rfl (by decide) (Val.cast (v := .int .u8 ((0 : Nat) : Int)) (Val.assign rfl) rfl) ?_
              refine LS.vv rfl rfl (by decide) (Val.assign rfl) ?_
              refine LS.nil ?_
              refine W.ret ?_
              refine thenP_ret ?_
              refine ret2 (by first | exact .inl rfl | exact .inr rfl) rfl rfl ?_
              replace hM := hM.er0
              first
                | (exfalso; omega)
                | (rw [pat2 (by omega)]; exact ⟨rfl, ⟨T0, T1, pw, cw, hM, hD0, hT0, hD1, hT1⟩, hB⟩)
                | (rw [pat_rd0 (by omega) (by omega) (by omega) (by omega), ← hD0]; exact ⟨rfl, ⟨T0, T1, pw, cw, hM, hD0, hT0, hD1, hT1⟩, hB⟩)
                | (obtain ⟨w1, w2⟩ := pat_l0 (d := d) (s := s) (x := x) (by omega) (by omega) (by omega) (by omega)
                   rcases hcs with ⟨q1, rfl, rfl, rfl⟩ | ⟨q1, rfl, rfl, q2⟩
                   · rw [w1 q1]; exact ⟨rfl, ⟨T2, T1, pw, cw, hM, hD0, hT0, hD1, hT1⟩, hB⟩
                   · rw [w2 (by omega)]; rw [Int.toNat_of_nonneg (show 0 ≤ x.block by omega)] at hM; exact ⟨rfl, ⟨T2, T1, pw, cw, hM, by rw [q2, hD0], hl2, hD1, hT1⟩, hB⟩)
                | (obtain ⟨w1, w2⟩ := pat_r0 (d := d) (s := s) (x := x) (by omega) (by omega) (by omega) (by omega) (by omega)
                   rcases hcs with ⟨q1, rfl, rfl, rfl⟩ | ⟨q1, rfl, rfl, q2⟩
                   · rw [w1 (by omega)]; exact ⟨rfl, ⟨T2, T1, pw, cw, hM, hD0, hT0, hD1, hT1⟩, hB⟩
                   · rw [w2 (by omega)]; exact ⟨rfl, ⟨T2, T1, pw, cw, hM, by rw [q2, hD0], hl2, hD1, hT1⟩, hB⟩)
            ·
              refine W.skip ?_
              refine thenP_normal ?_
              refine W.seqR ?_
              refine LS.vv rfl rfl (by decide) (Val.move rfl) ?_
              refine LS.vv rfl rfl (by decide) (Val.fieldAddr0 fld45_2 rfl) ?_
              have hblk : ([.int .i64 x.kind, .int .i64 x.site, .int .i64 x.block, .int .u8 (x.val : Int)] : List Value)[2]? = some (.int .i64 (((x.block.toNat : Nat)) : Int)) := by { simp; omega }
              refine LS.m rfl (Step.load rfl rfl (by decide) flat3 rfl (hM.o0.rd) (hblk) ?_)
              refine LS.m rfl (Step.call body29 rfl rfl (by decide) rfl (CallsV.mono (Renew_any T0 s.t0 q.po0 q.g0 q.co0 d B _ _ (to0_3 hM) (Nat.le_trans hB0 hB.size) hT0 hs0 hd3 hd6 x.block.toNat (by omega)) ?_))
              rintro _ w4 ⟨T2, l2, e, rfl, hM4, hl2, hcs, hb4⟩
              replace hM := from0_3 hM4
              replace hB := hB.trans hb4
              refine LS.vv rfl rfl (by decide) (Val.cast (v := .int .u8 ((0 : Nat) : Int)) (Val.assign rfl) rfl) ?_
              refine LS.vv rfl rfl (by decide) (Val.assign rfl) ?_
              refine LS.nil ?_
              refine W.ret ?_
              refine ret2 (by first | exact .inl rfl | exact .inr rfl) rfl rfl ?_
              replace hM := hM.er0
              first
                | (exfalso; omega)
                | (rw [pat2 (by omega)]; exact ⟨rfl, ⟨T0, T1, pw, cw, hM, hD0, hT0, hD1, hT1⟩, hB⟩)
                | (rw [pat_rd0 (by omega) (by omega) (by omega) (by omega), ← hD0]; exact ⟨rfl, ⟨T0, T1, pw, cw, hM, hD0, hT0, hD1, hT1⟩, hB⟩)
                | (obtain ⟨w1, w2⟩ := pat_l0 (d := d) (s := s) (x := x) (by omega) (by omega) (by omega) (by omega)
                   rcases hcs with ⟨q1, rfl, rfl, rfl⟩ | ⟨q1, rfl, rfl, q2⟩
                   · rw [w1 q1]; exact ⟨rfl, ⟨T2, T1, pw, cw, hM, hD0, hT0, hD1, hT1⟩, hB⟩
                   · rw [w2 (by omega)]; rw [Int.toNat_of_nonneg (show 0 ≤ x.block by omega)] at hM; exact ⟨rfl, ⟨T2, T1, pw, cw, hM, by rw [q2, hD0], hl2, hD1, hT1⟩, hB⟩)
                | (obtain ⟨w1, w2⟩ := pat_r0 (d := d) (s := s) (x := x) (by omega) (by omega) (by omega) (by omega) (by omega)
                   rcases hcs with ⟨q1, rfl, rfl, rfl⟩ | ⟨q1, rfl, rfl, q2⟩
                   · rw [w1 (by omega)]; exact ⟨rfl, ⟨T2, T1, pw, cw, hM, hD0, hT0, hD1, hT1⟩, hB⟩
                   · rw [w2 (by omega)]; exact ⟨rfl, ⟨T2, T1, pw, cw, hM, by rw [q2, hD0], hl2, hD1, hT1⟩, hB⟩)

theorem at1_any (d B : Nat) (q : PG) (s : PS) (S : List Oz) (w0 : World) (hI : PI w0 B d q s S) (hB0 : B ≤ w0.heap.size) (hk : PK d s) (x : St) (hx : x.site = 1) :
    CallsV Try.prog 34 #[.pointer (some ⟨q.g, 0, none⟩), .agg #[.int .i64 x.kind, .int .i64 x.site, .int .i64 x.block, .int .u8 (x.val : Int)]] w0 (fun v w => v = .tuple #[.int .u8 ((pat d s x).2.1 : Int), .int .i64 ((pat d s x).2.2 : Int)] ∧ PI w B d q (pat d s x).1 S ∧ Below B w0 w) := by
  refine enter2 Try.func34 rfl Try.ntmps34 (by simp) rfl ?_
  have hB := Below.refl B w0
  simp only [argLoc, Nat.zero_add]
  obtain ⟨T0, T1, pw, cw, hM, hD0, hT0, hD1, hT1⟩ := hI.ex
  have k1 := hk.put; have k2 := hk.got; have k3 := hk.sent; have k4 := hk.wr; have k5 := hk.main; have hd3 := hk.hd3; have hd6 := hk.hd6
  have hs0 : Shape d (dT T0) := by rw [hD0]; exact hk.sh0
  have hs1 : Shape d (dT T1) := by rw [hD1]; exact hk.sh1
  have hcw := hM.o1.le_cap
  have hst : ([.int .i64 x.kind, .int .i64 x.site, .int .i64 x.block, .int .u8 (x.val : Int)] : List Value)[1]? = some (.int .i64 ((1 : Nat) : Int)) := by { simp [hx] }
  refine W.seqR ?_
  refine LS.m rfl (Step.boxZ rfl rfl (by decide) rfl rfl ?_)
  rintro w1 hO1 hg1 hbl1 hsz1
  replace hM := hM.add (Nat.le_trans hB0 hB.size) hbl1 hO1
  try simp only [List.length_cons, List.length_nil, Nat.zero_add, Nat.reduceAdd, Value.cells, List.toList_toArray, List.append_nil, List.set_cons_zero, List.set_cons_succ] at hM
  replace hB := hB.trans (hbl1.mono (Nat.le_trans hB0 hB.size))
  skip
  refine LS.vv rfl rfl (by decide) (Val.cast (v := .int .u8 ((0 : Nat) : Int)) (Val.assign rfl) rfl) ?_
  refine LS.vv rfl rfl (by decide) (Val.cast (v := .int .i64 ((0 : Nat) : Int)) (Val.assign rfl) rfl) ?_
  refine LS.nil ?_
  refine W.seq ?_
  refine W.seqFz 17 [(0, true), (1, true), (2, true), (3, true), (4, true), (5, true), (6, true), (7, true), (8, true), (9, true), (10, true), (11, true), (12, true), (13, true), (14, true), (15, true), (16, true)] mixed (by kernel_rfl) hB hM ?_
  replace hB := hB.drew
  replace hM := hM.drew
  refine DF.vv rfl rfl rfl (by decide) (Val.fieldAddr0 fld45_1 rfl) ?_
  refine DF.vv rfl rfl rfl (by decide) (Val.load flat3 rfl (fun _ h => h.2.o0.rd) (rfl)) ?_
  refine DF.vv rfl rfl rfl (by decide) (Val.move rfl) ?_
  first | refine DF.vv rfl rfl rfl (by decide) (Val.nilCheck rfl) ?_ | refine DF.vv rfl rfl rfl (by decide) (Val.nilCheckP rfl) ?_
  refine DF.vv rfl rfl rfl (by decide) (Val.fieldAddr0 fld75_2 rfl) ?_
  refine DF.vv rfl rfl rfl (by decide) (Val.load flat3 rfl (fun _ h => h.2.o1.rd) (rfl)) ?_
  refine DF.vv rfl rfl rfl (by decide) (Val.lss rfl rfl) ?_
  refine DF.vv rfl rfl rfl (by decide) (Val.move rfl) ?_
  refine DF.split 7 rfl (fun hg1 => ?_) (fun hg1 => ?_)
  ·
    first | (have hg1p := of_decide_eq_true hg1) | skip
    refine DF.s rfl rfl rfl rfl hg1 (by decide) ?_
    refine DF.s rfl rfl rfl rfl hg1 (by decide) ?_
    refine DF.s rfl rfl rfl rfl hg1 (by decide) ?_
    refine DF.vv rfl rfl rfl (by decide) (Val.pickT rfl hg1 rfl) ?_
    refine DF.vv rfl rfl rfl (by decide) (Val.move rfl) ?_
    refine DF.s rfl rfl rfl rfl rfl (by decide) ?_
    refine DF.s rfl rfl rfl rfl rfl (by decide) ?_
    refine DF.s rfl rfl rfl rfl rfl (by decide) ?_
    refine DF.vv rfl rfl rfl (by decide) (Val.pickT rfl rfl rfl) ?_
    refine DF.nil ?_
    refine W.condT rfl ?_
    refine W.seqR ?_
    refine LS.vv rfl rfl (by decide) (Val.cast (v := .int .u8 ((0 : Nat) : Int)) (Val.assign rfl) rfl) ?_
    refine LS.vv rfl rfl (by decide) (Val.cast (v := .int .i64 ((2 : Nat) : Int)) (Val.assign rfl) rfl) ?_
    refine LS.nil ?_
    refine W.ret ?_
    refine thenP_ret ?_
    refine ret2 (by first | exact .inl rfl | exact .inr rfl) rfl rfl ?_
    replace hM := hM.er0
    first
      | (exfalso; omega)
      | (rw [pat2 (by omega)]; exact ⟨rfl, ⟨T0, T1, pw, cw, hM, hD0, hT0, hD1, hT1⟩, hB⟩)
      | (rw [pat_rd1 (by omega) (by omega) (by omega) (by omega), ← hD1]; exact ⟨rfl, ⟨T0, T1, pw, cw, hM, hD0, hT0, hD1, hT1⟩, hB⟩)
      | (obtain ⟨w1, w2⟩ := pat_l1 (d := d) (s := s) (x := x) (by omega) (by omega) (by omega) (by omega)
         rcases hcs with ⟨q1, rfl, rfl, rfl⟩ | ⟨q1, rfl, rfl, q2⟩
         · rw [w1 q1]; exact ⟨rfl, ⟨T0, T2, pw, cw, hM, hD0, hT0, hD1, hT1⟩, hB⟩
         · rw [w2 (by omega)]; rw [Int.toNat_of_nonneg (show 0 ≤ x.block by omega)] at hM; exact ⟨rfl, ⟨T0, T2, pw, cw, hM, hD0, hT0, by rw [q2, hD1], hl2⟩, hB⟩)
      | (obtain ⟨w1, w2⟩ := pat_r1 (d := d) (s := s) (x := x) (by omega) (by omega) (by omega) (by omega) (by omega)
         rcases hcs with ⟨q1, rfl, rfl, rfl⟩ | ⟨q1, rfl, rfl, q2⟩
         · rw [w1 (by omega)]; exact ⟨rfl, ⟨T0, T2, pw, cw, hM, hD0, hT0, hD1, hT1⟩, hB⟩
         · rw [w2 (by omega)]; exact ⟨rfl, ⟨T0, T2, pw, cw, hM, hD0, hT0, by rw [q2, hD1], hl2⟩, hB⟩)
  ·
    first | (have hg1p := of_decide_eq_false hg1) | skip
    refine DF.vg rfl rfl rfl rfl hg1 (by decide) (Val.fieldAddr0 fld45_1 rfl) ?_
    refine DF.vg rfl rfl rfl rfl hg1 (by decide) (Val.load flat3 rfl (fun _ h => h.2.o0.rd) (rfl)) ?_
    refine DF.vg rfl rfl rfl rfl hg1 (by decide) (Val.gtr rfl rfl) ?_
    refine DF.vv rfl rfl rfl (by decide) (Val.pickF rfl hg1 rfl) ?_
    refine DF.vv rfl rfl rfl (by decide) (Val.move rfl) ?_
    refine DF.split 12 rfl (fun hg2 => ?_) (fun hg2 => ?_)
    ·
      first | (have hg2p := of_decide_eq_true hg2) | skip
      refine DF.s rfl rfl rfl rfl hg2 (by decide) ?_
      refine DF.s rfl rfl rfl rfl hg2 (by decide) ?_
      refine DF.s rfl rfl rfl rfl hg2 (by decide) ?_
      refine DF.vv rfl rfl rfl (by decide) (Val.pickT rfl hg2 rfl) ?_
      refine DF.nil ?_
      refine W.condT rfl ?_
      refine W.seqR ?_
      refine LS.vv rfl rfl (by decide) (Val.cast (v := .int .u8 ((0 : Nat) : Int)) (Val.assign rfl) rfl) ?_
      refine LS.vv rfl rfl (by decide) (Val.cast (v := .int .i64 ((2 : Nat) : Int)) (Val.assign rfl) rfl) ?_
      refine LS.nil ?_
      refine W.ret ?_
      refine thenP_ret ?_
      refine ret2 (by first | exact .inl rfl | exact .inr rfl) rfl rfl ?_
      replace hM := hM.er0
      first
        | (exfalso; omega)
        | (rw [pat2 (by omega)]; exact ⟨rfl, ⟨T0, T1, pw, cw, hM, hD0, hT0, hD1, hT1⟩, hB⟩)
        | (rw [pat_rd1 (by omega) (by omega) (by omega) (by omega), ← hD1]; exact ⟨rfl, ⟨T0, T1, pw, cw, hM, hD0, hT0, hD1, hT1⟩, hB⟩)
        | (obtain ⟨w1, w2⟩ := pat_l1 (d := d) (s := s) (x := x) (by omega) (by omega) (by omega) (by omega)
           rcases hcs with ⟨q1, rfl, rfl, rfl⟩ | ⟨q1, rfl, rfl, q2⟩
           · rw [w1 q1]; exact ⟨rfl, ⟨T0, T2, pw, cw, hM, hD0, hT0, hD1, hT1⟩, hB⟩
           · rw [w2 (by omega)]; rw [Int.toNat_of_nonneg (show 0 ≤ x.block by omega)] at hM; exact ⟨rfl, ⟨T0, T2, pw, cw, hM, hD0, hT0, by rw [q2, hD1], hl2⟩, hB⟩)
        | (obtain ⟨w1, w2⟩ := pat_r1 (d := d) (s := s) (x := x) (by omega) (by omega) (by omega) (by omega) (by omega)
           rcases hcs with ⟨q1, rfl, rfl, rfl⟩ | ⟨q1, rfl, rfl, q2⟩
           · rw [w1 (by omega)]; exact ⟨rfl, ⟨T0, T2, pw, cw, hM, hD0, hT0, hD1, hT1⟩, hB⟩
           · rw [w2 (by omega)]; exact ⟨rfl, ⟨T0, T2, pw, cw, hM, hD0, hT0, by rw [q2, hD1], hl2⟩, hB⟩)
    ·
      first | (have hg2p := of_decide_eq_false hg2) | skip
      refine DF.vg rfl rfl rfl rfl hg2 (by decide) (Val.fieldAddr0 fld45_2 rfl) ?_
      refine DF.vg rfl rfl rfl rfl hg2 (by decide) (Val.load flat3 rfl (fun _ h => h.2.o0.rd) (rfl)) ?_
      refine DF.vg rfl rfl rfl rfl hg2 (by decide) (Val.lss rfl rfl) ?_
      refine DF.vv rfl rfl rfl (by decide) (Val.pickF rfl hg2 rfl) ?_
      refine DF.nil ?_
      first | refine W.condD rfl (fun hc3 => ?_) (fun hc3 => ?_) | refine W.cond rfl (fun hc3 => ?_) (fun hc3 => ?_)
      ·
        refine W.seqR ?_
        refine LS.vv rfl rfl (by decide) (Val.cast (v := .int .u8 ((0 : Nat) : Int)) (Val.assign rfl) rfl) ?_
        refine LS.vv rfl rfl (by decide) (Val.cast (v := .int .i64 ((2 : Nat) : Int)) (Val.assign rfl) rfl) ?_
        refine LS.nil ?_
        refine W.ret ?_
        refine thenP_ret ?_
        refine ret2 (by first | exact .inl rfl | exact .inr rfl) rfl rfl ?_
        replace hM := hM.er0
        first
          | (exfalso; omega)
          | (rw [pat2 (by omega)]; exact ⟨rfl, ⟨T0, T1, pw, cw, hM, hD0, hT0, hD1, hT1⟩, hB⟩)
          | (rw [pat_rd1 (by omega) (by omega) (by omega) (by omega), ← hD1]; exact ⟨rfl, ⟨T0, T1, pw, cw, hM, hD0, hT0, hD1, hT1⟩, hB⟩)
          | (obtain ⟨w1, w2⟩ := pat_l1 (d := d) (s := s) (x := x) (by omega) (by omega) (by omega) (by omega)
             rcases hcs with ⟨q1, rfl, rfl, rfl⟩ | ⟨q1, rfl, rfl, q2⟩
             · rw [w1 q1]; exact ⟨rfl, ⟨T0, T2, pw, cw, hM, hD0, hT0, hD1, hT1⟩, hB⟩
             · rw [w2 (by omega)]; rw [Int.toNat_of_nonneg (show 0 ≤ x.block by omega)] at hM; exact ⟨rfl, ⟨T0, T2, pw, cw, hM, hD0, hT0, by rw [q2, hD1], hl2⟩, hB⟩)
          | (obtain ⟨w1, w2⟩ := pat_r1 (d := d) (s := s) (x := x) (by omega) (by omega) (by omega) (by omega) (by omega)
             rcases hcs with ⟨q1, rfl, rfl, rfl⟩ | ⟨q1, rfl, rfl, q2⟩
             · rw [w1 (by omega)]; exact ⟨rfl, ⟨T0, T2, pw, cw, hM, hD0, hT0, hD1, hT1⟩, hB⟩
             · rw [w2 (by omega)]; exact ⟨rfl, ⟨T0, T2, pw, cw, hM, hD0, hT0, by rw [q2, hD1], hl2⟩, hB⟩)
      ·
        refine W.skip ?_
        refine thenP_normal ?_
        refine W.seqFz 8 [(0, true), (1, true), (2, true), (3, true), (4, true), (5, true), (6, true), (7, true)] mixed (by kernel_rfl) hB hM ?_
        replace hB := hB.drew
        replace hM := hM.drew
        refine DF.vv rfl rfl rfl (by decide) (Val.move rfl) ?_
        refine DF.vv rfl rfl rfl (by decide) (Val.fieldAddr0 fld45_1 rfl) ?_
        refine DF.vv rfl rfl rfl (by decide) (Val.load flat3 rfl (fun _ h => h.2.o0.rd) (hst)) ?_
        first | refine DF.vv rfl rfl rfl (by decide) (Val.nilCheck rfl) ?_ | refine DF.vv rfl rfl rfl (by decide) (Val.nilCheckP rfl) ?_
        refine DF.vv rfl rfl rfl (by decide) (Val.fieldAddr0 fld75_1 rfl) ?_
        refine DF.vv rfl rfl rfl (by decide) (Val.indexArrZ (j := 1) (q := 6) Try.underlying73 elem59 rfl rfl hM.o1.rd (by simp [lnR]) (by decide)) ?_
        refine DF.vv rfl rfl rfl (by decide) (Val.load flat59 rfl (fun _ h => h.2.o1.rd) (rfl)) ?_
        refine DF.vv rfl rfl rfl (by decide) (Val.assign rfl) ?_
        refine DF.nil ?_
        refine W.seq ?_
        refine W.seqR ?_
        refine LS.vv rfl rfl (by decide) (Val.fieldAddr0 fld45_0 rfl) ?_
        refine LS.m rfl (Step.load rfl rfl (by decide) flat3 rfl (hM.o0.rd) (rfl) ?_)
        refine LS.vv rfl rfl (by decide) (Val.eql rfl rfl) ?_
        refine LS.nil ?_
        first | refine W.condD rfl (fun hc4 => ?_) (fun hc4 => ?_) | refine W.cond rfl (fun hc4 => ?_) (fun hc4 => ?_)
        ·
          refine W.seq ?_
          refine W.seqR ?_
          refine LS.vv rfl rfl (by decide) (Val.fieldAddr0 fld45_2 rfl) ?_
          refine LS.m rfl (Step.load rfl rfl (by decide) flat3 rfl (hM.o0.rd) (rfl) ?_)
          refine LS.vv rfl rfl (by decide) (Val.geq rfl rfl) ?_
          refine LS.nil ?_
          first | refine W.condD rfl (fun hc5 => ?_) (fun hc5 => ?_) | refine W.cond rfl (fun hc5 => ?_) (fun hc5 => ?_)
          ·
            refine W.seqR ?_
            refine LS.vv rfl rfl (by decide) (Val.cast (v := .int .u8 ((0 : Nat) : Int)) (Val.assign rfl) rfl) ?_
            refine LS.vv rfl rfl (by decide) (Val.cast (v := .int .i64 ((2 : Nat) : Int)) (Val.assign rfl) rfl) ?_
            refine LS.nil ?_
            refine W.ret ?_
            refine thenP_ret ?_
            refine thenP_ret ?_
            refine ret2 (by first | exact .inl rfl | exact .inr rfl) rfl rfl ?_
            replace hM := hM.er0
            first
              | (exfalso; omega)
              | (rw [pat2 (by omega)]; exact ⟨rfl, ⟨T0, T1, pw, cw, hM, hD0, hT0, hD1, hT1⟩, hB⟩)
              | (rw [pat_rd1 (by omega) (by omega) (by omega) (by omega), ← hD1]; exact ⟨rfl, ⟨T0, T1, pw, cw, hM, hD0, hT0, hD1, hT1⟩, hB⟩)
              | (obtain ⟨w1, w2⟩ := pat_l1 (d := d) (s := s) (x := x) (by omega) (by omega) (by omega) (by omega)
                 rcases hcs with ⟨q1, rfl, rfl, rfl⟩ | ⟨q1, rfl, rfl, q2⟩
                 · rw [w1 q1]; exact ⟨rfl, ⟨T0, T2, pw, cw, hM, hD0, hT0, hD1, hT1⟩, hB⟩
                 · rw [w2 (by omega)]; rw [Int.toNat_of_nonneg (show 0 ≤ x.block by omega)] at hM; exact ⟨rfl, ⟨T0, T2, pw, cw, hM, hD0, hT0, by rw [q2, hD1], hl2⟩, hB⟩)
              | (obtain ⟨w1, w2⟩ := pat_r1 (d := d) (s := s) (x := x) (by omega) (by omega) (by omega) (by omega) (by omega)
                 rcases hcs with ⟨q1, rfl, rfl, rfl⟩ | ⟨q1, rfl, rfl, q2⟩
                 · rw [w1 (by omega)]; exact ⟨rfl, ⟨T0, T2, pw, cw, hM, hD0, hT0, hD1, hT1⟩, hB⟩
                 · rw [w2 (by omega)]; exact ⟨rfl, ⟨T0, T2, pw, cw, hM, hD0, hT0, by rw [q2, hD1], hl2⟩, hB⟩)
          ·
            refine W.skip ?_
            refine thenP_normal ?_
            refine W.seqR ?_
            refine LS.vv rfl rfl (by decide) (Val.move rfl) ?_
            refine LS.vv rfl rfl (by decide) (Val.fieldAddr0 fld45_2 rfl) ?_
            have hblk : ([.int .i64 x.kind, .int .i64 x.site, .int .i64 x.block, .int .u8 (x.val : Int)] : List Value)[2]? = some (.int .i64 (((x.block.toNat : Nat)) : Int)) := by { simp; omega }
            refine LS.m rfl (Step.load rfl rfl (by decide) flat3 rfl (hM.o0.rd) (hblk) ?_)
            refine LS.m rfl (Step.call body27 rfl rfl (by decide) rfl (CallsV.mono (Read_any T1 s.t1 q.po1 q.g1 q.co1 d B _ _ (to1_5 hM) (Nat.le_trans hB0 hB.size) hT1 hs1 hd3 hd6 x.block.toNat (by omega)) ?_))
            rintro _ w2 ⟨rfl, hb2⟩
            replace hM := hM.below hb2
            replace hB := hB.trans (hb2.mono (Nat.le_trans hB0 hB.size))
            refine LS.vv rfl rfl (by decide) (Val.assign rfl) ?_
            refine LS.vv rfl rfl (by decide) (Val.cast (v := .int .i64 ((0 : Nat) : Int)) (Val.assign rfl) rfl) ?_
            refine LS.nil ?_
            refine W.ret ?_
            refine thenP_ret ?_
            refine ret2 (by first | exact .inl rfl | exact .inr rfl) rfl rfl ?_
            replace hM := hM.er0
            first
              | (exfalso; omega)
              | (rw [pat2 (by omega)]; exact ⟨rfl, ⟨T0, T1, pw, cw, hM, hD0, hT0, hD1, hT1⟩, hB⟩)
              | (rw [pat_rd1 (by omega) (by omega) (by omega) (by omega), ← hD1]; exact ⟨rfl, ⟨T0, T1, pw, cw, hM, hD0, hT0, hD1, hT1⟩, hB⟩)
              | (obtain ⟨w1, w2⟩ := pat_l1 (d := d) (s := s) (x := x) (by omega) (by omega) (by omega) (by omega)
                 rcases hcs with ⟨q1, rfl, rfl, rfl⟩ | ⟨q1, rfl, rfl, q2⟩
                 · rw [w1 q1]; exact ⟨rfl, ⟨T0, T2, pw, cw, hM, hD0, hT0, hD1, hT1⟩, hB⟩
                 · rw [w2 (by omega)]; rw [Int.toNat_of_nonneg (show 0 ≤ x.block by omega)] at hM; exact ⟨rfl, ⟨T0, T2, pw, cw, hM, hD0, hT0, by rw [q2, hD1], hl2⟩, hB⟩)
              | (obtain ⟨w1, w2⟩ := pat_r1 (d := d) (s := s) (x := x) (by omega) (by omega) (by omega) (by omega) (by omega)
                 rcases hcs with ⟨q1, rfl, rfl, rfl⟩ | ⟨q1, rfl, rfl, q2⟩
                 · rw [w1 (by omega)]; exact ⟨rfl, ⟨T0, T2, pw, cw, hM, hD0, hT0, hD1, hT1⟩, hB⟩
                 · rw [w2 (by omega)]; exact ⟨rfl, ⟨T0, T2, pw, cw, hM, hD0, hT0, by rw [q2, hD1], hl2⟩, hB⟩)
        ·
          refine W.skip ?_
          refine thenP_normal ?_
          refine W.seq ?_
          refine W.seqFz 8 [(0, true), (1, true), (2, true), (3, true), (4, true), (5, true), (6, true), (7, true)] mixed (by kernel_rfl) hB hM ?_
          replace hB := hB.drew
          replace hM := hM.drew
          refine DF.vv rfl rfl rfl (by decide) (Val.fieldAddr0 fld45_2 rfl) ?_
          refine DF.vv rfl rfl rfl (by decide) (Val.load flat3 rfl (fun _ h => h.2.o0.rd) (rfl)) ?_
          refine DF.vv rfl rfl rfl (by decide) (Val.move rfl) ?_
          first | refine DF.vv rfl rfl rfl (by decide) (Val.nilCheck rfl) ?_ | refine DF.vv rfl rfl rfl (by decide) (Val.nilCheckP rfl) ?_
          refine DF.vv rfl rfl rfl (by decide) (Val.fieldAddr0 fld64_0 rfl) ?_
          refine DF.vv rfl rfl rfl (by decide) (Val.load flat28 rfl (fun _ h => h.2.o5.rd) (rfl)) ?_
          refine DF.vv rfl rfl rfl (by decide) (Val.len Try.underlying28 rfl) ?_
          refine DF.vv rfl rfl rfl (by decide) (Val.geq rfl rfl) ?_
          refine DF.nil ?_
          first | refine W.condD rfl (fun hc6 => ?_) (fun hc6 => ?_) | refine W.cond rfl (fun hc6 => ?_) (fun hc6 => ?_)
          ·
            refine W.seqR ?_
            refine LS.vv rfl rfl (by decide) (Val.cast (v := .int .u8 ((0 : Nat) : Int)) (Val.assign rfl) rfl) ?_
            refine LS.vv rfl rfl (by decide) (Val.cast (v := .int .i64 ((2 : Nat) : Int)) (Val.assign rfl) rfl) ?_
            refine LS.nil ?_
            refine W.ret ?_
            refine thenP_ret ?_
            refine ret2 (by first | exact .inl rfl | exact .inr rfl) rfl rfl ?_
            replace hM := hM.er0
            first
              | (exfalso; omega)
              | (rw [pat2 (by omega)]; exact ⟨rfl, ⟨T0, T1, pw, cw, hM, hD0, hT0, hD1, hT1⟩, hB⟩)
              | (rw [pat_rd1 (by omega) (by omega) (by omega) (by omega), ← hD1]; exact ⟨rfl, ⟨T0, T1, pw, cw, hM, hD0, hT0, hD1, hT1⟩, hB⟩)
              | (obtain ⟨w1, w2⟩ := pat_l1 (d := d) (s := s) (x := x) (by omega) (by omega) (by omega) (by omega)
                 rcases hcs with ⟨q1, rfl, rfl, rfl⟩ | ⟨q1, rfl, rfl, q2⟩
                 · rw [w1 q1]; exact ⟨rfl, ⟨T0, T2, pw, cw, hM, hD0, hT0, hD1, hT1⟩, hB⟩
                 · rw [w2 (by omega)]; rw [Int.toNat_of_nonneg (show 0 ≤ x.block by omega)] at hM; exact ⟨rfl, ⟨T0, T2, pw, cw, hM, hD0, hT0, by rw [q2, hD1], hl2⟩, hB⟩)
              | (obtain ⟨w1, w2⟩ := pat_r1 (d := d) (s := s) (x := x) (by omega) (by omega) (by omega) (by omega) (by omega)
                 rcases hcs with ⟨q1, rfl, rfl, rfl⟩ | ⟨q1, rfl, rfl, q2⟩
                 · rw [w1 (by omega)]; exact ⟨rfl, ⟨T0, T2, pw, cw, hM, hD0, hT0, hD1, hT1⟩, hB⟩
                 · rw [w2 (by omega)]; exact ⟨rfl, ⟨T0, T2, pw, cw, hM, hD0, hT0, by rw [q2, hD1], hl2⟩, hB⟩)
          ·
            refine W.skip ?_
            refine thenP_normal ?_
            refine W.seq ?_
            refine W.seqR ?_
            refine LS.vv rfl rfl (by decide) (Val.fieldAddr0 fld45_0 rfl) ?_
            refine LS.m rfl (Step.load rfl rfl (by decide) flat3 rfl (hM.o0.rd) (rfl) ?_)
            refine LS.vv rfl rfl (by decide) (Val.eql rfl rfl) ?_
            refine LS.nil ?_
            first | refine W.condD rfl (fun hc7 => ?_) (fun hc7 => ?_) | refine W.cond rfl (fun hc7 => ?_) (fun hc7 => ?_)
            ·
              refine W.seqR ?_
              refine LS.vv rfl rfl (by decide) (Val.move rfl) ?_
              refine LS.vv rfl rfl (by decide) (Val.fieldAddr0 fld45_2 rfl) ?_
              have hblk : ([.int .i64 x.kind, .int .i64 x.site, .int .i64 x.block, .int .u8 (x.val : Int)] : List Value)[2]? = some (.int .i64 (((x.block.toNat : Nat)) : Int)) := by { simp; omega }
              refine LS.m rfl (Step.load rfl rfl (by decide) flat3 rfl (hM.o0.rd) (hblk) ?_)
              refine LS.m rfl (Step.call body28 rfl rfl (by decide) rfl (CallsV.mono (Lose_any T1 s.t1 q.po1 q.g1 q.co1 d B _ _ (to1_5 hM) (Nat.le_trans hB0 hB.size) hT1 hs1 hd3 hd6 x.block.toNat (by omega)) ?_))
              rintro _ w3 ⟨T2, l2, e, rfl, hM3, hl2, hcs, hb3⟩
              replace hM := from1_5 hM3
              replace hB := hB.trans hb3
              refine LS.vv rfl rfl (by decide) (Val.cast (v := .int .u8 ((0 : Nat) : Int)) (Val.assign rfl) rfl) ?_
              refine LS.vv rfl rfl (by decide) (Val.assign rfl) ?_
              refine LS.nil ?_
              refine W.ret ?_
              refine thenP_ret ?_
              refine ret2 (by first | exact .inl rfl | exact .inr rfl) rfl rfl ?_
              replace hM := hM.er0
              first
                | (exfalso; omega)
                | (rw [pat2 (by omega)]; exact ⟨rfl, ⟨T0, T1, pw, cw, hM, hD0, hT0, hD1, hT1⟩, hB⟩)
                | (rw [pat_rd1 (by omega) (by omega) (by omega) (by omega), ← hD1]; exact ⟨rfl, ⟨T0, T1, pw, cw, hM, hD0, hT0, hD1, hT1⟩, hB⟩)
                | (obtain ⟨w1, w2⟩ := pat_l1 (d := d) (s := s) (x := x) (by omega) (by omega) (by omega) (by omega)
                   rcases hcs with ⟨q1, rfl, rfl, rfl⟩ | ⟨q1, rfl, rfl, q2⟩
                   · rw [w1 q1]; exact ⟨rfl, ⟨T0, T2, pw, cw, hM, hD0, hT0, hD1, hT1⟩, hB⟩
                   · rw [w2 (by omega)]; rw [Int.toNat_of_nonneg (show 0 ≤ x.block by omega)] at hM; exact ⟨rfl, ⟨T0, T2, pw, cw, hM, hD0, hT0, by rw [q2, hD1], hl2⟩, hB⟩)
                | (obtain ⟨w1, w2⟩ := pat_r1 (d := d) (s := s) (x := x) (by omega) (by omega) (by omega) (by omega) (by omega)
                   rcases hcs with ⟨q1, rfl, rfl, rfl⟩ | ⟨q1, rfl, rfl, q2⟩
                   · rw [w1 (by omega)]; exact ⟨rfl, ⟨T0, T2, pw, cw, hM, hD0, hT0, hD1, hT1⟩, hB⟩
                   · rw [w2 (by omega)]; exact ⟨rfl, ⟨T0, T2, pw, cw, hM, hD0, hT0, by rw [q2, hD1], hl2⟩, hB⟩)
            ·
              refine W.skip ?_
              refine thenP_normal ?_
              refine W.seqR ?_
              refine LS.vv rfl rfl (by decide) (Val.move rfl) ?_
              refine LS.vv rfl rfl (by decide) (Val.fieldAddr0 fld45_2 rfl) ?_
              have hblk : ([.int .i64 x.kind, .int .i64 x.site, .int .i64 x.block, .int .u8 (x.val : Int)] : List Value)[2]? = some (.int .i64 (((x.block.toNat : Nat)) : Int)) := by { simp; omega }
              refine LS.m rfl (Step.load rfl rfl (by decide) flat3 rfl (hM.o0.rd) (hblk) ?_)
              refine LS.m rfl (Step.call body29 rfl rfl (by decide) rfl (CallsV.mono (Renew_any T1 s.t1 q.po1 q.g1 q.co1 d B _ _ (to1_5 hM) (Nat.le_trans hB0 hB.size) hT1 hs1 hd3 hd6 x.block.toNat (by omega)) ?_))
              rintro _ w4 ⟨T2, l2, e, rfl, hM4, hl2, hcs, hb4⟩
              replace hM := from1_5 hM4
              replace hB := hB.trans hb4
              refine LS.vv rfl rfl (by decide) (Val.cast (v := .int .u8 ((0 : Nat) : Int)) (Val.assign rfl) rfl) ?_
              refine LS.vv rfl rfl (by decide) (Val.assign rfl) ?_
              refine LS.nil ?_
              refine W.ret ?_
              refine ret2 (by first | exact .inl rfl | exact .inr rfl) rfl rfl ?_
              replace hM := hM.er0
              first
                | (exfalso; omega)
                | (rw [pat2 (by omega)]; exact ⟨rfl, ⟨T0, T1, pw, cw, hM, hD0, hT0, hD1, hT1⟩, hB⟩)
                | (rw [pat_rd1 (by omega) (by omega) (by omega) (by omega), ← hD1]; exact ⟨rfl, ⟨T0, T1, pw, cw, hM, hD0, hT0, hD1, hT1⟩, hB⟩)
                | (obtain ⟨w1, w2⟩ := pat_l1 (d := d) (s := s) (x := x) (by omega) (by omega) (by omega) (by omega)
                   rcases hcs with ⟨q1, rfl, rfl, rfl⟩ | ⟨q1, rfl, rfl, q2⟩
                   · rw [w1 q1]; exact ⟨rfl, ⟨T0, T2, pw, cw, hM, hD0, hT0, hD1, hT1⟩, hB⟩
                   · rw [w2 (by omega)]; rw [Int.toNat_of_nonneg (show 0 ≤ x.block by omega)] at hM; exact ⟨rfl, ⟨T0, T2, pw, cw, hM, hD0, hT0, by rw [q2, hD1], hl2⟩, hB⟩)
                | (obtain ⟨w1, w2⟩ := pat_r1 (d := d) (s := s) (x := x) (by omega) (by omega) (by omega) (by omega) (by omega)
                   rcases hcs with ⟨q1, rfl, rfl, rfl⟩ | ⟨q1, rfl, rfl, q2⟩
                   · rw [w1 (by omega)]; exact ⟨rfl, ⟨T0, T2, pw, cw, hM, hD0, hT0, hD1, hT1⟩, hB⟩
                   · rw [w2 (by omega)]; exact ⟨rfl, ⟨T0, T2, pw, cw, hM, hD0, hT0, by rw [q2, hD1], hl2⟩, hB⟩)

theorem at2_any (d B : Nat) (q : PG) (s : PS) (S : List Oz) (w0 : World) (hI : PI w0 B d q s S) (hB0 : B ≤ w0.heap.size) (hk : PK d s) (x : St) (hx : x.site ≠ 0 ∧ x.site ≠ 1) :
    CallsV Try.prog 34 #[.pointer (some ⟨q.g, 0, none⟩), .agg #[.int .i64 x.kind, .int .i64 x.site, .int .i64 x.block, .int .u8 (x.val : Int)]] w0 (fun v w => v = .tuple #[.int .u8 ((pat d s x).2.1 : Int), .int .i64 ((pat d s x).2.2 : Int)] ∧ PI w B d q (pat d s x).1 S ∧ Below B w0 w) := by
  refine enter2 Try.func34 rfl Try.ntmps34 (by simp) rfl ?_
  have hB := Below.refl B w0
  simp only [argLoc, Nat.zero_add]
  obtain ⟨T0, T1, pw, cw, hM, hD0, hT0, hD1, hT1⟩ := hI.ex
  have k1 := hk.put; have k2 := hk.got; have k3 := hk.sent; have k4 := hk.wr; have k5 := hk.main; have hd3 := hk.hd3; have hd6 := hk.hd6
  have hs0 : Shape d (dT T0) := by rw [hD0]; exact hk.sh0
  have hs1 : Shape d (dT T1) := by rw [hD1]; exact hk.sh1
  have hcw := hM.o1.le_cap
  refine W.seqR ?_
  refine LS.m rfl (Step.boxZ rfl rfl (by decide) rfl rfl ?_)
  rintro w1 hO1 hg1 hbl1 hsz1
  replace hM := hM.add (Nat.le_trans hB0 hB.size) hbl1 hO1
  try simp only [List.length_cons, List.length_nil, Nat.zero_add, Nat.reduceAdd, Value.cells, List.toList_toArray, List.append_nil, List.set_cons_zero, List.set_cons_succ] at hM
  replace hB := hB.trans (hbl1.mono (Nat.le_trans hB0 hB.size))
  skip
  refine LS.vv rfl rfl (by decide) (Val.cast (v := .int .u8 ((0 : Nat) : Int)) (Val.assign rfl) rfl) ?_
  refine LS.vv rfl rfl (by decide) (Val.cast (v := .int .i64 ((0 : Nat) : Int)) (Val.assign rfl) rfl) ?_
  refine LS.nil ?_
  refine W.seq ?_
  refine W.seqFz 17 [(0, true), (1, true), (2, true), (3, true), (4, true), (5, true), (6, true), (7, true), (8, true), (9, true), (10, true), (11, true), (12, true), (13, true), (14, true), (15, true), (16, true)] mixed (by kernel_rfl) hB hM ?_
  replace hB := hB.drew
  replace hM := hM.drew
  refine DF.vv rfl rfl rfl (by decide) (Val.fieldAddr0 fld45_1 rfl) ?_
  refine DF.vv rfl rfl rfl (by decide) (Val.load flat3 rfl (fun _ h => h.2.o0.rd) (rfl)) ?_
  refine DF.vv rfl rfl rfl (by decide) (Val.move rfl) ?_
  first | refine DF.vv rfl rfl rfl (by decide) (Val.nilCheck rfl) ?_ | refine DF.vv rfl rfl rfl (by decide) (Val.nilCheckP rfl) ?_
  refine DF.vv rfl rfl rfl (by decide) (Val.fieldAddr0 fld75_2 rfl) ?_
  refine DF.vv rfl rfl rfl (by decide) (Val.load flat3 rfl (fun _ h => h.2.o1.rd) (rfl)) ?_
  refine DF.vv rfl rfl rfl (by decide) (Val.lss rfl rfl) ?_
  refine DF.vv rfl rfl rfl (by decide) (Val.move rfl) ?_
  refine DF.split 7 rfl (fun hg1 => ?_) (fun hg1 => ?_)
  ·
    first | (have hg1p := of_decide_eq_true hg1) | skip
    refine DF.s rfl rfl rfl rfl hg1 (by decide) ?_
    refine DF.s rfl rfl rfl rfl hg1 (by decide) ?_
    refine DF.s rfl rfl rfl rfl hg1 (by decide) ?_
    refine DF.vv rfl rfl rfl (by decide) (Val.pickT rfl hg1 rfl) ?_
    refine DF.vv rfl rfl rfl (by decide) (Val.move rfl) ?_
    refine DF.s rfl rfl rfl rfl rfl (by decide) ?_
    refine DF.s rfl rfl rfl rfl rfl (by decide) ?_
    refine DF.s rfl rfl rfl rfl rfl (by decide) ?_
    refine DF.vv rfl rfl rfl (by decide) (Val.pickT rfl rfl rfl) ?_
    refine DF.nil ?_
    refine W.condT rfl ?_
    refine W.seqR ?_
    refine LS.vv rfl rfl (by decide) (Val.cast (v := .int .u8 ((0 : Nat) : Int)) (Val.assign rfl) rfl) ?_
    refine LS.vv rfl rfl (by decide) (Val.cast (v := .int .i64 ((2 : Nat) : Int)) (Val.assign rfl) rfl) ?_
    refine LS.nil ?_
    refine W.ret ?_
    refine thenP_ret ?_
    refine ret2 (by first | exact .inl rfl | exact .inr rfl) rfl rfl ?_
    replace hM := hM.er0
    first
      | (exfalso; omega)
      | (rw [pat2 (by omega)]; exact ⟨rfl, ⟨T0, T1, pw, cw, hM, hD0, hT0, hD1, hT1⟩, hB⟩)
  ·
    first | (have hg1p := of_decide_eq_false hg1) | skip
    refine DF.vg rfl rfl rfl rfl hg1 (by decide) (Val.fieldAddr0 fld45_1 rfl) ?_
    refine DF.vg rfl rfl rfl rfl hg1 (by decide) (Val.load flat3 rfl (fun _ h => h.2.o0.rd) (rfl)) ?_
    refine DF.vg rfl rfl rfl rfl hg1 (by decide) (Val.gtr rfl rfl) ?_
    refine DF.vv rfl rfl rfl (by decide) (Val.pickF rfl hg1 rfl) ?_
    refine DF.vv rfl rfl rfl (by decide) (Val.move rfl) ?_
    refine DF.split 12 rfl (fun hg2 => ?_) (fun hg2 => ?_)
    ·
      first | (have hg2p := of_decide_eq_true hg2) | skip
      refine DF.s rfl rfl rfl rfl hg2 (by decide) ?_
      refine DF.s rfl rfl rfl rfl hg2 (by decide) ?_
      refine DF.s rfl rfl rfl rfl hg2 (by decide) ?_
      refine DF.vv rfl rfl rfl (by decide) (Val.pickT rfl hg2 rfl) ?_
      refine DF.nil ?_
      refine W.condT rfl ?_
      refine W.seqR ?_
      refine LS.vv rfl rfl (by decide) (Val.cast (v := .int .u8 ((0 : Nat) : Int)) (Val.assign rfl) rfl) ?_
      refine LS.vv rfl rfl (by decide) (Val.cast (v := .int .i64 ((2 : Nat) : Int)) (Val.assign rfl) rfl) ?_
      refine LS.nil ?_
      refine W.ret ?_
      refine thenP_ret ?_
      refine ret2 (by first | exact .inl rfl | exact .inr rfl) rfl rfl ?_
      replace hM := hM.er0
      first
        | (exfalso; omega)
        | (rw [pat2 (by omega)]; exact ⟨rfl, ⟨T0, T1, pw, cw, hM, hD0, hT0, hD1, hT1⟩, hB⟩)
    ·
      first | (have hg2p := of_decide_eq_false hg2) | skip
      refine DF.vg rfl rfl rfl rfl hg2 (by decide) (Val.fieldAddr0 fld45_2 rfl) ?_
      refine DF.vg rfl rfl rfl rfl hg2 (by decide) (Val.load flat3 rfl (fun _ h => h.2.o0.rd) (rfl)) ?_
      refine DF.vg rfl rfl rfl rfl hg2 (by decide) (Val.lss rfl rfl) ?_
      refine DF.vv rfl rfl rfl (by decide) (Val.pickF rfl hg2 rfl) ?_
      refine DF.nil ?_
      first | refine W.condD rfl (fun hc3 => ?_) (fun hc3 => ?_) | refine W.cond rfl (fun hc3 => ?_) (fun hc3 => ?_)
      ·
        refine W.seqR ?_
        refine LS.vv rfl rfl (by decide) (Val.cast (v := .int .u8 ((0 : Nat) : Int)) (Val.assign rfl) rfl) ?_
        refine LS.vv rfl rfl (by decide) (Val.cast (v := .int .i64 ((2 : Nat) : Int)) (Val.assign rfl) rfl) ?_
        refine LS.nil ?_
        refine W.ret ?_
        refine thenP_ret ?_
        refine ret2 (by first | exact .inl rfl | exact .inr rfl) rfl rfl ?_
        replace hM := hM.er0
        first
          | (exfalso; omega)
          | (rw [pat2 (by omega)]; exact ⟨rfl, ⟨T0, T1, pw, cw, hM, hD0, hT0, hD1, hT1⟩, hB⟩)
      ·
        exfalso; omega

theorem at_any (d B : Nat) (q : PG) (s : PS) (S : List Oz) (w0 : World) (hI : PI w0 B d q s S) (hB0 : B ≤ w0.heap.size) (hk : PK d s) (x : St) : CallsV Try.prog 34 #[.pointer (some ⟨q.g, 0, none⟩), .agg #[.int .i64 x.kind, .int .i64 x.site, .int .i64 x.block, .int .u8 (x.val : Int)]] w0 (fun v w => v = .tuple #[.int .u8 ((pat d s x).2.1 : Int), .int .i64 ((pat d s x).2.2 : Int)] ∧ PI w B d q (pat d s x).1 S ∧ Below B w0 w) := by
  by_cases h0 : x.site = 0
  · exact at0_any d B q s S w0 hI hB0 hk x h0
  by_cases h1 : x.site = 1
  · exact at1_any d B q s S w0 hI hB0 hk x h1
  exact at2_any d B q s S w0 hI hB0 hk x ⟨h0, h1⟩
theorem write_any (d B : Nat) (q : PG) (s : PS) (S : List Oz) (w0 : World) (hI : PI w0 B d q s S) (hB0 : B ≤ w0.heap.size) (hk : PK d s) (x : St) (hxv : x.val < 256) : CallsV Try.prog 32 #[.pointer (some ⟨q.g, 0, none⟩), .agg #[.int .i64 x.kind, .int .i64 x.site, .int .i64 x.block, .int .u8 (x.val : Int)]] w0 (fun v w => v = .int .i64 ((pwr d s x).2 : Int) ∧ PI w B d q (pwr d s x).1 S ∧ Below B w0 w) := by
  by_cases h0 : s.main = 0
  · exact write0_any d B q s S w0 hI hB0 hk x hxv h0
  · exact write1_any d B q s S w0 hI hB0 hk x hxv (by have := hk.main; omega)

end Go.Proofs.Ytldcpihjoakigaa
