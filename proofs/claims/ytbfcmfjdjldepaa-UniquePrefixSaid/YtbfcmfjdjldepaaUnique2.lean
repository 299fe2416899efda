/-
  Package unique: find.
-/
import Derived.Test.YtbfcmfjdjldepaaUnique1
import Derived.Test.YtbfcmfjdjldepaaLibI
import Derived.Test.YtbfcmfjdjldepaaVfacts3
import Derived.Test.YtbfcmfjdjldepaaVcell1
import Derived.Test.YtbfcmfjdjldepaaVcutapp
import Derived.Test.YtbfcmfjdjldepaaVtree
import Derived.Test.YtbfcmfjdjldepaaVfin
namespace Go.Proofs.Ytbfcmfjdjldepaa
open Go Go.RowKit V
set_option linter.unusedVariables false
set_option linter.unusedSimpArgs false

theorem nv_cast (l : List Nat) : nv l = iv (l.map fun x : Nat => (x : Int)) := by simp [nv, iv]
theorem clone_nat (l : List Nat) (p : Option Addr) (c m : Nat) (w0 : World) (hr : Rd w0 p (nv l)) (hm : l.length = m) (hl : m ≤ 1000000) : CallsV Try.prog 44 #[.slice p m c] w0 (fun v w => ∃ (p2 : Option Addr) (c2 : Nat), v = .slice p2 m c2 ∧ Own w w0.heap.size 3 p2 m c2 (nv l) ∧ Below w0.heap.size w0 w) := by
  subst hm
  have := clone_i64 (l.map fun x : Nat => (x : Int)) p c w0 (by rw [← nv_cast]; exact hr) (by simpa using hl)
  rw [← nv_cast, List.length_map] at this
  exact this

set_option maxHeartbeats 2000000 in
theorem find_any (C : List Wd) (p : Option Addr) (c m : Nat) (w0 : World) (hr : RdW w0 p C) (hm : C.length = m) (hcd : Coded (codeOf C)) :
    CallsV Try.prog 37 #[.slice p m c] w0 (fun v w => ∃ (pa pb : Option Addr) (ca cb : Nat) (a b : List Nat), v = .tuple #[.slice pa a.length ca, .slice pb b.length cb] ∧ Rd w pa (nv a) ∧ Rd w pb (nv b) ∧ Found (codeOf C) a b ∧ a.length ≤ 1000 ∧ b.length ≤ 1000 ∧ Below w0.heap.size w0 w) := by
 refine enter2 Try.func37 rfl Try.ntmps37 (by simp) rfl ?_
 have hB := Below.refl w0.heap.size w0
 simp only [argLoc]
 have hM := Mz.nil w0 w0.heap.size
 subst hm
 have hh := hr.head
 have hc8 := (coded_iff C).1 hcd
 obtain ⟨hC8, hw8⟩ := hc8
 refine W.seqR ?_
 refine LS.vv rfl rfl (by decide) (Val.assign rfl) ?_
 refine LS.vv rfl rfl (by decide) (Val.assign rfl) ?_
 refine LS.nil ?_
 refine W.seq ?_
 refine W.seqR ?_
 refine LS.vv rfl rfl (by decide) (Val.move rfl) ?_
 refine LS.m rfl (Step.call body34 rfl rfl (by decide) rfl (CallsV.mono (indexC C (fun i => decide ((gW C i).l.length = 0)) 42 #[] p c _ _ body42 (hh.below hB) rfl (by omega) (fun i hi w hw => find1_any _ _ _ w)) ?_))
 rintro _ w1 ⟨rfl, hb1⟩
 replace hM := hM.below hb1
 try replace hmp := hmp.below hb1
 replace hB := hB.trans (hb1.mono hB.size)
 have hfI := fI_cases (fun i => decide ((gW C i).l.length = 0)) C.length
 generalize fI (fun i => decide ((gW C i).l.length = 0)) C.length = z at *
 refine LS.vv rfl rfl (by decide) (Val.assign rfl) ?_
 refine LS.nil ?_
 refine W.seqR ?_
 refine LS.vv rfl rfl (by decide) (Val.move rfl) ?_
 refine LS.vv rfl rfl (by decide) (Val.geq rfl rfl) ?_
 refine LS.nil ?_
 first | refine W.condD rfl (fun hc1 => ?_) (fun hc1 => ?_) | refine W.cond rfl (fun hc1 => ?_) (fun hc1 => ?_)
 ·
  refine W.seqR ?_
  refine LS.vv rfl rfl (by decide) (Val.move rfl) ?_
  obtain ⟨i, hi, hi0, rfl⟩ : ∃ i : Nat, i < C.length ∧ (gW C i).l.length = 0 ∧ z = (i : Int) := by { rcases hfI with ⟨h1, _⟩ | ⟨i, h1, h2, _, h4⟩; (exfalso; omega); exact ⟨i, h1, of_decide_eq_true h2, h4⟩ }
  refine LS.m rfl (Step.litZ rfl rfl (by decide) Try.underlying28 elem3 rfl (by decide) rfl rfl (by decide) ?_)
  rintro w2 hO2 hg2 hbl2 hsz2
  first | replace hmp := hmp.below hbl2 | replace hmp := hmp.offZ hM.o0 hg2 | replace hmp := hmp.offZ hM.o1 hg2 | replace hmp := hmp.offZ hM.o2 hg2 | replace hmp := hmp.offZ hM.o3 hg2 | replace hmp := hmp.offZ hM.o4 hg2 | replace hmp := hmp.offZ hM.o5 hg2 | replace hmp := hmp.offZ hM.o6 hg2 | replace hmp := hmp.offZ hM.o7 hg2 | replace hmp := hmp.offZ hM.o8 hg2 | replace hmp := hmp.offZ hM.o9 hg2 | skip
  replace hM := hM.add hB.size hbl2 hO2
  try simp only [nv_app1, nv_app, nv_set, nv_rep, nv_one, nv_cons, nv_take, nv_drop, List.nil_append] at hM
  try simp only [List.length_cons, List.length_nil, Nat.zero_add, Nat.reduceAdd, Value.cells, List.toList_toArray, List.append_nil, List.set_cons_zero, List.set_cons_succ] at hM
  replace hB := hB.trans (hbl2.mono hB.size)
  generalize w1.heap.size = gg2 at *
  refine LS.vv rfl rfl (by decide) (Val.assign rfl) ?_
  refine LS.vv rfl rfl (by decide) (Val.assign rfl) ?_
  refine LS.nil ?_
  refine W.ret ?_
  refine thenP_ret ?_
  refine ret2 (by first | exact .inl rfl | exact .inr rfl) rfl rfl ?_
  first
    | (exact ⟨_, none, _, 0, [i], [], rfl, hM.o0.rd, Rd.nil _ _, .inr ⟨by simp, by simp, bare_not (C := codeOf C) (i := i) (by rw [codeOf_len]; exact hi) (by rw [codeOf_gw]; exact List.length_eq_zero_iff.1 hi0)⟩, by simp, by simp, hB⟩; done)
    | (have hr9 : q0.r = [] := List.length_eq_zero_iff.1 (by omega)
       have hnf := hq0.st
       rw [hr9] at hnf
       obtain ⟨hne, hnu⟩ := hnf.not
       obtain ⟨x, y, a9, b9, h1, h2, _⟩ := hnf.hd
       have hqlA := hq0.lA
       have hqlB := hq0.lB
       exact ⟨q0.A.p, q0.B.p, q0.A.c, q0.B.c, q0.A.l, q0.B.l, rfl, tpI_rd hM hq0.inA (fun o h => by simp [h]), tpI_rd hM hq0.inB (fun o h => by simp [h]), .inr ⟨by rw [h1]; simp, hne, hnu⟩, by omega, by omega, hB⟩)
    | (have hF : F = [] := List.length_eq_zero_iff.1 (by omega)
       subst hF
       exact ⟨none, none, 0, 0, [], [], rfl, Rd.nil _ _, Rd.nil _ _, .inl ⟨rfl, rfl, Pen.ud hPen hnb⟩, by simp, by simp, hB⟩)
 ·
  have hnb : NoBare (codeOf C) := by { rw [nobare_iff]; intro i hi h0; rcases hfI with ⟨_, h2⟩ | ⟨q, _, _, _, h4⟩; (have := h2 i hi; rw [h0] at this; simp at this); omega }
  refine W.skip ?_
  refine thenP_normal ?_
  refine W.seqR ?_
  refine LS.vv rfl rfl (by decide) (Val.assign rfl) ?_
  refine LS.nil ?_
  refine W.seq ?_
  refine W.seqR ?_
  refine LS.vv rfl rfl (by decide) (Val.move rfl) ?_
  refine LS.vv rfl rfl (by decide) (Val.len Try.underlying22 rfl) ?_
  refine LS.vv rfl rfl (by decide) (Val.cast (v := .int .i64 ((0 : Nat) : Int)) (Val.move rfl) rfl) ?_
  refine LS.nil ?_
  refine W.block ?_
  replace hM := hM.addNil 60 3
  refine W.loop (α := Nat × List QS × Option Addr × Nat × List IL) (fun g => [(5, .slice g.2.2.1 g.2.1.length g.2.2.2.1), (23, .int .i64 (g.1 : Int))]) [(0, _), (21, _), (22, _)] (fun g w => (g.1 ≤ C.length ∧ StI (codeOf C) g.1 0 (rs g.2.1) ∧ QAll C w0 g.2.2.2.2 1 g.2.1) ∧ Mz w w0.heap.size (⟨60, 3, g.2.2.1, g.2.1.length, g.2.2.2.1, qcs g.2.1⟩ :: (tpI g.2.2.2.2)) ∧ Below w0.heap.size w0 w) (fun g => C.length - g.1) ((0, [], none, 0, [])) (Sub.cons rfl (Sub.cons rfl (Sub.nil _))) (Sub.cons rfl (Sub.cons rfl (Sub.cons rfl (Sub.nil _)))) ?_ ?_
  · exact ⟨⟨Nat.zero_le _, StI.zero _, fun s h => by simp at h⟩, hM, hB⟩
  rintro ⟨i, F, pq, cq, T⟩ w3 ⟨⟨hi, hI, hQ⟩, hM, hB⟩
  try simp only at hM
  simp only [List.cons_append, List.nil_append]
  simp only at hi hI hQ
  have hfw := hI.few
  rw [rs_len] at hfw
  refine W.seqR ?_
  refine LS.vv rfl rfl (by decide) (Val.lss rfl rfl) ?_
  refine LS.nil ?_
  refine W.seq ?_
  first | refine W.condD rfl (fun hc2 => ?_) (fun hc2 => ?_) | refine W.cond rfl (fun hc2 => ?_) (fun hc2 => ?_)
  ·
   refine W.skip ?_
   refine thenP_normal ?_
   refine W.seq ?_
   refine W.block ?_
   refine W.seqR ?_
   refine LS.vv rfl rfl (by decide) (Val.move rfl) ?_
   refine LS.vv rfl rfl (by decide) (Val.index1 Try.underlying22 elem36 rfl rfl (by omega) ((hh.below hB)) (wv_lt (by omega))) ?_
   refine LS.m rfl (Step.load rfl rfl (by decide) flat36 rfl ((hh.below hB)) (wv_at (by omega)) ?_)
   refine LS.vv rfl rfl (by decide) (Val.assign rfl) ?_
   refine LS.vv rfl rfl (by decide) (Val.assign rfl) ?_
   refine LS.nil ?_
   refine W.seqR ?_
   refine LS.vv rfl rfl (by decide) (Val.move rfl) ?_
   refine LS.vv rfl rfl (by decide) (Val.len Try.underlying22 rfl) ?_
   refine LS.vv rfl rfl (by decide) (Val.cast (v := .int .i64 ((0 : Nat) : Int)) (Val.move rfl) rfl) ?_
   refine LS.nil ?_
   refine W.block ?_
   refine W.loop (α := Nat × List QS × Option Addr × Nat × List IL) (fun g => [(5, .slice g.2.2.1 g.2.1.length g.2.2.2.1), (30, .int .i64 (g.1 : Int))]) [(0, _), (6, _), (7, _), (21, _), (22, _), (23, _), (28, _), (29, _)] (fun g w => (g.1 ≤ C.length ∧ StI (codeOf C) i g.1 (rs g.2.1) ∧ QAll C w0 g.2.2.2.2 1 g.2.1) ∧ Mz w w0.heap.size (⟨60, 3, g.2.2.1, g.2.1.length, g.2.2.2.1, qcs g.2.1⟩ :: (tpI g.2.2.2.2)) ∧ Below w0.heap.size w0 w) (fun g => C.length - g.1) ((0, F, pq, cq, T)) (Sub.cons rfl (Sub.cons rfl (Sub.nil _))) (Sub.cons rfl (Sub.cons rfl (Sub.cons rfl (Sub.cons rfl (Sub.cons rfl (Sub.cons rfl (Sub.cons rfl (Sub.cons rfl (Sub.nil _))))))))) ?_ ?_
   · exact ⟨⟨Nat.zero_le _, hI, hQ⟩, hM, hB⟩
   rintro ⟨j, F, pq, cq, T⟩ w4 ⟨⟨hj, hI, hQ⟩, hM, hB⟩
   try simp only at hM
   simp only [List.cons_append, List.nil_append]
   simp only at hj hI hQ
   have hfw := hI.few
   rw [rs_len] at hfw
   refine W.seqR ?_
   refine LS.vv rfl rfl (by decide) (Val.lss rfl rfl) ?_
   refine LS.nil ?_
   refine W.seq ?_
   first | refine W.condD rfl (fun hc3 => ?_) (fun hc3 => ?_) | refine W.cond rfl (fun hc3 => ?_) (fun hc3 => ?_)
   ·
    refine W.skip ?_
    refine thenP_normal ?_
    refine W.seq ?_
    refine W.block ?_
    refine W.seqR ?_
    refine LS.vv rfl rfl (by decide) (Val.move rfl) ?_
    refine LS.vv rfl rfl (by decide) (Val.index1 Try.underlying22 elem36 rfl rfl (by omega) ((hh.below hB)) (wv_lt (by omega))) ?_
    refine LS.m rfl (Step.load rfl rfl (by decide) flat36 rfl ((hh.below hB)) (wv_at (by omega)) ?_)
    refine LS.vv rfl rfl (by decide) (Val.assign rfl) ?_
    refine LS.vv rfl rfl (by decide) (Val.assign rfl) ?_
    refine LS.nil ?_
    refine W.seqR ?_
    refine LS.vv rfl rfl (by decide) (Val.move rfl) ?_
    refine LS.vv rfl rfl (by decide) (Val.move rfl) ?_
    refine LS.vv rfl rfl (by decide) (Val.neq rfl rfl) ?_
    refine LS.vv rfl rfl (by decide) (Val.move rfl) ?_
    refine LS.split 3 rfl (fun hg4 => ?_) (fun hg4 => ?_)
    ·
     first | (have hg4p := of_decide_eq_true hg4) | skip
     refine LS.vg rfl rfl rfl hg4 (by decide) (Val.move rfl) ?_
     refine LS.vg rfl rfl rfl hg4 (by decide) (Val.move rfl) ?_
     refine LS.mg rfl rfl hg4 (Step.call body36 rfl rfl (by decide) rfl (CallsV.mono (begins_any (gW C j).l (gW C i).l _ _ _ _ _ _ _ ((hr.at (k := j) (by omega)).below hB) ((hr.at (k := i) (by omega)).below hB) rfl rfl (hr.le (by omega)) (hr.max (by omega))) ?_))
     rintro _ w5 ⟨rfl, hb5⟩
     replace hM := hM.below hb5
     try replace hmp := hmp.below hb5
     replace hB := hB.trans (hb5.mono hB.size)
     refine LS.vv rfl rfl (by decide) (Val.pickT rfl hg4 rfl) ?_
     refine LS.nil ?_
     first | refine W.condD rfl (fun hc5 => ?_) (fun hc5 => ?_) | refine W.cond rfl (fun hc5 => ?_) (fun hc5 => ?_)
     ·
      refine W.reg ?_
      refine LS.vv rfl rfl (by decide) (Val.move rfl) ?_
      refine LS.vv rfl rfl (by decide) (Val.move rfl) ?_
      refine LS.vv rfl rfl (by decide) (Val.move rfl) ?_
      have hji := (begins_iff.1 (by assumption : begins (gW C j).l (gW C i).l = true)).length_le
      have hi8 := hw8 i (by omega)
      have hle := hr.le (k := i) (by omega)
      refine LS.vv rfl rfl (by decide) (Val.len Try.underlying36 rfl) ?_
      refine LS.vv rfl rfl (by decide) (Val.sliceFrom Try.underlying36 elem4 rfl rfl (by omega) (by omega)) ?_
      refine LS.vv rfl rfl (by decide) (Val.move rfl) ?_
      refine LS.m rfl (Step.litZ rfl rfl (by decide) Try.underlying28 elem3 rfl (by decide) rfl rfl (by decide) ?_)
      rintro w6 hO6 hg6 hbl6 hsz6
      first | replace hmp := hmp.below hbl6 | replace hmp := hmp.offZ hM.o0 hg6 | replace hmp := hmp.offZ hM.o1 hg6 | replace hmp := hmp.offZ hM.o2 hg6 | replace hmp := hmp.offZ hM.o3 hg6 | replace hmp := hmp.offZ hM.o4 hg6 | replace hmp := hmp.offZ hM.o5 hg6 | replace hmp := hmp.offZ hM.o6 hg6 | replace hmp := hmp.offZ hM.o7 hg6 | replace hmp := hmp.offZ hM.o8 hg6 | replace hmp := hmp.offZ hM.o9 hg6 | skip
      replace hM := hM.add hB.size hbl6 hO6
      try simp only [nv_app1, nv_app, nv_set, nv_rep, nv_one, nv_cons, nv_take, nv_drop, List.nil_append] at hM
      try simp only [List.length_cons, List.length_nil, Nat.zero_add, Nat.reduceAdd, Value.cells, List.toList_toArray, List.append_nil, List.set_cons_zero, List.set_cons_succ] at hM
      replace hB := hB.trans (hbl6.mono hB.size)
      generalize w5.heap.size = gg6 at *
      refine LS.vv rfl rfl (by decide) (Val.move rfl) ?_
      refine LS.m rfl (Step.litZ rfl rfl (by decide) Try.underlying28 elem3 rfl (by decide) rfl rfl (by decide) ?_)
      rintro w7 hO7 hg7 hbl7 hsz7
      first | replace hmp := hmp.below hbl7 | replace hmp := hmp.offZ hM.o0 hg7 | replace hmp := hmp.offZ hM.o1 hg7 | replace hmp := hmp.offZ hM.o2 hg7 | replace hmp := hmp.offZ hM.o3 hg7 | replace hmp := hmp.offZ hM.o4 hg7 | replace hmp := hmp.offZ hM.o5 hg7 | replace hmp := hmp.offZ hM.o6 hg7 | replace hmp := hmp.offZ hM.o7 hg7 | replace hmp := hmp.offZ hM.o8 hg7 | replace hmp := hmp.offZ hM.o9 hg7 | skip
      replace hM := hM.add hB.size hbl7 hO7
      try simp only [nv_app1, nv_app, nv_set, nv_rep, nv_one, nv_cons, nv_take, nv_drop, List.nil_append] at hM
      try simp only [List.length_cons, List.length_nil, Nat.zero_add, Nat.reduceAdd, Value.cells, List.toList_toArray, List.append_nil, List.set_cons_zero, List.set_cons_succ] at hM
      replace hB := hB.trans (hbl7.mono hB.size)
      generalize w6.heap.size = gg7 at *
      refine LS.vv rfl rfl (by decide) (Val.build str60 elem60 rfl rfl rfl) ?_
      refine LS.m rfl (Step.litZ rfl rfl (by decide) Try.underlying58 elem60 rfl (by decide) rfl rfl (by decide) ?_)
      rintro w8 hO8 hg8 hbl8 hsz8
      first | replace hmp := hmp.below hbl8 | replace hmp := hmp.offZ hM.o0 hg8 | replace hmp := hmp.offZ hM.o1 hg8 | replace hmp := hmp.offZ hM.o2 hg8 | replace hmp := hmp.offZ hM.o3 hg8 | replace hmp := hmp.offZ hM.o4 hg8 | replace hmp := hmp.offZ hM.o5 hg8 | replace hmp := hmp.offZ hM.o6 hg8 | replace hmp := hmp.offZ hM.o7 hg8 | replace hmp := hmp.offZ hM.o8 hg8 | replace hmp := hmp.offZ hM.o9 hg8 | skip
      replace hM := hM.add hB.size hbl8 hO8
      try simp only [List.length_cons, List.length_nil, Nat.zero_add, Nat.reduceAdd, Value.cells, List.toList_toArray, List.append_nil, List.set_cons_zero, List.set_cons_succ] at hM
      replace hB := hB.trans (hbl8.mono hB.size)
      generalize w7.heap.size = gg8 at *
      refine LS.m rfl (Step.appendZ (B := w0.heap.size) rfl rfl (by decide) Try.underlying58 elem60 rfl (by decide) rfl rfl (hM.o3) (hM.o0.rd) (by first | rfl | (simp; done) | (simp; omega)) (by first | exact one_map _ (fun _ => rfl) _ | simp [Value.oneCell']) (by omega) (by omega) hB.size ?_)
      rintro p9 c9 w9 hO9 hg9 hbl9 hbk9
      first | replace hmp := hmp.below hbl9 | replace hmp := hmp.offZ hM.o0 hg9 | replace hmp := hmp.offZ hM.o1 hg9 | replace hmp := hmp.offZ hM.o2 hg9 | replace hmp := hmp.offZ hM.o3 hg9 | replace hmp := hmp.offZ hM.o4 hg9 | replace hmp := hmp.offZ hM.o5 hg9 | replace hmp := hmp.offZ hM.o6 hg9 | replace hmp := hmp.offZ hM.o7 hg9 | replace hmp := hmp.offZ hM.o8 hg9 | replace hmp := hmp.offZ hM.o9 hg9 | skip
      replace hM := hM.s3 (e := _) hg9 hO9 hbk9
      replace hM := hM.tail
      replace hB := hB.trans hbl9
      refine LS.vv rfl rfl (by decide) (Val.assign rfl) ?_
      refine LS.nil ?_
      refine inBlk_normal ?_
      refine thenP_normal ?_
      refine W.reg ?_
      first | refine LS.vv rfl rfl (by decide) (Val.addN (j := 1) rfl rfl (by omega)) ?_ | refine LS.vv rfl rfl (by decide) (Val.add64 rfl rfl (by omega)) ?_
      refine LS.vv rfl rfl (by decide) (Val.move rfl) ?_
      refine LS.nil ?_
      refine thenP_normal ?_
      replace hM := hM.sw1.sw0.sw1
      skip
      have hq1 : QOk C w0 ((⟨some ⟨gg6, 0, none⟩, 1, [i]⟩ : IL) :: (⟨some ⟨gg7, 0, none⟩, 1, [j]⟩ : IL) :: T) 1 ⟨cutAt (gW C i).p (gW C i).c (gW C j).l.length, (gW C i).c - (gW C j).l.length, (gW C i).l.drop (gW C j).l.length, (⟨some ⟨gg6, 0, none⟩, 1, [i]⟩ : IL), (⟨some ⟨gg7, 0, none⟩, 1, [j]⟩ : IL)⟩ := ⟨by have := StOk.start (C := codeOf C) (i := i) (j := j) (by rw [codeOf_len]; omega) (by rw [codeOf_len]; omega) (by omega) (by rw [codeOf_gw, codeOf_gw]; exact begins_iff.1 (by assumption)); rwa [codeOf_gw, codeOf_gw] at this, (hr.at (k := i) (by omega)).cut_bv (hr.le (by omega)), by have := hr.le (k := i) (by omega); simp only [List.length_drop]; omega, by simp only [List.length_drop]; omega, by simp, by simp, by simp, by simp⟩
      have hI2 := hI.add (i := i) (j := j) (by rw [codeOf_len]; omega)
      rw [codeOf_gw, codeOf_gw] at hI2
      refine ⟨(j + 1, F ++ [⟨cutAt (gW C i).p (gW C i).c (gW C j).l.length, (gW C i).c - (gW C j).l.length, (gW C i).l.drop (gW C j).l.length, (⟨some ⟨gg6, 0, none⟩, 1, [i]⟩ : IL), (⟨some ⟨gg7, 0, none⟩, 1, [j]⟩ : IL)⟩], p9, c9, (⟨some ⟨gg6, 0, none⟩, 1, [i]⟩ : IL) :: (⟨some ⟨gg7, 0, none⟩, 1, [j]⟩ : IL) :: T), ?_, (by repeat (first | exact Sub.nil _ | refine Sub.cons rfl ?_)), ⟨⟨by simp only; omega, by simp only [rs_add]; exact hI2, (hQ.mono (fun x h => List.mem_cons_of_mem _ (List.mem_cons_of_mem _ h)) (Nat.le_refl _)).add hq1⟩, ?_, hB⟩, by simp only; omega⟩
      · exact Sub.cons' rfl (by simp only [List.length_append, List.length_cons, List.length_nil]) (Sub.cons rfl (Sub.nil _))
      · simp only [qcs_app, qcs_one, qc, List.length_append, List.length_cons, List.length_nil, List.length_drop]; exact hM
     ·
      refine W.skip ?_
      refine inBlk_normal ?_
      refine thenP_normal ?_
      refine W.reg ?_
      first | refine LS.vv rfl rfl (by decide) (Val.addN (j := 1) rfl rfl (by omega)) ?_ | refine LS.vv rfl rfl (by decide) (Val.add64 rfl rfl (by omega)) ?_
      refine LS.vv rfl rfl (by decide) (Val.move rfl) ?_
      refine LS.nil ?_
      refine thenP_normal ?_
      have hno : i = j ∨ ¬ (gW C j).l <+: (gW C i).l := by first | exact .inl (by omega) | exact .inr (begins_false.1 (by assumption))
      have hI2 := hI.no (by rw [codeOf_gw, codeOf_gw]; exact hno)
      refine ⟨(j + 1, F, pq, cq, T), (Sub.cons rfl (Sub.cons rfl (Sub.nil _))), (by repeat (first | exact Sub.nil _ | refine Sub.cons rfl ?_)), ⟨⟨by simp only; omega, hI2, hQ⟩, hM, hB⟩, by simp only; omega⟩
    ·
     first | (have hg4p := of_decide_eq_false hg4) | skip
     refine LS.s rfl rfl rfl hg4 (by decide) ?_
     refine LS.s rfl rfl rfl hg4 (by decide) ?_
     refine LS.s rfl rfl rfl hg4 (by decide) ?_
     refine LS.vv rfl rfl (by decide) (Val.pickF rfl hg4 rfl) ?_
     refine LS.nil ?_
     refine W.condF rfl ?_
     refine W.skip ?_
     refine inBlk_normal ?_
     refine thenP_normal ?_
     refine W.reg ?_
     first | refine LS.vv rfl rfl (by decide) (Val.addN (j := 1) rfl rfl (by omega)) ?_ | refine LS.vv rfl rfl (by decide) (Val.add64 rfl rfl (by omega)) ?_
     refine LS.vv rfl rfl (by decide) (Val.move rfl) ?_
     refine LS.nil ?_
     refine thenP_normal ?_
     have hno : i = j ∨ ¬ (gW C j).l <+: (gW C i).l := by first | exact .inl (by omega) | exact .inr (begins_false.1 (by assumption))
     have hI2 := hI.no (by rw [codeOf_gw, codeOf_gw]; exact hno)
     refine ⟨(j + 1, F, pq, cq, T), (Sub.cons rfl (Sub.cons rfl (Sub.nil _))), (by repeat (first | exact Sub.nil _ | refine Sub.cons rfl ?_)), ⟨⟨by simp only; omega, hI2, hQ⟩, hM, hB⟩, by simp only; omega⟩
   ·
    refine W.exit ?_
    refine thenP_exit ?_
    refine thenP_exit ?_
    refine inBlk_exit ?_
    refine inBlk_normal ?_
    refine thenP_normal ?_
    refine W.reg ?_
    first | refine LS.vv rfl rfl (by decide) (Val.addN (j := 1) rfl rfl (by omega)) ?_ | refine LS.vv rfl rfl (by decide) (Val.add64 rfl rfl (by omega)) ?_
    refine LS.vv rfl rfl (by decide) (Val.move rfl) ?_
    refine LS.nil ?_
    refine thenP_normal ?_
    have hj9 : j = C.length := by omega
    rw [hj9] at hI
    have hI3 := (hI : StI (codeOf C) i C.length (rs F))
    rw [← codeOf_len] at hI3
    have hI2 := hI3.next (by rw [codeOf_len]; exact hC8)
    refine ⟨(i + 1, F, pq, cq, T), (Sub.cons rfl (Sub.cons rfl (Sub.nil _))), (by repeat (first | exact Sub.nil _ | refine Sub.cons rfl ?_)), ⟨⟨by simp only; omega, hI2, hQ⟩, hM, hB⟩, by simp only; omega⟩
  ·
   refine W.exit ?_
   refine thenP_exit ?_
   refine thenP_exit ?_
   refine inBlk_exit ?_
   refine thenP_normal ?_
   refine W.seqR ?_
   refine LS.m rfl (Step.makeMapR (enc := encS) rfl rfl (by decide) ?_)
   rintro wa hmp hbla hsza
   replace hM := hM.below hbla
   rw [cnf_zero] at hmp
   replace hmp := MapR.base hmp hB.size
   replace hB := hB.trans (hbla.mono hB.size)
   generalize w3.heap.size = mp at *
   refine LS.vv rfl rfl (by decide) (Val.assign rfl) ?_
   refine LS.nil ?_
   refine W.seq ?_
   refine W.block ?_
   have hi9 : i = C.length := by omega
   rw [hi9, ← codeOf_len] at hI
   have hPen0 := hI.pen
   refine W.loop (α := List QS × List Value × Nat × Option Addr × Nat × Option Addr × List IL × (List Bool → Nat) × List (List Bool) × Nat) (fun g => [(5, .slice g.2.2.2.2.2.1 (g.2.2.1 + g.1.length - g.2.2.1) (g.2.2.2.2.1 - g.2.2.1))]) [(0, _), (10, _)] (fun g w => (Pen (codeOf C) (rs g.1) g.2.2.2.2.2.2.2.2.1 ∧ QAll C w0 g.2.2.2.2.2.2.1 (g.2.2.2.2.2.2.2.2.2 + 1) g.1 ∧ g.2.1.length = g.2.2.1 * 3 ∧ MapR encS w w0.heap.size mp (cnf g.2.2.2.2.2.2.2.1) ∧ (∀ q, q ∈ g.2.2.2.2.2.2.2.2.1 ↔ 0 < g.2.2.2.2.2.2.2.1 q) ∧ (∀ q, g.2.2.2.2.2.2.2.1 q ≤ g.2.2.2.2.2.2.2.2.2) ∧ (g.1 ≠ [] → g.2.2.2.2.2.1 = cutZ g.2.2.2.1 g.2.2.2.2.1 g.2.2.1 3) ∧ g.2.2.1 ≤ g.2.2.2.2.2.2.2.2.2 ∧ g.1.length + 9 * (72 - g.2.2.2.2.2.2.2.2.1.length) + g.2.2.2.2.2.2.2.2.2 ≤ 712) ∧ Mz w w0.heap.size (⟨60, 3, g.2.2.2.1, g.2.2.1 + g.1.length, g.2.2.2.2.1, g.2.1 ++ qcs g.1⟩ :: (tpI g.2.2.2.2.2.2.1)) ∧ Below w0.heap.size w0 w) (fun g => g.1.length + 9 * (72 - g.2.2.2.2.2.2.2.2.1.length)) ((F, [], 0, pq, cq, pq, T, fun _ => 0, [], 0)) (Sub.cons' rfl (by simp only [Nat.zero_add, Nat.sub_zero]) (Sub.nil _)) (Sub.cons rfl (Sub.cons rfl (Sub.nil _))) ?_ ?_
   · refine ⟨⟨hPen0, hQ, rfl, hmp, fun q => by simp, fun _ => Nat.le_refl _, fun _ => (cutZ_zero _ _ _).symm, Nat.le_refl _, by simp only [List.length_nil]; omega⟩, ?_, hB⟩; simp only [Nat.zero_add, List.nil_append]; exact hM
   rintro ⟨F, J, k, pq, cq, qp, T, cn, S, P⟩ w10 ⟨⟨hPen, hQ, hJ, hmp, hSc, hcn, hqp, hkP, hbud⟩, hM, hB⟩
   try simp only at hM
   simp only [List.cons_append, List.nil_append]
   simp only at hPen hQ hJ hmp hSc hcn hqp hkP hbud
   have hS72 := hPen.few hcd
   refine W.seq ?_
   refine W.seqR ?_
   refine LS.vv rfl rfl (by decide) (Val.move rfl) ?_
   refine LS.vv rfl rfl (by decide) (Val.len Try.underlying58 rfl) ?_
   refine LS.vv rfl rfl (by decide) (Val.gtr rfl rfl) ?_
   refine LS.nil ?_
   first | refine W.condD rfl (fun hc6 => ?_) (fun hc6 => ?_) | refine W.cond rfl (fun hc6 => ?_) (fun hc6 => ?_)
   ·
    obtain ⟨q0, R, rfl⟩ : ∃ q0 R, F = q0 :: R := by { cases F with | nil => (exfalso; simp only [List.length_nil] at *; omega) | cons a R => exact ⟨a, R, rfl⟩ }
    have hq0 := hQ q0 (by simp)
    obtain rfl := hqp (by simp)
    have hcapq := hM.o0.le_cap
    rw [List.length_cons] at hcapq
    obtain ⟨gq, hgq⟩ := hM.o0.head (by rw [List.length_cons]; omega)
    have hl0 : (q0 :: R).length = R.length + 1 := rfl
    refine W.skip ?_
    refine thenP_normal ?_
    refine W.seq ?_
    refine W.block ?_
    refine W.seqR ?_
    refine LS.vv rfl rfl (by decide) (Val.move rfl) ?_
    refine LS.vv rfl rfl (by decide) (Val.indexAddr (j := 0) Try.underlying58 elem60 rfl rfl (by omega) ((cutF3 hM.o0 hJ)) (by rw [qcs_len]; simp only [List.length_cons]; omega)) ?_
    refine LS.m rfl (Step.loadAgg (vs := (qc q0)) rfl rfl (by decide) agg60 rfl ((cutF3 hM.o0 hJ)) ((qcs_hd _ _)) rfl (by decide) ?_)
    refine LS.m rfl (Step.allocZ rfl rfl (by decide) elem60 rfl (by decide) ?_)
    rintro w11 hO11 hg11 hbl11 hsz11
    first | replace hmp := hmp.below hbl11 | replace hmp := hmp.offZ hM.o0 hg11 | replace hmp := hmp.offZ hM.o1 hg11 | replace hmp := hmp.offZ hM.o2 hg11 | replace hmp := hmp.offZ hM.o3 hg11 | replace hmp := hmp.offZ hM.o4 hg11 | replace hmp := hmp.offZ hM.o5 hg11 | replace hmp := hmp.offZ hM.o6 hg11 | replace hmp := hmp.offZ hM.o7 hg11 | replace hmp := hmp.offZ hM.o8 hg11 | replace hmp := hmp.offZ hM.o9 hg11 | skip
    replace hM := hM.add hB.size hbl11 hO11
    try simp only [List.length_cons, List.length_nil, Nat.zero_add, Nat.reduceAdd, Value.cells, List.toList_toArray, List.append_nil, List.set_cons_zero, List.set_cons_succ] at hM
    replace hB := hB.trans (hbl11.mono hB.size)
    generalize w10.heap.size = gg11 at *
    refine LS.m rfl (Step.storeAgg0 (B := w0.heap.size) rfl rfl agg60 rfl rfl rfl (by decide) (by first | exact one_map _ (fun _ => rfl) _ | simp [Value.oneCell']) (hM.o0) rfl hB.size ?_)
    rintro w12 hO12 hg12 hbl12 hsz12
    first | replace hmp := hmp.below hbl12 | replace hmp := hmp.offZ hM.o0 hg12 | replace hmp := hmp.offZ hM.o1 hg12 | replace hmp := hmp.offZ hM.o2 hg12 | replace hmp := hmp.offZ hM.o3 hg12 | replace hmp := hmp.offZ hM.o4 hg12 | replace hmp := hmp.offZ hM.o5 hg12 | replace hmp := hmp.offZ hM.o6 hg12 | replace hmp := hmp.offZ hM.o7 hg12 | replace hmp := hmp.offZ hM.o8 hg12 | replace hmp := hmp.offZ hM.o9 hg12 | skip
    replace hM := hM.s0 (e := _) hg12 hO12 inl_block
    try simp only [List.set_cons_zero, List.set_cons_succ] at hM
    replace hB := hB.trans hbl12
    refine LS.nil ?_
    refine W.seq ?_
    refine W.seqR ?_
    refine LS.vv rfl rfl (by decide) (Val.fieldAddr0 fld60_0 rfl) ?_
    refine LS.m rfl (Step.load rfl rfl (by decide) flat36 rfl (hM.o0.rd) (rfl) ?_)
    refine LS.vv rfl rfl (by decide) (Val.len Try.underlying36 rfl) ?_
    refine LS.vv rfl rfl (by decide) (Val.eql rfl rfl) ?_
    refine LS.nil ?_
    first | refine W.condD rfl (fun hc7 => ?_) (fun hc7 => ?_) | refine W.cond rfl (fun hc7 => ?_) (fun hc7 => ?_)
    ·
     refine W.seqFz 6 [(0, true), (1, true), (2, true), (3, true), (4, true), (5, true)] mixed (by kernel_rfl) hB hM ?_
     replace hB := hB.drew
     replace hM := hM.drew
     try replace hmp := MapR.drew hmp
     refine DF.vv rfl rfl rfl (by decide) (Val.fieldAddr0 fld60_1 rfl) ?_
     refine DF.vv rfl rfl rfl (by decide) (Val.load flat28 rfl (fun _ h => h.2.o0.rd) (rfl)) ?_
     refine DF.vv rfl rfl rfl (by decide) (Val.fieldAddr0 fld60_2 rfl) ?_
     refine DF.vv rfl rfl rfl (by decide) (Val.load flat28 rfl (fun _ h => h.2.o0.rd) (rfl)) ?_
     refine DF.vv rfl rfl rfl (by decide) (Val.assign rfl) ?_
     refine DF.vv rfl rfl rfl (by decide) (Val.assign rfl) ?_
     refine DF.nil ?_
     refine W.ret ?_
     refine thenP_ret ?_
     refine inBlk_ret ?_
     refine thenP_ret ?_
     refine thenP_ret ?_
     refine inBlk_ret ?_
     refine thenP_ret ?_
     refine ret2 (by first | exact .inl rfl | exact .inr rfl) rfl rfl ?_
     first
       | (exact ⟨_, none, _, 0, [i], [], rfl, hM.o0.rd, Rd.nil _ _, .inr ⟨by simp, by simp, bare_not (C := codeOf C) (i := i) (by rw [codeOf_len]; exact hi) (by rw [codeOf_gw]; exact List.length_eq_zero_iff.1 hi0)⟩, by simp, by simp, hB⟩; done)
       | (have hr9 : q0.r = [] := List.length_eq_zero_iff.1 (by omega)
          have hnf := hq0.st
          rw [hr9] at hnf
          obtain ⟨hne, hnu⟩ := hnf.not
          obtain ⟨x, y, a9, b9, h1, h2, _⟩ := hnf.hd
          have hqlA := hq0.lA
          have hqlB := hq0.lB
          exact ⟨q0.A.p, q0.B.p, q0.A.c, q0.B.c, q0.A.l, q0.B.l, rfl, tpI_rd hM hq0.inA (fun o h => by simp [h]), tpI_rd hM hq0.inB (fun o h => by simp [h]), .inr ⟨by rw [h1]; simp, hne, hnu⟩, by omega, by omega, hB⟩)
       | (have hF : F = [] := List.length_eq_zero_iff.1 (by omega)
          subst hF
          exact ⟨none, none, 0, 0, [], [], rfl, Rd.nil _ _, Rd.nil _ _, .inl ⟨rfl, rfl, Pen.ud hPen hnb⟩, by simp, by simp, hB⟩)
    ·
     have hr0 : q0.r ≠ [] := fun e => absurd (congrArg List.length e) (by simp only [List.length_nil]; omega)
     refine W.skip ?_
     refine thenP_normal ?_
     refine W.seq ?_
     refine W.seqR ?_
     refine LS.vv rfl rfl (by decide) (Val.move rfl) ?_
     refine LS.vv rfl rfl (by decide) (Val.fieldAddr0 fld60_0 rfl) ?_
     refine LS.m rfl (Step.load rfl rfl (by decide) flat36 rfl (hM.o0.rd) (rfl) ?_)
     refine LS.m rfl (Step.call body43 rfl rfl (by decide) rfl (CallsV.mono (key_any q0.r _ _ _ _ (hq0.rd.below hB) rfl (by have := hq0.r8; omega)) ?_))
     rintro _ w13 ⟨rfl, hb13⟩
     replace hM := hM.below hb13
     try replace hmp := hmp.below hb13
     replace hB := hB.trans (hb13.mono hB.size)
     refine LS.m rfl (Step.lookup1 rfl rfl (by decide) (keys_str Try.underlying9) Try.underlying61 elem3 rfl rfl hmp.own (k := q0.r) (cnf_get cn q0.r) ?_)
     have hcq := hcn q0.r
     refine LS.vv rfl rfl (by decide) (Val.addN (j := 1) rfl rfl (by omega)) ?_
     refine LS.m rfl (Step.mapPutR (k := q0.r) (v := .int .i64 ((cn q0.r + 1 : Nat) : Int)) (.inl rfl) rfl (keys_str Try.underlying9) Try.underlying61 rfl rfl rfl hmp hB.size ?_)
     rintro wf hmp2 hg8 hbl8 hsz8
     replace hM := hM.mapR hmp hg8
     replace hB := hB.trans hbl8
     rw [cnf_put] at hmp2
     replace hmp := hmp2
     clear hmp2
     refine LS.nil ?_
     refine W.seqR ?_
     refine LS.vv rfl rfl (by decide) (Val.move rfl) ?_
     refine LS.vv rfl rfl (by decide) (Val.fieldAddr0 fld60_0 rfl) ?_
     refine LS.m rfl (Step.load rfl rfl (by decide) flat36 rfl (hM.o0.rd) (rfl) ?_)
     refine LS.m rfl (Step.call body43 rfl rfl (by decide) rfl (CallsV.mono (key_any q0.r _ _ _ _ (hq0.rd.below hB) rfl (by have := hq0.r8; omega)) ?_))
     rintro _ w14 ⟨rfl, hb14⟩
     replace hM := hM.below hb14
     try replace hmp := hmp.below hb14
     replace hB := hB.trans (hb14.mono hB.size)
     refine LS.m rfl (Step.lookup1 rfl rfl (by decide) (keys_str Try.underlying9) Try.underlying61 elem3 rfl rfl hmp.own (k := q0.r) (cnf_get (cn1 cn q0.r) q0.r) ?_)
     rw [cn1_same]
     refine LS.vv rfl rfl (by decide) (Val.gtr rfl rfl) ?_
     refine LS.nil ?_
     first | refine W.condD rfl (fun hc8 => ?_) (fun hc8 => ?_) | refine W.cond rfl (fun hc8 => ?_) (fun hc8 => ?_)
     ·
      have hyS : q0.r ∈ S := (hSc q0.r).2 (by omega)
      refine W.exit ?_
      refine thenP_exit ?_
      refine inBlk_exit ?_
      refine thenP_normal ?_
      refine W.reg ?_
      refine LS.vv rfl rfl (by decide) (Val.move rfl) ?_
      refine LS.vv rfl rfl (by decide) (Val.sliceFromZ (l := 1) Try.underlying58 elem60 rfl rfl (by omega) (by omega)) ?_
      refine LS.vv rfl rfl (by decide) (Val.assign rfl) ?_
      refine LS.nil ?_
      refine thenP_normal ?_
      replace hM := hM.er0
      first
        | (have hPen2 := Pen.skip (C := codeOf C) (r := q0.r) (Q := rs R) hPen hyS
           refine ⟨(R, J ++ qc q0, k + 1, pq, cq, cutZ (cutZ pq cq k 3) (cq - k) 1 3, T, cn1 cn q0.r, S, P + 1), (Sub.cons' rfl (by simp only; congr 1 <;> omega) (Sub.nil _)), (by repeat (first | exact Sub.nil _ | refine Sub.cons rfl ?_)), ⟨⟨hPen2, (fun x hx => (hQ x (List.mem_cons_of_mem _ hx)).mono (fun _ h => h) (by simp only; omega)), by rw [List.length_append, hJ]; simp only [qc, List.length_cons, List.length_nil]; omega, hmp, cn1_in hSc hyS, cn1_le hcn, fun hne => by have h9 : 0 < R.length := List.length_pos_iff.2 hne; rw [hgq]; exact cut_one (by omega), by simp only; omega, by (try simp only [List.length_append, List.length_singleton]); omega⟩, Mz.castQ hM (by simp only; omega) (by simp only [qcs_cons, List.append_assoc]), hB⟩, by (try simp only [List.length_append, List.length_singleton]); omega⟩
           done)
        | (have hi9 : i = C.length := by omega
           rw [hi9, ← codeOf_len] at hPI
           have hPen2 := PenI.all hPI
           refine ⟨(F2, J2 ++ qc q0, k2 + 1, pq2, cq2, cutZ (cutZ pq2 cq2 k2 3) (cq2 - k2) 1 3, T2, cn1 cn q0.r, (S ++ [q0.r]), P + 1), (Sub.cons' rfl (by simp only; congr 1 <;> omega) (Sub.nil _)), (by repeat (first | exact Sub.nil _ | refine Sub.cons rfl ?_)), ⟨⟨hPen2, hQ2, by rw [List.length_append, hJ2]; simp only [qc, List.length_cons, List.length_nil]; omega, hmp, cn1_new hSc, cn1_le hcn, fun hne => by have h9 : 0 < F2.length := List.length_pos_iff.2 hne; rw [hgq2]; exact cut_one (by omega), by simp only; omega, by (try simp only [List.length_append, List.length_singleton]); omega⟩, Mz.castQ hM (by simp only; omega) (by simp only [qcs_cons, List.append_assoc]), hB⟩, by (try simp only [List.length_append, List.length_singleton]); omega⟩
           done)
     ·
      have hnS : q0.r ∉ S := fun h9 => by have := (hSc q0.r).1 h9; omega
      refine W.skip ?_
      refine thenP_normal ?_
      refine W.seqR ?_
      refine LS.vv rfl rfl (by decide) (Val.move rfl) ?_
      refine LS.vv rfl rfl (by decide) (Val.len Try.underlying22 rfl) ?_
      refine LS.vv rfl rfl (by decide) (Val.cast (v := .int .i64 ((0 : Nat) : Int)) (Val.move rfl) rfl) ?_
      refine LS.nil ?_
      refine W.block ?_
      have hPI0 := hPen.open_ (r := q0.r) hnS hr0
      have hQR : QAll C w0 T (P + 2) R := fun x hx => (hQ x (List.mem_cons_of_mem _ hx)).mono (fun _ h => h) (by omega)
      replace hM := hM.sw0
      refine W.loop (α := Nat × List QS × List Value × Nat × Option Addr × Nat × List IL) (fun g => [(5, .slice (cutZ g.2.2.2.2.1 g.2.2.2.2.2.1 g.2.2.2.1 3) (g.2.2.2.1 + (q0 :: g.2.1).length - g.2.2.2.1) (g.2.2.2.2.2.1 - g.2.2.2.1)), (88, .int .i64 (g.1 : Int))]) [(0, _), (10, _), (11, _), (86, _), (87, _)] (fun g w => (g.1 ≤ C.length ∧ PenI (codeOf C) q0.r g.1 (rs g.2.1) (S ++ [q0.r]) ∧ QAll C w0 g.2.2.2.2.2.2 (P + 2) g.2.1 ∧ QOk C w0 g.2.2.2.2.2.2 (P + 1) q0 ∧ g.2.2.1.length = g.2.2.2.1 * 3 ∧ MapR encS w w0.heap.size mp (cnf (cn1 cn q0.r)) ∧ g.2.2.2.1 ≤ k ∧ g.2.1.length ≤ R.length + g.1) ∧ Mz w w0.heap.size (⟨60, 3, g.2.2.2.2.1, g.2.2.2.1 + (q0 :: g.2.1).length, g.2.2.2.2.2.1, g.2.2.1 ++ qcs (q0 :: g.2.1)⟩ :: ⟨60, 3, some ⟨gg11, 0, none⟩, 1, 1, qc q0⟩ :: (tpI g.2.2.2.2.2.2)) ∧ Below w0.heap.size w0 w) (fun g => C.length - g.1) ((0, R, J, k, pq, cq, T)) (Sub.cons rfl (Sub.cons rfl (Sub.nil _))) (Sub.cons rfl (Sub.cons rfl (Sub.cons rfl (Sub.cons rfl (Sub.cons rfl (Sub.nil _)))))) ?_ ?_
      · exact ⟨⟨Nat.zero_le _, hPI0, hQR, hq0, hJ, hmp, Nat.le_refl _, Nat.le_refl _⟩, hM, hB⟩
      rintro ⟨i, F2, J2, k2, pq2, cq2, T2⟩ w15 ⟨⟨hi, hPI, hQ2, hq0, hJ2, hmp, hkk, hfl⟩, hM, hB⟩
      try simp only at hM
      simp only [List.cons_append, List.nil_append]
      simp only at hi hPI hQ2 hq0 hJ2 hmp hkk hfl
      have hcapq2 := hM.o0.le_cap
      rw [List.length_cons] at hcapq2
      obtain ⟨gq2, hgq2⟩ := hM.o0.head (by rw [List.length_cons]; omega)
      have hl2 : (q0 :: F2).length = F2.length + 1 := rfl
      have hrS : q0.r ∈ S ++ [q0.r] := by simp
      have hS73 := hPI.few hcd
      rw [List.length_append, List.length_singleton] at hS73
      have hqlA := hq0.lA
      have hqlB := hq0.lB
      have hqr8 := hq0.r8
      have hqcap := hq0.cap
      refine W.seqR ?_
      refine LS.vv rfl rfl (by decide) (Val.lss rfl rfl) ?_
      refine LS.nil ?_
      refine W.seq ?_
      first | refine W.condD rfl (fun hc9 => ?_) (fun hc9 => ?_) | refine W.cond rfl (fun hc9 => ?_) (fun hc9 => ?_)
      ·
       refine W.skip ?_
       refine thenP_normal ?_
       refine W.seq ?_
       refine W.block ?_
       refine W.seqR ?_
       refine LS.vv rfl rfl (by decide) (Val.move rfl) ?_
       refine LS.vv rfl rfl (by decide) (Val.index1 Try.underlying22 elem36 rfl rfl (by omega) ((hh.below hB)) (wv_lt (by omega))) ?_
       refine LS.m rfl (Step.load rfl rfl (by decide) flat36 rfl ((hh.below hB)) (wv_at (by omega)) ?_)
       refine LS.vv rfl rfl (by decide) (Val.assign rfl) ?_
       refine LS.vv rfl rfl (by decide) (Val.assign rfl) ?_
       refine LS.nil ?_
       refine W.seqR ?_
       refine LS.vv rfl rfl (by decide) (Val.fieldAddr0 fld60_2 rfl) ?_
       refine LS.m rfl (Step.load rfl rfl (by decide) flat28 rfl (hM.o1.rd) (rfl) ?_)
       refine LS.m rfl (Step.call body44 rfl rfl (by decide) rfl (CallsV.mono (clone_nat q0.B.l q0.B.p q0.B.c q0.B.l.length _ (tpI_rd hM hq0.inB (fun o h => by simp [h])) rfl (by have := hq0.lB; omega)) ?_))
       rintro _ w16 ⟨pn0, cn0, rfl, hOn, hb16⟩
       replace hM := hM.add hB.size hb16 hOn.toZ
       try replace hmp := hmp.below hb16
       replace hB := hB.trans (hb16.mono hB.size)
       refine LS.vv rfl rfl (by decide) (Val.move rfl) ?_
       refine LS.m rfl (Step.litZ rfl rfl (by decide) Try.underlying28 elem3 rfl (by decide) rfl rfl (by decide) ?_)
       rintro w17 hO17 hg17 hbl17 hsz17
       first | replace hmp := hmp.below hbl17 | replace hmp := hmp.offZ hM.o0 hg17 | replace hmp := hmp.offZ hM.o1 hg17 | replace hmp := hmp.offZ hM.o2 hg17 | replace hmp := hmp.offZ hM.o3 hg17 | replace hmp := hmp.offZ hM.o4 hg17 | replace hmp := hmp.offZ hM.o5 hg17 | replace hmp := hmp.offZ hM.o6 hg17 | replace hmp := hmp.offZ hM.o7 hg17 | replace hmp := hmp.offZ hM.o8 hg17 | replace hmp := hmp.offZ hM.o9 hg17 | skip
       replace hM := hM.add hB.size hbl17 hO17
       try simp only [nv_app1, nv_app, nv_set, nv_rep, nv_one, nv_cons, nv_take, nv_drop, List.nil_append] at hM
       try simp only [List.length_cons, List.length_nil, Nat.zero_add, Nat.reduceAdd, Value.cells, List.toList_toArray, List.append_nil, List.set_cons_zero, List.set_cons_succ] at hM
       replace hB := hB.trans (hbl17.mono hB.size)
       generalize w16.heap.size = gg17 at *
       refine LS.m rfl (Step.appendZ (B := w0.heap.size) rfl rfl (by decide) Try.underlying28 elem3 rfl (by decide) rfl rfl (hM.o1) (hM.o0.rd) rfl (by first | exact one_map _ (fun _ => rfl) _ | simp [Value.oneCell']) (by omega) (by omega) hB.size ?_)
       rintro p18 c18 w18 hO18 hg18 hbl18 hbk18
       first | replace hmp := hmp.below hbl18 | replace hmp := hmp.offZ hM.o0 hg18 | replace hmp := hmp.offZ hM.o1 hg18 | replace hmp := hmp.offZ hM.o2 hg18 | replace hmp := hmp.offZ hM.o3 hg18 | replace hmp := hmp.offZ hM.o4 hg18 | replace hmp := hmp.offZ hM.o5 hg18 | replace hmp := hmp.offZ hM.o6 hg18 | replace hmp := hmp.offZ hM.o7 hg18 | replace hmp := hmp.offZ hM.o8 hg18 | replace hmp := hmp.offZ hM.o9 hg18 | skip
       replace hM := hM.s1 (e := _) hg18 hO18 hbk18
       replace hM := hM.tail
       try simp only [nv_app1, nv_app, nv_set, nv_rep, nv_one, nv_cons, nv_take, nv_drop, List.nil_append] at hM
       replace hB := hB.trans hbl18
       generalize p18 = pn at *
       generalize c18 = cn9 at *
       refine LS.vv rfl rfl (by decide) (Val.assign rfl) ?_
       refine LS.nil ?_
       refine W.block ?_
       refine W.seqR ?_
       refine LS.vv rfl rfl (by decide) (Val.move rfl) ?_
       refine LS.vv rfl rfl (by decide) (Val.fieldAddr0 fld60_0 rfl) ?_
       refine LS.m rfl (Step.load rfl rfl (by decide) flat36 rfl (hM.o2.rd) (rfl) ?_)
       refine LS.m rfl (Step.call body36 rfl rfl (by decide) rfl (CallsV.mono (begins_any (gW C i).l q0.r _ _ _ _ _ _ _ ((hr.at (k := i) (by omega)).below hB) (hq0.rd.below hB) rfl rfl hq0.cap (hr.max (by omega))) ?_))
       rintro _ w19 ⟨rfl, hb19⟩
       replace hM := hM.below hb19
       try replace hmp := hmp.below hb19
       replace hB := hB.trans (hb19.mono hB.size)
       refine LS.vv rfl rfl (by decide) (Val.assign rfl) ?_
       refine LS.nil ?_
       first | refine W.condD rfl (fun hc10 => ?_) (fun hc10 => ?_) | refine W.cond rfl (fun hc10 => ?_) (fun hc10 => ?_)
       ·
        refine W.regT (S := fun w => Below w0.heap.size w0 w ∧ Mz w w0.heap.size _) (.val 0 (.val 1 (.val 2 (.val 3 (.val 4 (.val 5 (.val 6 (.val 7 (.val 8 (.val 9 (.mem 10 (.mem 11 (.val 12 (.done)))))))))))))) mixed (by kernel_rfl) ⟨hB.drew, hM.drew.er1.er0⟩ ?_
        replace hB := hB.drew
        replace hM := hM.drew
        try replace hmp := MapR.drew hmp
        refine DT.vv rfl rfl rfl (by decide) (Val.move rfl) ?_
        refine DT.vv rfl rfl rfl (by decide) (Val.fieldAddr0 fld60_0 rfl) ?_
        refine DT.vv rfl rfl rfl (by decide) (Val.load flat36 rfl (fun _ h => h.2.o0.rd) (rfl)) ?_
        refine DT.vv rfl rfl rfl (by decide) (Val.move rfl) ?_
        have hpl := (begins_iff.1 (by assumption : begins (gW C i).l q0.r = true)).length_le
        have hcq0 := hq0.cap
        refine DT.vv rfl rfl rfl (by decide) (Val.len Try.underlying36 rfl) ?_
        refine DT.vv rfl rfl rfl (by decide) (Val.sliceFrom Try.underlying36 elem4 rfl rfl (by omega) (by omega)) ?_
        refine DT.vv rfl rfl rfl (by decide) (Val.fieldAddr0 fld60_1 rfl) ?_
        refine DT.vv rfl rfl rfl (by decide) (Val.load flat28 rfl (fun _ h => h.2.o0.rd) (rfl)) ?_
        refine DT.vv rfl rfl rfl (by decide) (Val.move rfl) ?_
        refine DT.vv rfl rfl rfl (by decide) (Val.build str60 elem60 rfl rfl rfl) ?_
        refine DT.m rfl rfl (Step.litZ rfl rfl (by decide) Try.underlying58 elem60 rfl (by decide) rfl rfl (by decide) ?_)
        rintro w20 hO20 hg20 hbl20 hsz20
        first | replace hmp := hmp.below hbl20 | replace hmp := hmp.offZ hM.o0 hg20 | replace hmp := hmp.offZ hM.o1 hg20 | replace hmp := hmp.offZ hM.o2 hg20 | replace hmp := hmp.offZ hM.o3 hg20 | replace hmp := hmp.offZ hM.o4 hg20 | replace hmp := hmp.offZ hM.o5 hg20 | replace hmp := hmp.offZ hM.o6 hg20 | replace hmp := hmp.offZ hM.o7 hg20 | replace hmp := hmp.offZ hM.o8 hg20 | replace hmp := hmp.offZ hM.o9 hg20 | skip
        replace hM := hM.add hB.size hbl20 hO20
        try simp only [List.length_cons, List.length_nil, Nat.zero_add, Nat.reduceAdd, Value.cells, List.toList_toArray, List.append_nil, List.set_cons_zero, List.set_cons_succ] at hM
        replace hB := hB.trans (hbl20.mono hB.size)
        generalize w19.drew.heap.size = gg20 at *
        refine ⟨⟨hB, hM.er2.er1.er0⟩, ?_⟩
        refine DT.m rfl rfl (Step.appendCutP (B := w0.heap.size) (p := pq2) (m := k2 + (q0 :: F2).length) (c := cq2) (k := k2) rfl rfl (by decide) Try.underlying58 elem60 rfl (by decide) rfl (.inl rfl) rfl (by omega) (by decide) (hM.o2) (hM.o0.rd) rfl (by simp [Value.oneCell']) (by omega) (by omega) hB.size ?_)
        rintro p9 c9 k9 J9 w9 hk9 hJ9 hO9 hg9 hbl9 hbk9
        rw [← hJ2, List.drop_left] at hO9
        replace hmp := hmp.offZ (hM.o2) hg9
        replace hM := hM.s2 (e := _) hg9 hO9 hbk9
        replace hB := hB.trans hbl9
        refine ⟨⟨hB, hM.er2.er1.er0⟩, ?_⟩
        refine DT.vv rfl rfl rfl (by decide) (Val.assign rfl) ?_
        refine DT.nil ?_
        refine inBlk_normal ?_
        refine inBlk_normal ?_
        refine thenP_normal ?_
        refine W.reg ?_
        first | refine LS.vv rfl rfl (by decide) (Val.addN (j := 1) rfl rfl (by omega)) ?_ | refine LS.vv rfl rfl (by decide) (Val.add64 rfl rfl (by omega)) ?_
        refine LS.vv rfl rfl (by decide) (Val.move rfl) ?_
        refine LS.nil ?_
        refine thenP_normal ?_
        replace hM := hM.er0.sw0.sw1
        have hbt := begins_iff.1 (by assumption : begins (gW C i).l q0.r = true)
        have hq1 : QOk C w0 ((⟨pn, cn9, q0.B.l ++ [i]⟩ : IL) :: T2) (P + 2) ⟨cutAt q0.rp q0.rc (gW C i).l.length, q0.rc - (gW C i).l.length, q0.r.drop (gW C i).l.length, q0.A, (⟨pn, cn9, q0.B.l ++ [i]⟩ : IL)⟩ := ⟨by have := hq0.st.one (i := i) (by rw [codeOf_len]; omega) (by rw [codeOf_gw]; exact hbt); rwa [codeOf_gw] at this, hq0.rd.cut_bv hq0.cap, by simp only [List.length_drop]; omega, by simp only [List.length_drop]; omega, List.mem_cons_of_mem _ hq0.inA, by simp, by simp only; omega, by simp only [List.length_append, List.length_cons, List.length_nil]; omega⟩
        have hPI2 := PenI.one (k := i) hPI hrS (by rw [codeOf_gw]; exact hbt)
        rw [codeOf_gw] at hPI2
        rw [show q0.B.l.length + 1 = (q0.B.l ++ [i]).length from by simp] at hM
        refine ⟨(i + 1, F2 ++ [⟨cutAt q0.rp q0.rc (gW C i).l.length, q0.rc - (gW C i).l.length, q0.r.drop (gW C i).l.length, q0.A, (⟨pn, cn9, q0.B.l ++ [i]⟩ : IL)⟩], J9, k9, p9, c9, (⟨pn, cn9, q0.B.l ++ [i]⟩ : IL) :: T2), (Sub.cons' rfl (by congr 1; simp only [List.length_cons, List.length_append, List.length_nil]; omega) (Sub.cons rfl (Sub.nil _))), (by repeat (first | exact Sub.nil _ | refine Sub.cons rfl ?_)), ⟨⟨by simp only; omega, by simp only [rs_add]; exact hPI2, (hQ2.mono (fun x h => List.mem_cons_of_mem _ h) (Nat.le_refl _)).add hq1, hq0.mono (fun x h => List.mem_cons_of_mem _ h) (Nat.le_refl _), hJ9, hmp, by simp only; omega, (by simp only [List.length_cons, List.length_append, List.length_nil]; omega)⟩, ?_, hB⟩, by simp only; omega⟩
        exact Mz.castQ hM (by simp only [List.length_cons, List.length_append, List.length_nil]; omega) (by rw [← List.cons_append, qcs_app, qcs_one]; simp only [qc, List.length_drop, List.length_append, List.length_cons, List.length_nil])
       ·
        refine W.seqR ?_
        refine LS.vv rfl rfl (by decide) (Val.fieldAddr0 fld60_0 rfl) ?_
        refine LS.m rfl (Step.load rfl rfl (by decide) flat36 rfl (hM.o2.rd) (rfl) ?_)
        refine LS.vv rfl rfl (by decide) (Val.move rfl) ?_
        refine LS.m rfl (Step.call body36 rfl rfl (by decide) rfl (CallsV.mono (begins_any q0.r (gW C i).l _ _ _ _ _ _ _ (hq0.rd.below hB) ((hr.at (k := i) (by omega)).below hB) rfl rfl (hr.le (by omega)) (by have := hq0.r8; omega)) ?_))
        rintro _ w21 ⟨rfl, hb21⟩
        replace hM := hM.below hb21
        try replace hmp := hmp.below hb21
        replace hB := hB.trans (hb21.mono hB.size)
        refine LS.vv rfl rfl (by decide) (Val.assign rfl) ?_
        refine LS.nil ?_
        first | refine W.condD rfl (fun hc11 => ?_) (fun hc11 => ?_) | refine W.cond rfl (fun hc11 => ?_) (fun hc11 => ?_)
        ·
         refine W.regT (S := fun w => Below w0.heap.size w0 w ∧ Mz w w0.heap.size _) (.val 0 (.val 1 (.val 2 (.val 3 (.val 4 (.val 5 (.val 6 (.val 7 (.val 8 (.val 9 (.mem 10 (.mem 11 (.val 12 (.done)))))))))))))) mixed (by kernel_rfl) ⟨hB.drew, hM.drew.er1.er0⟩ ?_
         replace hB := hB.drew
         replace hM := hM.drew
         try replace hmp := MapR.drew hmp
         refine DT.vv rfl rfl rfl (by decide) (Val.move rfl) ?_
         refine DT.vv rfl rfl rfl (by decide) (Val.move rfl) ?_
         refine DT.vv rfl rfl rfl (by decide) (Val.fieldAddr0 fld60_0 rfl) ?_
         refine DT.vv rfl rfl rfl (by decide) (Val.load flat36 rfl (fun _ h => h.2.o0.rd) (rfl)) ?_
         have hpl := (begins_iff.1 (by assumption : begins q0.r (gW C i).l = true)).length_le
         have hle := hr.le (k := i) (by omega)
         refine DT.vv rfl rfl rfl (by decide) (Val.len Try.underlying36 rfl) ?_
         refine DT.vv rfl rfl rfl (by decide) (Val.sliceFrom Try.underlying36 elem4 rfl rfl (by omega) (by omega)) ?_
         refine DT.vv rfl rfl rfl (by decide) (Val.move rfl) ?_
         refine DT.vv rfl rfl rfl (by decide) (Val.fieldAddr0 fld60_1 rfl) ?_
         refine DT.vv rfl rfl rfl (by decide) (Val.load flat28 rfl (fun _ h => h.2.o0.rd) (rfl)) ?_
         refine DT.vv rfl rfl rfl (by decide) (Val.build str60 elem60 rfl rfl rfl) ?_
         refine DT.m rfl rfl (Step.litZ rfl rfl (by decide) Try.underlying58 elem60 rfl (by decide) rfl rfl (by decide) ?_)
         rintro w22 hO22 hg22 hbl22 hsz22
         first | replace hmp := hmp.below hbl22 | replace hmp := hmp.offZ hM.o0 hg22 | replace hmp := hmp.offZ hM.o1 hg22 | replace hmp := hmp.offZ hM.o2 hg22 | replace hmp := hmp.offZ hM.o3 hg22 | replace hmp := hmp.offZ hM.o4 hg22 | replace hmp := hmp.offZ hM.o5 hg22 | replace hmp := hmp.offZ hM.o6 hg22 | replace hmp := hmp.offZ hM.o7 hg22 | replace hmp := hmp.offZ hM.o8 hg22 | replace hmp := hmp.offZ hM.o9 hg22 | skip
         replace hM := hM.add hB.size hbl22 hO22
         try simp only [List.length_cons, List.length_nil, Nat.zero_add, Nat.reduceAdd, Value.cells, List.toList_toArray, List.append_nil, List.set_cons_zero, List.set_cons_succ] at hM
         replace hB := hB.trans (hbl22.mono hB.size)
         generalize w21.drew.heap.size = gg22 at *
         refine ⟨⟨hB, hM.er2.er1.er0⟩, ?_⟩
         refine DT.m rfl rfl (Step.appendCutP (B := w0.heap.size) (p := pq2) (m := k2 + (q0 :: F2).length) (c := cq2) (k := k2) rfl rfl (by decide) Try.underlying58 elem60 rfl (by decide) rfl (.inl rfl) rfl (by omega) (by decide) (hM.o2) (hM.o0.rd) rfl (by simp [Value.oneCell']) (by omega) (by omega) hB.size ?_)
         rintro p9 c9 k9 J9 w9 hk9 hJ9 hO9 hg9 hbl9 hbk9
         rw [← hJ2, List.drop_left] at hO9
         replace hmp := hmp.offZ (hM.o2) hg9
         replace hM := hM.s2 (e := _) hg9 hO9 hbk9
         replace hB := hB.trans hbl9
         refine ⟨⟨hB, hM.er2.er1.er0⟩, ?_⟩
         refine DT.vv rfl rfl rfl (by decide) (Val.assign rfl) ?_
         refine DT.nil ?_
         refine inBlk_normal ?_
         refine inBlk_normal ?_
         refine thenP_normal ?_
         refine W.reg ?_
         first | refine LS.vv rfl rfl (by decide) (Val.addN (j := 1) rfl rfl (by omega)) ?_ | refine LS.vv rfl rfl (by decide) (Val.add64 rfl rfl (by omega)) ?_
         refine LS.vv rfl rfl (by decide) (Val.move rfl) ?_
         refine LS.nil ?_
         refine thenP_normal ?_
         replace hM := hM.er0.sw0.sw1
         have hbt := begins_iff.1 (by assumption : begins q0.r (gW C i).l = true)
         have hbn := begins_false.1 (by assumption : begins (gW C i).l q0.r = false)
         have hle9 := hr.le (k := i) (by omega)
         have hwi8 := hw8 i (by omega)
         have hq1 : QOk C w0 ((⟨pn, cn9, q0.B.l ++ [i]⟩ : IL) :: T2) (P + 2) ⟨cutAt (gW C i).p (gW C i).c q0.r.length, (gW C i).c - q0.r.length, (gW C i).l.drop q0.r.length, (⟨pn, cn9, q0.B.l ++ [i]⟩ : IL), q0.A⟩ := ⟨by have := hq0.st.two (i := i) (by rw [codeOf_len]; omega) (by rw [codeOf_gw]; exact hbt); rwa [codeOf_gw] at this, (hr.at (k := i) (by omega)).cut_bv hle9, by simp only [List.length_drop]; omega, by simp only [List.length_drop]; omega, by simp, List.mem_cons_of_mem _ hq0.inA, by simp only [List.length_append, List.length_cons, List.length_nil]; omega, by simp only; omega⟩
         have hPI2 := PenI.two (k := i) hPI hrS (by rw [codeOf_len]; omega) (by rw [codeOf_gw]; exact hbn)
         rw [codeOf_gw] at hPI2
         rw [show q0.B.l.length + 1 = (q0.B.l ++ [i]).length from by simp] at hM
         refine ⟨(i + 1, F2 ++ [⟨cutAt (gW C i).p (gW C i).c q0.r.length, (gW C i).c - q0.r.length, (gW C i).l.drop q0.r.length, (⟨pn, cn9, q0.B.l ++ [i]⟩ : IL), q0.A⟩], J9, k9, p9, c9, (⟨pn, cn9, q0.B.l ++ [i]⟩ : IL) :: T2), (Sub.cons' rfl (by congr 1; simp only [List.length_cons, List.length_append, List.length_nil]; omega) (Sub.cons rfl (Sub.nil _))), (by repeat (first | exact Sub.nil _ | refine Sub.cons rfl ?_)), ⟨⟨by simp only; omega, by simp only [rs_add]; exact hPI2, (hQ2.mono (fun x h => List.mem_cons_of_mem _ h) (Nat.le_refl _)).add hq1, hq0.mono (fun x h => List.mem_cons_of_mem _ h) (Nat.le_refl _), hJ9, hmp, by simp only; omega, (by simp only [List.length_cons, List.length_append, List.length_nil]; omega)⟩, ?_, hB⟩, by simp only; omega⟩
         exact Mz.castQ hM (by simp only [List.length_cons, List.length_append, List.length_nil]; omega) (by rw [← List.cons_append, qcs_app, qcs_one]; simp only [qc, List.length_drop, List.length_append, List.length_cons, List.length_nil])
        ·
         refine W.skip ?_
         refine inBlk_normal ?_
         refine inBlk_normal ?_
         refine thenP_normal ?_
         refine W.reg ?_
         first | refine LS.vv rfl rfl (by decide) (Val.addN (j := 1) rfl rfl (by omega)) ?_ | refine LS.vv rfl rfl (by decide) (Val.add64 rfl rfl (by omega)) ?_
         refine LS.vv rfl rfl (by decide) (Val.move rfl) ?_
         refine LS.nil ?_
         refine thenP_normal ?_
         replace hM := hM.er0
         have hbn := begins_false.1 (by assumption : begins (gW C i).l q0.r = false)
         have hbn2 := begins_false.1 (by assumption : begins q0.r (gW C i).l = false)
         have hPI2 := PenI.no (k := i) hPI hrS (by rw [codeOf_gw]; exact hbn) (by rw [codeOf_gw]; exact hbn2)
         refine ⟨(i + 1, F2, J2, k2, pq2, cq2, T2), (Sub.cons rfl (Sub.cons rfl (Sub.nil _))), (by repeat (first | exact Sub.nil _ | refine Sub.cons rfl ?_)), ⟨⟨by simp only; omega, hPI2, hQ2, hq0, hJ2, hmp, hkk, by simp only; omega⟩, hM, hB⟩, by simp only; omega⟩
      ·
       refine W.exit ?_
       refine thenP_exit ?_
       refine thenP_exit ?_
       refine inBlk_exit ?_
       refine inBlk_normal ?_
       refine thenP_normal ?_
       refine W.reg ?_
       refine LS.vv rfl rfl (by decide) (Val.move rfl) ?_
       refine LS.vv rfl rfl (by decide) (Val.sliceFromZ (l := 1) Try.underlying58 elem60 rfl rfl (by omega) (by omega)) ?_
       refine LS.vv rfl rfl (by decide) (Val.assign rfl) ?_
       refine LS.nil ?_
       refine thenP_normal ?_
       replace hM := hM.er1
       first
         | (have hPen2 := Pen.skip (C := codeOf C) (r := q0.r) (Q := rs R) hPen hyS
            refine ⟨(R, J ++ qc q0, k + 1, pq, cq, cutZ (cutZ pq cq k 3) (cq - k) 1 3, T, cn1 cn q0.r, S, P + 1), (Sub.cons' rfl (by simp only; congr 1 <;> omega) (Sub.nil _)), (by repeat (first | exact Sub.nil _ | refine Sub.cons rfl ?_)), ⟨⟨hPen2, (fun x hx => (hQ x (List.mem_cons_of_mem _ hx)).mono (fun _ h => h) (by simp only; omega)), by rw [List.length_append, hJ]; simp only [qc, List.length_cons, List.length_nil]; omega, hmp, cn1_in hSc hyS, cn1_le hcn, fun hne => by have h9 : 0 < R.length := List.length_pos_iff.2 hne; rw [hgq]; exact cut_one (by omega), by simp only; omega, by (try simp only [List.length_append, List.length_singleton]); omega⟩, Mz.castQ hM (by simp only; omega) (by simp only [qcs_cons, List.append_assoc]), hB⟩, by (try simp only [List.length_append, List.length_singleton]); omega⟩
            done)
         | (have hi9 : i = C.length := by omega
            rw [hi9, ← codeOf_len] at hPI
            have hPen2 := PenI.all hPI
            refine ⟨(F2, J2 ++ qc q0, k2 + 1, pq2, cq2, cutZ (cutZ pq2 cq2 k2 3) (cq2 - k2) 1 3, T2, cn1 cn q0.r, (S ++ [q0.r]), P + 1), (Sub.cons' rfl (by simp only; congr 1 <;> omega) (Sub.nil _)), (by repeat (first | exact Sub.nil _ | refine Sub.cons rfl ?_)), ⟨⟨hPen2, hQ2, by rw [List.length_append, hJ2]; simp only [qc, List.length_cons, List.length_nil]; omega, hmp, cn1_new hSc, cn1_le hcn, fun hne => by have h9 : 0 < F2.length := List.length_pos_iff.2 hne; rw [hgq2]; exact cut_one (by omega), by simp only; omega, by (try simp only [List.length_append, List.length_singleton]); omega⟩, Mz.castQ hM (by simp only; omega) (by simp only [qcs_cons, List.append_assoc]), hB⟩, by (try simp only [List.length_append, List.length_singleton]); omega⟩
            done)
   ·
    refine W.exit ?_
    refine thenP_exit ?_
    refine thenP_exit ?_
    refine inBlk_exit ?_
    refine thenP_normal ?_
    refine W.seqR ?_
    refine LS.vv rfl rfl (by decide) (Val.assign rfl) ?_
    refine LS.vv rfl rfl (by decide) (Val.assign rfl) ?_
    refine LS.nil ?_
    refine W.ret ?_
    refine ret2 (by first | exact .inl rfl | exact .inr rfl) rfl rfl ?_
    first
      | (exact ⟨_, none, _, 0, [i], [], rfl, hM.o0.rd, Rd.nil _ _, .inr ⟨by simp, by simp, bare_not (C := codeOf C) (i := i) (by rw [codeOf_len]; exact hi) (by rw [codeOf_gw]; exact List.length_eq_zero_iff.1 hi0)⟩, by simp, by simp, hB⟩; done)
      | (have hr9 : q0.r = [] := List.length_eq_zero_iff.1 (by omega)
         have hnf := hq0.st
         rw [hr9] at hnf
         obtain ⟨hne, hnu⟩ := hnf.not
         obtain ⟨x, y, a9, b9, h1, h2, _⟩ := hnf.hd
         have hqlA := hq0.lA
         have hqlB := hq0.lB
         exact ⟨q0.A.p, q0.B.p, q0.A.c, q0.B.c, q0.A.l, q0.B.l, rfl, tpI_rd hM hq0.inA (fun o h => by simp [h]), tpI_rd hM hq0.inB (fun o h => by simp [h]), .inr ⟨by rw [h1]; simp, hne, hnu⟩, by omega, by omega, hB⟩)
      | (have hF : F = [] := List.length_eq_zero_iff.1 (by omega)
         subst hF
         exact ⟨none, none, 0, 0, [], [], rfl, Rd.nil _ _, Rd.nil _ _, .inl ⟨rfl, rfl, Pen.ud hPen hnb⟩, by simp, by simp, hB⟩)

end Go.Proofs.Ytbfcmfjdjldepaa
