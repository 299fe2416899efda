/-
  The lengths of package huff.
-/
import Derived.Test.YtohflgcbpmoinaaHuffS
import Derived.Test.YtohflgcbpmoinaaLibI
namespace Go.Proofs.Ytohflgcbpmoinaa
open Go Go.RowKit V
set_option linter.unusedVariables false
set_option linter.unusedSimpArgs false

theorem nv_iv (l : List Nat) : nv l = iv (l.map fun x : Nat => (x : Int)) := by simp [nv, iv]

theorem lens_any (ws : List Nat) (p : Option Addr) (c n : Nat) (w0 : World) (hr : Rd w0 p (nv ws)) (hn : ws.length = n) (hn8 : n ≤ 8) (hw : ∀ x ∈ ws, x ≤ 1048576) :
    CallsV Try.prog 28 #[.slice p n c] w0 (fun v w => ∃ (p2 : Option Addr) (c2 : Nat) (l : List Nat), v = .slice p2 n c2 ∧ Own w w0.heap.size 3 p2 n c2 (nv l) ∧ Opt ws l ∧ Below w0.heap.size w0 w) := by
  refine enter1 Try.func28 rfl Try.ntmps28 (by simp) rfl ?_
  have hB := Below.refl w0.heap.size w0
  simp only [argLoc]
  have hM := Mz.nil w0 w0.heap.size
  subst hn
  refine W.seqR ?_
  refine LS.vv rfl rfl (by decide) (Val.assign rfl) ?_
  refine LS.nil ?_
  refine W.seqR ?_
  refine LS.vv rfl rfl (by decide) (Val.move rfl) ?_
  refine LS.vv rfl rfl (by decide) (Val.len Try.underlying22 rfl) ?_
  refine LS.m rfl (Step.makeZ rfl rfl (by decide) Try.underlying23 elem3 rfl rfl (by omega) (by omega) (made_one rfl _) ?_)
  rintro w1 hO1 hg1 hbl1
  replace hM := hM.add hB.size hbl1 hO1
  try simp only [nv_app1, nv_app, nv_set, nv_rep, nv_one, nv_cons, nv_take, nv_drop, List.nil_append] at hM
  replace hB := hB.trans (hbl1.mono hB.size)
  skip
  refine LS.vv rfl rfl (by decide) (Val.assign rfl) ?_
  refine LS.nil ?_
  refine W.seqR ?_
  refine LS.vv rfl rfl (by decide) (Val.assign rfl) ?_
  refine LS.nil ?_
  refine W.seq ?_
  refine W.seqR ?_
  refine LS.vv rfl rfl (by decide) (Val.move rfl) ?_
  refine LS.vv rfl rfl (by decide) (Val.len Try.underlying22 rfl) ?_
  refine LS.vv rfl rfl (by decide) (Val.cast (v := .int .i64 ((0 : Nat) : Int)) (Val.move rfl) rfl) ?_
  refine LS.nil ?_
  refine W.block ?_
  replace hM := hM.addNil 56 2
  refine W.loop (α := Nat × List TV × Option Addr × Nat) (fun g => [(4, .slice g.2.2.1 g.2.1.length g.2.2.2), (15, .int .i64 (g.1 : Int))]) [(3, _), (13, _), (14, _)] (fun g w => (g.1 ≤ ws.length ∧ trs g.2.1 = leaves ws g.1) ∧ Mz w w0.heap.size (⟨56, 2, g.2.2.1, g.2.1.length, g.2.2.2, tcs g.2.1⟩ :: ⟨3, 1, some ⟨w0.heap.size, 0, none⟩, ws.length, ws.length, nv (List.replicate ws.length 0)⟩ :: (tzI g.2.1)) ∧ Below w0.heap.size w0 w) (fun g => ws.length - g.1) ((0, [], none, 0)) (Sub.cons rfl (Sub.cons rfl (Sub.nil _))) (Sub.cons rfl (Sub.cons rfl (Sub.cons rfl (Sub.nil _)))) ?_ ?_
  · exact ⟨⟨Nat.zero_le _, rfl⟩, hM, hB⟩
  rintro ⟨k, F, pt, ct⟩ w2 ⟨⟨hk, hF⟩, hM, hB⟩
  try simp only at hM
  simp only [List.cons_append, List.nil_append]
  simp only at hk hF
  have hFk : F.length = k := by rw [← trs_len, hF, leaves_len]
  refine W.seqR ?_
  refine LS.vv rfl rfl (by decide) (Val.lss rfl rfl) ?_
  refine LS.nil ?_
  refine W.seq ?_
  first | refine W.condD rfl (fun hc1 => ?_) (fun hc1 => ?_) | refine W.cond rfl (fun hc1 => ?_) (fun hc1 => ?_)
  ·
    refine W.skip ?_
    refine thenP_normal ?_
    refine W.seq ?_
    refine W.block ?_
    refine W.seqR ?_
    refine LS.vv rfl rfl (by decide) (Val.move rfl) ?_
    refine LS.vv rfl rfl (by decide) (Val.index1 Try.underlying22 elem2 rfl rfl (by omega) ((hr.below hB)) (nv_lt (by omega))) ?_
    refine LS.m rfl (Step.load rfl rfl (by decide) flat2 rfl ((hr.below hB)) (nv_at (by omega)) ?_)
    refine LS.vv rfl rfl (by decide) (Val.assign rfl) ?_
    refine LS.vv rfl rfl (by decide) (Val.assign rfl) ?_
    refine LS.nil ?_
    refine W.reg ?_
    refine LS.vv rfl rfl (by decide) (Val.move rfl) ?_
    refine LS.vv rfl rfl (by decide) (Val.move rfl) ?_
    refine LS.vv rfl rfl (by decide) (Val.move rfl) ?_
    refine LS.m rfl (Step.litZ rfl rfl (by decide) Try.underlying23 elem3 rfl (by decide) rfl rfl (by decide) ?_)
    rintro w3 hO3 hg3 hbl3 hsz3
    replace hM := hM.add hB.size hbl3 hO3
    try simp only [nv_app1, nv_app, nv_set, nv_rep, nv_one, nv_cons, nv_take, nv_drop, List.nil_append] at hM
    try simp only [List.length_cons, List.length_nil, Nat.zero_add, Nat.reduceAdd, Value.cells, List.toList_toArray, List.append_nil, List.set_cons_zero, List.set_cons_succ] at hM
    replace hB := hB.trans (hbl3.mono hB.size)
    generalize w2.heap.size = gg3 at *
    refine LS.vv rfl rfl (by decide) (Val.build str56 elem56 rfl rfl rfl) ?_
    refine LS.m rfl (Step.litZ rfl rfl (by decide) Try.underlying54 elem56 rfl (by decide) rfl rfl (by decide) ?_)
    rintro w4 hO4 hg4 hbl4 hsz4
    replace hM := hM.add hB.size hbl4 hO4
    try simp only [List.length_cons, List.length_nil, Nat.zero_add, Nat.reduceAdd, Value.cells, List.toList_toArray, List.append_nil, List.set_cons_zero, List.set_cons_succ] at hM
    replace hB := hB.trans (hbl4.mono hB.size)
    generalize w3.heap.size = gg4 at *
    refine LS.m rfl (Step.appendZ (B := w0.heap.size) rfl rfl (by decide) Try.underlying54 elem56 rfl (by decide) rfl rfl (hM.o2) (hM.o0.rd) (by first | rfl | (simp; done) | (simp; omega)) (by first | exact one_map _ (fun _ => rfl) _ | simp [Value.oneCell']) (by omega) (by omega) hB.size ?_)
    rintro p5 c5 w5 hO5 hg5 hbl5 hbk5
    replace hM := hM.s2 (e := _) hg5 hO5 hbk5
    replace hM := hM.tail
    replace hB := hB.trans hbl5
    refine LS.vv rfl rfl (by decide) (Val.assign rfl) ?_
    refine LS.nil ?_
    refine inBlk_normal ?_
    refine thenP_normal ?_
    refine W.reg ?_
    first | refine LS.vv rfl rfl (by decide) (Val.addN (j := 1) rfl rfl (by omega)) ?_ | refine LS.vv rfl rfl (by decide) (Val.add64 rfl rfl (by omega)) ?_
    refine LS.vv rfl rfl (by decide) (Val.move rfl) ?_
    refine LS.nil ?_
    refine thenP_normal ?_
    have hMr := rowIn hM
    refine ⟨(k + 1, F ++ [⟨gn ws k, some ⟨gg3, 0, none⟩, 1, [k]⟩], p5, c5), ?_, ?_, ⟨⟨by simp only; omega, by simp only [trs_app, hF, leaves_succ]⟩, ?_, hB⟩, by simp only; omega⟩
    · exact Sub.cons' rfl (by simp only [List.length_append, List.length_cons, List.length_nil]) (Sub.cons rfl (Sub.nil _))
    · repeat (first | exact Sub.nil _ | refine Sub.cons rfl ?_)
    · simp only [tzI_app, tcs_app, List.length_append, List.length_cons, List.length_nil]
      exact hMr
  ·
    refine W.exit ?_
    refine thenP_exit ?_
    refine thenP_exit ?_
    refine inBlk_exit ?_
    refine thenP_normal ?_
    refine W.seq ?_
    refine W.block ?_
    obtain rfl : k = ws.length := by omega
    have hH0 : HI ws (trs F) (List.replicate ws.length 0) := by rw [hF]; exact HI.start ws
    refine W.loop (α := List TV × List Value × Nat × Option Addr × Nat × List Nat) (fun g => [(4, .slice (cutZ g.2.2.2.1 g.2.2.2.2.1 g.2.2.1 2) g.1.length (g.2.2.2.2.1 - g.2.2.1))]) [(3, _)] (fun g w => (HI ws (trs g.1) g.2.2.2.2.2 ∧ g.2.1.length = g.2.2.1 * 2 ∧ g.1.length ≤ ws.length ∧ g.2.2.1 + 2 * g.1.length ≤ 16) ∧ Mz w w0.heap.size (⟨56, 2, g.2.2.2.1, g.2.2.1 + g.1.length, g.2.2.2.2.1, g.2.1 ++ tcs g.1⟩ :: ⟨3, 1, some ⟨w0.heap.size, 0, none⟩, ws.length, ws.length, nv g.2.2.2.2.2⟩ :: (tzI g.1)) ∧ Below w0.heap.size w0 w) (fun g => g.1.length) ((F, [], 0, pt, ct, List.replicate ws.length 0)) (Sub.cons' rfl (by simp only [cutZ_zero, Nat.sub_zero]) (Sub.nil _)) (Sub.cons rfl (Sub.nil _)) ?_ ?_
    · refine ⟨⟨hH0, rfl, by simp only; omega, by simp only; omega⟩, ?_, hB⟩; simp only [Nat.zero_add, List.nil_append]; exact hM
    rintro ⟨F, J, k, pt, ct, lL⟩ w6 ⟨⟨hH, hJ, hFn, hkF⟩, hM, hB⟩
    try simp only at hM
    simp only [List.cons_append, List.nil_append]
    simp only at hH hJ hFn hkF
    have hcap := hM.o0.le_cap
    refine W.seq ?_
    refine W.seqR ?_
    refine LS.vv rfl rfl (by decide) (Val.move rfl) ?_
    refine LS.vv rfl rfl (by decide) (Val.len Try.underlying54 rfl) ?_
    refine LS.vv rfl rfl (by decide) (Val.gtr rfl rfl) ?_
    refine LS.nil ?_
    first | refine W.condD rfl (fun hc2 => ?_) (fun hc2 => ?_) | refine W.cond rfl (fun hc2 => ?_) (fun hc2 => ?_)
    ·
      refine W.skip ?_
      refine thenP_normal ?_
      refine W.block ?_
      refine W.seqR ?_
      refine LS.vv rfl rfl (by decide) (Val.move rfl) ?_
      refine LS.m rfl (Step.call body35 rfl rfl (by decide) rfl (CallsV.mono (sortT F J pt F.length k ct w0.heap.size _ _ hM hB.size rfl (by omega) hJ) ?_))
      rintro _ w7 ⟨rfl, hM7, hb7⟩
      obtain ⟨t0, t1, R, hF2⟩ := two_of (F := F) (by omega)
      have hpm := isort_perm ltV F
      rw [hF2] at hpm
      rw [hF2] at hM7
      replace hM := tailPerm hM7 hpm.symm
      have hFl : F.length = R.length + 2 := by rw [← hpm.length_eq]; rfl
      have hH2 := hH.perm (hpm.symm.map trOf)
      obtain ⟨hs0, hs1⟩ := sorted2 hF2
      obtain ⟨hnd, hin, hsl⟩ := hH2.two hn8
      have hw0 := hH2.wle hn8 hw (t := trOf t0) (by simp)
      have hw1 := hH2.wle hn8 hw (t := trOf t1) (by simp)
      simp only [trOf] at hw0 hw1 hnd hin hsl
      have hsl2 := hsl
      rw [List.length_append] at hsl2
      replace hB := hB.trans hb7
      refine LS.nil ?_
      refine W.seqT (S := fun w => Below w0.heap.size w0 w ∧ Mz w w0.heap.size _) (.val 0 (.val 1 (.val 2 (.val 3 (.val 4 (.val 5 (.val 6 (.val 7 (.val 8 (.val 9 (.val 10 (.val 11 (.val 12 (.val 13 (.val 14 (.val 15 (.val 16 (.two (.mem 17 (.two (.mem 18 (.val 19 (.mem 20 (.mem 21 (.done))))) (.mem 20 (.mem 18 (.val 19 (.mem 21 (.done))))))) (.mem 20 (.mem 17 (.mem 18 (.val 19 (.mem 21 (.done)))))))))))))))))))))))) mixed (by kernel_rfl) ⟨hB.drew, hM.drew⟩ ?_
      replace hB := hB.drew
      replace hM := hM.drew
      refine DT.vv rfl rfl rfl (by decide) (Val.move rfl) ?_
      refine DT.vv rfl rfl rfl (by decide) (Val.indexAddr (j := 0) Try.underlying54 elem56 rfl rfl (by omega) ((cutF hM.o0 hJ)) (by rw [tcs_len]; simp only [List.length_cons]; omega)) ?_
      refine DT.vv rfl rfl rfl (by decide) (Val.fieldAddr fld56_0 rfl ((cutF hM.o0 hJ)) (by rw [tcs_len]; simp only [List.length_cons]; omega)) ?_
      refine DT.vv rfl rfl rfl (by decide) (Val.load flat2 rfl (fun _ h => (cutF h.2.o0 hJ)) (rfl)) ?_
      refine DT.vv rfl rfl rfl (by decide) (Val.move rfl) ?_
      refine DT.vv rfl rfl rfl (by decide) (Val.indexAddr (j := 1) Try.underlying54 elem56 rfl rfl (by omega) ((cutF hM.o0 hJ)) (by rw [tcs_len]; simp only [List.length_cons]; omega)) ?_
      refine DT.vv rfl rfl rfl (by decide) (Val.fieldAddr fld56_0 rfl ((cutF hM.o0 hJ)) (by rw [tcs_len]; simp only [List.length_cons]; omega)) ?_
      refine DT.vv rfl rfl rfl (by decide) (Val.load flat2 rfl (fun _ h => (cutF h.2.o0 hJ)) (rfl)) ?_
      first | refine DT.vv rfl rfl rfl (by decide) (Val.addN rfl rfl (by omega)) ?_ | refine DT.vv rfl rfl rfl (by decide) (Val.add64 rfl rfl (by omega)) ?_
      refine DT.vv rfl rfl rfl (by decide) (Val.move rfl) ?_
      refine DT.vv rfl rfl rfl (by decide) (Val.indexAddr (j := 0) Try.underlying54 elem56 rfl rfl (by omega) ((cutF hM.o0 hJ)) (by rw [tcs_len]; simp only [List.length_cons]; omega)) ?_
      refine DT.vv rfl rfl rfl (by decide) (Val.fieldAddr fld56_1 rfl ((cutF hM.o0 hJ)) (by rw [tcs_len]; simp only [List.length_cons]; omega)) ?_
      refine DT.vv rfl rfl rfl (by decide) (Val.load flat23 rfl (fun _ h => (cutF h.2.o0 hJ)) (rfl)) ?_
      refine DT.vv rfl rfl rfl (by decide) (Val.move rfl) ?_
      refine DT.vv rfl rfl rfl (by decide) (Val.indexAddr (j := 1) Try.underlying54 elem56 rfl rfl (by omega) ((cutF hM.o0 hJ)) (by rw [tcs_len]; simp only [List.length_cons]; omega)) ?_
      refine DT.vv rfl rfl rfl (by decide) (Val.fieldAddr fld56_1 rfl ((cutF hM.o0 hJ)) (by rw [tcs_len]; simp only [List.length_cons]; omega)) ?_
      refine DT.vv rfl rfl rfl (by decide) (Val.load flat23 rfl (fun _ h => (cutF h.2.o0 hJ)) (rfl)) ?_
      refine DT.two ?_ ?_
      ·
        refine DT.m rfl rfl (Step.litZ rfl rfl (by decide) Try.underlying63 elem23 rfl (by decide) rfl rfl (by decide) ?_)
        rintro w8 hO8 hg8 hbl8 hsz8
        replace hM := hM.add hB.size hbl8 hO8
        try simp only [List.length_cons, List.length_nil, Nat.zero_add, Nat.reduceAdd, Value.cells, List.toList_toArray, List.append_nil, List.set_cons_zero, List.set_cons_succ] at hM
        replace hB := hB.trans (hbl8.mono hB.size)
        generalize w7.drew.heap.size = gg8 at *
        refine ⟨⟨hB, hM.er0⟩, ?_⟩
        refine DT.two ?_ ?_
        ·
          refine DT.m rfl rfl (Step.call body38 rfl rfl (by decide) rfl (CallsV.mono (concat2_i64 (t0.s.map fun x : Nat => (x : Int)) (t1.s.map fun x : Nat => (x : Int)) t0.p t1.p _ t0.c t1.c _ _ _ _ hM.o0.rd (by rw [← nv_iv]; first | exact row_rd (S := [_, _, _]) (T := []) (F := (t0 :: t1 :: R)) (k := 0) (by rw [List.append_nil]; exact hM) (by simp) | exact row_rd (S := [_, _, _, _]) (T := []) (F := (t0 :: t1 :: R)) (k := 0) (by rw [List.append_nil]; exact hM) (by simp) | exact row_rd (S := [_, _, _, _, _]) (T := []) (F := (t0 :: t1 :: R)) (k := 0) (by rw [List.append_nil]; exact hM) (by simp)) (by rw [← nv_iv]; first | exact row_rd (S := [_, _, _]) (T := []) (F := (t0 :: t1 :: R)) (k := 1) (by rw [List.append_nil]; exact hM) (by simp) | exact row_rd (S := [_, _, _, _]) (T := []) (F := (t0 :: t1 :: R)) (k := 1) (by rw [List.append_nil]; exact hM) (by simp) | exact row_rd (S := [_, _, _, _, _]) (T := []) (F := (t0 :: t1 :: R)) (k := 1) (by rw [List.append_nil]; exact hM) (by simp)) (by rw [List.length_map]) (by rw [List.length_map]) (by omega)) ?_))
          rintro _ w9 ⟨pss, css, rfl, hOc, hb9⟩
          replace hM := hM.add hB.size hb9 hOc.toZ
          replace hB := hB.trans (hb9.mono hB.size)
          rw [← List.map_append, ← nv_iv] at hM
          refine ⟨⟨hB, hM.er1.er0⟩, ?_⟩
          refine DT.vv rfl rfl rfl (by decide) (Val.build str56 elem56 rfl rfl rfl) ?_
          refine DT.m rfl rfl (Step.allocZ rfl rfl (by decide) elem56 rfl (by decide) ?_)
          rintro w10 hO10 hg10 hbl10 hsz10
          replace hM := hM.add hB.size hbl10 hO10
          try simp only [List.length_cons, List.length_nil, Nat.zero_add, Nat.reduceAdd, Value.cells, List.toList_toArray, List.append_nil, List.set_cons_zero, List.set_cons_succ] at hM
          replace hB := hB.trans (hbl10.mono hB.size)
          generalize w9.heap.size = gg10 at *
          refine ⟨⟨hB, hM.er2.er1.er0⟩, ?_⟩
          refine DT.m rfl rfl (Step.storeAgg0 (B := w0.heap.size) rfl rfl agg56 rfl rfl rfl (by decide) (by first | exact one_map _ (fun _ => rfl) _ | simp [Value.oneCell']) (hM.o0) rfl hB.size ?_)
          rintro w11 hO11 hg11 hbl11 hsz11
          replace hM := hM.s0 (e := _) hg11 hO11 inl_block
          try simp only [List.set_cons_zero, List.set_cons_succ] at hM
          replace hB := hB.trans hbl11
          refine ⟨⟨hB, hM.er2.er1.er0⟩, ?_⟩
          refine DT.nil ?_
          refine W.seq ?_
          refine W.seqR ?_
          refine LS.vv rfl rfl (by decide) (Val.fieldAddr0 fld56_1 rfl) ?_
          refine LS.m rfl (Step.load rfl rfl (by decide) flat23 rfl (hM.o0.rd) (rfl) ?_)
          refine LS.vv rfl rfl (by decide) (Val.len Try.underlying23 rfl) ?_
          refine LS.vv rfl rfl (by decide) (Val.cast (v := .int .i64 ((0 : Nat) : Int)) (Val.move rfl) rfl) ?_
          refine LS.nil ?_
          refine W.block ?_
          replace hM := hM.er2.sw2.sw1.sw0
          rw [show nv lL = nv (incL lL ((t0.s ++ t1.s).take 0)) from rfl] at hM
          refine W.loop (α := Nat) (fun qq => [(56, .int .i64 (qq : Int))]) [(3, _), (4, _), (7, _), (54, _), (55, _)] (fun qq w => (qq ≤ t0.s.length + t1.s.length) ∧ Mz w w0.heap.size (⟨3, 1, some ⟨w0.heap.size, 0, none⟩, ws.length, ws.length, nv (incL lL ((t0.s ++ t1.s).take qq))⟩ :: ⟨56, 2, some ⟨gg10, 0, none⟩, 1, 1, [.int .i64 ((t0.w + t1.w : Nat) : Int), .slice pss (t0.s.length + t1.s.length) css]⟩ :: ⟨3, 1, pss, t0.s.length + t1.s.length, css, nv (t0.s ++ t1.s)⟩ :: ⟨56, 2, pt, k + F.length, ct, J ++ tcs (t0 :: t1 :: R)⟩ :: (tzI (t0 :: t1 :: R))) ∧ Below w0.heap.size w0 w) (fun qq => t0.s.length + t1.s.length - qq) (0) (Sub.cons rfl (Sub.nil _)) (Sub.cons rfl (Sub.cons rfl (Sub.cons rfl (Sub.cons rfl (Sub.cons rfl (Sub.nil _)))))) ?_ ?_
          · exact ⟨Nat.zero_le _, hM, hB⟩
          rintro qq w12 ⟨hqq, hM, hB⟩
          try simp only at hM
          simp only [List.cons_append, List.nil_append]
          refine W.seqR ?_
          refine LS.vv rfl rfl (by decide) (Val.lss rfl rfl) ?_
          refine LS.nil ?_
          refine W.seq ?_
          first | refine W.condD rfl (fun hc3 => ?_) (fun hc3 => ?_) | refine W.cond rfl (fun hc3 => ?_) (fun hc3 => ?_)
          ·
            refine W.skip ?_
            refine thenP_normal ?_
            refine W.seq ?_
            refine W.block ?_
            refine W.seqR ?_
            have hqs : qq < (t0.s ++ t1.s).length := by rw [List.length_append]; omega
            have hqm : gn (t0.s ++ t1.s) qq ∈ t0.s ++ t1.s := by rw [gn_lt hqs]; exact List.getElem_mem hqs
            have hqi := hin _ hqm
            have hqb := incB hnd (fun i hi => by rw [hH.len]; exact hin i hi) qq _ hqm
            have hil := incL_len lL ((t0.s ++ t1.s).take qq)
            have hll := hH.len
            have hti := take_incL lL (t0.s ++ t1.s) hqs
            refine LS.vv rfl rfl (by decide) (Val.index1 Try.underlying23 elem3 rfl rfl (by omega) (hM.o2.rd) (nv_lt (by omega))) ?_
            refine LS.m rfl (Step.load rfl rfl (by decide) flat3 rfl (hM.o2.rd) (nv_at (by omega)) ?_)
            refine LS.vv rfl rfl (by decide) (Val.assign rfl) ?_
            refine LS.nil ?_
            refine W.reg ?_
            refine LS.vv rfl rfl (by decide) (Val.move rfl) ?_
            refine LS.vv rfl rfl (by decide) (Val.move rfl) ?_
            refine LS.vv rfl rfl (by decide) (Val.index1 Try.underlying23 elem3 rfl rfl (by omega) (hM.o0.rd) (nv_lt (by omega))) ?_
            refine LS.m rfl (Step.load rfl rfl (by decide) flat3 rfl (hM.o0.rd) (nv_at (by omega)) ?_)
            first | refine LS.vv rfl rfl (by decide) (Val.addN (j := 1) rfl rfl (by omega)) ?_ | refine LS.vv rfl rfl (by decide) (Val.add64 rfl rfl (by omega)) ?_
            refine LS.vv rfl rfl (by decide) (Val.index1 Try.underlying23 elem3 rfl rfl (by omega) (hM.o0.rd) (nv_lt (by omega))) ?_
            refine LS.m rfl (Step.storeZ (B := w0.heap.size) rfl rfl flat3 elem3 rfl rfl rfl (hM.o0) (by first | decide | (simp; done) | (simp; omega) | omega) hB.size ?_)
            rintro w13 hO13 hg13 hbl13 hsz13
            replace hM := hM.s0 (e := _) hg13 hO13 inl_block
            try simp only [nv_app1, nv_app, nv_set, nv_rep, nv_one, nv_cons, nv_take, nv_drop, List.nil_append] at hM
            try simp only [List.set_cons_zero, List.set_cons_succ] at hM
            replace hB := hB.trans hbl13
            refine LS.nil ?_
            refine inBlk_normal ?_
            refine thenP_normal ?_
            refine W.reg ?_
            first | refine LS.vv rfl rfl (by decide) (Val.addN (j := 1) rfl rfl (by omega)) ?_ | refine LS.vv rfl rfl (by decide) (Val.add64 rfl rfl (by omega)) ?_
            refine LS.vv rfl rfl (by decide) (Val.move rfl) ?_
            refine LS.nil ?_
            refine thenP_normal ?_
            rw [← hti] at hM
            refine ⟨qq + 1, ?_, ?_, ⟨by omega, hM, hB⟩, by omega⟩
            · exact (Sub.cons rfl (Sub.nil _))
            · repeat (first | exact Sub.nil _ | refine Sub.cons rfl ?_)
          ·
            refine W.exit ?_
            refine thenP_exit ?_
            refine thenP_exit ?_
            refine inBlk_exit ?_
            refine thenP_normal ?_
            refine W.regD (S := fun w => Below w0.heap.size w0 w) [(0, true), (1, true), (2, false), (3, false), (4, false), (5, true)] mixed (by kernel_rfl) hB.drew ?_
            replace hB := hB.drew
            replace hM := hM.drew
            refine DX.vv rfl rfl rfl (by decide) (Val.move rfl) ?_
            refine DX.vv rfl rfl rfl (by decide) (Val.cast (v := .slice (cutZ (cutZ pt ct k 2) (ct - k) 2 2) (k + F.length - (k + 2)) (ct - (k + 2))) (Val.sliceFromZ (l := 2) Try.underlying54 elem56 rfl rfl (by omega) (by omega)) (by congr 1 <;> omega)) ?_
            refine DX.m rfl rfl (Step.loadAgg0 rfl rfl (by decide) agg56 rfl (hM.o1.rd) rfl (by decide) ?_)
            refine ⟨hB, ?_⟩
            refine DX.m rfl rfl (Step.litZ rfl rfl (by decide) Try.underlying54 elem56 rfl (by decide) rfl rfl (by decide) ?_)
            rintro w14 hO14 hg14 hbl14 hsz14
            replace hM := hM.add hB.size hbl14 hO14
            try simp only [List.length_cons, List.length_nil, Nat.zero_add, Nat.reduceAdd, Value.cells, List.toList_toArray, List.append_nil, List.set_cons_zero, List.set_cons_succ] at hM
            replace hB := hB.trans (hbl14.mono hB.size)
            generalize w12.drew.heap.size = gg14 at *
            refine ⟨hB, ?_⟩
            have hcap2 := hM.o4.le_cap
            obtain ⟨gtr, hgtr⟩ := hM.o4.head (by omega)
            refine DX.m rfl rfl (Step.appendCutP (B := w0.heap.size) (p := pt) (m := k + F.length) (c := ct) (k := k + 2) rfl rfl (by decide) Try.underlying54 elem56 rfl (by decide) rfl (by rw [hgtr]; exact cut_cut (by omega) (by omega)) rfl (by omega) (by decide) (hM.o4) (hM.o0.rd) rfl (by simp [Value.oneCell']) (by omega) (by omega) hB.size ?_)
            rintro p2 c2 k2 J2 w71 hk2 hJ2 hO2 hg2 hbl2 hbk2
            rw [drop_two hJ] at hO2
            replace hM := hM.s4 (e := _) hg2 hO2 hbk2
            replace hM := treesOut hM
            replace hB := hB.trans hbl2
            refine ⟨hB, ?_⟩
            refine DX.vv rfl rfl rfl (by decide) (Val.assign rfl) ?_
            refine DX.nil ?_
            refine inBlk_normal ?_
            refine thenP_normal ?_
            have hst := hH2.step (t0 := trOf t0) (t1 := trOf t1) (R := trs R) hn8 hs0 hs1
            simp only [trOf] at hst
            obtain rfl : qq = (t0.s ++ t1.s).length := by rw [List.length_append]; omega
            rw [List.take_length] at hM
            refine ⟨(R ++ [⟨t0.w + t1.w, pss, css, t0.s ++ t1.s⟩], J2, k2, p2, c2, incL lL (t0.s ++ t1.s)), ?_, ?_, ⟨⟨?_, by simp only; exact hJ2, by simp only [List.length_append, List.length_cons, List.length_nil]; omega, by simp only [List.length_append, List.length_cons, List.length_nil]; omega⟩, ?_, hB⟩, by simp only [List.length_append, List.length_cons, List.length_nil]; omega⟩
            · exact Sub.cons' rfl (by simp only [List.length_append, List.length_cons, List.length_nil]; congr 2; omega) (Sub.nil _)
            · repeat (first | exact Sub.nil _ | refine Sub.cons rfl ?_)
            · simp only [trs_app]; exact hst
            · simp only [tzI_app, tcs_app, List.length_append, List.length_cons, List.length_nil]
              rw [show k2 + (R.length + (0 + 1)) = k2 + (k + F.length - (k + 2) + 1) by omega]
              rw [← @List.length_append _ t0.s t1.s] at hM
              rw [← @List.length_append _ t0.s t1.s]
              exact hM
        ·
          refine DT.m rfl rfl (Step.allocZ rfl rfl (by decide) elem56 rfl (by decide) ?_)
          rintro w15 hO15 hg15 hbl15 hsz15
          replace hM := hM.add hB.size hbl15 hO15
          try simp only [List.length_cons, List.length_nil, Nat.zero_add, Nat.reduceAdd, Value.cells, List.toList_toArray, List.append_nil, List.set_cons_zero, List.set_cons_succ] at hM
          replace hB := hB.trans (hbl15.mono hB.size)
          generalize w8.heap.size = gg15 at *
          refine ⟨⟨hB, hM.er1.er0⟩, ?_⟩
          refine DT.m rfl rfl (Step.call body38 rfl rfl (by decide) rfl (CallsV.mono (concat2_i64 (t0.s.map fun x : Nat => (x : Int)) (t1.s.map fun x : Nat => (x : Int)) t0.p t1.p _ t0.c t1.c _ _ _ _ hM.o1.rd (by rw [← nv_iv]; first | exact row_rd (S := [_, _, _]) (T := []) (F := (t0 :: t1 :: R)) (k := 0) (by rw [List.append_nil]; exact hM) (by simp) | exact row_rd (S := [_, _, _, _]) (T := []) (F := (t0 :: t1 :: R)) (k := 0) (by rw [List.append_nil]; exact hM) (by simp) | exact row_rd (S := [_, _, _, _, _]) (T := []) (F := (t0 :: t1 :: R)) (k := 0) (by rw [List.append_nil]; exact hM) (by simp)) (by rw [← nv_iv]; first | exact row_rd (S := [_, _, _]) (T := []) (F := (t0 :: t1 :: R)) (k := 1) (by rw [List.append_nil]; exact hM) (by simp) | exact row_rd (S := [_, _, _, _]) (T := []) (F := (t0 :: t1 :: R)) (k := 1) (by rw [List.append_nil]; exact hM) (by simp) | exact row_rd (S := [_, _, _, _, _]) (T := []) (F := (t0 :: t1 :: R)) (k := 1) (by rw [List.append_nil]; exact hM) (by simp)) (by rw [List.length_map]) (by rw [List.length_map]) (by omega)) ?_))
          rintro _ w16 ⟨pss, css, rfl, hOc, hb16⟩
          replace hM := hM.add hB.size hb16 hOc.toZ
          replace hB := hB.trans (hb16.mono hB.size)
          rw [← List.map_append, ← nv_iv] at hM
          refine ⟨⟨hB, hM.er2.er1.er0⟩, ?_⟩
          refine DT.vv rfl rfl rfl (by decide) (Val.build str56 elem56 rfl rfl rfl) ?_
          refine DT.m rfl rfl (Step.storeAgg0 (B := w0.heap.size) rfl rfl agg56 rfl rfl rfl (by decide) (by first | exact one_map _ (fun _ => rfl) _ | simp [Value.oneCell']) (hM.o1) rfl hB.size ?_)
          rintro w17 hO17 hg17 hbl17 hsz17
          replace hM := hM.s1 (e := _) hg17 hO17 inl_block
          try simp only [List.set_cons_zero, List.set_cons_succ] at hM
          replace hB := hB.trans hbl17
          refine ⟨⟨hB, hM.er2.er1.er0⟩, ?_⟩
          refine DT.nil ?_
          refine W.seq ?_
          refine W.seqR ?_
          refine LS.vv rfl rfl (by decide) (Val.fieldAddr0 fld56_1 rfl) ?_
          refine LS.m rfl (Step.load rfl rfl (by decide) flat23 rfl (hM.o1.rd) (rfl) ?_)
          refine LS.vv rfl rfl (by decide) (Val.len Try.underlying23 rfl) ?_
          refine LS.vv rfl rfl (by decide) (Val.cast (v := .int .i64 ((0 : Nat) : Int)) (Val.move rfl) rfl) ?_
          refine LS.nil ?_
          refine W.block ?_
          replace hM := hM.er2.sw2.sw1.sw0.sw1
          rw [show nv lL = nv (incL lL ((t0.s ++ t1.s).take 0)) from rfl] at hM
          refine W.loop (α := Nat) (fun qq => [(56, .int .i64 (qq : Int))]) [(3, _), (4, _), (7, _), (54, _), (55, _)] (fun qq w => (qq ≤ t0.s.length + t1.s.length) ∧ Mz w w0.heap.size (⟨3, 1, some ⟨w0.heap.size, 0, none⟩, ws.length, ws.length, nv (incL lL ((t0.s ++ t1.s).take qq))⟩ :: ⟨56, 2, some ⟨gg15, 0, none⟩, 1, 1, [.int .i64 ((t0.w + t1.w : Nat) : Int), .slice pss (t0.s.length + t1.s.length) css]⟩ :: ⟨3, 1, pss, t0.s.length + t1.s.length, css, nv (t0.s ++ t1.s)⟩ :: ⟨56, 2, pt, k + F.length, ct, J ++ tcs (t0 :: t1 :: R)⟩ :: (tzI (t0 :: t1 :: R))) ∧ Below w0.heap.size w0 w) (fun qq => t0.s.length + t1.s.length - qq) (0) (Sub.cons rfl (Sub.nil _)) (Sub.cons rfl (Sub.cons rfl (Sub.cons rfl (Sub.cons rfl (Sub.cons rfl (Sub.nil _)))))) ?_ ?_
          · exact ⟨Nat.zero_le _, hM, hB⟩
          rintro qq w18 ⟨hqq, hM, hB⟩
          try simp only at hM
          simp only [List.cons_append, List.nil_append]
          refine W.seqR ?_
          refine LS.vv rfl rfl (by decide) (Val.lss rfl rfl) ?_
          refine LS.nil ?_
          refine W.seq ?_
          first | refine W.condD rfl (fun hc4 => ?_) (fun hc4 => ?_) | refine W.cond rfl (fun hc4 => ?_) (fun hc4 => ?_)
          ·
            refine W.skip ?_
            refine thenP_normal ?_
            refine W.seq ?_
            refine W.block ?_
            refine W.seqR ?_
            have hqs : qq < (t0.s ++ t1.s).length := by rw [List.length_append]; omega
            have hqm : gn (t0.s ++ t1.s) qq ∈ t0.s ++ t1.s := by rw [gn_lt hqs]; exact List.getElem_mem hqs
            have hqi := hin _ hqm
            have hqb := incB hnd (fun i hi => by rw [hH.len]; exact hin i hi) qq _ hqm
            have hil := incL_len lL ((t0.s ++ t1.s).take qq)
            have hll := hH.len
            have hti := take_incL lL (t0.s ++ t1.s) hqs
            refine LS.vv rfl rfl (by decide) (Val.index1 Try.underlying23 elem3 rfl rfl (by omega) (hM.o2.rd) (nv_lt (by omega))) ?_
            refine LS.m rfl (Step.load rfl rfl (by decide) flat3 rfl (hM.o2.rd) (nv_at (by omega)) ?_)
            refine LS.vv rfl rfl (by decide) (Val.assign rfl) ?_
            refine LS.nil ?_
            refine W.reg ?_
            refine LS.vv rfl rfl (by decide) (Val.move rfl) ?_
            refine LS.vv rfl rfl (by decide) (Val.move rfl) ?_
            refine LS.vv rfl rfl (by decide) (Val.index1 Try.underlying23 elem3 rfl rfl (by omega) (hM.o0.rd) (nv_lt (by omega))) ?_
            refine LS.m rfl (Step.load rfl rfl (by decide) flat3 rfl (hM.o0.rd) (nv_at (by omega)) ?_)
            first | refine LS.vv rfl rfl (by decide) (Val.addN (j := 1) rfl rfl (by omega)) ?_ | refine LS.vv rfl rfl (by decide) (Val.add64 rfl rfl (by omega)) ?_
            refine LS.vv rfl rfl (by decide) (Val.index1 Try.underlying23 elem3 rfl rfl (by omega) (hM.o0.rd) (nv_lt (by omega))) ?_
            refine LS.m rfl (Step.storeZ (B := w0.heap.size) rfl rfl flat3 elem3 rfl rfl rfl (hM.o0) (by first | decide | (simp; done) | (simp; omega) | omega) hB.size ?_)
            rintro w19 hO19 hg19 hbl19 hsz19
            replace hM := hM.s0 (e := _) hg19 hO19 inl_block
            try simp only [nv_app1, nv_app, nv_set, nv_rep, nv_one, nv_cons, nv_take, nv_drop, List.nil_append] at hM
            try simp only [List.set_cons_zero, List.set_cons_succ] at hM
            replace hB := hB.trans hbl19
            refine LS.nil ?_
            refine inBlk_normal ?_
            refine thenP_normal ?_
            refine W.reg ?_
            first | refine LS.vv rfl rfl (by decide) (Val.addN (j := 1) rfl rfl (by omega)) ?_ | refine LS.vv rfl rfl (by decide) (Val.add64 rfl rfl (by omega)) ?_
            refine LS.vv rfl rfl (by decide) (Val.move rfl) ?_
            refine LS.nil ?_
            refine thenP_normal ?_
            rw [← hti] at hM
            refine ⟨qq + 1, ?_, ?_, ⟨by omega, hM, hB⟩, by omega⟩
            · exact (Sub.cons rfl (Sub.nil _))
            · repeat (first | exact Sub.nil _ | refine Sub.cons rfl ?_)
          ·
            refine W.exit ?_
            refine thenP_exit ?_
            refine thenP_exit ?_
            refine inBlk_exit ?_
            refine thenP_normal ?_
            refine W.regD (S := fun w => Below w0.heap.size w0 w) [(0, true), (1, true), (2, false), (3, false), (4, false), (5, true)] mixed (by kernel_rfl) hB.drew ?_
            replace hB := hB.drew
            replace hM := hM.drew
            refine DX.vv rfl rfl rfl (by decide) (Val.move rfl) ?_
            refine DX.vv rfl rfl rfl (by decide) (Val.cast (v := .slice (cutZ (cutZ pt ct k 2) (ct - k) 2 2) (k + F.length - (k + 2)) (ct - (k + 2))) (Val.sliceFromZ (l := 2) Try.underlying54 elem56 rfl rfl (by omega) (by omega)) (by congr 1 <;> omega)) ?_
            refine DX.m rfl rfl (Step.loadAgg0 rfl rfl (by decide) agg56 rfl (hM.o1.rd) rfl (by decide) ?_)
            refine ⟨hB, ?_⟩
            refine DX.m rfl rfl (Step.litZ rfl rfl (by decide) Try.underlying54 elem56 rfl (by decide) rfl rfl (by decide) ?_)
            rintro w20 hO20 hg20 hbl20 hsz20
            replace hM := hM.add hB.size hbl20 hO20
            try simp only [List.length_cons, List.length_nil, Nat.zero_add, Nat.reduceAdd, Value.cells, List.toList_toArray, List.append_nil, List.set_cons_zero, List.set_cons_succ] at hM
            replace hB := hB.trans (hbl20.mono hB.size)
            generalize w18.drew.heap.size = gg20 at *
            refine ⟨hB, ?_⟩
            have hcap2 := hM.o4.le_cap
            obtain ⟨gtr, hgtr⟩ := hM.o4.head (by omega)
            refine DX.m rfl rfl (Step.appendCutP (B := w0.heap.size) (p := pt) (m := k + F.length) (c := ct) (k := k + 2) rfl rfl (by decide) Try.underlying54 elem56 rfl (by decide) rfl (by rw [hgtr]; exact cut_cut (by omega) (by omega)) rfl (by omega) (by decide) (hM.o4) (hM.o0.rd) rfl (by simp [Value.oneCell']) (by omega) (by omega) hB.size ?_)
            rintro p2 c2 k2 J2 w71 hk2 hJ2 hO2 hg2 hbl2 hbk2
            rw [drop_two hJ] at hO2
            replace hM := hM.s4 (e := _) hg2 hO2 hbk2
            replace hM := treesOut hM
            replace hB := hB.trans hbl2
            refine ⟨hB, ?_⟩
            refine DX.vv rfl rfl rfl (by decide) (Val.assign rfl) ?_
            refine DX.nil ?_
            refine inBlk_normal ?_
            refine thenP_normal ?_
            have hst := hH2.step (t0 := trOf t0) (t1 := trOf t1) (R := trs R) hn8 hs0 hs1
            simp only [trOf] at hst
            obtain rfl : qq = (t0.s ++ t1.s).length := by rw [List.length_append]; omega
            rw [List.take_length] at hM
            refine ⟨(R ++ [⟨t0.w + t1.w, pss, css, t0.s ++ t1.s⟩], J2, k2, p2, c2, incL lL (t0.s ++ t1.s)), ?_, ?_, ⟨⟨?_, by simp only; exact hJ2, by simp only [List.length_append, List.length_cons, List.length_nil]; omega, by simp only [List.length_append, List.length_cons, List.length_nil]; omega⟩, ?_, hB⟩, by simp only [List.length_append, List.length_cons, List.length_nil]; omega⟩
            · exact Sub.cons' rfl (by simp only [List.length_append, List.length_cons, List.length_nil]; congr 2; omega) (Sub.nil _)
            · repeat (first | exact Sub.nil _ | refine Sub.cons rfl ?_)
            · simp only [trs_app]; exact hst
            · simp only [tzI_app, tcs_app, List.length_append, List.length_cons, List.length_nil]
              rw [show k2 + (R.length + (0 + 1)) = k2 + (k + F.length - (k + 2) + 1) by omega]
              rw [← @List.length_append _ t0.s t1.s] at hM
              rw [← @List.length_append _ t0.s t1.s]
              exact hM
      ·
        refine DT.m rfl rfl (Step.allocZ rfl rfl (by decide) elem56 rfl (by decide) ?_)
        rintro w21 hO21 hg21 hbl21 hsz21
        replace hM := hM.add hB.size hbl21 hO21
        try simp only [List.length_cons, List.length_nil, Nat.zero_add, Nat.reduceAdd, Value.cells, List.toList_toArray, List.append_nil, List.set_cons_zero, List.set_cons_succ] at hM
        replace hB := hB.trans (hbl21.mono hB.size)
        generalize w7.drew.heap.size = gg21 at *
        refine ⟨⟨hB, hM.er0⟩, ?_⟩
        refine DT.m rfl rfl (Step.litZ rfl rfl (by decide) Try.underlying63 elem23 rfl (by decide) rfl rfl (by decide) ?_)
        rintro w22 hO22 hg22 hbl22 hsz22
        replace hM := hM.add hB.size hbl22 hO22
        try simp only [List.length_cons, List.length_nil, Nat.zero_add, Nat.reduceAdd, Value.cells, List.toList_toArray, List.append_nil, List.set_cons_zero, List.set_cons_succ] at hM
        replace hB := hB.trans (hbl22.mono hB.size)
        generalize w21.heap.size = gg22 at *
        refine ⟨⟨hB, hM.er1.er0⟩, ?_⟩
        refine DT.m rfl rfl (Step.call body38 rfl rfl (by decide) rfl (CallsV.mono (concat2_i64 (t0.s.map fun x : Nat => (x : Int)) (t1.s.map fun x : Nat => (x : Int)) t0.p t1.p _ t0.c t1.c _ _ _ _ hM.o0.rd (by rw [← nv_iv]; first | exact row_rd (S := [_, _, _]) (T := []) (F := (t0 :: t1 :: R)) (k := 0) (by rw [List.append_nil]; exact hM) (by simp) | exact row_rd (S := [_, _, _, _]) (T := []) (F := (t0 :: t1 :: R)) (k := 0) (by rw [List.append_nil]; exact hM) (by simp) | exact row_rd (S := [_, _, _, _, _]) (T := []) (F := (t0 :: t1 :: R)) (k := 0) (by rw [List.append_nil]; exact hM) (by simp)) (by rw [← nv_iv]; first | exact row_rd (S := [_, _, _]) (T := []) (F := (t0 :: t1 :: R)) (k := 1) (by rw [List.append_nil]; exact hM) (by simp) | exact row_rd (S := [_, _, _, _]) (T := []) (F := (t0 :: t1 :: R)) (k := 1) (by rw [List.append_nil]; exact hM) (by simp) | exact row_rd (S := [_, _, _, _, _]) (T := []) (F := (t0 :: t1 :: R)) (k := 1) (by rw [List.append_nil]; exact hM) (by simp)) (by rw [List.length_map]) (by rw [List.length_map]) (by omega)) ?_))
        rintro _ w23 ⟨pss, css, rfl, hOc, hb23⟩
        replace hM := hM.add hB.size hb23 hOc.toZ
        replace hB := hB.trans (hb23.mono hB.size)
        rw [← List.map_append, ← nv_iv] at hM
        refine ⟨⟨hB, hM.er2.er1.er0⟩, ?_⟩
        refine DT.vv rfl rfl rfl (by decide) (Val.build str56 elem56 rfl rfl rfl) ?_
        refine DT.m rfl rfl (Step.storeAgg0 (B := w0.heap.size) rfl rfl agg56 rfl rfl rfl (by decide) (by first | exact one_map _ (fun _ => rfl) _ | simp [Value.oneCell']) (hM.o2) rfl hB.size ?_)
        rintro w24 hO24 hg24 hbl24 hsz24
        replace hM := hM.s2 (e := _) hg24 hO24 inl_block
        try simp only [List.set_cons_zero, List.set_cons_succ] at hM
        replace hB := hB.trans hbl24
        refine ⟨⟨hB, hM.er2.er1.er0⟩, ?_⟩
        refine DT.nil ?_
        refine W.seq ?_
        refine W.seqR ?_
        refine LS.vv rfl rfl (by decide) (Val.fieldAddr0 fld56_1 rfl) ?_
        refine LS.m rfl (Step.load rfl rfl (by decide) flat23 rfl (hM.o2.rd) (rfl) ?_)
        refine LS.vv rfl rfl (by decide) (Val.len Try.underlying23 rfl) ?_
        refine LS.vv rfl rfl (by decide) (Val.cast (v := .int .i64 ((0 : Nat) : Int)) (Val.move rfl) rfl) ?_
        refine LS.nil ?_
        refine W.block ?_
        replace hM := hM.er1.sw2.sw1.sw0.sw1
        rw [show nv lL = nv (incL lL ((t0.s ++ t1.s).take 0)) from rfl] at hM
        refine W.loop (α := Nat) (fun qq => [(56, .int .i64 (qq : Int))]) [(3, _), (4, _), (7, _), (54, _), (55, _)] (fun qq w => (qq ≤ t0.s.length + t1.s.length) ∧ Mz w w0.heap.size (⟨3, 1, some ⟨w0.heap.size, 0, none⟩, ws.length, ws.length, nv (incL lL ((t0.s ++ t1.s).take qq))⟩ :: ⟨56, 2, some ⟨gg21, 0, none⟩, 1, 1, [.int .i64 ((t0.w + t1.w : Nat) : Int), .slice pss (t0.s.length + t1.s.length) css]⟩ :: ⟨3, 1, pss, t0.s.length + t1.s.length, css, nv (t0.s ++ t1.s)⟩ :: ⟨56, 2, pt, k + F.length, ct, J ++ tcs (t0 :: t1 :: R)⟩ :: (tzI (t0 :: t1 :: R))) ∧ Below w0.heap.size w0 w) (fun qq => t0.s.length + t1.s.length - qq) (0) (Sub.cons rfl (Sub.nil _)) (Sub.cons rfl (Sub.cons rfl (Sub.cons rfl (Sub.cons rfl (Sub.cons rfl (Sub.nil _)))))) ?_ ?_
        · exact ⟨Nat.zero_le _, hM, hB⟩
        rintro qq w25 ⟨hqq, hM, hB⟩
        try simp only at hM
        simp only [List.cons_append, List.nil_append]
        refine W.seqR ?_
        refine LS.vv rfl rfl (by decide) (Val.lss rfl rfl) ?_
        refine LS.nil ?_
        refine W.seq ?_
        first | refine W.condD rfl (fun hc5 => ?_) (fun hc5 => ?_) | refine W.cond rfl (fun hc5 => ?_) (fun hc5 => ?_)
        ·
          refine W.skip ?_
          refine thenP_normal ?_
          refine W.seq ?_
          refine W.block ?_
          refine W.seqR ?_
          have hqs : qq < (t0.s ++ t1.s).length := by rw [List.length_append]; omega
          have hqm : gn (t0.s ++ t1.s) qq ∈ t0.s ++ t1.s := by rw [gn_lt hqs]; exact List.getElem_mem hqs
          have hqi := hin _ hqm
          have hqb := incB hnd (fun i hi => by rw [hH.len]; exact hin i hi) qq _ hqm
          have hil := incL_len lL ((t0.s ++ t1.s).take qq)
          have hll := hH.len
          have hti := take_incL lL (t0.s ++ t1.s) hqs
          refine LS.vv rfl rfl (by decide) (Val.index1 Try.underlying23 elem3 rfl rfl (by omega) (hM.o2.rd) (nv_lt (by omega))) ?_
          refine LS.m rfl (Step.load rfl rfl (by decide) flat3 rfl (hM.o2.rd) (nv_at (by omega)) ?_)
          refine LS.vv rfl rfl (by decide) (Val.assign rfl) ?_
          refine LS.nil ?_
          refine W.reg ?_
          refine LS.vv rfl rfl (by decide) (Val.move rfl) ?_
          refine LS.vv rfl rfl (by decide) (Val.move rfl) ?_
          refine LS.vv rfl rfl (by decide) (Val.index1 Try.underlying23 elem3 rfl rfl (by omega) (hM.o0.rd) (nv_lt (by omega))) ?_
          refine LS.m rfl (Step.load rfl rfl (by decide) flat3 rfl (hM.o0.rd) (nv_at (by omega)) ?_)
          first | refine LS.vv rfl rfl (by decide) (Val.addN (j := 1) rfl rfl (by omega)) ?_ | refine LS.vv rfl rfl (by decide) (Val.add64 rfl rfl (by omega)) ?_
          refine LS.vv rfl rfl (by decide) (Val.index1 Try.underlying23 elem3 rfl rfl (by omega) (hM.o0.rd) (nv_lt (by omega))) ?_
          refine LS.m rfl (Step.storeZ (B := w0.heap.size) rfl rfl flat3 elem3 rfl rfl rfl (hM.o0) (by first | decide | (simp; done) | (simp; omega) | omega) hB.size ?_)
          rintro w26 hO26 hg26 hbl26 hsz26
          replace hM := hM.s0 (e := _) hg26 hO26 inl_block
          try simp only [nv_app1, nv_app, nv_set, nv_rep, nv_one, nv_cons, nv_take, nv_drop, List.nil_append] at hM
          try simp only [List.set_cons_zero, List.set_cons_succ] at hM
          replace hB := hB.trans hbl26
          refine LS.nil ?_
          refine inBlk_normal ?_
          refine thenP_normal ?_
          refine W.reg ?_
          first | refine LS.vv rfl rfl (by decide) (Val.addN (j := 1) rfl rfl (by omega)) ?_ | refine LS.vv rfl rfl (by decide) (Val.add64 rfl rfl (by omega)) ?_
          refine LS.vv rfl rfl (by decide) (Val.move rfl) ?_
          refine LS.nil ?_
          refine thenP_normal ?_
          rw [← hti] at hM
          refine ⟨qq + 1, ?_, ?_, ⟨by omega, hM, hB⟩, by omega⟩
          · exact (Sub.cons rfl (Sub.nil _))
          · repeat (first | exact Sub.nil _ | refine Sub.cons rfl ?_)
        ·
          refine W.exit ?_
          refine thenP_exit ?_
          refine thenP_exit ?_
          refine inBlk_exit ?_
          refine thenP_normal ?_
          refine W.regD (S := fun w => Below w0.heap.size w0 w) [(0, true), (1, true), (2, false), (3, false), (4, false), (5, true)] mixed (by kernel_rfl) hB.drew ?_
          replace hB := hB.drew
          replace hM := hM.drew
          refine DX.vv rfl rfl rfl (by decide) (Val.move rfl) ?_
          refine DX.vv rfl rfl rfl (by decide) (Val.cast (v := .slice (cutZ (cutZ pt ct k 2) (ct - k) 2 2) (k + F.length - (k + 2)) (ct - (k + 2))) (Val.sliceFromZ (l := 2) Try.underlying54 elem56 rfl rfl (by omega) (by omega)) (by congr 1 <;> omega)) ?_
          refine DX.m rfl rfl (Step.loadAgg0 rfl rfl (by decide) agg56 rfl (hM.o1.rd) rfl (by decide) ?_)
          refine ⟨hB, ?_⟩
          refine DX.m rfl rfl (Step.litZ rfl rfl (by decide) Try.underlying54 elem56 rfl (by decide) rfl rfl (by decide) ?_)
          rintro w27 hO27 hg27 hbl27 hsz27
          replace hM := hM.add hB.size hbl27 hO27
          try simp only [List.length_cons, List.length_nil, Nat.zero_add, Nat.reduceAdd, Value.cells, List.toList_toArray, List.append_nil, List.set_cons_zero, List.set_cons_succ] at hM
          replace hB := hB.trans (hbl27.mono hB.size)
          generalize w25.drew.heap.size = gg27 at *
          refine ⟨hB, ?_⟩
          have hcap2 := hM.o4.le_cap
          obtain ⟨gtr, hgtr⟩ := hM.o4.head (by omega)
          refine DX.m rfl rfl (Step.appendCutP (B := w0.heap.size) (p := pt) (m := k + F.length) (c := ct) (k := k + 2) rfl rfl (by decide) Try.underlying54 elem56 rfl (by decide) rfl (by rw [hgtr]; exact cut_cut (by omega) (by omega)) rfl (by omega) (by decide) (hM.o4) (hM.o0.rd) rfl (by simp [Value.oneCell']) (by omega) (by omega) hB.size ?_)
          rintro p2 c2 k2 J2 w71 hk2 hJ2 hO2 hg2 hbl2 hbk2
          rw [drop_two hJ] at hO2
          replace hM := hM.s4 (e := _) hg2 hO2 hbk2
          replace hM := treesOut hM
          replace hB := hB.trans hbl2
          refine ⟨hB, ?_⟩
          refine DX.vv rfl rfl rfl (by decide) (Val.assign rfl) ?_
          refine DX.nil ?_
          refine inBlk_normal ?_
          refine thenP_normal ?_
          have hst := hH2.step (t0 := trOf t0) (t1 := trOf t1) (R := trs R) hn8 hs0 hs1
          simp only [trOf] at hst
          obtain rfl : qq = (t0.s ++ t1.s).length := by rw [List.length_append]; omega
          rw [List.take_length] at hM
          refine ⟨(R ++ [⟨t0.w + t1.w, pss, css, t0.s ++ t1.s⟩], J2, k2, p2, c2, incL lL (t0.s ++ t1.s)), ?_, ?_, ⟨⟨?_, by simp only; exact hJ2, by simp only [List.length_append, List.length_cons, List.length_nil]; omega, by simp only [List.length_append, List.length_cons, List.length_nil]; omega⟩, ?_, hB⟩, by simp only [List.length_append, List.length_cons, List.length_nil]; omega⟩
          · exact Sub.cons' rfl (by simp only [List.length_append, List.length_cons, List.length_nil]; congr 2; omega) (Sub.nil _)
          · repeat (first | exact Sub.nil _ | refine Sub.cons rfl ?_)
          · simp only [trs_app]; exact hst
          · simp only [tzI_app, tcs_app, List.length_append, List.length_cons, List.length_nil]
            rw [show k2 + (R.length + (0 + 1)) = k2 + (k + F.length - (k + 2) + 1) by omega]
            rw [← @List.length_append _ t0.s t1.s] at hM
            rw [← @List.length_append _ t0.s t1.s]
            exact hM
    ·
      refine W.exit ?_
      refine thenP_exit ?_
      refine thenP_exit ?_
      refine inBlk_exit ?_
      refine thenP_normal ?_
      refine W.seqR ?_
      refine LS.vv rfl rfl (by decide) (Val.move rfl) ?_
      refine LS.vv rfl rfl (by decide) (Val.assign rfl) ?_
      refine LS.nil ?_
      refine W.ret ?_
      refine ret1 (by first | exact .inl rfl | exact .inr rfl) rfl ?_
      have hop := hH.done (by rw [trs_len]; omega)
      exact ⟨_, ws.length, lL, rfl, hM.o1.own, hop, hB⟩

end Go.Proofs.Ytohflgcbpmoinaa
