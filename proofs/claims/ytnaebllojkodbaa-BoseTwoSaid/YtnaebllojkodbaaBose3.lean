/-
  The walk of bose.Fix where two places were turned.
-/
import Derived.Test.YtnaebllojkodbaaBose2
namespace Go.Proofs.Ytnaebllojkodbaa
open Go Go.RowKit V
set_option linter.unusedVariables false

theorem Fix2_any (l : List Bool) (p : Option Addr) (c : Nat) (I J : Nat) (hIJ : I < J) (hJ : J < 15) (hA : sA l 15 = pA I J) (hB2 : sB l 15 = pB I J) (w0 : World) (hr : Rd w0 p (bv l)) (hl : l.length = 15) (hcap : 15 ≤ c) :
    CallsV Try.prog 28 #[.slice p 15 c] w0 (fun v w => ∃ (p2 : Option Addr) (c2 : Nat), v = .tuple #[.slice p2 7 c2, .int .i64 ((2 : Nat) : Int), .int .i64 ((0 : Nat) : Int)] ∧ Own w w0.heap.size 4 p2 7 c2 (bv ((fl (fl l I) J).take 7)) ∧ Below w0.heap.size w0 w) := by
  refine enter3 Try.func28 rfl Try.ntmps28 (by simp) rfl ?_
  have hB := Below.refl w0.heap.size w0
  simp only [argLoc]
  have hM := Mem.nil w0 w0.heap.size
  refine W.seqR ?_
  refine LS.vv rfl rfl (by decide) (Val.assign rfl) ?_
  refine LS.vv rfl rfl (by decide) (Val.cast (v := .int .i64 ((0 : Nat) : Int)) (Val.assign rfl) rfl) ?_
  refine LS.vv rfl rfl (by decide) (Val.cast (v := .int .i64 ((0 : Nat) : Int)) (Val.assign rfl) rfl) ?_
  refine LS.nil ?_
  refine W.seq ?_
  refine W.seqR ?_
  refine LS.vv rfl rfl (by decide) (Val.move rfl) ?_
  refine LS.vv rfl rfl (by decide) (Val.len Try.underlying35 rfl) ?_
  refine LS.vv rfl rfl (by decide) (Val.neq rfl rfl) ?_
  refine LS.nil ?_
  first | refine W.condD rfl (fun hc1 => ?_) (fun hc1 => ?_) | refine W.cond rfl (fun hc1 => ?_) (fun hc1 => ?_)
  ·
    exfalso; omega
  ·
    refine W.skip ?_
    refine thenP_normal ?_
    refine W.seqR ?_
    refine LS.vv rfl rfl (by decide) (Val.move rfl) ?_
    refine LS.m rfl (Step.call body43 rfl rfl (by decide) rfl (CallsV.mono (bsums_any l _ _ 15 _ (hr.below hB) hl (by omega)) ?_))
    rintro _ w1 ⟨rfl, hb1⟩
    replace hM := hM.below hb1
    replace hB := hB.trans (hb1.mono hB.size)
    rw [hA, hB2]
    refine LS.vv rfl rfl (by decide) (Val.move rfl) ?_
    refine LS.vv rfl rfl (by decide) (Val.extract rfl rfl) ?_
    refine LS.vv rfl rfl (by decide) (Val.extract rfl rfl) ?_
    refine LS.vv rfl rfl (by decide) (Val.assign rfl) ?_
    refine LS.vv rfl rfl (by decide) (Val.assign rfl) ?_
    refine LS.nil ?_
    refine W.seq ?_
    refine W.seqR ?_
    refine LS.vv rfl rfl (by decide) (Val.move rfl) ?_
    refine LS.vv rfl rfl (by decide) (Val.eql rfl rfl) ?_
    refine LS.vv rfl rfl (by decide) (Val.move rfl) ?_
    refine LS.split 2 rfl (fun hg2 => ?_) (fun hg2 => ?_)
    ·
      first | (have hg2p := of_decide_eq_true hg2) | skip
      refine LS.vg rfl rfl rfl hg2 (by decide) (Val.move rfl) ?_
      refine LS.vg rfl rfl rfl hg2 (by decide) (Val.eql rfl rfl) ?_
      refine LS.vv rfl rfl (by decide) (Val.pickT rfl hg2 rfl) ?_
      refine LS.nil ?_
      first | refine W.condD rfl (fun hc3 => ?_) (fun hc3 => ?_) | refine W.cond rfl (fun hc3 => ?_) (fun hc3 => ?_)
      ·
        exfalso; exact pair_some hJ hIJ ⟨by omega, by omega⟩
      ·
        refine W.skip ?_
        refine thenP_normal ?_
        refine W.seq ?_
        refine W.seqR ?_
        refine LS.vv rfl rfl (by decide) (Val.move rfl) ?_
        refine LS.vv rfl rfl (by decide) (Val.len Try.underlying35 rfl) ?_
        refine LS.vv rfl rfl (by decide) (Val.cast (v := .int .i64 ((0 : Nat) : Int)) (Val.move rfl) rfl) ?_
        refine LS.nil ?_
        refine W.block ?_
        refine W.loop (α := Nat) (fun i => [(34, .int .i64 (i : Int))]) [(0, _), (5, _), (6, _), (33, _)] (fun i w => (i ≤ I) ∧ Mem w w0.heap.size [] ∧ Below w0.heap.size w0 w) (fun i => 15 - i) (0) (Sub.cons rfl (Sub.nil _)) (Sub.cons rfl (Sub.cons rfl (Sub.cons rfl (Sub.cons rfl (Sub.nil _))))) ?_ ?_
        · exact ⟨Nat.zero_le _, hM, hB⟩
        rintro i w2 ⟨hi, hM, hB⟩
        try simp only at hM
        simp only [List.cons_append, List.nil_append]
        refine W.seqR ?_
        refine LS.vv rfl rfl (by decide) (Val.lss rfl rfl) ?_
        refine LS.nil ?_
        refine W.seq ?_
        first | refine W.condD rfl (fun hc4 => ?_) (fun hc4 => ?_) | refine W.cond rfl (fun hc4 => ?_) (fun hc4 => ?_)
        ·
          refine W.skip ?_
          refine thenP_normal ?_
          refine W.seq ?_
          refine W.block ?_
          refine W.seqR ?_
          refine LS.vv rfl rfl (by decide) (Val.move rfl) ?_
          refine LS.vv rfl rfl (by decide) (Val.assign rfl) ?_
          refine LS.nil ?_
          refine W.seqR ?_
          refine LS.vv rfl rfl (by decide) (Val.move rfl) ?_
          refine LS.vv rfl rfl (by decide) (Val.assign rfl) ?_
          refine LS.nil ?_
          refine W.block ?_
          refine W.loop (α := Nat) (fun j => [(8, .int .i64 (j : Int))]) [(0, _), (5, _), (6, _), (7, _), (33, _), (34, _)] (fun j w => (i ≤ j ∧ j ≤ 15 ∧ (i = I → j ≤ J)) ∧ Mem w w0.heap.size [] ∧ Below w0.heap.size w0 w) (fun j => 15 - j) (i) (Sub.cons rfl (Sub.nil _)) (Sub.cons rfl (Sub.cons rfl (Sub.cons rfl (Sub.cons rfl (Sub.cons rfl (Sub.cons rfl (Sub.nil _))))))) ?_ ?_
          · exact ⟨⟨Nat.le_refl _, by omega, by omega⟩, hM, hB⟩
          rintro j w3 ⟨⟨hij, hj, hjJ⟩, hM, hB⟩
          try simp only at hM
          simp only [List.cons_append, List.nil_append]
          refine W.seq ?_
          refine W.seqR ?_
          refine LS.vv rfl rfl (by decide) (Val.move rfl) ?_
          refine LS.vv rfl rfl (by decide) (Val.lss rfl rfl) ?_
          refine LS.nil ?_
          first | refine W.condD rfl (fun hc5 => ?_) (fun hc5 => ?_) | refine W.cond rfl (fun hc5 => ?_) (fun hc5 => ?_)
          ·
            refine W.skip ?_
            refine thenP_normal ?_
            refine W.seq ?_
            refine W.block ?_
            refine W.seqR ?_
            refine LS.m rfl (Step.allocArr (xs := bv (List.replicate 15 false)) rfl rfl (by decide) elem72 rfl rfl (by decide) ?_)
            rintro w4 hO4 hg4 hbl4 hsz4
            replace hM := hM.add hB.size hbl4 hO4
            try simp only [bv_app1, bv_app, bv_set, bv_rep, bv_one, bv_cons, bv_take, bv_drop, List.nil_append] at hM
            replace hB := hB.trans (hbl4.mono hB.size)
            generalize w3.heap.size = gg4 at *
            refine LS.nil ?_
            refine W.seqR ?_
            refine LS.vv rfl rfl (by decide) (Val.move rfl) ?_
            refine LS.vv rfl rfl (by decide) (Val.move rfl) ?_
            refine LS.vv rfl rfl (by decide) (Val.indexArr Try.underlying72 elem4 rfl rfl (by first | omega | (simp only [List.length_set]; omega))) ?_
            refine LS.m rfl (Step.store (B := w0.heap.size) rfl rfl flat4 elem4 rfl rfl rfl (hM.o0) (by first | omega | (simp only [List.length_set]; omega)) hB.size ?_)
            rintro w5 hO5 hg5 hbl5 hsz5
            replace hM := hM.s0 hg5 hO5 inl_block
            try simp only [bv_app1, bv_app, bv_set, bv_rep, bv_one, bv_cons, bv_take, bv_drop, List.nil_append] at hM
            replace hB := hB.trans hbl5
            refine LS.vv rfl rfl (by decide) (Val.indexArr Try.underlying72 elem4 rfl rfl (by first | omega | (simp only [List.length_set]; omega))) ?_
            refine LS.m rfl (Step.store (B := w0.heap.size) rfl rfl flat4 elem4 rfl rfl rfl (hM.o0) (by first | omega | (simp only [List.length_set]; omega)) hB.size ?_)
            rintro w6 hO6 hg6 hbl6 hsz6
            replace hM := hM.s0 hg6 hO6 inl_block
            try simp only [bv_app1, bv_app, bv_set, bv_rep, bv_one, bv_cons, bv_take, bv_drop, List.nil_append] at hM
            replace hB := hB.trans hbl6
            refine LS.nil ?_
            refine W.seqR ?_
            refine LS.vv rfl rfl (by decide) (Val.sliceArr Try.underlying72 elem4 rfl) ?_
            refine LS.m rfl (Step.call body43 rfl rfl (by decide) rfl (CallsV.mono (bsums_any (tw i j) _ _ 15 _ hM.o0.rd (by simp [tw]) (by omega)) ?_))
            rintro _ w7 ⟨rfl, hb7⟩
            replace hM := hM.below hb7
            replace hB := hB.trans (hb7.mono hB.size)
            obtain ⟨hta, htb⟩ := sum_tw (i := i) (j := j) (by omega) (by omega)
            rw [hta, htb]
            refine LS.vv rfl rfl (by decide) (Val.move rfl) ?_
            refine LS.vv rfl rfl (by decide) (Val.extract rfl rfl) ?_
            refine LS.vv rfl rfl (by decide) (Val.extract rfl rfl) ?_
            refine LS.vv rfl rfl (by decide) (Val.assign rfl) ?_
            refine LS.vv rfl rfl (by decide) (Val.assign rfl) ?_
            refine LS.nil ?_
            refine W.seqR ?_
            refine LS.vv rfl rfl (by decide) (Val.move rfl) ?_
            refine LS.vv rfl rfl (by decide) (Val.move rfl) ?_
            refine LS.vv rfl rfl (by decide) (Val.eql rfl rfl) ?_
            refine LS.vv rfl rfl (by decide) (Val.move rfl) ?_
            refine LS.split 3 rfl (fun hg6 => ?_) (fun hg6 => ?_)
            ·
              first | (have hg6p := of_decide_eq_true hg6) | skip
              refine LS.vg rfl rfl rfl hg6 (by decide) (Val.move rfl) ?_
              refine LS.vg rfl rfl rfl hg6 (by decide) (Val.move rfl) ?_
              refine LS.vg rfl rfl rfl hg6 (by decide) (Val.eql rfl rfl) ?_
              refine LS.vv rfl rfl (by decide) (Val.pickT rfl hg6 rfl) ?_
              refine LS.nil ?_
              first | refine W.condD rfl (fun hc7 => ?_) (fun hc7 => ?_) | refine W.cond rfl (fun hc7 => ?_) (fun hc7 => ?_)
              ·
                obtain ⟨rfl, rfl⟩ := pair_only (a := I) (b := J) (i := i) (j := j) hJ hIJ (by omega) (by omega) (by omega) (by omega)
                refine W.seqR ?_
                refine LS.m rfl (Step.lit rfl rfl (by decide) Try.underlying35 elem4 rfl rfl (by omega) (by simp [Value.oneCell']) (Nat.le_refl _) ?_)
                rintro w8 hO8 hg8 hbl8 hsz8
                replace hM := hM.add hB.size hbl8 hO8
                try simp only [bv_app1, bv_app, bv_set, bv_rep, bv_one, bv_cons, bv_take, bv_drop, List.nil_append] at hM
                replace hB := hB.trans (hbl8.mono hB.size)
                generalize w7.heap.size = gg8 at *
                refine LS.vv rfl rfl (by decide) (Val.move rfl) ?_
                refine LS.m rfl (Step.append2 (B := w0.heap.size) rfl rfl (by decide) Try.underlying35 elem4 rfl rfl rfl rfl (hM.o0) ((hr.below hB)) (by first | rfl | (simp; done) | (simp; omega)) (by first | exact one_map _ (fun _ => rfl) _ | simp [Value.oneCell']) (by first | omega | (simp only [List.length_set]; omega)) (by first | omega | (simp only [List.length_set]; omega)) hB.size ?_)
                rintro p9 c9 w9 hO9 hg9 hbl9 hbk9
                replace hM := hM.s0 hg9 hO9 hbk9
                try simp only [bv_app1, bv_app, bv_set, bv_rep, bv_one, bv_cons, bv_take, bv_drop, List.nil_append] at hM
                replace hB := hB.trans hbl9
                have hfl1 := fl_len l i
                have hfl2 := fl_len (fl l i) j
                have hoc := hM.o0.le_cap
                refine LS.vv rfl rfl (by decide) (Val.assign rfl) ?_
                refine LS.nil ?_
                refine W.seqR ?_
                refine LS.vv rfl rfl (by decide) (Val.move rfl) ?_
                refine LS.vv rfl rfl (by decide) (Val.move rfl) ?_
                refine LS.vv rfl rfl (by decide) (Val.move rfl) ?_
                refine LS.vv rfl rfl (by decide) (Val.move rfl) ?_
                refine LS.vv rfl rfl (by decide) (Val.index1 Try.underlying35 elem4 rfl rfl (by first | omega | (simp only [List.length_set]; omega)) (hM.o0.rd) (bv_lt (by first | omega | (simp only [List.length_set]; omega)))) ?_
                refine LS.m rfl (Step.load rfl rfl (by decide) flat4 rfl (hM.o0.rd) (bv_at (by first | omega | (simp only [List.length_set]; omega))) ?_)
                refine LS.vv rfl rfl (by decide) (Val.not rfl) ?_
                refine LS.vv rfl rfl (by decide) (Val.index1 Try.underlying35 elem4 rfl rfl (by first | omega | (simp only [List.length_set]; omega)) (hM.o0.rd) (bv_lt (by first | omega | (simp only [List.length_set]; omega)))) ?_
                refine LS.m rfl (Step.store (B := w0.heap.size) rfl rfl flat4 elem4 rfl rfl rfl (hM.o0) (by first | omega | (simp only [List.length_set]; omega)) hB.size ?_)
                rintro w10 hO10 hg10 hbl10 hsz10
                replace hM := hM.s0 hg10 hO10 inl_block
                try simp only [bv_app1, bv_app, bv_set, bv_rep, bv_one, bv_cons, bv_take, bv_drop, List.nil_append] at hM
                replace hB := hB.trans hbl10
                refine LS.nil ?_
                refine W.seqR ?_
                refine LS.vv rfl rfl (by decide) (Val.cast (v := .int .i64 ((1 : Nat) : Int)) (Val.assign rfl) rfl) ?_
                refine LS.nil ?_
                refine W.seq ?_
                refine W.seqR ?_
                refine LS.vv rfl rfl (by decide) (Val.move rfl) ?_
                refine LS.vv rfl rfl (by decide) (Val.move rfl) ?_
                refine LS.vv rfl rfl (by decide) (Val.gtr rfl rfl) ?_
                refine LS.nil ?_
                first | refine W.condD rfl (fun hc8 => ?_) (fun hc8 => ?_) | refine W.cond rfl (fun hc8 => ?_) (fun hc8 => ?_)
                ·
                  refine W.seqR ?_
                  refine LS.vv rfl rfl (by decide) (Val.move rfl) ?_
                  refine LS.vv rfl rfl (by decide) (Val.move rfl) ?_
                  refine LS.vv rfl rfl (by decide) (Val.move rfl) ?_
                  refine LS.vv rfl rfl (by decide) (Val.move rfl) ?_
                  refine LS.vv rfl rfl (by decide) (Val.index1 Try.underlying35 elem4 rfl rfl (by first | omega | (simp only [List.length_set]; omega)) (hM.o0.rd) (bv_lt (by first | omega | (simp only [List.length_set]; omega)))) ?_
                  refine LS.m rfl (Step.load rfl rfl (by decide) flat4 rfl (hM.o0.rd) (bv_at (by first | omega | (simp only [List.length_set]; omega))) ?_)
                  refine LS.vv rfl rfl (by decide) (Val.not rfl) ?_
                  refine LS.vv rfl rfl (by decide) (Val.index1 Try.underlying35 elem4 rfl rfl (by first | omega | (simp only [List.length_set]; omega)) (hM.o0.rd) (bv_lt (by first | omega | (simp only [List.length_set]; omega)))) ?_
                  refine LS.m rfl (Step.store (B := w0.heap.size) rfl rfl flat4 elem4 rfl rfl rfl (hM.o0) (by first | omega | (simp only [List.length_set]; omega)) hB.size ?_)
                  rintro w11 hO11 hg11 hbl11 hsz11
                  replace hM := hM.s0 hg11 hO11 inl_block
                  try simp only [bv_app1, bv_app, bv_set, bv_rep, bv_one, bv_cons, bv_take, bv_drop, List.nil_append] at hM
                  replace hB := hB.trans hbl11
                  refine LS.nil ?_
                  refine W.reg ?_
                  refine LS.vv rfl rfl (by decide) (Val.cast (v := .int .i64 ((2 : Nat) : Int)) (Val.assign rfl) rfl) ?_
                  refine LS.nil ?_
                  refine thenP_normal ?_
                  refine W.seqR ?_
                  refine LS.m rfl (Step.lit rfl rfl (by decide) Try.underlying35 elem4 rfl rfl (by omega) (by simp [Value.oneCell']) (Nat.le_refl _) ?_)
                  rintro w12 hO12 hg12 hbl12 hsz12
                  replace hM := hM.add hB.size hbl12 hO12
                  try simp only [bv_app1, bv_app, bv_set, bv_rep, bv_one, bv_cons, bv_take, bv_drop, List.nil_append] at hM
                  replace hB := hB.trans (hbl12.mono hB.size)
                  generalize w11.heap.size = gg12 at *
                  refine LS.vv rfl rfl (by decide) (Val.move rfl) ?_
                  refine LS.vv rfl rfl (by decide) (Val.sliceTo (h := 7) Try.underlying35 elem4 rfl rfl (by first | omega | (simp only [List.length_set]; omega))) ?_
                  refine LS.m rfl (Step.append2 (B := w0.heap.size) rfl rfl (by decide) Try.underlying35 elem4 rfl rfl rfl rfl (hM.o0) (((hM.o1).rd.take_bv (k := 7))) (by simp [bv, fl_len]; omega) (by first | exact one_map _ (fun _ => rfl) _ | simp [Value.oneCell']) (by first | omega | (simp only [List.length_set]; omega)) (by first | omega | (simp only [List.length_set]; omega)) hB.size ?_)
                  rintro p13 c13 w13 hO13 hg13 hbl13 hbk13
                  replace hM := hM.s0 hg13 hO13 hbk13
                  try simp only [bv_app1, bv_app, bv_set, bv_rep, bv_one, bv_cons, bv_take, bv_drop, List.nil_append] at hM
                  replace hB := hB.trans hbl13
                  refine LS.vv rfl rfl (by decide) (Val.move rfl) ?_
                  refine LS.vv rfl rfl (by decide) (Val.assign rfl) ?_
                  refine LS.vv rfl rfl (by decide) (Val.assign rfl) ?_
                  refine LS.vv rfl rfl (by decide) (Val.cast (v := .int .i64 ((0 : Nat) : Int)) (Val.assign rfl) rfl) ?_
                  refine LS.nil ?_
                  refine W.ret ?_
                  refine inBlk_ret ?_
                  refine thenP_ret ?_
                  refine thenP_ret ?_
                  refine inBlk_ret ?_
                  refine inBlk_ret ?_
                  refine thenP_ret ?_
                  refine thenP_ret ?_
                  refine inBlk_ret ?_
                  refine thenP_ret ?_
                  refine ret3 (by first | exact .inl rfl | exact .inr rfl) rfl rfl rfl ?_
                  first | (exfalso; omega) | exact ⟨_, _, rfl, hM.o0, hB⟩
                ·
                  exfalso; omega
              ·
                refine W.skip ?_
                refine inBlk_normal ?_
                refine thenP_normal ?_
                refine W.reg ?_
                refine LS.vv rfl rfl (by decide) (Val.move rfl) ?_
                first | refine LS.vv rfl rfl (by decide) (Val.addN (j := 1) rfl rfl (by first | omega | (simp only [List.length_set]; omega))) ?_ | refine LS.vv rfl rfl (by decide) (Val.add64 rfl rfl (by first | omega | (simp only [List.length_set]; omega))) ?_
                refine LS.vv rfl rfl (by decide) (Val.assign rfl) ?_
                refine LS.nil ?_
                refine thenP_normal ?_
                refine ⟨j + 1, ?_, ?_, ⟨⟨by omega, by omega, fun e => ?_⟩, hM.tail, hB⟩, by omega⟩
                · exact (Sub.cons rfl (Sub.nil _))
                · repeat (first | exact Sub.nil _ | refine Sub.cons rfl ?_)
                · have h1 := hjJ e
                  by_cases e2 : j = J
                  · exfalso; subst e; subst e2; simp_all
                  · omega
            ·
              first | (have hg6p := of_decide_eq_false hg6) | skip
              refine LS.s rfl rfl rfl hg6 (by decide) ?_
              refine LS.s rfl rfl rfl hg6 (by decide) ?_
              refine LS.s rfl rfl rfl hg6 (by decide) ?_
              refine LS.vv rfl rfl (by decide) (Val.pickF rfl hg6 rfl) ?_
              refine LS.nil ?_
              refine W.condF rfl ?_
              refine W.skip ?_
              refine inBlk_normal ?_
              refine thenP_normal ?_
              refine W.reg ?_
              refine LS.vv rfl rfl (by decide) (Val.move rfl) ?_
              first | refine LS.vv rfl rfl (by decide) (Val.addN (j := 1) rfl rfl (by first | omega | (simp only [List.length_set]; omega))) ?_ | refine LS.vv rfl rfl (by decide) (Val.add64 rfl rfl (by first | omega | (simp only [List.length_set]; omega))) ?_
              refine LS.vv rfl rfl (by decide) (Val.assign rfl) ?_
              refine LS.nil ?_
              refine thenP_normal ?_
              refine ⟨j + 1, ?_, ?_, ⟨⟨by omega, by omega, fun e => ?_⟩, hM.tail, hB⟩, by omega⟩
              · exact (Sub.cons rfl (Sub.nil _))
              · repeat (first | exact Sub.nil _ | refine Sub.cons rfl ?_)
              · have h1 := hjJ e
                by_cases e2 : j = J
                · exfalso; subst e; subst e2; simp_all
                · omega
          ·
            refine W.exit ?_
            refine thenP_exit ?_
            refine thenP_exit ?_
            refine inBlk_exit ?_
            refine inBlk_normal ?_
            refine thenP_normal ?_
            refine W.reg ?_
            first | refine LS.vv rfl rfl (by decide) (Val.addN (j := 1) rfl rfl (by first | omega | (simp only [List.length_set]; omega))) ?_ | refine LS.vv rfl rfl (by decide) (Val.add64 rfl rfl (by first | omega | (simp only [List.length_set]; omega))) ?_
            refine LS.vv rfl rfl (by decide) (Val.move rfl) ?_
            refine LS.nil ?_
            refine thenP_normal ?_
            refine ⟨i + 1, ?_, ?_, ⟨by omega, hM, hB⟩, by omega⟩
            · exact (Sub.cons rfl (Sub.nil _))
            · repeat (first | exact Sub.nil _ | refine Sub.cons rfl ?_)
        ·
          refine W.exit ?_
          refine thenP_exit ?_
          refine thenP_exit ?_
          refine inBlk_exit ?_
          refine thenP_normal ?_
          refine W.seqR ?_
          refine LS.vv rfl rfl (by decide) (Val.assign rfl) ?_
          refine LS.vv rfl rfl (by decide) (Val.cast (v := .int .i64 ((0 : Nat) : Int)) (Val.assign rfl) rfl) ?_
          refine LS.vv rfl rfl (by decide) (Val.cast (v := .int .i64 ((5 : Nat) : Int)) (Val.assign rfl) rfl) ?_
          refine LS.nil ?_
          refine W.ret ?_
          refine ret3 (by first | exact .inl rfl | exact .inr rfl) rfl rfl rfl ?_
          first | (exfalso; omega) | exact ⟨_, _, rfl, hM.o0, hB⟩
    ·
      first | (have hg2p := of_decide_eq_false hg2) | skip
      refine LS.s rfl rfl rfl hg2 (by decide) ?_
      refine LS.s rfl rfl rfl hg2 (by decide) ?_
      refine LS.vv rfl rfl (by decide) (Val.pickF rfl hg2 rfl) ?_
      refine LS.nil ?_
      refine W.condF rfl ?_
      refine W.skip ?_
      refine thenP_normal ?_
      refine W.seq ?_
      refine W.seqR ?_
      refine LS.vv rfl rfl (by decide) (Val.move rfl) ?_
      refine LS.vv rfl rfl (by decide) (Val.len Try.underlying35 rfl) ?_
      refine LS.vv rfl rfl (by decide) (Val.cast (v := .int .i64 ((0 : Nat) : Int)) (Val.move rfl) rfl) ?_
      refine LS.nil ?_
      refine W.block ?_
      refine W.loop (α := Nat) (fun i => [(34, .int .i64 (i : Int))]) [(0, _), (5, _), (6, _), (33, _)] (fun i w => (i ≤ I) ∧ Mem w w0.heap.size [] ∧ Below w0.heap.size w0 w) (fun i => 15 - i) (0) (Sub.cons rfl (Sub.nil _)) (Sub.cons rfl (Sub.cons rfl (Sub.cons rfl (Sub.cons rfl (Sub.nil _))))) ?_ ?_
      · exact ⟨Nat.zero_le _, hM, hB⟩
      rintro i w14 ⟨hi, hM, hB⟩
      try simp only at hM
      simp only [List.cons_append, List.nil_append]
      refine W.seqR ?_
      refine LS.vv rfl rfl (by decide) (Val.lss rfl rfl) ?_
      refine LS.nil ?_
      refine W.seq ?_
      first | refine W.condD rfl (fun hc9 => ?_) (fun hc9 => ?_) | refine W.cond rfl (fun hc9 => ?_) (fun hc9 => ?_)
      ·
        refine W.skip ?_
        refine thenP_normal ?_
        refine W.seq ?_
        refine W.block ?_
        refine W.seqR ?_
        refine LS.vv rfl rfl (by decide) (Val.move rfl) ?_
        refine LS.vv rfl rfl (by decide) (Val.assign rfl) ?_
        refine LS.nil ?_
        refine W.seqR ?_
        refine LS.vv rfl rfl (by decide) (Val.move rfl) ?_
        refine LS.vv rfl rfl (by decide) (Val.assign rfl) ?_
        refine LS.nil ?_
        refine W.block ?_
        refine W.loop (α := Nat) (fun j => [(8, .int .i64 (j : Int))]) [(0, _), (5, _), (6, _), (7, _), (33, _), (34, _)] (fun j w => (i ≤ j ∧ j ≤ 15 ∧ (i = I → j ≤ J)) ∧ Mem w w0.heap.size [] ∧ Below w0.heap.size w0 w) (fun j => 15 - j) (i) (Sub.cons rfl (Sub.nil _)) (Sub.cons rfl (Sub.cons rfl (Sub.cons rfl (Sub.cons rfl (Sub.cons rfl (Sub.cons rfl (Sub.nil _))))))) ?_ ?_
        · exact ⟨⟨Nat.le_refl _, by omega, by omega⟩, hM, hB⟩
        rintro j w15 ⟨⟨hij, hj, hjJ⟩, hM, hB⟩
        try simp only at hM
        simp only [List.cons_append, List.nil_append]
        refine W.seq ?_
        refine W.seqR ?_
        refine LS.vv rfl rfl (by decide) (Val.move rfl) ?_
        refine LS.vv rfl rfl (by decide) (Val.lss rfl rfl) ?_
        refine LS.nil ?_
        first | refine W.condD rfl (fun hc10 => ?_) (fun hc10 => ?_) | refine W.cond rfl (fun hc10 => ?_) (fun hc10 => ?_)
        ·
          refine W.skip ?_
          refine thenP_normal ?_
          refine W.seq ?_
          refine W.block ?_
          refine W.seqR ?_
          refine LS.m rfl (Step.allocArr (xs := bv (List.replicate 15 false)) rfl rfl (by decide) elem72 rfl rfl (by decide) ?_)
          rintro w16 hO16 hg16 hbl16 hsz16
          replace hM := hM.add hB.size hbl16 hO16
          try simp only [bv_app1, bv_app, bv_set, bv_rep, bv_one, bv_cons, bv_take, bv_drop, List.nil_append] at hM
          replace hB := hB.trans (hbl16.mono hB.size)
          generalize w15.heap.size = gg16 at *
          refine LS.nil ?_
          refine W.seqR ?_
          refine LS.vv rfl rfl (by decide) (Val.move rfl) ?_
          refine LS.vv rfl rfl (by decide) (Val.move rfl) ?_
          refine LS.vv rfl rfl (by decide) (Val.indexArr Try.underlying72 elem4 rfl rfl (by first | omega | (simp only [List.length_set]; omega))) ?_
          refine LS.m rfl (Step.store (B := w0.heap.size) rfl rfl flat4 elem4 rfl rfl rfl (hM.o0) (by first | omega | (simp only [List.length_set]; omega)) hB.size ?_)
          rintro w17 hO17 hg17 hbl17 hsz17
          replace hM := hM.s0 hg17 hO17 inl_block
          try simp only [bv_app1, bv_app, bv_set, bv_rep, bv_one, bv_cons, bv_take, bv_drop, List.nil_append] at hM
          replace hB := hB.trans hbl17
          refine LS.vv rfl rfl (by decide) (Val.indexArr Try.underlying72 elem4 rfl rfl (by first | omega | (simp only [List.length_set]; omega))) ?_
          refine LS.m rfl (Step.store (B := w0.heap.size) rfl rfl flat4 elem4 rfl rfl rfl (hM.o0) (by first | omega | (simp only [List.length_set]; omega)) hB.size ?_)
          rintro w18 hO18 hg18 hbl18 hsz18
          replace hM := hM.s0 hg18 hO18 inl_block
          try simp only [bv_app1, bv_app, bv_set, bv_rep, bv_one, bv_cons, bv_take, bv_drop, List.nil_append] at hM
          replace hB := hB.trans hbl18
          refine LS.nil ?_
          refine W.seqR ?_
          refine LS.vv rfl rfl (by decide) (Val.sliceArr Try.underlying72 elem4 rfl) ?_
          refine LS.m rfl (Step.call body43 rfl rfl (by decide) rfl (CallsV.mono (bsums_any (tw i j) _ _ 15 _ hM.o0.rd (by simp [tw]) (by omega)) ?_))
          rintro _ w19 ⟨rfl, hb19⟩
          replace hM := hM.below hb19
          replace hB := hB.trans (hb19.mono hB.size)
          obtain ⟨hta, htb⟩ := sum_tw (i := i) (j := j) (by omega) (by omega)
          rw [hta, htb]
          refine LS.vv rfl rfl (by decide) (Val.move rfl) ?_
          refine LS.vv rfl rfl (by decide) (Val.extract rfl rfl) ?_
          refine LS.vv rfl rfl (by decide) (Val.extract rfl rfl) ?_
          refine LS.vv rfl rfl (by decide) (Val.assign rfl) ?_
          refine LS.vv rfl rfl (by decide) (Val.assign rfl) ?_
          refine LS.nil ?_
          refine W.seqR ?_
          refine LS.vv rfl rfl (by decide) (Val.move rfl) ?_
          refine LS.vv rfl rfl (by decide) (Val.move rfl) ?_
          refine LS.vv rfl rfl (by decide) (Val.eql rfl rfl) ?_
          refine LS.vv rfl rfl (by decide) (Val.move rfl) ?_
          refine LS.split 3 rfl (fun hg11 => ?_) (fun hg11 => ?_)
          ·
            first | (have hg11p := of_decide_eq_true hg11) | skip
            refine LS.vg rfl rfl rfl hg11 (by decide) (Val.move rfl) ?_
            refine LS.vg rfl rfl rfl hg11 (by decide) (Val.move rfl) ?_
            refine LS.vg rfl rfl rfl hg11 (by decide) (Val.eql rfl rfl) ?_
            refine LS.vv rfl rfl (by decide) (Val.pickT rfl hg11 rfl) ?_
            refine LS.nil ?_
            first | refine W.condD rfl (fun hc12 => ?_) (fun hc12 => ?_) | refine W.cond rfl (fun hc12 => ?_) (fun hc12 => ?_)
            ·
              obtain ⟨rfl, rfl⟩ := pair_only (a := I) (b := J) (i := i) (j := j) hJ hIJ (by omega) (by omega) (by omega) (by omega)
              refine W.seqR ?_
              refine LS.m rfl (Step.lit rfl rfl (by decide) Try.underlying35 elem4 rfl rfl (by omega) (by simp [Value.oneCell']) (Nat.le_refl _) ?_)
              rintro w20 hO20 hg20 hbl20 hsz20
              replace hM := hM.add hB.size hbl20 hO20
              try simp only [bv_app1, bv_app, bv_set, bv_rep, bv_one, bv_cons, bv_take, bv_drop, List.nil_append] at hM
              replace hB := hB.trans (hbl20.mono hB.size)
              generalize w19.heap.size = gg20 at *
              refine LS.vv rfl rfl (by decide) (Val.move rfl) ?_
              refine LS.m rfl (Step.append2 (B := w0.heap.size) rfl rfl (by decide) Try.underlying35 elem4 rfl rfl rfl rfl (hM.o0) ((hr.below hB)) (by first | rfl | (simp; done) | (simp; omega)) (by first | exact one_map _ (fun _ => rfl) _ | simp [Value.oneCell']) (by first | omega | (simp only [List.length_set]; omega)) (by first | omega | (simp only [List.length_set]; omega)) hB.size ?_)
              rintro p21 c21 w21 hO21 hg21 hbl21 hbk21
              replace hM := hM.s0 hg21 hO21 hbk21
              try simp only [bv_app1, bv_app, bv_set, bv_rep, bv_one, bv_cons, bv_take, bv_drop, List.nil_append] at hM
              replace hB := hB.trans hbl21
              have hfl1 := fl_len l i
              have hfl2 := fl_len (fl l i) j
              have hoc := hM.o0.le_cap
              refine LS.vv rfl rfl (by decide) (Val.assign rfl) ?_
              refine LS.nil ?_
              refine W.seqR ?_
              refine LS.vv rfl rfl (by decide) (Val.move rfl) ?_
              refine LS.vv rfl rfl (by decide) (Val.move rfl) ?_
              refine LS.vv rfl rfl (by decide) (Val.move rfl) ?_
              refine LS.vv rfl rfl (by decide) (Val.move rfl) ?_
              refine LS.vv rfl rfl (by decide) (Val.index1 Try.underlying35 elem4 rfl rfl (by first | omega | (simp only [List.length_set]; omega)) (hM.o0.rd) (bv_lt (by first | omega | (simp only [List.length_set]; omega)))) ?_
              refine LS.m rfl (Step.load rfl rfl (by decide) flat4 rfl (hM.o0.rd) (bv_at (by first | omega | (simp only [List.length_set]; omega))) ?_)
              refine LS.vv rfl rfl (by decide) (Val.not rfl) ?_
              refine LS.vv rfl rfl (by decide) (Val.index1 Try.underlying35 elem4 rfl rfl (by first | omega | (simp only [List.length_set]; omega)) (hM.o0.rd) (bv_lt (by first | omega | (simp only [List.length_set]; omega)))) ?_
              refine LS.m rfl (Step.store (B := w0.heap.size) rfl rfl flat4 elem4 rfl rfl rfl (hM.o0) (by first | omega | (simp only [List.length_set]; omega)) hB.size ?_)
              rintro w22 hO22 hg22 hbl22 hsz22
              replace hM := hM.s0 hg22 hO22 inl_block
              try simp only [bv_app1, bv_app, bv_set, bv_rep, bv_one, bv_cons, bv_take, bv_drop, List.nil_append] at hM
              replace hB := hB.trans hbl22
              refine LS.nil ?_
              refine W.seqR ?_
              refine LS.vv rfl rfl (by decide) (Val.cast (v := .int .i64 ((1 : Nat) : Int)) (Val.assign rfl) rfl) ?_
              refine LS.nil ?_
              refine W.seq ?_
              refine W.seqR ?_
              refine LS.vv rfl rfl (by decide) (Val.move rfl) ?_
              refine LS.vv rfl rfl (by decide) (Val.move rfl) ?_
              refine LS.vv rfl rfl (by decide) (Val.gtr rfl rfl) ?_
              refine LS.nil ?_
              first | refine W.condD rfl (fun hc13 => ?_) (fun hc13 => ?_) | refine W.cond rfl (fun hc13 => ?_) (fun hc13 => ?_)
              ·
                refine W.seqR ?_
                refine LS.vv rfl rfl (by decide) (Val.move rfl) ?_
                refine LS.vv rfl rfl (by decide) (Val.move rfl) ?_
                refine LS.vv rfl rfl (by decide) (Val.move rfl) ?_
                refine LS.vv rfl rfl (by decide) (Val.move rfl) ?_
                refine LS.vv rfl rfl (by decide) (Val.index1 Try.underlying35 elem4 rfl rfl (by first | omega | (simp only [List.length_set]; omega)) (hM.o0.rd) (bv_lt (by first | omega | (simp only [List.length_set]; omega)))) ?_
                refine LS.m rfl (Step.load rfl rfl (by decide) flat4 rfl (hM.o0.rd) (bv_at (by first | omega | (simp only [List.length_set]; omega))) ?_)
                refine LS.vv rfl rfl (by decide) (Val.not rfl) ?_
                refine LS.vv rfl rfl (by decide) (Val.index1 Try.underlying35 elem4 rfl rfl (by first | omega | (simp only [List.length_set]; omega)) (hM.o0.rd) (bv_lt (by first | omega | (simp only [List.length_set]; omega)))) ?_
                refine LS.m rfl (Step.store (B := w0.heap.size) rfl rfl flat4 elem4 rfl rfl rfl (hM.o0) (by first | omega | (simp only [List.length_set]; omega)) hB.size ?_)
                rintro w23 hO23 hg23 hbl23 hsz23
                replace hM := hM.s0 hg23 hO23 inl_block
                try simp only [bv_app1, bv_app, bv_set, bv_rep, bv_one, bv_cons, bv_take, bv_drop, List.nil_append] at hM
                replace hB := hB.trans hbl23
                refine LS.nil ?_
                refine W.reg ?_
                refine LS.vv rfl rfl (by decide) (Val.cast (v := .int .i64 ((2 : Nat) : Int)) (Val.assign rfl) rfl) ?_
                refine LS.nil ?_
                refine thenP_normal ?_
                refine W.seqR ?_
                refine LS.m rfl (Step.lit rfl rfl (by decide) Try.underlying35 elem4 rfl rfl (by omega) (by simp [Value.oneCell']) (Nat.le_refl _) ?_)
                rintro w24 hO24 hg24 hbl24 hsz24
                replace hM := hM.add hB.size hbl24 hO24
                try simp only [bv_app1, bv_app, bv_set, bv_rep, bv_one, bv_cons, bv_take, bv_drop, List.nil_append] at hM
                replace hB := hB.trans (hbl24.mono hB.size)
                generalize w23.heap.size = gg24 at *
                refine LS.vv rfl rfl (by decide) (Val.move rfl) ?_
                refine LS.vv rfl rfl (by decide) (Val.sliceTo (h := 7) Try.underlying35 elem4 rfl rfl (by first | omega | (simp only [List.length_set]; omega))) ?_
                refine LS.m rfl (Step.append2 (B := w0.heap.size) rfl rfl (by decide) Try.underlying35 elem4 rfl rfl rfl rfl (hM.o0) (((hM.o1).rd.take_bv (k := 7))) (by simp [bv, fl_len]; omega) (by first | exact one_map _ (fun _ => rfl) _ | simp [Value.oneCell']) (by first | omega | (simp only [List.length_set]; omega)) (by first | omega | (simp only [List.length_set]; omega)) hB.size ?_)
                rintro p25 c25 w25 hO25 hg25 hbl25 hbk25
                replace hM := hM.s0 hg25 hO25 hbk25
                try simp only [bv_app1, bv_app, bv_set, bv_rep, bv_one, bv_cons, bv_take, bv_drop, List.nil_append] at hM
                replace hB := hB.trans hbl25
                refine LS.vv rfl rfl (by decide) (Val.move rfl) ?_
                refine LS.vv rfl rfl (by decide) (Val.assign rfl) ?_
                refine LS.vv rfl rfl (by decide) (Val.assign rfl) ?_
                refine LS.vv rfl rfl (by decide) (Val.cast (v := .int .i64 ((0 : Nat) : Int)) (Val.assign rfl) rfl) ?_
                refine LS.nil ?_
                refine W.ret ?_
                refine inBlk_ret ?_
                refine thenP_ret ?_
                refine thenP_ret ?_
                refine inBlk_ret ?_
                refine inBlk_ret ?_
                refine thenP_ret ?_
                refine thenP_ret ?_
                refine inBlk_ret ?_
                refine thenP_ret ?_
                refine ret3 (by first | exact .inl rfl | exact .inr rfl) rfl rfl rfl ?_
                first | (exfalso; omega) | exact ⟨_, _, rfl, hM.o0, hB⟩
              ·
                exfalso; omega
            ·
              refine W.skip ?_
              refine inBlk_normal ?_
              refine thenP_normal ?_
              refine W.reg ?_
              refine LS.vv rfl rfl (by decide) (Val.move rfl) ?_
              first | refine LS.vv rfl rfl (by decide) (Val.addN (j := 1) rfl rfl (by first | omega | (simp only [List.length_set]; omega))) ?_ | refine LS.vv rfl rfl (by decide) (Val.add64 rfl rfl (by first | omega | (simp only [List.length_set]; omega))) ?_
              refine LS.vv rfl rfl (by decide) (Val.assign rfl) ?_
              refine LS.nil ?_
              refine thenP_normal ?_
              refine ⟨j + 1, ?_, ?_, ⟨⟨by omega, by omega, fun e => ?_⟩, hM.tail, hB⟩, by omega⟩
              · exact (Sub.cons rfl (Sub.nil _))
              · repeat (first | exact Sub.nil _ | refine Sub.cons rfl ?_)
              · have h1 := hjJ e
                by_cases e2 : j = J
                · exfalso; subst e; subst e2; simp_all
                · omega
          ·
            first | (have hg11p := of_decide_eq_false hg11) | skip
            refine LS.s rfl rfl rfl hg11 (by decide) ?_
            refine LS.s rfl rfl rfl hg11 (by decide) ?_
            refine LS.s rfl rfl rfl hg11 (by decide) ?_
            refine LS.vv rfl rfl (by decide) (Val.pickF rfl hg11 rfl) ?_
            refine LS.nil ?_
            refine W.condF rfl ?_
            refine W.skip ?_
            refine inBlk_normal ?_
            refine thenP_normal ?_
            refine W.reg ?_
            refine LS.vv rfl rfl (by decide) (Val.move rfl) ?_
            first | refine LS.vv rfl rfl (by decide) (Val.addN (j := 1) rfl rfl (by first | omega | (simp only [List.length_set]; omega))) ?_ | refine LS.vv rfl rfl (by decide) (Val.add64 rfl rfl (by first | omega | (simp only [List.length_set]; omega))) ?_
            refine LS.vv rfl rfl (by decide) (Val.assign rfl) ?_
            refine LS.nil ?_
            refine thenP_normal ?_
            refine ⟨j + 1, ?_, ?_, ⟨⟨by omega, by omega, fun e => ?_⟩, hM.tail, hB⟩, by omega⟩
            · exact (Sub.cons rfl (Sub.nil _))
            · repeat (first | exact Sub.nil _ | refine Sub.cons rfl ?_)
            · have h1 := hjJ e
              by_cases e2 : j = J
              · exfalso; subst e; subst e2; simp_all
              · omega
        ·
          refine W.exit ?_
          refine thenP_exit ?_
          refine thenP_exit ?_
          refine inBlk_exit ?_
          refine inBlk_normal ?_
          refine thenP_normal ?_
          refine W.reg ?_
          first | refine LS.vv rfl rfl (by decide) (Val.addN (j := 1) rfl rfl (by first | omega | (simp only [List.length_set]; omega))) ?_ | refine LS.vv rfl rfl (by decide) (Val.add64 rfl rfl (by first | omega | (simp only [List.length_set]; omega))) ?_
          refine LS.vv rfl rfl (by decide) (Val.move rfl) ?_
          refine LS.nil ?_
          refine thenP_normal ?_
          refine ⟨i + 1, ?_, ?_, ⟨by omega, hM, hB⟩, by omega⟩
          · exact (Sub.cons rfl (Sub.nil _))
          · repeat (first | exact Sub.nil _ | refine Sub.cons rfl ?_)
      ·
        refine W.exit ?_
        refine thenP_exit ?_
        refine thenP_exit ?_
        refine inBlk_exit ?_
        refine thenP_normal ?_
        refine W.seqR ?_
        refine LS.vv rfl rfl (by decide) (Val.assign rfl) ?_
        refine LS.vv rfl rfl (by decide) (Val.cast (v := .int .i64 ((0 : Nat) : Int)) (Val.assign rfl) rfl) ?_
        refine LS.vv rfl rfl (by decide) (Val.cast (v := .int .i64 ((5 : Nat) : Int)) (Val.assign rfl) rfl) ?_
        refine LS.nil ?_
        refine W.ret ?_
        refine ret3 (by first | exact .inl rfl | exact .inr rfl) rfl rfl rfl ?_
        first | (exfalso; omega) | exact ⟨_, _, rfl, hM.o0, hB⟩

end Go.Proofs.Ytnaebllojkodbaa
