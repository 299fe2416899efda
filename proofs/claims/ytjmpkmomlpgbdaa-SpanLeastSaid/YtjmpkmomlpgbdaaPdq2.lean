/-
  Sorting numbers: partitions.
-/
import Derived.Test.YtjmpkmomlpgbdaaPdq1
namespace Go.Proofs.Ytjmpkmomlpgbdaa
open Go Go.RowKit V
set_option linter.unusedVariables false
set_option linter.unusedSimpArgs false

theorem partition_u32 (d : Array Nat) (p : Option Addr) (n c B : Nat) (S : List Ob) (a b : Nat) (w0 : World) (hM0 : Mem w0 B (⟨37, p, n, c, uv d.toList⟩ :: S)) (hB0 : B ≤ w0.heap.size) (hn : d.size = n) (hn2 : n ≤ 1000000) (pv : Nat) (hap : a ≤ pv) (hpb : pv < b) (hb : b ≤ n) :
    CallsV Try.prog 68 #[.slice p n c, .int .i64 (a : Int), .int .i64 (b : Int), .int .i64 (pv : Int)] w0 (fun v w => ∃ r : Nat × Bool × Array Nat, Go.Sort.partition ltN d a b pv = r ∧ v = .tuple #[.int .i64 (r.1 : Int), .bool r.2.1] ∧ Mem w B (⟨37, p, n, c, uv r.2.2.toList⟩ :: S) ∧ Below B w0 w) := by
  refine enter2 Try.func68 rfl Try.ntmps68 (by simp) rfl ?_
  have hB := Below.refl B w0
  simp only [argLoc, Nat.zero_add, Nat.reduceAdd]
  have hM := hM0
  have hld : d.toList.length = n := by rw [Array.length_toList]; exact hn
  refine W.seqR ?_
  refine LS.vv rfl rfl (by decide) (Val.cast (v := .int .i64 ((0 : Nat) : Int)) (Val.assign rfl) rfl) ?_
  refine LS.vv rfl rfl (by decide) (Val.assign rfl) ?_
  refine LS.nil ?_
  refine W.mid (α := Unit) (fun _ => []) [(0, _), (1, _), (2, _)] (fun _ w => (True) ∧ Mem w B (⟨37, p, n, c, uv (Go.Sort.swp d a pv).toList⟩ :: S) ∧ Below B w0 w) (Sub.cons rfl (Sub.cons rfl (Sub.cons rfl (Sub.nil _)))) ?_ ?_
  ·
    refine W.regT (S := fun w => Below B w0 w) (.val 0 (.val 1 (.val 2 (.val 3 (.val 4 (.val 5 (.val 6 (.val 8 (.val 9 (.val 10 (.two (.mem 7 (.mem 11 (.val 12 (.mem 13 (.val 14 (.mem 15 (.done))))))) (.mem 11 (.mem 7 (.val 12 (.mem 13 (.val 14 (.mem 15 (.done)))))))))))))))))) mixed (by kernel_rfl) hB.drew ?_
    replace hB := hB.drew
    replace hM := hM.drew
    refine DT.vv rfl rfl rfl (by decide) (Val.move rfl) ?_
    refine DT.vv rfl rfl rfl (by decide) (Val.move rfl) ?_
    refine DT.vv rfl rfl rfl (by decide) (Val.move rfl) ?_
    refine DT.vv rfl rfl rfl (by decide) (Val.move rfl) ?_
    refine DT.vv rfl rfl rfl (by decide) (Val.move rfl) ?_
    refine DT.vv rfl rfl rfl (by decide) (Val.move rfl) ?_
    refine DT.vv rfl rfl rfl (by decide) (Val.index1 Try.underlying32 elem37 rfl rfl (by first | omega | (simp only [List.length_set]; omega)) (hM.o0.rd) (uv_lt (by first | omega | (simp only [List.length_set]; omega)))) ?_
    refine DT.vv rfl rfl rfl (by decide) (Val.move rfl) ?_
    refine DT.vv rfl rfl rfl (by decide) (Val.move rfl) ?_
    refine DT.vv rfl rfl rfl (by decide) (Val.index1 Try.underlying32 elem37 rfl rfl (by first | omega | (simp only [List.length_set]; omega)) (hM.o0.rd) (uv_lt (by first | omega | (simp only [List.length_set]; omega)))) ?_
    refine DT.two ?_ ?_
    ·
      refine DT.m rfl rfl (Step.load rfl rfl (by decide) flat37 rfl (hM.o0.rd) (uv_at (by first | omega | (simp only [List.length_set]; omega))) ?_)
      refine ⟨hB, ?_⟩
      refine DT.m rfl rfl (Step.load rfl rfl (by decide) flat37 rfl (hM.o0.rd) (uv_at (by first | omega | (simp only [List.length_set]; omega))) ?_)
      refine ⟨hB, ?_⟩
      refine DT.vv rfl rfl rfl (by decide) (Val.index1 Try.underlying32 elem37 rfl rfl (by first | omega | (simp only [List.length_set]; omega)) (hM.o0.rd) (uv_lt (by first | omega | (simp only [List.length_set]; omega)))) ?_
      refine DT.m rfl rfl (Step.store (B := B) rfl rfl flat37 elem37 rfl rfl rfl (hM.o0) (by first | omega | (simp only [List.length_set]; omega)) (Nat.le_trans hB0 hB.size) ?_)
      rintro w1 hO1 hg1 hbl1 hsz1
      replace hM := hM.s0 hg1 hO1 inl_block
      try simp only [uv_app1, uv_app, uv_set, uv_rep, uv_one, uv_cons, uv_take, uv_drop, List.nil_append] at hM
      replace hB := hB.trans hbl1
      refine ⟨hB, ?_⟩
      refine DT.vv rfl rfl rfl (by decide) (Val.index1 Try.underlying32 elem37 rfl rfl (by first | omega | (simp only [List.length_set]; omega)) (hM.o0.rd) (uv_lt (by first | omega | (simp only [List.length_set]; omega)))) ?_
      refine DT.m rfl rfl (Step.store (B := B) rfl rfl flat37 elem37 rfl rfl rfl (hM.o0) (by first | omega | (simp only [List.length_set]; omega)) (Nat.le_trans hB0 hB.size) ?_)
      rintro w2 hO2 hg2 hbl2 hsz2
      replace hM := hM.s0 hg2 hO2 inl_block
      try simp only [uv_app1, uv_app, uv_set, uv_rep, uv_one, uv_cons, uv_take, uv_drop, List.nil_append] at hM
      replace hB := hB.trans hbl2
      refine ⟨hB, ?_⟩
      refine DT.nil ?_
      refine thenP_normal ?_
      simp only [swpA] at hM
      try rw [swp_comm d pv a] at hM
      refine ⟨(), ?_, ?_, ⟨trivial, hM, hB⟩⟩
      · exact Sub.nil _
      · repeat (first | exact Sub.nil _ | refine Sub.cons rfl ?_)
    ·
      refine DT.m rfl rfl (Step.load rfl rfl (by decide) flat37 rfl (hM.o0.rd) (uv_at (by first | omega | (simp only [List.length_set]; omega))) ?_)
      refine ⟨hB, ?_⟩
      refine DT.m rfl rfl (Step.load rfl rfl (by decide) flat37 rfl (hM.o0.rd) (uv_at (by first | omega | (simp only [List.length_set]; omega))) ?_)
      refine ⟨hB, ?_⟩
      refine DT.vv rfl rfl rfl (by decide) (Val.index1 Try.underlying32 elem37 rfl rfl (by first | omega | (simp only [List.length_set]; omega)) (hM.o0.rd) (uv_lt (by first | omega | (simp only [List.length_set]; omega)))) ?_
      refine DT.m rfl rfl (Step.store (B := B) rfl rfl flat37 elem37 rfl rfl rfl (hM.o0) (by first | omega | (simp only [List.length_set]; omega)) (Nat.le_trans hB0 hB.size) ?_)
      rintro w3 hO3 hg3 hbl3 hsz3
      replace hM := hM.s0 hg3 hO3 inl_block
      try simp only [uv_app1, uv_app, uv_set, uv_rep, uv_one, uv_cons, uv_take, uv_drop, List.nil_append] at hM
      replace hB := hB.trans hbl3
      refine ⟨hB, ?_⟩
      refine DT.vv rfl rfl rfl (by decide) (Val.index1 Try.underlying32 elem37 rfl rfl (by first | omega | (simp only [List.length_set]; omega)) (hM.o0.rd) (uv_lt (by first | omega | (simp only [List.length_set]; omega)))) ?_
      refine DT.m rfl rfl (Step.store (B := B) rfl rfl flat37 elem37 rfl rfl rfl (hM.o0) (by first | omega | (simp only [List.length_set]; omega)) (Nat.le_trans hB0 hB.size) ?_)
      rintro w4 hO4 hg4 hbl4 hsz4
      replace hM := hM.s0 hg4 hO4 inl_block
      try simp only [uv_app1, uv_app, uv_set, uv_rep, uv_one, uv_cons, uv_take, uv_drop, List.nil_append] at hM
      replace hB := hB.trans hbl4
      refine ⟨hB, ?_⟩
      refine DT.nil ?_
      refine thenP_normal ?_
      simp only [swpA] at hM
      try rw [swp_comm d pv a] at hM
      refine ⟨(), ?_, ?_, ⟨trivial, hM, hB⟩⟩
      · exact Sub.nil _
      · repeat (first | exact Sub.nil _ | refine Sub.cons rfl ?_)
  ·
    rintro _ w5 ⟨_, hM, hB⟩
    simp only [List.cons_append, List.nil_append]
    try simp only at hM
    generalize hd1 : Go.Sort.swp d a pv = d1 at *
    have hd1n : d1.size = n := by rw [← hd1, swp_size]; exact hn
    have hld1 : d1.toList.length = n := by rw [Array.length_toList]; first | assumption | omega
    refine W.seqR ?_
    refine LS.vv rfl rfl (by decide) (Val.move rfl) ?_
    first | refine LS.vv rfl rfl (by decide) (Val.addN (j := 1) rfl rfl (by first | omega | (simp only [List.length_set]; omega))) ?_ | refine LS.vv rfl rfl (by decide) (Val.add64 rfl rfl (by first | omega | (simp only [List.length_set]; omega))) ?_
    refine LS.vv rfl rfl (by decide) (Val.move rfl) ?_
    first | refine LS.vv rfl rfl (by decide) (Val.subN (j := 1) rfl rfl (by first | omega | (simp only [List.length_set]; omega)) (by first | omega | (simp only [List.length_set]; omega))) ?_ | refine LS.vv rfl rfl (by decide) (Val.sub64 rfl rfl (by first | omega | (simp only [List.length_set]; omega))) ?_
    refine LS.vv rfl rfl (by decide) (Val.assign rfl) ?_
    refine LS.vv rfl rfl (by decide) (Val.assign rfl) ?_
    refine LS.nil ?_
    refine W.seq ?_
    refine W.block ?_
    refine W.loop (α := Nat) (fun i => [(10, .int .i64 (i : Int))]) [(0, _), (1, _), (11, _)] (fun i w => (Go.Sort.scanUp (fun x => ltN x d1[a]!) d1 (b - 1) i = Go.Sort.scanUp (fun x => ltN x d1[a]!) d1 (b - 1) (a + 1) ∧ a + 1 ≤ i ∧ i ≤ b) ∧ Mem w B (⟨37, p, n, c, uv d1.toList⟩ :: S) ∧ Below B w0 w) (fun i => b - i) (a + 1) (Sub.cons rfl (Sub.nil _)) (Sub.cons rfl (Sub.cons rfl (Sub.cons rfl (Sub.nil _)))) ?_ ?_
    · exact ⟨⟨rfl, Nat.le_refl _, by omega⟩, hM, hB⟩
    rintro i w6 ⟨⟨hI, hi1, hib⟩, hM, hB⟩
    try simp only at hM
    simp only [List.cons_append, List.nil_append]
    refine W.seq ?_
    refine W.mid (α := Unit) (fun _ => [(43, .bool (decide (i ≤ b - 1 ∧ gn d1.toList i < gn d1.toList a)))]) [(0, _), (1, _), (10, _), (11, _)] (fun _ w => (True) ∧ Mem w B (⟨37, p, n, c, uv d1.toList⟩ :: S) ∧ Below B w0 w) (Sub.cons rfl (Sub.cons rfl (Sub.cons rfl (Sub.cons rfl (Sub.nil _))))) ?_ ?_
    ·
      refine W.regF 14 [(0, true), (1, true), (2, true), (3, true), (4, true), (5, true), (6, true), (7, true), (8, true), (9, true), (10, true), (11, true), (12, false), (13, true)] mixed (by kernel_rfl) hB hM ?_
      replace hB := hB.drew
      replace hM := hM.drew
      refine DF.vv rfl rfl rfl (by decide) (Val.move rfl) ?_
      refine DF.vv rfl rfl rfl (by decide) (Val.move rfl) ?_
      refine DF.vv rfl rfl rfl (by decide) (Val.leq rfl rfl) ?_
      refine DF.vv rfl rfl rfl (by decide) (Val.move rfl) ?_
      refine DF.split 3 rfl (fun hg1 => ?_) (fun hg1 => ?_)
      ·
        first | (have hg1p := of_decide_eq_true hg1) | skip
        refine DF.vg rfl rfl rfl rfl hg1 (by decide) (Val.move rfl) ?_
        refine DF.vg rfl rfl rfl rfl hg1 (by decide) (Val.move rfl) ?_
        refine DF.vg rfl rfl rfl rfl hg1 (by decide) (Val.index1 Try.underlying32 elem37 rfl rfl (by first | omega | (simp only [List.length_set]; omega)) (hM.o0.rd) (uv_lt (by first | omega | (simp only [List.length_set]; omega)))) ?_
        refine DF.vg rfl rfl rfl rfl hg1 (by decide) (Val.load flat37 rfl (fun _ h => h.2.o0.rd) (uv_at (by first | omega | (simp only [List.length_set]; omega)))) ?_
        refine DF.vg rfl rfl rfl rfl hg1 (by decide) (Val.move rfl) ?_
        refine DF.vg rfl rfl rfl rfl hg1 (by decide) (Val.move rfl) ?_
        refine DF.vg rfl rfl rfl rfl hg1 (by decide) (Val.index1 Try.underlying32 elem37 rfl rfl (by first | omega | (simp only [List.length_set]; omega)) (hM.o0.rd) (uv_lt (by first | omega | (simp only [List.length_set]; omega)))) ?_
        refine DF.vg rfl rfl rfl rfl hg1 (by decide) (Val.load flat37 rfl (fun _ h => h.2.o0.rd) (uv_at (by first | omega | (simp only [List.length_set]; omega)))) ?_
        refine DF.mg rfl rfl rfl hg1 (Step.call body66 rfl rfl (by decide) rfl (CallsV.mono (less_u32 (gn d1.toList i) (gn d1.toList a) _) ?_))
        rintro _ w7 ⟨rfl, hb7⟩
        replace hM := hM.below hb7
        replace hB := hB.trans (hb7.mono (Nat.le_trans hB0 hB.size))
        refine ⟨fun _ => ⟨hB, hM⟩, ?_⟩
        refine DF.vv rfl rfl rfl (by decide) (Val.pickT rfl hg1 rfl) ?_
        refine DF.nil ?_
        refine thenP_normal ?_
        refine ⟨(), ?_, ?_, ⟨trivial, hM, hB⟩⟩
        · exact Sub.cons' rfl (congrArg Value.bool (by first | exact decide_eq_decide.2 (by omega) | (rw [← decide_not]; exact decide_eq_decide.2 (by omega)) | exact (decide_eq_false (by omega)).symm | exact (decide_eq_true (by omega)).symm)) (Sub.nil _)
        · repeat (first | exact Sub.nil _ | refine Sub.cons rfl ?_)
      ·
        first | (have hg1p := of_decide_eq_false hg1) | skip
        refine DF.s rfl rfl rfl rfl hg1 (by decide) ?_
        refine DF.s rfl rfl rfl rfl hg1 (by decide) ?_
        refine DF.s rfl rfl rfl rfl hg1 (by decide) ?_
        refine DF.s rfl rfl rfl rfl hg1 (by decide) ?_
        refine DF.s rfl rfl rfl rfl hg1 (by decide) ?_
        refine DF.s rfl rfl rfl rfl hg1 (by decide) ?_
        refine DF.s rfl rfl rfl rfl hg1 (by decide) ?_
        refine DF.s rfl rfl rfl rfl hg1 (by decide) ?_
        refine DF.s rfl rfl rfl rfl hg1 (by decide) ?_
        refine DF.vv rfl rfl rfl (by decide) (Val.pickF rfl hg1 rfl) ?_
        refine DF.nil ?_
        refine thenP_normal ?_
        refine ⟨(), ?_, ?_, ⟨trivial, hM, hB⟩⟩
        · exact Sub.cons' rfl (congrArg Value.bool (by first | exact decide_eq_decide.2 (by omega) | (rw [← decide_not]; exact decide_eq_decide.2 (by omega)) | exact (decide_eq_false (by omega)).symm | exact (decide_eq_true (by omega)).symm)) (Sub.nil _)
        · repeat (first | exact Sub.nil _ | refine Sub.cons rfl ?_)
    ·
      rintro _ w8 ⟨_, hM, hB⟩
      simp only [List.cons_append, List.nil_append]
      try simp only at hM
      first | refine W.condD rfl (fun hc2 => ?_) (fun hc2 => ?_) | refine W.cond rfl (fun hc2 => ?_) (fun hc2 => ?_)
      ·
        refine W.skip ?_
        refine thenP_normal ?_
        refine W.block ?_
        refine W.reg ?_
        refine LS.vv rfl rfl (by decide) (Val.move rfl) ?_
        first | refine LS.vv rfl rfl (by decide) (Val.addN (j := 1) rfl rfl (by first | omega | (simp only [List.length_set]; omega))) ?_ | refine LS.vv rfl rfl (by decide) (Val.add64 rfl rfl (by first | omega | (simp only [List.length_set]; omega))) ?_
        refine LS.vv rfl rfl (by decide) (Val.assign rfl) ?_
        refine LS.nil ?_
        refine inBlk_normal ?_
        refine thenP_normal ?_
        rw [up_yes (by omega) (by show ltN _ _ = true; rw [← gnA]; exact ltN_yes (by omega))] at hI
        refine ⟨i + 1, ?_, ?_, ⟨⟨hI, by omega, by omega⟩, hM, hB⟩, by omega⟩
        · exact (Sub.cons rfl (Sub.nil _))
        · repeat (first | exact Sub.nil _ | refine Sub.cons rfl ?_)
      ·
        refine W.exit ?_
        refine thenP_exit ?_
        refine thenP_exit ?_
        refine inBlk_exit ?_
        refine thenP_normal ?_
        refine W.seq ?_
        refine W.block ?_
        have hi0 : Go.Sort.scanUp (fun x => ltN x d1[a]!) d1 (b - 1) (a + 1) = i := by rw [← hI]; exact up_no (fun h1 => (by show ltN _ _ = false; rw [← gnA]; exact ltN_no (by omega)))
        refine W.loop (α := Nat) (fun j => [(11, .int .i64 (j : Int))]) [(0, _), (1, _), (10, _)] (fun j w => (Go.Sort.scanDown (fun x => !ltN x d1[a]!) d1 i j = Go.Sort.scanDown (fun x => !ltN x d1[a]!) d1 i (b - 1) ∧ a ≤ j ∧ j ≤ b - 1) ∧ Mem w B (⟨37, p, n, c, uv d1.toList⟩ :: S) ∧ Below B w0 w) (fun j => j) (b - 1) (Sub.cons rfl (Sub.nil _)) (Sub.cons rfl (Sub.cons rfl (Sub.cons rfl (Sub.nil _)))) ?_ ?_
        · exact ⟨⟨rfl, by omega, Nat.le_refl _⟩, hM, hB⟩
        rintro j w9 ⟨⟨hJ, hj1, hjb⟩, hM, hB⟩
        try simp only at hM
        simp only [List.cons_append, List.nil_append]
        refine W.seq ?_
        refine W.mid (α := Unit) (fun _ => [(60, .bool (decide (i ≤ j ∧ ¬ gn d1.toList j < gn d1.toList a)))]) [(0, _), (1, _), (10, _), (11, _)] (fun _ w => (True) ∧ Mem w B (⟨37, p, n, c, uv d1.toList⟩ :: S) ∧ Below B w0 w) (Sub.cons rfl (Sub.cons rfl (Sub.cons rfl (Sub.cons rfl (Sub.nil _))))) ?_ ?_
        ·
          refine W.regF 15 [(0, true), (1, true), (2, true), (3, true), (4, true), (5, true), (6, true), (7, true), (8, true), (9, true), (10, true), (11, true), (12, false), (13, true), (14, true)] mixed (by kernel_rfl) hB hM ?_
          replace hB := hB.drew
          replace hM := hM.drew
          refine DF.vv rfl rfl rfl (by decide) (Val.move rfl) ?_
          refine DF.vv rfl rfl rfl (by decide) (Val.move rfl) ?_
          refine DF.vv rfl rfl rfl (by decide) (Val.leq rfl rfl) ?_
          refine DF.vv rfl rfl rfl (by decide) (Val.move rfl) ?_
          refine DF.split 3 rfl (fun hg3 => ?_) (fun hg3 => ?_)
          ·
            first | (have hg3p := of_decide_eq_true hg3) | skip
            refine DF.vg rfl rfl rfl rfl hg3 (by decide) (Val.move rfl) ?_
            refine DF.vg rfl rfl rfl rfl hg3 (by decide) (Val.move rfl) ?_
            refine DF.vg rfl rfl rfl rfl hg3 (by decide) (Val.index1 Try.underlying32 elem37 rfl rfl (by first | omega | (simp only [List.length_set]; omega)) (hM.o0.rd) (uv_lt (by first | omega | (simp only [List.length_set]; omega)))) ?_
            refine DF.vg rfl rfl rfl rfl hg3 (by decide) (Val.load flat37 rfl (fun _ h => h.2.o0.rd) (uv_at (by first | omega | (simp only [List.length_set]; omega)))) ?_
            refine DF.vg rfl rfl rfl rfl hg3 (by decide) (Val.move rfl) ?_
            refine DF.vg rfl rfl rfl rfl hg3 (by decide) (Val.move rfl) ?_
            refine DF.vg rfl rfl rfl rfl hg3 (by decide) (Val.index1 Try.underlying32 elem37 rfl rfl (by first | omega | (simp only [List.length_set]; omega)) (hM.o0.rd) (uv_lt (by first | omega | (simp only [List.length_set]; omega)))) ?_
            refine DF.vg rfl rfl rfl rfl hg3 (by decide) (Val.load flat37 rfl (fun _ h => h.2.o0.rd) (uv_at (by first | omega | (simp only [List.length_set]; omega)))) ?_
            refine DF.mg rfl rfl rfl hg3 (Step.call body66 rfl rfl (by decide) rfl (CallsV.mono (less_u32 (gn d1.toList j) (gn d1.toList a) _) ?_))
            rintro _ w10 ⟨rfl, hb10⟩
            replace hM := hM.below hb10
            replace hB := hB.trans (hb10.mono (Nat.le_trans hB0 hB.size))
            refine ⟨fun _ => ⟨hB, hM⟩, ?_⟩
            refine DF.vg rfl rfl rfl rfl hg3 (by decide) (Val.not rfl) ?_
            refine DF.vv rfl rfl rfl (by decide) (Val.pickT rfl hg3 rfl) ?_
            refine DF.nil ?_
            refine thenP_normal ?_
            refine ⟨(), ?_, ?_, ⟨trivial, hM, hB⟩⟩
            · exact Sub.cons' rfl (congrArg Value.bool (by first | exact decide_eq_decide.2 (by omega) | (rw [← decide_not]; exact decide_eq_decide.2 (by omega)) | exact (decide_eq_false (by omega)).symm | exact (decide_eq_true (by omega)).symm)) (Sub.nil _)
            · repeat (first | exact Sub.nil _ | refine Sub.cons rfl ?_)
          ·
            first | (have hg3p := of_decide_eq_false hg3) | skip
            refine DF.s rfl rfl rfl rfl hg3 (by decide) ?_
            refine DF.s rfl rfl rfl rfl hg3 (by decide) ?_
            refine DF.s rfl rfl rfl rfl hg3 (by decide) ?_
            refine DF.s rfl rfl rfl rfl hg3 (by decide) ?_
            refine DF.s rfl rfl rfl rfl hg3 (by decide) ?_
            refine DF.s rfl rfl rfl rfl hg3 (by decide) ?_
            refine DF.s rfl rfl rfl rfl hg3 (by decide) ?_
            refine DF.s rfl rfl rfl rfl hg3 (by decide) ?_
            refine DF.s rfl rfl rfl rfl hg3 (by decide) ?_
            refine DF.s rfl rfl rfl rfl hg3 (by decide) ?_
            refine DF.vv rfl rfl rfl (by decide) (Val.pickF rfl hg3 rfl) ?_
            refine DF.nil ?_
            refine thenP_normal ?_
            refine ⟨(), ?_, ?_, ⟨trivial, hM, hB⟩⟩
            · exact Sub.cons' rfl (congrArg Value.bool (by first | exact decide_eq_decide.2 (by omega) | (rw [← decide_not]; exact decide_eq_decide.2 (by omega)) | exact (decide_eq_false (by omega)).symm | exact (decide_eq_true (by omega)).symm)) (Sub.nil _)
            · repeat (first | exact Sub.nil _ | refine Sub.cons rfl ?_)
        ·
          rintro _ w11 ⟨_, hM, hB⟩
          simp only [List.cons_append, List.nil_append]
          try simp only at hM
          first | refine W.condD rfl (fun hc4 => ?_) (fun hc4 => ?_) | refine W.cond rfl (fun hc4 => ?_) (fun hc4 => ?_)
          ·
            refine W.skip ?_
            refine thenP_normal ?_
            refine W.block ?_
            refine W.reg ?_
            refine LS.vv rfl rfl (by decide) (Val.move rfl) ?_
            first | refine LS.vv rfl rfl (by decide) (Val.subN (j := 1) rfl rfl (by first | omega | (simp only [List.length_set]; omega)) (by first | omega | (simp only [List.length_set]; omega))) ?_ | refine LS.vv rfl rfl (by decide) (Val.sub64 rfl rfl (by first | omega | (simp only [List.length_set]; omega))) ?_
            refine LS.vv rfl rfl (by decide) (Val.assign rfl) ?_
            refine LS.nil ?_
            refine inBlk_normal ?_
            refine thenP_normal ?_
            rw [down_yes (by omega) (by omega) (by show (!ltN _ _) = true; rw [← gnA, ltN_no (by omega)]; rfl)] at hJ
            refine ⟨j - 1, ?_, ?_, ⟨⟨hJ, by omega, by omega⟩, hM, hB⟩, by omega⟩
            · exact (Sub.cons rfl (Sub.nil _))
            · repeat (first | exact Sub.nil _ | refine Sub.cons rfl ?_)
          ·
            refine W.exit ?_
            refine thenP_exit ?_
            refine thenP_exit ?_
            refine inBlk_exit ?_
            refine thenP_normal ?_
            refine W.seq ?_
            refine W.seqR ?_
            refine LS.vv rfl rfl (by decide) (Val.move rfl) ?_
            refine LS.vv rfl rfl (by decide) (Val.move rfl) ?_
            refine LS.vv rfl rfl (by decide) (Val.gtr rfl rfl) ?_
            refine LS.nil ?_
            first | refine W.condD rfl (fun hc5 => ?_) (fun hc5 => ?_) | refine W.cond rfl (fun hc5 => ?_) (fun hc5 => ?_)
            ·
              have hj0 : Go.Sort.scanDown (fun x => !ltN x d1[a]!) d1 i (b - 1) = j := by rw [← hJ]; exact down_no (fun h1 => (by show (!ltN _ _) = false; rw [← gnA, ltN_yes (by omega)]; rfl))
              refine W.seqT (S := fun w => Below B w0 w) (.val 0 (.val 1 (.val 2 (.val 3 (.val 4 (.val 5 (.val 6 (.val 8 (.val 9 (.val 10 (.two (.mem 7 (.mem 11 (.val 12 (.mem 13 (.val 14 (.mem 15 (.done))))))) (.mem 11 (.mem 7 (.val 12 (.mem 13 (.val 14 (.mem 15 (.done)))))))))))))))))) mixed (by kernel_rfl) hB.drew ?_
              replace hB := hB.drew
              replace hM := hM.drew
              refine DT.vv rfl rfl rfl (by decide) (Val.move rfl) ?_
              refine DT.vv rfl rfl rfl (by decide) (Val.move rfl) ?_
              refine DT.vv rfl rfl rfl (by decide) (Val.move rfl) ?_
              refine DT.vv rfl rfl rfl (by decide) (Val.move rfl) ?_
              refine DT.vv rfl rfl rfl (by decide) (Val.move rfl) ?_
              refine DT.vv rfl rfl rfl (by decide) (Val.move rfl) ?_
              refine DT.vv rfl rfl rfl (by decide) (Val.index1 Try.underlying32 elem37 rfl rfl (by first | omega | (simp only [List.length_set]; omega)) (hM.o0.rd) (uv_lt (by first | omega | (simp only [List.length_set]; omega)))) ?_
              refine DT.vv rfl rfl rfl (by decide) (Val.move rfl) ?_
              refine DT.vv rfl rfl rfl (by decide) (Val.move rfl) ?_
              refine DT.vv rfl rfl rfl (by decide) (Val.index1 Try.underlying32 elem37 rfl rfl (by first | omega | (simp only [List.length_set]; omega)) (hM.o0.rd) (uv_lt (by first | omega | (simp only [List.length_set]; omega)))) ?_
              refine DT.two ?_ ?_
              ·
                refine DT.m rfl rfl (Step.load rfl rfl (by decide) flat37 rfl (hM.o0.rd) (uv_at (by first | omega | (simp only [List.length_set]; omega))) ?_)
                refine ⟨hB, ?_⟩
                refine DT.m rfl rfl (Step.load rfl rfl (by decide) flat37 rfl (hM.o0.rd) (uv_at (by first | omega | (simp only [List.length_set]; omega))) ?_)
                refine ⟨hB, ?_⟩
                refine DT.vv rfl rfl rfl (by decide) (Val.index1 Try.underlying32 elem37 rfl rfl (by first | omega | (simp only [List.length_set]; omega)) (hM.o0.rd) (uv_lt (by first | omega | (simp only [List.length_set]; omega)))) ?_
                refine DT.m rfl rfl (Step.store (B := B) rfl rfl flat37 elem37 rfl rfl rfl (hM.o0) (by first | omega | (simp only [List.length_set]; omega)) (Nat.le_trans hB0 hB.size) ?_)
                rintro w12 hO12 hg12 hbl12 hsz12
                replace hM := hM.s0 hg12 hO12 inl_block
                try simp only [uv_app1, uv_app, uv_set, uv_rep, uv_one, uv_cons, uv_take, uv_drop, List.nil_append] at hM
                replace hB := hB.trans hbl12
                refine ⟨hB, ?_⟩
                refine DT.vv rfl rfl rfl (by decide) (Val.index1 Try.underlying32 elem37 rfl rfl (by first | omega | (simp only [List.length_set]; omega)) (hM.o0.rd) (uv_lt (by first | omega | (simp only [List.length_set]; omega)))) ?_
                refine DT.m rfl rfl (Step.store (B := B) rfl rfl flat37 elem37 rfl rfl rfl (hM.o0) (by first | omega | (simp only [List.length_set]; omega)) (Nat.le_trans hB0 hB.size) ?_)
                rintro w13 hO13 hg13 hbl13 hsz13
                replace hM := hM.s0 hg13 hO13 inl_block
                try simp only [uv_app1, uv_app, uv_set, uv_rep, uv_one, uv_cons, uv_take, uv_drop, List.nil_append] at hM
                replace hB := hB.trans hbl13
                refine ⟨hB, ?_⟩
                refine DT.nil ?_
                refine W.seqR ?_
                refine LS.vv rfl rfl (by decide) (Val.move rfl) ?_
                refine LS.vv rfl rfl (by decide) (Val.assign rfl) ?_
                refine LS.vv rfl rfl (by decide) (Val.assign rfl) ?_
                refine LS.nil ?_
                refine W.ret ?_
                refine thenP_ret ?_
                refine ret2 (by first | exact .inl rfl | exact .inr rfl) rfl rfl ?_
                first
                  | (simp only [swpA] at hM
                     try rw [swp_comm d1 a j] at hM
                     exact ⟨(j, true, Go.Sort.swp d1 j a), part_yes hd1 hi0 hj0 (by omega), rfl, hM, hB⟩)
                  | (simp only [swpA] at hM
                     try rw [swp_comm D a j2] at hM
                     refine ⟨(j2, false, Go.Sort.swp D j2 a), ?_, rfl, hM, hB⟩
                     rw [part_no hd1 hi0 hj0 (by omega), ← hP])
              ·
                refine DT.m rfl rfl (Step.load rfl rfl (by decide) flat37 rfl (hM.o0.rd) (uv_at (by first | omega | (simp only [List.length_set]; omega))) ?_)
                refine ⟨hB, ?_⟩
                refine DT.m rfl rfl (Step.load rfl rfl (by decide) flat37 rfl (hM.o0.rd) (uv_at (by first | omega | (simp only [List.length_set]; omega))) ?_)
                refine ⟨hB, ?_⟩
                refine DT.vv rfl rfl rfl (by decide) (Val.index1 Try.underlying32 elem37 rfl rfl (by first | omega | (simp only [List.length_set]; omega)) (hM.o0.rd) (uv_lt (by first | omega | (simp only [List.length_set]; omega)))) ?_
                refine DT.m rfl rfl (Step.store (B := B) rfl rfl flat37 elem37 rfl rfl rfl (hM.o0) (by first | omega | (simp only [List.length_set]; omega)) (Nat.le_trans hB0 hB.size) ?_)
                rintro w14 hO14 hg14 hbl14 hsz14
                replace hM := hM.s0 hg14 hO14 inl_block
                try simp only [uv_app1, uv_app, uv_set, uv_rep, uv_one, uv_cons, uv_take, uv_drop, List.nil_append] at hM
                replace hB := hB.trans hbl14
                refine ⟨hB, ?_⟩
                refine DT.vv rfl rfl rfl (by decide) (Val.index1 Try.underlying32 elem37 rfl rfl (by first | omega | (simp only [List.length_set]; omega)) (hM.o0.rd) (uv_lt (by first | omega | (simp only [List.length_set]; omega)))) ?_
                refine DT.m rfl rfl (Step.store (B := B) rfl rfl flat37 elem37 rfl rfl rfl (hM.o0) (by first | omega | (simp only [List.length_set]; omega)) (Nat.le_trans hB0 hB.size) ?_)
                rintro w15 hO15 hg15 hbl15 hsz15
                replace hM := hM.s0 hg15 hO15 inl_block
                try simp only [uv_app1, uv_app, uv_set, uv_rep, uv_one, uv_cons, uv_take, uv_drop, List.nil_append] at hM
                replace hB := hB.trans hbl15
                refine ⟨hB, ?_⟩
                refine DT.nil ?_
                refine W.seqR ?_
                refine LS.vv rfl rfl (by decide) (Val.move rfl) ?_
                refine LS.vv rfl rfl (by decide) (Val.assign rfl) ?_
                refine LS.vv rfl rfl (by decide) (Val.assign rfl) ?_
                refine LS.nil ?_
                refine W.ret ?_
                refine thenP_ret ?_
                refine ret2 (by first | exact .inl rfl | exact .inr rfl) rfl rfl ?_
                first
                  | (simp only [swpA] at hM
                     try rw [swp_comm d1 a j] at hM
                     exact ⟨(j, true, Go.Sort.swp d1 j a), part_yes hd1 hi0 hj0 (by omega), rfl, hM, hB⟩)
                  | (simp only [swpA] at hM
                     try rw [swp_comm D a j2] at hM
                     refine ⟨(j2, false, Go.Sort.swp D j2 a), ?_, rfl, hM, hB⟩
                     rw [part_no hd1 hi0 hj0 (by omega), ← hP])
            ·
              have hj0 : Go.Sort.scanDown (fun x => !ltN x d1[a]!) d1 i (b - 1) = j := by rw [← hJ]; exact down_no (fun h1 => (by show (!ltN _ _) = false; rw [← gnA, ltN_yes (by omega)]; rfl))
              refine W.skip ?_
              refine thenP_normal ?_
              refine W.mid (α := Unit) (fun _ => []) [(0, _), (1, _), (10, _), (11, _)] (fun _ w => (True) ∧ Mem w B (⟨37, p, n, c, uv (Go.Sort.swp d1 i j).toList⟩ :: S) ∧ Below B w0 w) (Sub.cons rfl (Sub.cons rfl (Sub.cons rfl (Sub.cons rfl (Sub.nil _))))) ?_ ?_
              ·
                refine W.regT (S := fun w => Below B w0 w) (.val 0 (.val 1 (.val 2 (.val 3 (.val 4 (.val 5 (.val 6 (.val 8 (.val 9 (.val 10 (.two (.mem 7 (.mem 11 (.val 12 (.mem 13 (.val 14 (.mem 15 (.done))))))) (.mem 11 (.mem 7 (.val 12 (.mem 13 (.val 14 (.mem 15 (.done)))))))))))))))))) mixed (by kernel_rfl) hB.drew ?_
                replace hB := hB.drew
                replace hM := hM.drew
                refine DT.vv rfl rfl rfl (by decide) (Val.move rfl) ?_
                refine DT.vv rfl rfl rfl (by decide) (Val.move rfl) ?_
                refine DT.vv rfl rfl rfl (by decide) (Val.move rfl) ?_
                refine DT.vv rfl rfl rfl (by decide) (Val.move rfl) ?_
                refine DT.vv rfl rfl rfl (by decide) (Val.move rfl) ?_
                refine DT.vv rfl rfl rfl (by decide) (Val.move rfl) ?_
                refine DT.vv rfl rfl rfl (by decide) (Val.index1 Try.underlying32 elem37 rfl rfl (by first | omega | (simp only [List.length_set]; omega)) (hM.o0.rd) (uv_lt (by first | omega | (simp only [List.length_set]; omega)))) ?_
                refine DT.vv rfl rfl rfl (by decide) (Val.move rfl) ?_
                refine DT.vv rfl rfl rfl (by decide) (Val.move rfl) ?_
                refine DT.vv rfl rfl rfl (by decide) (Val.index1 Try.underlying32 elem37 rfl rfl (by first | omega | (simp only [List.length_set]; omega)) (hM.o0.rd) (uv_lt (by first | omega | (simp only [List.length_set]; omega)))) ?_
                refine DT.two ?_ ?_
                ·
                  refine DT.m rfl rfl (Step.load rfl rfl (by decide) flat37 rfl (hM.o0.rd) (uv_at (by first | omega | (simp only [List.length_set]; omega))) ?_)
                  refine ⟨hB, ?_⟩
                  refine DT.m rfl rfl (Step.load rfl rfl (by decide) flat37 rfl (hM.o0.rd) (uv_at (by first | omega | (simp only [List.length_set]; omega))) ?_)
                  refine ⟨hB, ?_⟩
                  refine DT.vv rfl rfl rfl (by decide) (Val.index1 Try.underlying32 elem37 rfl rfl (by first | omega | (simp only [List.length_set]; omega)) (hM.o0.rd) (uv_lt (by first | omega | (simp only [List.length_set]; omega)))) ?_
                  refine DT.m rfl rfl (Step.store (B := B) rfl rfl flat37 elem37 rfl rfl rfl (hM.o0) (by first | omega | (simp only [List.length_set]; omega)) (Nat.le_trans hB0 hB.size) ?_)
                  rintro w16 hO16 hg16 hbl16 hsz16
                  replace hM := hM.s0 hg16 hO16 inl_block
                  try simp only [uv_app1, uv_app, uv_set, uv_rep, uv_one, uv_cons, uv_take, uv_drop, List.nil_append] at hM
                  replace hB := hB.trans hbl16
                  refine ⟨hB, ?_⟩
                  refine DT.vv rfl rfl rfl (by decide) (Val.index1 Try.underlying32 elem37 rfl rfl (by first | omega | (simp only [List.length_set]; omega)) (hM.o0.rd) (uv_lt (by first | omega | (simp only [List.length_set]; omega)))) ?_
                  refine DT.m rfl rfl (Step.store (B := B) rfl rfl flat37 elem37 rfl rfl rfl (hM.o0) (by first | omega | (simp only [List.length_set]; omega)) (Nat.le_trans hB0 hB.size) ?_)
                  rintro w17 hO17 hg17 hbl17 hsz17
                  replace hM := hM.s0 hg17 hO17 inl_block
                  try simp only [uv_app1, uv_app, uv_set, uv_rep, uv_one, uv_cons, uv_take, uv_drop, List.nil_append] at hM
                  replace hB := hB.trans hbl17
                  refine ⟨hB, ?_⟩
                  refine DT.nil ?_
                  refine thenP_normal ?_
                  simp only [swpA] at hM
                  try rw [swp_comm d1 j i] at hM
                  refine ⟨(), ?_, ?_, ⟨trivial, hM, hB⟩⟩
                  · exact Sub.nil _
                  · repeat (first | exact Sub.nil _ | refine Sub.cons rfl ?_)
                ·
                  refine DT.m rfl rfl (Step.load rfl rfl (by decide) flat37 rfl (hM.o0.rd) (uv_at (by first | omega | (simp only [List.length_set]; omega))) ?_)
                  refine ⟨hB, ?_⟩
                  refine DT.m rfl rfl (Step.load rfl rfl (by decide) flat37 rfl (hM.o0.rd) (uv_at (by first | omega | (simp only [List.length_set]; omega))) ?_)
                  refine ⟨hB, ?_⟩
                  refine DT.vv rfl rfl rfl (by decide) (Val.index1 Try.underlying32 elem37 rfl rfl (by first | omega | (simp only [List.length_set]; omega)) (hM.o0.rd) (uv_lt (by first | omega | (simp only [List.length_set]; omega)))) ?_
                  refine DT.m rfl rfl (Step.store (B := B) rfl rfl flat37 elem37 rfl rfl rfl (hM.o0) (by first | omega | (simp only [List.length_set]; omega)) (Nat.le_trans hB0 hB.size) ?_)
                  rintro w18 hO18 hg18 hbl18 hsz18
                  replace hM := hM.s0 hg18 hO18 inl_block
                  try simp only [uv_app1, uv_app, uv_set, uv_rep, uv_one, uv_cons, uv_take, uv_drop, List.nil_append] at hM
                  replace hB := hB.trans hbl18
                  refine ⟨hB, ?_⟩
                  refine DT.vv rfl rfl rfl (by decide) (Val.index1 Try.underlying32 elem37 rfl rfl (by first | omega | (simp only [List.length_set]; omega)) (hM.o0.rd) (uv_lt (by first | omega | (simp only [List.length_set]; omega)))) ?_
                  refine DT.m rfl rfl (Step.store (B := B) rfl rfl flat37 elem37 rfl rfl rfl (hM.o0) (by first | omega | (simp only [List.length_set]; omega)) (Nat.le_trans hB0 hB.size) ?_)
                  rintro w19 hO19 hg19 hbl19 hsz19
                  replace hM := hM.s0 hg19 hO19 inl_block
                  try simp only [uv_app1, uv_app, uv_set, uv_rep, uv_one, uv_cons, uv_take, uv_drop, List.nil_append] at hM
                  replace hB := hB.trans hbl19
                  refine ⟨hB, ?_⟩
                  refine DT.nil ?_
                  refine thenP_normal ?_
                  simp only [swpA] at hM
                  try rw [swp_comm d1 j i] at hM
                  refine ⟨(), ?_, ?_, ⟨trivial, hM, hB⟩⟩
                  · exact Sub.nil _
                  · repeat (first | exact Sub.nil _ | refine Sub.cons rfl ?_)
              ·
                rintro _ w20 ⟨_, hM, hB⟩
                simp only [List.cons_append, List.nil_append]
                try simp only at hM
                refine W.seqR ?_
                refine LS.vv rfl rfl (by decide) (Val.move rfl) ?_
                first | refine LS.vv rfl rfl (by decide) (Val.addN (j := 1) rfl rfl (by first | omega | (simp only [List.length_set]; omega))) ?_ | refine LS.vv rfl rfl (by decide) (Val.add64 rfl rfl (by first | omega | (simp only [List.length_set]; omega))) ?_
                refine LS.vv rfl rfl (by decide) (Val.assign rfl) ?_
                refine LS.nil ?_
                refine W.seqR ?_
                refine LS.vv rfl rfl (by decide) (Val.move rfl) ?_
                first | refine LS.vv rfl rfl (by decide) (Val.subN (j := 1) rfl rfl (by first | omega | (simp only [List.length_set]; omega)) (by first | omega | (simp only [List.length_set]; omega))) ?_ | refine LS.vv rfl rfl (by decide) (Val.sub64 rfl rfl (by first | omega | (simp only [List.length_set]; omega))) ?_
                refine LS.vv rfl rfl (by decide) (Val.assign rfl) ?_
                refine LS.nil ?_
                refine W.seq ?_
                refine W.block ?_
                refine W.loop (α := Array Nat × Nat × Nat) (fun g => [(10, .int .i64 (g.2.1 : Int)), (11, .int .i64 (g.2.2 : Int))]) [(0, _), (1, _)] (fun g w => (Go.Sort.partLoop ltN a g.2.1 g.2.2 g.1 = (Go.Sort.partLoop ltN a (i + 1) (j - 1) (Go.Sort.swp d1 i j)) ∧ a + 1 ≤ g.2.1 ∧ g.2.1 ≤ b ∧ a ≤ g.2.2 ∧ g.2.2 ≤ b - 1 ∧ g.1.size = n) ∧ Mem w B (⟨37, p, n, c, uv g.1.toList⟩ :: S) ∧ Below B w0 w) (fun g => g.2.2 + 1 - g.2.1) ((Go.Sort.swp d1 i j, i + 1, j - 1)) (Sub.cons rfl (Sub.cons rfl (Sub.nil _))) (Sub.cons rfl (Sub.cons rfl (Sub.nil _))) ?_ ?_
                · exact ⟨⟨rfl, by simp only; omega, by simp only; omega, by simp only; omega, by simp only; omega, by simp only [swp_size]; exact hd1n⟩, hM, hB⟩
                rintro ⟨D, i1, j1⟩ w21 ⟨⟨hP, hi2, hib2, hj2, hjb2, hDn⟩, hM, hB⟩
                try simp only at hM
                simp only [List.cons_append, List.nil_append]
                simp only at hP hi2 hib2 hj2 hjb2 hDn
                have hlD : D.toList.length = n := by rw [Array.length_toList]; first | assumption | omega
                refine W.block ?_
                refine W.seq ?_
                refine W.block ?_
                refine W.loop (α := Nat) (fun i2 => [(10, .int .i64 (i2 : Int))]) [(0, _), (1, _), (11, _)] (fun i2 w => (Go.Sort.scanUp (fun x => ltN x D[a]!) D j1 i2 = Go.Sort.scanUp (fun x => ltN x D[a]!) D j1 i1 ∧ i1 ≤ i2 ∧ i2 ≤ b) ∧ Mem w B (⟨37, p, n, c, uv D.toList⟩ :: S) ∧ Below B w0 w) (fun i2 => b - i2) (i1) (Sub.cons rfl (Sub.nil _)) (Sub.cons rfl (Sub.cons rfl (Sub.cons rfl (Sub.nil _)))) ?_ ?_
                · exact ⟨⟨rfl, Nat.le_refl _, by omega⟩, hM, hB⟩
                rintro i2 w22 ⟨⟨hI3, hi4, hib4⟩, hM, hB⟩
                try simp only at hM
                simp only [List.cons_append, List.nil_append]
                refine W.seq ?_
                refine W.mid (α := Unit) (fun _ => [(112, .bool (decide (i2 ≤ j1 ∧ gn D.toList i2 < gn D.toList a)))]) [(0, _), (1, _), (10, _), (11, _)] (fun _ w => (True) ∧ Mem w B (⟨37, p, n, c, uv D.toList⟩ :: S) ∧ Below B w0 w) (Sub.cons rfl (Sub.cons rfl (Sub.cons rfl (Sub.cons rfl (Sub.nil _))))) ?_ ?_
                ·
                  refine W.regF 14 [(0, true), (1, true), (2, true), (3, true), (4, true), (5, true), (6, true), (7, true), (8, true), (9, true), (10, true), (11, true), (12, false), (13, true)] mixed (by kernel_rfl) hB hM ?_
                  replace hB := hB.drew
                  replace hM := hM.drew
                  refine DF.vv rfl rfl rfl (by decide) (Val.move rfl) ?_
                  refine DF.vv rfl rfl rfl (by decide) (Val.move rfl) ?_
                  refine DF.vv rfl rfl rfl (by decide) (Val.leq rfl rfl) ?_
                  refine DF.vv rfl rfl rfl (by decide) (Val.move rfl) ?_
                  refine DF.split 3 rfl (fun hg6 => ?_) (fun hg6 => ?_)
                  ·
                    first | (have hg6p := of_decide_eq_true hg6) | skip
                    refine DF.vg rfl rfl rfl rfl hg6 (by decide) (Val.move rfl) ?_
                    refine DF.vg rfl rfl rfl rfl hg6 (by decide) (Val.move rfl) ?_
                    refine DF.vg rfl rfl rfl rfl hg6 (by decide) (Val.index1 Try.underlying32 elem37 rfl rfl (by first | omega | (simp only [List.length_set]; omega)) (hM.o0.rd) (uv_lt (by first | omega | (simp only [List.length_set]; omega)))) ?_
                    refine DF.vg rfl rfl rfl rfl hg6 (by decide) (Val.load flat37 rfl (fun _ h => h.2.o0.rd) (uv_at (by first | omega | (simp only [List.length_set]; omega)))) ?_
                    refine DF.vg rfl rfl rfl rfl hg6 (by decide) (Val.move rfl) ?_
                    refine DF.vg rfl rfl rfl rfl hg6 (by decide) (Val.move rfl) ?_
                    refine DF.vg rfl rfl rfl rfl hg6 (by decide) (Val.index1 Try.underlying32 elem37 rfl rfl (by first | omega | (simp only [List.length_set]; omega)) (hM.o0.rd) (uv_lt (by first | omega | (simp only [List.length_set]; omega)))) ?_
                    refine DF.vg rfl rfl rfl rfl hg6 (by decide) (Val.load flat37 rfl (fun _ h => h.2.o0.rd) (uv_at (by first | omega | (simp only [List.length_set]; omega)))) ?_
                    refine DF.mg rfl rfl rfl hg6 (Step.call body66 rfl rfl (by decide) rfl (CallsV.mono (less_u32 (gn D.toList i2) (gn D.toList a) _) ?_))
                    rintro _ w23 ⟨rfl, hb23⟩
                    replace hM := hM.below hb23
                    replace hB := hB.trans (hb23.mono (Nat.le_trans hB0 hB.size))
                    refine ⟨fun _ => ⟨hB, hM⟩, ?_⟩
                    refine DF.vv rfl rfl rfl (by decide) (Val.pickT rfl hg6 rfl) ?_
                    refine DF.nil ?_
                    refine thenP_normal ?_
                    refine ⟨(), ?_, ?_, ⟨trivial, hM, hB⟩⟩
                    · exact Sub.cons' rfl (congrArg Value.bool (by first | exact decide_eq_decide.2 (by omega) | (rw [← decide_not]; exact decide_eq_decide.2 (by omega)) | exact (decide_eq_false (by omega)).symm | exact (decide_eq_true (by omega)).symm)) (Sub.nil _)
                    · repeat (first | exact Sub.nil _ | refine Sub.cons rfl ?_)
                  ·
                    first | (have hg6p := of_decide_eq_false hg6) | skip
                    refine DF.s rfl rfl rfl rfl hg6 (by decide) ?_
                    refine DF.s rfl rfl rfl rfl hg6 (by decide) ?_
                    refine DF.s rfl rfl rfl rfl hg6 (by decide) ?_
                    refine DF.s rfl rfl rfl rfl hg6 (by decide) ?_
                    refine DF.s rfl rfl rfl rfl hg6 (by decide) ?_
                    refine DF.s rfl rfl rfl rfl hg6 (by decide) ?_
                    refine DF.s rfl rfl rfl rfl hg6 (by decide) ?_
                    refine DF.s rfl rfl rfl rfl hg6 (by decide) ?_
                    refine DF.s rfl rfl rfl rfl hg6 (by decide) ?_
                    refine DF.vv rfl rfl rfl (by decide) (Val.pickF rfl hg6 rfl) ?_
                    refine DF.nil ?_
                    refine thenP_normal ?_
                    refine ⟨(), ?_, ?_, ⟨trivial, hM, hB⟩⟩
                    · exact Sub.cons' rfl (congrArg Value.bool (by first | exact decide_eq_decide.2 (by omega) | (rw [← decide_not]; exact decide_eq_decide.2 (by omega)) | exact (decide_eq_false (by omega)).symm | exact (decide_eq_true (by omega)).symm)) (Sub.nil _)
                    · repeat (first | exact Sub.nil _ | refine Sub.cons rfl ?_)
                ·
                  rintro _ w24 ⟨_, hM, hB⟩
                  simp only [List.cons_append, List.nil_append]
                  try simp only at hM
                  first | refine W.condD rfl (fun hc7 => ?_) (fun hc7 => ?_) | refine W.cond rfl (fun hc7 => ?_) (fun hc7 => ?_)
                  ·
                    refine W.skip ?_
                    refine thenP_normal ?_
                    refine W.block ?_
                    refine W.reg ?_
                    refine LS.vv rfl rfl (by decide) (Val.move rfl) ?_
                    first | refine LS.vv rfl rfl (by decide) (Val.addN (j := 1) rfl rfl (by first | omega | (simp only [List.length_set]; omega))) ?_ | refine LS.vv rfl rfl (by decide) (Val.add64 rfl rfl (by first | omega | (simp only [List.length_set]; omega))) ?_
                    refine LS.vv rfl rfl (by decide) (Val.assign rfl) ?_
                    refine LS.nil ?_
                    refine inBlk_normal ?_
                    refine thenP_normal ?_
                    rw [up_yes (by omega) (by show ltN _ _ = true; rw [← gnA]; exact ltN_yes (by omega))] at hI3
                    refine ⟨i2 + 1, ?_, ?_, ⟨⟨hI3, by omega, by omega⟩, hM, hB⟩, by omega⟩
                    · exact (Sub.cons rfl (Sub.nil _))
                    · repeat (first | exact Sub.nil _ | refine Sub.cons rfl ?_)
                  ·
                    refine W.exit ?_
                    refine thenP_exit ?_
                    refine thenP_exit ?_
                    refine inBlk_exit ?_
                    refine thenP_normal ?_
                    refine W.seq ?_
                    refine W.block ?_
                    have hi3 : Go.Sort.scanUp (fun x => ltN x D[a]!) D j1 i1 = i2 := by rw [← hI3]; exact up_no (fun h1 => (by show ltN _ _ = false; rw [← gnA]; exact ltN_no (by omega)))
                    refine W.loop (α := Nat) (fun j2 => [(11, .int .i64 (j2 : Int))]) [(0, _), (1, _), (10, _)] (fun j2 w => (Go.Sort.scanDown (fun x => !ltN x D[a]!) D i2 j2 = Go.Sort.scanDown (fun x => !ltN x D[a]!) D i2 j1 ∧ a ≤ j2 ∧ j2 ≤ j1) ∧ Mem w B (⟨37, p, n, c, uv D.toList⟩ :: S) ∧ Below B w0 w) (fun j2 => j2) (j1) (Sub.cons rfl (Sub.nil _)) (Sub.cons rfl (Sub.cons rfl (Sub.cons rfl (Sub.nil _)))) ?_ ?_
                    · exact ⟨⟨rfl, by omega, Nat.le_refl _⟩, hM, hB⟩
                    rintro j2 w25 ⟨⟨hJ3, hj4, hjb4⟩, hM, hB⟩
                    try simp only at hM
                    simp only [List.cons_append, List.nil_append]
                    refine W.seq ?_
                    refine W.mid (α := Unit) (fun _ => [(129, .bool (decide (i2 ≤ j2 ∧ ¬ gn D.toList j2 < gn D.toList a)))]) [(0, _), (1, _), (10, _), (11, _)] (fun _ w => (True) ∧ Mem w B (⟨37, p, n, c, uv D.toList⟩ :: S) ∧ Below B w0 w) (Sub.cons rfl (Sub.cons rfl (Sub.cons rfl (Sub.cons rfl (Sub.nil _))))) ?_ ?_
                    ·
                      refine W.regF 15 [(0, true), (1, true), (2, true), (3, true), (4, true), (5, true), (6, true), (7, true), (8, true), (9, true), (10, true), (11, true), (12, false), (13, true), (14, true)] mixed (by kernel_rfl) hB hM ?_
                      replace hB := hB.drew
                      replace hM := hM.drew
                      refine DF.vv rfl rfl rfl (by decide) (Val.move rfl) ?_
                      refine DF.vv rfl rfl rfl (by decide) (Val.move rfl) ?_
                      refine DF.vv rfl rfl rfl (by decide) (Val.leq rfl rfl) ?_
                      refine DF.vv rfl rfl rfl (by decide) (Val.move rfl) ?_
                      refine DF.split 3 rfl (fun hg8 => ?_) (fun hg8 => ?_)
                      ·
                        first | (have hg8p := of_decide_eq_true hg8) | skip
                        refine DF.vg rfl rfl rfl rfl hg8 (by decide) (Val.move rfl) ?_
                        refine DF.vg rfl rfl rfl rfl hg8 (by decide) (Val.move rfl) ?_
                        refine DF.vg rfl rfl rfl rfl hg8 (by decide) (Val.index1 Try.underlying32 elem37 rfl rfl (by first | omega | (simp only [List.length_set]; omega)) (hM.o0.rd) (uv_lt (by first | omega | (simp only [List.length_set]; omega)))) ?_
                        refine DF.vg rfl rfl rfl rfl hg8 (by decide) (Val.load flat37 rfl (fun _ h => h.2.o0.rd) (uv_at (by first | omega | (simp only [List.length_set]; omega)))) ?_
                        refine DF.vg rfl rfl rfl rfl hg8 (by decide) (Val.move rfl) ?_
                        refine DF.vg rfl rfl rfl rfl hg8 (by decide) (Val.move rfl) ?_
                        refine DF.vg rfl rfl rfl rfl hg8 (by decide) (Val.index1 Try.underlying32 elem37 rfl rfl (by first | omega | (simp only [List.length_set]; omega)) (hM.o0.rd) (uv_lt (by first | omega | (simp only [List.length_set]; omega)))) ?_
                        refine DF.vg rfl rfl rfl rfl hg8 (by decide) (Val.load flat37 rfl (fun _ h => h.2.o0.rd) (uv_at (by first | omega | (simp only [List.length_set]; omega)))) ?_
                        refine DF.mg rfl rfl rfl hg8 (Step.call body66 rfl rfl (by decide) rfl (CallsV.mono (less_u32 (gn D.toList j2) (gn D.toList a) _) ?_))
                        rintro _ w26 ⟨rfl, hb26⟩
                        replace hM := hM.below hb26
                        replace hB := hB.trans (hb26.mono (Nat.le_trans hB0 hB.size))
                        refine ⟨fun _ => ⟨hB, hM⟩, ?_⟩
                        refine DF.vg rfl rfl rfl rfl hg8 (by decide) (Val.not rfl) ?_
                        refine DF.vv rfl rfl rfl (by decide) (Val.pickT rfl hg8 rfl) ?_
                        refine DF.nil ?_
                        refine thenP_normal ?_
                        refine ⟨(), ?_, ?_, ⟨trivial, hM, hB⟩⟩
                        · exact Sub.cons' rfl (congrArg Value.bool (by first | exact decide_eq_decide.2 (by omega) | (rw [← decide_not]; exact decide_eq_decide.2 (by omega)) | exact (decide_eq_false (by omega)).symm | exact (decide_eq_true (by omega)).symm)) (Sub.nil _)
                        · repeat (first | exact Sub.nil _ | refine Sub.cons rfl ?_)
                      ·
                        first | (have hg8p := of_decide_eq_false hg8) | skip
                        refine DF.s rfl rfl rfl rfl hg8 (by decide) ?_
                        refine DF.s rfl rfl rfl rfl hg8 (by decide) ?_
                        refine DF.s rfl rfl rfl rfl hg8 (by decide) ?_
                        refine DF.s rfl rfl rfl rfl hg8 (by decide) ?_
                        refine DF.s rfl rfl rfl rfl hg8 (by decide) ?_
                        refine DF.s rfl rfl rfl rfl hg8 (by decide) ?_
                        refine DF.s rfl rfl rfl rfl hg8 (by decide) ?_
                        refine DF.s rfl rfl rfl rfl hg8 (by decide) ?_
                        refine DF.s rfl rfl rfl rfl hg8 (by decide) ?_
                        refine DF.s rfl rfl rfl rfl hg8 (by decide) ?_
                        refine DF.vv rfl rfl rfl (by decide) (Val.pickF rfl hg8 rfl) ?_
                        refine DF.nil ?_
                        refine thenP_normal ?_
                        refine ⟨(), ?_, ?_, ⟨trivial, hM, hB⟩⟩
                        · exact Sub.cons' rfl (congrArg Value.bool (by first | exact decide_eq_decide.2 (by omega) | (rw [← decide_not]; exact decide_eq_decide.2 (by omega)) | exact (decide_eq_false (by omega)).symm | exact (decide_eq_true (by omega)).symm)) (Sub.nil _)
                        · repeat (first | exact Sub.nil _ | refine Sub.cons rfl ?_)
                    ·
                      rintro _ w27 ⟨_, hM, hB⟩
                      simp only [List.cons_append, List.nil_append]
                      try simp only at hM
                      first | refine W.condD rfl (fun hc9 => ?_) (fun hc9 => ?_) | refine W.cond rfl (fun hc9 => ?_) (fun hc9 => ?_)
                      ·
                        refine W.skip ?_
                        refine thenP_normal ?_
                        refine W.block ?_
                        refine W.reg ?_
                        refine LS.vv rfl rfl (by decide) (Val.move rfl) ?_
                        first | refine LS.vv rfl rfl (by decide) (Val.subN (j := 1) rfl rfl (by first | omega | (simp only [List.length_set]; omega)) (by first | omega | (simp only [List.length_set]; omega))) ?_ | refine LS.vv rfl rfl (by decide) (Val.sub64 rfl rfl (by first | omega | (simp only [List.length_set]; omega))) ?_
                        refine LS.vv rfl rfl (by decide) (Val.assign rfl) ?_
                        refine LS.nil ?_
                        refine inBlk_normal ?_
                        refine thenP_normal ?_
                        rw [down_yes (by omega) (by omega) (by show (!ltN _ _) = true; rw [← gnA, ltN_no (by omega)]; rfl)] at hJ3
                        refine ⟨j2 - 1, ?_, ?_, ⟨⟨hJ3, by omega, by omega⟩, hM, hB⟩, by omega⟩
                        · exact (Sub.cons rfl (Sub.nil _))
                        · repeat (first | exact Sub.nil _ | refine Sub.cons rfl ?_)
                      ·
                        refine W.exit ?_
                        refine thenP_exit ?_
                        refine thenP_exit ?_
                        refine inBlk_exit ?_
                        refine thenP_normal ?_
                        refine W.seq ?_
                        refine W.seqR ?_
                        refine LS.vv rfl rfl (by decide) (Val.move rfl) ?_
                        refine LS.vv rfl rfl (by decide) (Val.move rfl) ?_
                        refine LS.vv rfl rfl (by decide) (Val.gtr rfl rfl) ?_
                        refine LS.nil ?_
                        first | refine W.condD rfl (fun hc10 => ?_) (fun hc10 => ?_) | refine W.cond rfl (fun hc10 => ?_) (fun hc10 => ?_)
                        ·
                          have hj3 : Go.Sort.scanDown (fun x => !ltN x D[a]!) D i2 j1 = j2 := by rw [← hJ3]; exact down_no (fun h1 => (by show (!ltN _ _) = false; rw [← gnA, ltN_yes (by omega)]; rfl))
                          rw [pl_end hi3 hj3 (by omega)] at hP
                          refine W.exit ?_
                          refine thenP_exit ?_
                          refine inBlk_ne (by decide) ?_
                          refine thenP_exit ?_
                          refine inBlk_exit ?_
                          refine thenP_normal ?_
                          refine W.seqT (S := fun w => Below B w0 w) (.val 0 (.val 1 (.val 2 (.val 3 (.val 4 (.val 5 (.val 6 (.val 8 (.val 9 (.val 10 (.two (.mem 7 (.mem 11 (.val 12 (.mem 13 (.val 14 (.mem 15 (.done))))))) (.mem 11 (.mem 7 (.val 12 (.mem 13 (.val 14 (.mem 15 (.done)))))))))))))))))) mixed (by kernel_rfl) hB.drew ?_
                          replace hB := hB.drew
                          replace hM := hM.drew
                          refine DT.vv rfl rfl rfl (by decide) (Val.move rfl) ?_
                          refine DT.vv rfl rfl rfl (by decide) (Val.move rfl) ?_
                          refine DT.vv rfl rfl rfl (by decide) (Val.move rfl) ?_
                          refine DT.vv rfl rfl rfl (by decide) (Val.move rfl) ?_
                          refine DT.vv rfl rfl rfl (by decide) (Val.move rfl) ?_
                          refine DT.vv rfl rfl rfl (by decide) (Val.move rfl) ?_
                          refine DT.vv rfl rfl rfl (by decide) (Val.index1 Try.underlying32 elem37 rfl rfl (by first | omega | (simp only [List.length_set]; omega)) (hM.o0.rd) (uv_lt (by first | omega | (simp only [List.length_set]; omega)))) ?_
                          refine DT.vv rfl rfl rfl (by decide) (Val.move rfl) ?_
                          refine DT.vv rfl rfl rfl (by decide) (Val.move rfl) ?_
                          refine DT.vv rfl rfl rfl (by decide) (Val.index1 Try.underlying32 elem37 rfl rfl (by first | omega | (simp only [List.length_set]; omega)) (hM.o0.rd) (uv_lt (by first | omega | (simp only [List.length_set]; omega)))) ?_
                          refine DT.two ?_ ?_
                          ·
                            refine DT.m rfl rfl (Step.load rfl rfl (by decide) flat37 rfl (hM.o0.rd) (uv_at (by first | omega | (simp only [List.length_set]; omega))) ?_)
                            refine ⟨hB, ?_⟩
                            refine DT.m rfl rfl (Step.load rfl rfl (by decide) flat37 rfl (hM.o0.rd) (uv_at (by first | omega | (simp only [List.length_set]; omega))) ?_)
                            refine ⟨hB, ?_⟩
                            refine DT.vv rfl rfl rfl (by decide) (Val.index1 Try.underlying32 elem37 rfl rfl (by first | omega | (simp only [List.length_set]; omega)) (hM.o0.rd) (uv_lt (by first | omega | (simp only [List.length_set]; omega)))) ?_
                            refine DT.m rfl rfl (Step.store (B := B) rfl rfl flat37 elem37 rfl rfl rfl (hM.o0) (by first | omega | (simp only [List.length_set]; omega)) (Nat.le_trans hB0 hB.size) ?_)
                            rintro w28 hO28 hg28 hbl28 hsz28
                            replace hM := hM.s0 hg28 hO28 inl_block
                            try simp only [uv_app1, uv_app, uv_set, uv_rep, uv_one, uv_cons, uv_take, uv_drop, List.nil_append] at hM
                            replace hB := hB.trans hbl28
                            refine ⟨hB, ?_⟩
                            refine DT.vv rfl rfl rfl (by decide) (Val.index1 Try.underlying32 elem37 rfl rfl (by first | omega | (simp only [List.length_set]; omega)) (hM.o0.rd) (uv_lt (by first | omega | (simp only [List.length_set]; omega)))) ?_
                            refine DT.m rfl rfl (Step.store (B := B) rfl rfl flat37 elem37 rfl rfl rfl (hM.o0) (by first | omega | (simp only [List.length_set]; omega)) (Nat.le_trans hB0 hB.size) ?_)
                            rintro w29 hO29 hg29 hbl29 hsz29
                            replace hM := hM.s0 hg29 hO29 inl_block
                            try simp only [uv_app1, uv_app, uv_set, uv_rep, uv_one, uv_cons, uv_take, uv_drop, List.nil_append] at hM
                            replace hB := hB.trans hbl29
                            refine ⟨hB, ?_⟩
                            refine DT.nil ?_
                            refine W.seqR ?_
                            refine LS.vv rfl rfl (by decide) (Val.move rfl) ?_
                            refine LS.vv rfl rfl (by decide) (Val.assign rfl) ?_
                            refine LS.vv rfl rfl (by decide) (Val.assign rfl) ?_
                            refine LS.nil ?_
                            refine W.ret ?_
                            refine ret2 (by first | exact .inl rfl | exact .inr rfl) rfl rfl ?_
                            first
                              | (simp only [swpA] at hM
                                 try rw [swp_comm d1 a j] at hM
                                 exact ⟨(j, true, Go.Sort.swp d1 j a), part_yes hd1 hi0 hj0 (by omega), rfl, hM, hB⟩)
                              | (simp only [swpA] at hM
                                 try rw [swp_comm D a j2] at hM
                                 refine ⟨(j2, false, Go.Sort.swp D j2 a), ?_, rfl, hM, hB⟩
                                 rw [part_no hd1 hi0 hj0 (by omega), ← hP])
                          ·
                            refine DT.m rfl rfl (Step.load rfl rfl (by decide) flat37 rfl (hM.o0.rd) (uv_at (by first | omega | (simp only [List.length_set]; omega))) ?_)
                            refine ⟨hB, ?_⟩
                            refine DT.m rfl rfl (Step.load rfl rfl (by decide) flat37 rfl (hM.o0.rd) (uv_at (by first | omega | (simp only [List.length_set]; omega))) ?_)
                            refine ⟨hB, ?_⟩
                            refine DT.vv rfl rfl rfl (by decide) (Val.index1 Try.underlying32 elem37 rfl rfl (by first | omega | (simp only [List.length_set]; omega)) (hM.o0.rd) (uv_lt (by first | omega | (simp only [List.length_set]; omega)))) ?_
                            refine DT.m rfl rfl (Step.store (B := B) rfl rfl flat37 elem37 rfl rfl rfl (hM.o0) (by first | omega | (simp only [List.length_set]; omega)) (Nat.le_trans hB0 hB.size) ?_)
                            rintro w30 hO30 hg30 hbl30 hsz30
                            replace hM := hM.s0 hg30 hO30 inl_block
                            try simp only [uv_app1, uv_app, uv_set, uv_rep, uv_one, uv_cons, uv_take, uv_drop, List.nil_append] at hM
                            replace hB := hB.trans hbl30
                            refine ⟨hB, ?_⟩
                            refine DT.vv rfl rfl rfl (by decide) (Val.index1 Try.underlying32 elem37 rfl rfl (by first | omega | (simp only [List.length_set]; omega)) (hM.o0.rd) (uv_lt (by first | omega | (simp only [List.length_set]; omega)))) ?_
                            refine DT.m rfl rfl (Step.store (B := B) rfl rfl flat37 elem37 rfl rfl rfl (hM.o0) (by first | omega | (simp only [List.length_set]; omega)) (Nat.le_trans hB0 hB.size) ?_)
                            rintro w31 hO31 hg31 hbl31 hsz31
                            replace hM := hM.s0 hg31 hO31 inl_block
                            try simp only [uv_app1, uv_app, uv_set, uv_rep, uv_one, uv_cons, uv_take, uv_drop, List.nil_append] at hM
                            replace hB := hB.trans hbl31
                            refine ⟨hB, ?_⟩
                            refine DT.nil ?_
                            refine W.seqR ?_
                            refine LS.vv rfl rfl (by decide) (Val.move rfl) ?_
                            refine LS.vv rfl rfl (by decide) (Val.assign rfl) ?_
                            refine LS.vv rfl rfl (by decide) (Val.assign rfl) ?_
                            refine LS.nil ?_
                            refine W.ret ?_
                            refine ret2 (by first | exact .inl rfl | exact .inr rfl) rfl rfl ?_
                            first
                              | (simp only [swpA] at hM
                                 try rw [swp_comm d1 a j] at hM
                                 exact ⟨(j, true, Go.Sort.swp d1 j a), part_yes hd1 hi0 hj0 (by omega), rfl, hM, hB⟩)
                              | (simp only [swpA] at hM
                                 try rw [swp_comm D a j2] at hM
                                 refine ⟨(j2, false, Go.Sort.swp D j2 a), ?_, rfl, hM, hB⟩
                                 rw [part_no hd1 hi0 hj0 (by omega), ← hP])
                        ·
                          have hj3 : Go.Sort.scanDown (fun x => !ltN x D[a]!) D i2 j1 = j2 := by rw [← hJ3]; exact down_no (fun h1 => (by show (!ltN _ _) = false; rw [← gnA, ltN_yes (by omega)]; rfl))
                          refine W.skip ?_
                          refine thenP_normal ?_
                          refine W.seqT (S := fun w => Below B w0 w) (.val 0 (.val 1 (.val 2 (.val 3 (.val 4 (.val 5 (.val 6 (.val 8 (.val 9 (.val 10 (.two (.mem 7 (.mem 11 (.val 12 (.mem 13 (.val 14 (.mem 15 (.done))))))) (.mem 11 (.mem 7 (.val 12 (.mem 13 (.val 14 (.mem 15 (.done)))))))))))))))))) mixed (by kernel_rfl) hB.drew ?_
                          replace hB := hB.drew
                          replace hM := hM.drew
                          refine DT.vv rfl rfl rfl (by decide) (Val.move rfl) ?_
                          refine DT.vv rfl rfl rfl (by decide) (Val.move rfl) ?_
                          refine DT.vv rfl rfl rfl (by decide) (Val.move rfl) ?_
                          refine DT.vv rfl rfl rfl (by decide) (Val.move rfl) ?_
                          refine DT.vv rfl rfl rfl (by decide) (Val.move rfl) ?_
                          refine DT.vv rfl rfl rfl (by decide) (Val.move rfl) ?_
                          refine DT.vv rfl rfl rfl (by decide) (Val.index1 Try.underlying32 elem37 rfl rfl (by first | omega | (simp only [List.length_set]; omega)) (hM.o0.rd) (uv_lt (by first | omega | (simp only [List.length_set]; omega)))) ?_
                          refine DT.vv rfl rfl rfl (by decide) (Val.move rfl) ?_
                          refine DT.vv rfl rfl rfl (by decide) (Val.move rfl) ?_
                          refine DT.vv rfl rfl rfl (by decide) (Val.index1 Try.underlying32 elem37 rfl rfl (by first | omega | (simp only [List.length_set]; omega)) (hM.o0.rd) (uv_lt (by first | omega | (simp only [List.length_set]; omega)))) ?_
                          refine DT.two ?_ ?_
                          ·
                            refine DT.m rfl rfl (Step.load rfl rfl (by decide) flat37 rfl (hM.o0.rd) (uv_at (by first | omega | (simp only [List.length_set]; omega))) ?_)
                            refine ⟨hB, ?_⟩
                            refine DT.m rfl rfl (Step.load rfl rfl (by decide) flat37 rfl (hM.o0.rd) (uv_at (by first | omega | (simp only [List.length_set]; omega))) ?_)
                            refine ⟨hB, ?_⟩
                            refine DT.vv rfl rfl rfl (by decide) (Val.index1 Try.underlying32 elem37 rfl rfl (by first | omega | (simp only [List.length_set]; omega)) (hM.o0.rd) (uv_lt (by first | omega | (simp only [List.length_set]; omega)))) ?_
                            refine DT.m rfl rfl (Step.store (B := B) rfl rfl flat37 elem37 rfl rfl rfl (hM.o0) (by first | omega | (simp only [List.length_set]; omega)) (Nat.le_trans hB0 hB.size) ?_)
                            rintro w32 hO32 hg32 hbl32 hsz32
                            replace hM := hM.s0 hg32 hO32 inl_block
                            try simp only [uv_app1, uv_app, uv_set, uv_rep, uv_one, uv_cons, uv_take, uv_drop, List.nil_append] at hM
                            replace hB := hB.trans hbl32
                            refine ⟨hB, ?_⟩
                            refine DT.vv rfl rfl rfl (by decide) (Val.index1 Try.underlying32 elem37 rfl rfl (by first | omega | (simp only [List.length_set]; omega)) (hM.o0.rd) (uv_lt (by first | omega | (simp only [List.length_set]; omega)))) ?_
                            refine DT.m rfl rfl (Step.store (B := B) rfl rfl flat37 elem37 rfl rfl rfl (hM.o0) (by first | omega | (simp only [List.length_set]; omega)) (Nat.le_trans hB0 hB.size) ?_)
                            rintro w33 hO33 hg33 hbl33 hsz33
                            replace hM := hM.s0 hg33 hO33 inl_block
                            try simp only [uv_app1, uv_app, uv_set, uv_rep, uv_one, uv_cons, uv_take, uv_drop, List.nil_append] at hM
                            replace hB := hB.trans hbl33
                            refine ⟨hB, ?_⟩
                            refine DT.nil ?_
                            refine W.seqR ?_
                            refine LS.vv rfl rfl (by decide) (Val.move rfl) ?_
                            first | refine LS.vv rfl rfl (by decide) (Val.addN (j := 1) rfl rfl (by first | omega | (simp only [List.length_set]; omega))) ?_ | refine LS.vv rfl rfl (by decide) (Val.add64 rfl rfl (by first | omega | (simp only [List.length_set]; omega))) ?_
                            refine LS.vv rfl rfl (by decide) (Val.assign rfl) ?_
                            refine LS.nil ?_
                            refine W.reg ?_
                            refine LS.vv rfl rfl (by decide) (Val.move rfl) ?_
                            first | refine LS.vv rfl rfl (by decide) (Val.subN (j := 1) rfl rfl (by first | omega | (simp only [List.length_set]; omega)) (by first | omega | (simp only [List.length_set]; omega))) ?_ | refine LS.vv rfl rfl (by decide) (Val.sub64 rfl rfl (by first | omega | (simp only [List.length_set]; omega))) ?_
                            refine LS.vv rfl rfl (by decide) (Val.assign rfl) ?_
                            refine LS.nil ?_
                            refine inBlk_normal ?_
                            refine thenP_normal ?_
                            simp only [swpA] at hM
                            try rw [swp_comm D j2 i2] at hM
                            rw [pl_step hi3 hj3 (by omega) (by omega) (by omega) (by omega)] at hP
                            refine ⟨(Go.Sort.swp D i2 j2, i2 + 1, j2 - 1), ?_, ?_, ⟨⟨hP, by simp only; omega, by simp only; omega, by simp only; omega, by simp only; omega, by simp only [swp_size]; exact hDn⟩, hM, hB⟩, by simp only; omega⟩
                            · exact (Sub.cons rfl (Sub.cons rfl (Sub.nil _)))
                            · repeat (first | exact Sub.nil _ | refine Sub.cons rfl ?_)
                          ·
                            refine DT.m rfl rfl (Step.load rfl rfl (by decide) flat37 rfl (hM.o0.rd) (uv_at (by first | omega | (simp only [List.length_set]; omega))) ?_)
                            refine ⟨hB, ?_⟩
                            refine DT.m rfl rfl (Step.load rfl rfl (by decide) flat37 rfl (hM.o0.rd) (uv_at (by first | omega | (simp only [List.length_set]; omega))) ?_)
                            refine ⟨hB, ?_⟩
                            refine DT.vv rfl rfl rfl (by decide) (Val.index1 Try.underlying32 elem37 rfl rfl (by first | omega | (simp only [List.length_set]; omega)) (hM.o0.rd) (uv_lt (by first | omega | (simp only [List.length_set]; omega)))) ?_
                            refine DT.m rfl rfl (Step.store (B := B) rfl rfl flat37 elem37 rfl rfl rfl (hM.o0) (by first | omega | (simp only [List.length_set]; omega)) (Nat.le_trans hB0 hB.size) ?_)
                            rintro w34 hO34 hg34 hbl34 hsz34
                            replace hM := hM.s0 hg34 hO34 inl_block
                            try simp only [uv_app1, uv_app, uv_set, uv_rep, uv_one, uv_cons, uv_take, uv_drop, List.nil_append] at hM
                            replace hB := hB.trans hbl34
                            refine ⟨hB, ?_⟩
                            refine DT.vv rfl rfl rfl (by decide) (Val.index1 Try.underlying32 elem37 rfl rfl (by first | omega | (simp only [List.length_set]; omega)) (hM.o0.rd) (uv_lt (by first | omega | (simp only [List.length_set]; omega)))) ?_
                            refine DT.m rfl rfl (Step.store (B := B) rfl rfl flat37 elem37 rfl rfl rfl (hM.o0) (by first | omega | (simp only [List.length_set]; omega)) (Nat.le_trans hB0 hB.size) ?_)
                            rintro w35 hO35 hg35 hbl35 hsz35
                            replace hM := hM.s0 hg35 hO35 inl_block
                            try simp only [uv_app1, uv_app, uv_set, uv_rep, uv_one, uv_cons, uv_take, uv_drop, List.nil_append] at hM
                            replace hB := hB.trans hbl35
                            refine ⟨hB, ?_⟩
                            refine DT.nil ?_
                            refine W.seqR ?_
                            refine LS.vv rfl rfl (by decide) (Val.move rfl) ?_
                            first | refine LS.vv rfl rfl (by decide) (Val.addN (j := 1) rfl rfl (by first | omega | (simp only [List.length_set]; omega))) ?_ | refine LS.vv rfl rfl (by decide) (Val.add64 rfl rfl (by first | omega | (simp only [List.length_set]; omega))) ?_
                            refine LS.vv rfl rfl (by decide) (Val.assign rfl) ?_
                            refine LS.nil ?_
                            refine W.reg ?_
                            refine LS.vv rfl rfl (by decide) (Val.move rfl) ?_
                            first | refine LS.vv rfl rfl (by decide) (Val.subN (j := 1) rfl rfl (by first | omega | (simp only [List.length_set]; omega)) (by first | omega | (simp only [List.length_set]; omega))) ?_ | refine LS.vv rfl rfl (by decide) (Val.sub64 rfl rfl (by first | omega | (simp only [List.length_set]; omega))) ?_
                            refine LS.vv rfl rfl (by decide) (Val.assign rfl) ?_
                            refine LS.nil ?_
                            refine inBlk_normal ?_
                            refine thenP_normal ?_
                            simp only [swpA] at hM
                            try rw [swp_comm D j2 i2] at hM
                            rw [pl_step hi3 hj3 (by omega) (by omega) (by omega) (by omega)] at hP
                            refine ⟨(Go.Sort.swp D i2 j2, i2 + 1, j2 - 1), ?_, ?_, ⟨⟨hP, by simp only; omega, by simp only; omega, by simp only; omega, by simp only; omega, by simp only [swp_size]; exact hDn⟩, hM, hB⟩, by simp only; omega⟩
                            · exact (Sub.cons rfl (Sub.cons rfl (Sub.nil _)))
                            · repeat (first | exact Sub.nil _ | refine Sub.cons rfl ?_)

theorem partitionEq_u32 (d : Array Nat) (p : Option Addr) (n c B : Nat) (S : List Ob) (a b : Nat) (w0 : World) (hM0 : Mem w0 B (⟨37, p, n, c, uv d.toList⟩ :: S)) (hB0 : B ≤ w0.heap.size) (hn : d.size = n) (hn2 : n ≤ 1000000) (pv : Nat) (hap : a ≤ pv) (hpb : pv < b) (hb : b ≤ n) :
    CallsV Try.prog 67 #[.slice p n c, .int .i64 (a : Int), .int .i64 (b : Int), .int .i64 (pv : Int)] w0 (fun v w => ∃ r : Nat × Array Nat, Go.Sort.partitionEqual ltN d a b pv = r ∧ v = .int .i64 (r.1 : Int) ∧ Mem w B (⟨37, p, n, c, uv r.2.toList⟩ :: S) ∧ Below B w0 w) := by
  refine enter1 Try.func67 rfl Try.ntmps67 (by simp) rfl ?_
  have hB := Below.refl B w0
  simp only [argLoc, Nat.zero_add, Nat.reduceAdd]
  have hM := hM0
  have hld : d.toList.length = n := by rw [Array.length_toList]; exact hn
  refine W.seqR ?_
  refine LS.vv rfl rfl (by decide) (Val.cast (v := .int .i64 ((0 : Nat) : Int)) (Val.assign rfl) rfl) ?_
  refine LS.nil ?_
  refine W.mid (α := Unit) (fun _ => []) [(0, _), (1, _), (2, _)] (fun _ w => (True) ∧ Mem w B (⟨37, p, n, c, uv (Go.Sort.swp d a pv).toList⟩ :: S) ∧ Below B w0 w) (Sub.cons rfl (Sub.cons rfl (Sub.cons rfl (Sub.nil _)))) ?_ ?_
  ·
    refine W.regT (S := fun w => Below B w0 w) (.val 0 (.val 1 (.val 2 (.val 3 (.val 4 (.val 5 (.val 6 (.val 8 (.val 9 (.val 10 (.two (.mem 7 (.mem 11 (.val 12 (.mem 13 (.val 14 (.mem 15 (.done))))))) (.mem 11 (.mem 7 (.val 12 (.mem 13 (.val 14 (.mem 15 (.done)))))))))))))))))) mixed (by kernel_rfl) hB.drew ?_
    replace hB := hB.drew
    replace hM := hM.drew
    refine DT.vv rfl rfl rfl (by decide) (Val.move rfl) ?_
    refine DT.vv rfl rfl rfl (by decide) (Val.move rfl) ?_
    refine DT.vv rfl rfl rfl (by decide) (Val.move rfl) ?_
    refine DT.vv rfl rfl rfl (by decide) (Val.move rfl) ?_
    refine DT.vv rfl rfl rfl (by decide) (Val.move rfl) ?_
    refine DT.vv rfl rfl rfl (by decide) (Val.move rfl) ?_
    refine DT.vv rfl rfl rfl (by decide) (Val.index1 Try.underlying32 elem37 rfl rfl (by first | omega | (simp only [List.length_set]; omega)) (hM.o0.rd) (uv_lt (by first | omega | (simp only [List.length_set]; omega)))) ?_
    refine DT.vv rfl rfl rfl (by decide) (Val.move rfl) ?_
    refine DT.vv rfl rfl rfl (by decide) (Val.move rfl) ?_
    refine DT.vv rfl rfl rfl (by decide) (Val.index1 Try.underlying32 elem37 rfl rfl (by first | omega | (simp only [List.length_set]; omega)) (hM.o0.rd) (uv_lt (by first | omega | (simp only [List.length_set]; omega)))) ?_
    refine DT.two ?_ ?_
    ·
      refine DT.m rfl rfl (Step.load rfl rfl (by decide) flat37 rfl (hM.o0.rd) (uv_at (by first | omega | (simp only [List.length_set]; omega))) ?_)
      refine ⟨hB, ?_⟩
      refine DT.m rfl rfl (Step.load rfl rfl (by decide) flat37 rfl (hM.o0.rd) (uv_at (by first | omega | (simp only [List.length_set]; omega))) ?_)
      refine ⟨hB, ?_⟩
      refine DT.vv rfl rfl rfl (by decide) (Val.index1 Try.underlying32 elem37 rfl rfl (by first | omega | (simp only [List.length_set]; omega)) (hM.o0.rd) (uv_lt (by first | omega | (simp only [List.length_set]; omega)))) ?_
      refine DT.m rfl rfl (Step.store (B := B) rfl rfl flat37 elem37 rfl rfl rfl (hM.o0) (by first | omega | (simp only [List.length_set]; omega)) (Nat.le_trans hB0 hB.size) ?_)
      rintro w1 hO1 hg1 hbl1 hsz1
      replace hM := hM.s0 hg1 hO1 inl_block
      try simp only [uv_app1, uv_app, uv_set, uv_rep, uv_one, uv_cons, uv_take, uv_drop, List.nil_append] at hM
      replace hB := hB.trans hbl1
      refine ⟨hB, ?_⟩
      refine DT.vv rfl rfl rfl (by decide) (Val.index1 Try.underlying32 elem37 rfl rfl (by first | omega | (simp only [List.length_set]; omega)) (hM.o0.rd) (uv_lt (by first | omega | (simp only [List.length_set]; omega)))) ?_
      refine DT.m rfl rfl (Step.store (B := B) rfl rfl flat37 elem37 rfl rfl rfl (hM.o0) (by first | omega | (simp only [List.length_set]; omega)) (Nat.le_trans hB0 hB.size) ?_)
      rintro w2 hO2 hg2 hbl2 hsz2
      replace hM := hM.s0 hg2 hO2 inl_block
      try simp only [uv_app1, uv_app, uv_set, uv_rep, uv_one, uv_cons, uv_take, uv_drop, List.nil_append] at hM
      replace hB := hB.trans hbl2
      refine ⟨hB, ?_⟩
      refine DT.nil ?_
      refine thenP_normal ?_
      simp only [swpA] at hM
      try rw [swp_comm d pv a] at hM
      refine ⟨(), ?_, ?_, ⟨trivial, hM, hB⟩⟩
      · exact Sub.nil _
      · repeat (first | exact Sub.nil _ | refine Sub.cons rfl ?_)
    ·
      refine DT.m rfl rfl (Step.load rfl rfl (by decide) flat37 rfl (hM.o0.rd) (uv_at (by first | omega | (simp only [List.length_set]; omega))) ?_)
      refine ⟨hB, ?_⟩
      refine DT.m rfl rfl (Step.load rfl rfl (by decide) flat37 rfl (hM.o0.rd) (uv_at (by first | omega | (simp only [List.length_set]; omega))) ?_)
      refine ⟨hB, ?_⟩
      refine DT.vv rfl rfl rfl (by decide) (Val.index1 Try.underlying32 elem37 rfl rfl (by first | omega | (simp only [List.length_set]; omega)) (hM.o0.rd) (uv_lt (by first | omega | (simp only [List.length_set]; omega)))) ?_
      refine DT.m rfl rfl (Step.store (B := B) rfl rfl flat37 elem37 rfl rfl rfl (hM.o0) (by first | omega | (simp only [List.length_set]; omega)) (Nat.le_trans hB0 hB.size) ?_)
      rintro w3 hO3 hg3 hbl3 hsz3
      replace hM := hM.s0 hg3 hO3 inl_block
      try simp only [uv_app1, uv_app, uv_set, uv_rep, uv_one, uv_cons, uv_take, uv_drop, List.nil_append] at hM
      replace hB := hB.trans hbl3
      refine ⟨hB, ?_⟩
      refine DT.vv rfl rfl rfl (by decide) (Val.index1 Try.underlying32 elem37 rfl rfl (by first | omega | (simp only [List.length_set]; omega)) (hM.o0.rd) (uv_lt (by first | omega | (simp only [List.length_set]; omega)))) ?_
      refine DT.m rfl rfl (Step.store (B := B) rfl rfl flat37 elem37 rfl rfl rfl (hM.o0) (by first | omega | (simp only [List.length_set]; omega)) (Nat.le_trans hB0 hB.size) ?_)
      rintro w4 hO4 hg4 hbl4 hsz4
      replace hM := hM.s0 hg4 hO4 inl_block
      try simp only [uv_app1, uv_app, uv_set, uv_rep, uv_one, uv_cons, uv_take, uv_drop, List.nil_append] at hM
      replace hB := hB.trans hbl4
      refine ⟨hB, ?_⟩
      refine DT.nil ?_
      refine thenP_normal ?_
      simp only [swpA] at hM
      try rw [swp_comm d pv a] at hM
      refine ⟨(), ?_, ?_, ⟨trivial, hM, hB⟩⟩
      · exact Sub.nil _
      · repeat (first | exact Sub.nil _ | refine Sub.cons rfl ?_)
  ·
    rintro _ w5 ⟨_, hM, hB⟩
    simp only [List.cons_append, List.nil_append]
    try simp only at hM
    refine W.seqR ?_
    refine LS.vv rfl rfl (by decide) (Val.move rfl) ?_
    first | refine LS.vv rfl rfl (by decide) (Val.addN (j := 1) rfl rfl (by first | omega | (simp only [List.length_set]; omega))) ?_ | refine LS.vv rfl rfl (by decide) (Val.add64 rfl rfl (by first | omega | (simp only [List.length_set]; omega))) ?_
    refine LS.vv rfl rfl (by decide) (Val.move rfl) ?_
    first | refine LS.vv rfl rfl (by decide) (Val.subN (j := 1) rfl rfl (by first | omega | (simp only [List.length_set]; omega)) (by first | omega | (simp only [List.length_set]; omega))) ?_ | refine LS.vv rfl rfl (by decide) (Val.sub64 rfl rfl (by first | omega | (simp only [List.length_set]; omega))) ?_
    refine LS.vv rfl rfl (by decide) (Val.assign rfl) ?_
    refine LS.vv rfl rfl (by decide) (Val.assign rfl) ?_
    refine LS.nil ?_
    refine W.seq ?_
    refine W.block ?_
    refine W.loop (α := Array Nat × Nat × Nat) (fun g => [(9, .int .i64 (g.2.1 : Int)), (10, .int .i64 (g.2.2 : Int))]) [(0, _), (1, _)] (fun g w => (Go.Sort.partEqLoop ltN a g.2.1 g.2.2 g.1 = Go.Sort.partitionEqual ltN d a b pv ∧ a + 1 ≤ g.2.1 ∧ g.2.1 ≤ b ∧ a ≤ g.2.2 ∧ g.2.2 ≤ b - 1 ∧ g.1.size = n) ∧ Mem w B (⟨37, p, n, c, uv g.1.toList⟩ :: S) ∧ Below B w0 w) (fun g => g.2.2 + 1 - g.2.1) ((Go.Sort.swp d a pv, a + 1, b - 1)) (Sub.cons rfl (Sub.cons rfl (Sub.nil _))) (Sub.cons rfl (Sub.cons rfl (Sub.nil _))) ?_ ?_
    · exact ⟨⟨rfl, by simp only; omega, by simp only; omega, by simp only; omega, by simp only; omega, by simp only [swp_size]; exact hn⟩, hM, hB⟩
    rintro ⟨D, i1, j1⟩ w6 ⟨⟨hP, hi2, hib2, hj2, hjb2, hDn⟩, hM, hB⟩
    try simp only at hM
    simp only [List.cons_append, List.nil_append]
    simp only at hP hi2 hib2 hj2 hjb2 hDn
    have hlD : D.toList.length = n := by rw [Array.length_toList]; first | assumption | omega
    refine W.block ?_
    refine W.seq ?_
    refine W.block ?_
    refine W.loop (α := Nat) (fun i2 => [(9, .int .i64 (i2 : Int))]) [(0, _), (1, _), (10, _)] (fun i2 w => (Go.Sort.scanUp (fun x => !ltN D[a]! x) D j1 i2 = Go.Sort.scanUp (fun x => !ltN D[a]! x) D j1 i1 ∧ i1 ≤ i2 ∧ i2 ≤ b) ∧ Mem w B (⟨37, p, n, c, uv D.toList⟩ :: S) ∧ Below B w0 w) (fun i2 => b - i2) (i1) (Sub.cons rfl (Sub.nil _)) (Sub.cons rfl (Sub.cons rfl (Sub.cons rfl (Sub.nil _)))) ?_ ?_
    · exact ⟨⟨rfl, Nat.le_refl _, by omega⟩, hM, hB⟩
    rintro i2 w7 ⟨⟨hI3, hi4, hib4⟩, hM, hB⟩
    try simp only at hM
    simp only [List.cons_append, List.nil_append]
    refine W.seq ?_
    refine W.mid (α := Unit) (fun _ => [(43, .bool (decide (i2 ≤ j1 ∧ ¬ gn D.toList a < gn D.toList i2)))]) [(0, _), (1, _), (9, _), (10, _)] (fun _ w => (True) ∧ Mem w B (⟨37, p, n, c, uv D.toList⟩ :: S) ∧ Below B w0 w) (Sub.cons rfl (Sub.cons rfl (Sub.cons rfl (Sub.cons rfl (Sub.nil _))))) ?_ ?_
    ·
      refine W.regF 15 [(0, true), (1, true), (2, true), (3, true), (4, true), (5, true), (6, true), (7, true), (8, true), (9, true), (10, true), (11, true), (12, false), (13, true), (14, true)] mixed (by kernel_rfl) hB hM ?_
      replace hB := hB.drew
      replace hM := hM.drew
      refine DF.vv rfl rfl rfl (by decide) (Val.move rfl) ?_
      refine DF.vv rfl rfl rfl (by decide) (Val.move rfl) ?_
      refine DF.vv rfl rfl rfl (by decide) (Val.leq rfl rfl) ?_
      refine DF.vv rfl rfl rfl (by decide) (Val.move rfl) ?_
      refine DF.split 3 rfl (fun hg1 => ?_) (fun hg1 => ?_)
      ·
        first | (have hg1p := of_decide_eq_true hg1) | skip
        refine DF.vg rfl rfl rfl rfl hg1 (by decide) (Val.move rfl) ?_
        refine DF.vg rfl rfl rfl rfl hg1 (by decide) (Val.move rfl) ?_
        refine DF.vg rfl rfl rfl rfl hg1 (by decide) (Val.index1 Try.underlying32 elem37 rfl rfl (by first | omega | (simp only [List.length_set]; omega)) (hM.o0.rd) (uv_lt (by first | omega | (simp only [List.length_set]; omega)))) ?_
        refine DF.vg rfl rfl rfl rfl hg1 (by decide) (Val.load flat37 rfl (fun _ h => h.2.o0.rd) (uv_at (by first | omega | (simp only [List.length_set]; omega)))) ?_
        refine DF.vg rfl rfl rfl rfl hg1 (by decide) (Val.move rfl) ?_
        refine DF.vg rfl rfl rfl rfl hg1 (by decide) (Val.move rfl) ?_
        refine DF.vg rfl rfl rfl rfl hg1 (by decide) (Val.index1 Try.underlying32 elem37 rfl rfl (by first | omega | (simp only [List.length_set]; omega)) (hM.o0.rd) (uv_lt (by first | omega | (simp only [List.length_set]; omega)))) ?_
        refine DF.vg rfl rfl rfl rfl hg1 (by decide) (Val.load flat37 rfl (fun _ h => h.2.o0.rd) (uv_at (by first | omega | (simp only [List.length_set]; omega)))) ?_
        refine DF.mg rfl rfl rfl hg1 (Step.call body66 rfl rfl (by decide) rfl (CallsV.mono (less_u32 (gn D.toList a) (gn D.toList i2) _) ?_))
        rintro _ w8 ⟨rfl, hb8⟩
        replace hM := hM.below hb8
        replace hB := hB.trans (hb8.mono (Nat.le_trans hB0 hB.size))
        refine ⟨fun _ => ⟨hB, hM⟩, ?_⟩
        refine DF.vg rfl rfl rfl rfl hg1 (by decide) (Val.not rfl) ?_
        refine DF.vv rfl rfl rfl (by decide) (Val.pickT rfl hg1 rfl) ?_
        refine DF.nil ?_
        refine thenP_normal ?_
        refine ⟨(), ?_, ?_, ⟨trivial, hM, hB⟩⟩
        · exact Sub.cons' rfl (congrArg Value.bool (by first | exact decide_eq_decide.2 (by omega) | (rw [← decide_not]; exact decide_eq_decide.2 (by omega)) | exact (decide_eq_false (by omega)).symm | exact (decide_eq_true (by omega)).symm)) (Sub.nil _)
        · repeat (first | exact Sub.nil _ | refine Sub.cons rfl ?_)
      ·
        first | (have hg1p := of_decide_eq_false hg1) | skip
        refine DF.s rfl rfl rfl rfl hg1 (by decide) ?_
        refine DF.s rfl rfl rfl rfl hg1 (by decide) ?_
        refine DF.s rfl rfl rfl rfl hg1 (by decide) ?_
        refine DF.s rfl rfl rfl rfl hg1 (by decide) ?_
        refine DF.s rfl rfl rfl rfl hg1 (by decide) ?_
        refine DF.s rfl rfl rfl rfl hg1 (by decide) ?_
        refine DF.s rfl rfl rfl rfl hg1 (by decide) ?_
        refine DF.s rfl rfl rfl rfl hg1 (by decide) ?_
        refine DF.s rfl rfl rfl rfl hg1 (by decide) ?_
        refine DF.s rfl rfl rfl rfl hg1 (by decide) ?_
        refine DF.vv rfl rfl rfl (by decide) (Val.pickF rfl hg1 rfl) ?_
        refine DF.nil ?_
        refine thenP_normal ?_
        refine ⟨(), ?_, ?_, ⟨trivial, hM, hB⟩⟩
        · exact Sub.cons' rfl (congrArg Value.bool (by first | exact decide_eq_decide.2 (by omega) | (rw [← decide_not]; exact decide_eq_decide.2 (by omega)) | exact (decide_eq_false (by omega)).symm | exact (decide_eq_true (by omega)).symm)) (Sub.nil _)
        · repeat (first | exact Sub.nil _ | refine Sub.cons rfl ?_)
    ·
      rintro _ w9 ⟨_, hM, hB⟩
      simp only [List.cons_append, List.nil_append]
      try simp only at hM
      first | refine W.condD rfl (fun hc2 => ?_) (fun hc2 => ?_) | refine W.cond rfl (fun hc2 => ?_) (fun hc2 => ?_)
      ·
        refine W.skip ?_
        refine thenP_normal ?_
        refine W.block ?_
        refine W.reg ?_
        refine LS.vv rfl rfl (by decide) (Val.move rfl) ?_
        first | refine LS.vv rfl rfl (by decide) (Val.addN (j := 1) rfl rfl (by first | omega | (simp only [List.length_set]; omega))) ?_ | refine LS.vv rfl rfl (by decide) (Val.add64 rfl rfl (by first | omega | (simp only [List.length_set]; omega))) ?_
        refine LS.vv rfl rfl (by decide) (Val.assign rfl) ?_
        refine LS.nil ?_
        refine inBlk_normal ?_
        refine thenP_normal ?_
        rw [up_yes (by omega) (by show (!ltN _ _) = true; rw [← gnA, ltN_no (by omega)]; rfl)] at hI3
        refine ⟨i2 + 1, ?_, ?_, ⟨⟨hI3, by omega, by omega⟩, hM, hB⟩, by omega⟩
        · exact (Sub.cons rfl (Sub.nil _))
        · repeat (first | exact Sub.nil _ | refine Sub.cons rfl ?_)
      ·
        refine W.exit ?_
        refine thenP_exit ?_
        refine thenP_exit ?_
        refine inBlk_exit ?_
        refine thenP_normal ?_
        refine W.seq ?_
        refine W.block ?_
        have hi3 : Go.Sort.scanUp (fun x => !ltN D[a]! x) D j1 i1 = i2 := by rw [← hI3]; exact up_no (fun h1 => (by show (!ltN _ _) = false; rw [← gnA, ltN_yes (by omega)]; rfl))
        refine W.loop (α := Nat) (fun j2 => [(10, .int .i64 (j2 : Int))]) [(0, _), (1, _), (9, _)] (fun j2 w => (Go.Sort.scanDown (fun x => ltN D[a]! x) D i2 j2 = Go.Sort.scanDown (fun x => ltN D[a]! x) D i2 j1 ∧ a ≤ j2 ∧ j2 ≤ j1) ∧ Mem w B (⟨37, p, n, c, uv D.toList⟩ :: S) ∧ Below B w0 w) (fun j2 => j2) (j1) (Sub.cons rfl (Sub.nil _)) (Sub.cons rfl (Sub.cons rfl (Sub.cons rfl (Sub.nil _)))) ?_ ?_
        · exact ⟨⟨rfl, by omega, Nat.le_refl _⟩, hM, hB⟩
        rintro j2 w10 ⟨⟨hJ3, hj4, hjb4⟩, hM, hB⟩
        try simp only at hM
        simp only [List.cons_append, List.nil_append]
        refine W.seq ?_
        refine W.mid (α := Unit) (fun _ => [(59, .bool (decide (i2 ≤ j2 ∧ gn D.toList a < gn D.toList j2)))]) [(0, _), (1, _), (9, _), (10, _)] (fun _ w => (True) ∧ Mem w B (⟨37, p, n, c, uv D.toList⟩ :: S) ∧ Below B w0 w) (Sub.cons rfl (Sub.cons rfl (Sub.cons rfl (Sub.cons rfl (Sub.nil _))))) ?_ ?_
        ·
          refine W.regF 14 [(0, true), (1, true), (2, true), (3, true), (4, true), (5, true), (6, true), (7, true), (8, true), (9, true), (10, true), (11, true), (12, false), (13, true)] mixed (by kernel_rfl) hB hM ?_
          replace hB := hB.drew
          replace hM := hM.drew
          refine DF.vv rfl rfl rfl (by decide) (Val.move rfl) ?_
          refine DF.vv rfl rfl rfl (by decide) (Val.move rfl) ?_
          refine DF.vv rfl rfl rfl (by decide) (Val.leq rfl rfl) ?_
          refine DF.vv rfl rfl rfl (by decide) (Val.move rfl) ?_
          refine DF.split 3 rfl (fun hg3 => ?_) (fun hg3 => ?_)
          ·
            first | (have hg3p := of_decide_eq_true hg3) | skip
            refine DF.vg rfl rfl rfl rfl hg3 (by decide) (Val.move rfl) ?_
            refine DF.vg rfl rfl rfl rfl hg3 (by decide) (Val.move rfl) ?_
            refine DF.vg rfl rfl rfl rfl hg3 (by decide) (Val.index1 Try.underlying32 elem37 rfl rfl (by first | omega | (simp only [List.length_set]; omega)) (hM.o0.rd) (uv_lt (by first | omega | (simp only [List.length_set]; omega)))) ?_
            refine DF.vg rfl rfl rfl rfl hg3 (by decide) (Val.load flat37 rfl (fun _ h => h.2.o0.rd) (uv_at (by first | omega | (simp only [List.length_set]; omega)))) ?_
            refine DF.vg rfl rfl rfl rfl hg3 (by decide) (Val.move rfl) ?_
            refine DF.vg rfl rfl rfl rfl hg3 (by decide) (Val.move rfl) ?_
            refine DF.vg rfl rfl rfl rfl hg3 (by decide) (Val.index1 Try.underlying32 elem37 rfl rfl (by first | omega | (simp only [List.length_set]; omega)) (hM.o0.rd) (uv_lt (by first | omega | (simp only [List.length_set]; omega)))) ?_
            refine DF.vg rfl rfl rfl rfl hg3 (by decide) (Val.load flat37 rfl (fun _ h => h.2.o0.rd) (uv_at (by first | omega | (simp only [List.length_set]; omega)))) ?_
            refine DF.mg rfl rfl rfl hg3 (Step.call body66 rfl rfl (by decide) rfl (CallsV.mono (less_u32 (gn D.toList a) (gn D.toList j2) _) ?_))
            rintro _ w11 ⟨rfl, hb11⟩
            replace hM := hM.below hb11
            replace hB := hB.trans (hb11.mono (Nat.le_trans hB0 hB.size))
            refine ⟨fun _ => ⟨hB, hM⟩, ?_⟩
            refine DF.vv rfl rfl rfl (by decide) (Val.pickT rfl hg3 rfl) ?_
            refine DF.nil ?_
            refine thenP_normal ?_
            refine ⟨(), ?_, ?_, ⟨trivial, hM, hB⟩⟩
            · exact Sub.cons' rfl (congrArg Value.bool (by first | exact decide_eq_decide.2 (by omega) | (rw [← decide_not]; exact decide_eq_decide.2 (by omega)) | exact (decide_eq_false (by omega)).symm | exact (decide_eq_true (by omega)).symm)) (Sub.nil _)
            · repeat (first | exact Sub.nil _ | refine Sub.cons rfl ?_)
          ·
            first | (have hg3p := of_decide_eq_false hg3) | skip
            refine DF.s rfl rfl rfl rfl hg3 (by decide) ?_
            refine DF.s rfl rfl rfl rfl hg3 (by decide) ?_
            refine DF.s rfl rfl rfl rfl hg3 (by decide) ?_
            refine DF.s rfl rfl rfl rfl hg3 (by decide) ?_
            refine DF.s rfl rfl rfl rfl hg3 (by decide) ?_
            refine DF.s rfl rfl rfl rfl hg3 (by decide) ?_
            refine DF.s rfl rfl rfl rfl hg3 (by decide) ?_
            refine DF.s rfl rfl rfl rfl hg3 (by decide) ?_
            refine DF.s rfl rfl rfl rfl hg3 (by decide) ?_
            refine DF.vv rfl rfl rfl (by decide) (Val.pickF rfl hg3 rfl) ?_
            refine DF.nil ?_
            refine thenP_normal ?_
            refine ⟨(), ?_, ?_, ⟨trivial, hM, hB⟩⟩
            · exact Sub.cons' rfl (congrArg Value.bool (by first | exact decide_eq_decide.2 (by omega) | (rw [← decide_not]; exact decide_eq_decide.2 (by omega)) | exact (decide_eq_false (by omega)).symm | exact (decide_eq_true (by omega)).symm)) (Sub.nil _)
            · repeat (first | exact Sub.nil _ | refine Sub.cons rfl ?_)
        ·
          rintro _ w12 ⟨_, hM, hB⟩
          simp only [List.cons_append, List.nil_append]
          try simp only at hM
          first | refine W.condD rfl (fun hc4 => ?_) (fun hc4 => ?_) | refine W.cond rfl (fun hc4 => ?_) (fun hc4 => ?_)
          ·
            refine W.skip ?_
            refine thenP_normal ?_
            refine W.block ?_
            refine W.reg ?_
            refine LS.vv rfl rfl (by decide) (Val.move rfl) ?_
            first | refine LS.vv rfl rfl (by decide) (Val.subN (j := 1) rfl rfl (by first | omega | (simp only [List.length_set]; omega)) (by first | omega | (simp only [List.length_set]; omega))) ?_ | refine LS.vv rfl rfl (by decide) (Val.sub64 rfl rfl (by first | omega | (simp only [List.length_set]; omega))) ?_
            refine LS.vv rfl rfl (by decide) (Val.assign rfl) ?_
            refine LS.nil ?_
            refine inBlk_normal ?_
            refine thenP_normal ?_
            rw [down_yes (by omega) (by omega) (by show ltN _ _ = true; rw [← gnA]; exact ltN_yes (by omega))] at hJ3
            refine ⟨j2 - 1, ?_, ?_, ⟨⟨hJ3, by omega, by omega⟩, hM, hB⟩, by omega⟩
            · exact (Sub.cons rfl (Sub.nil _))
            · repeat (first | exact Sub.nil _ | refine Sub.cons rfl ?_)
          ·
            refine W.exit ?_
            refine thenP_exit ?_
            refine thenP_exit ?_
            refine inBlk_exit ?_
            refine thenP_normal ?_
            refine W.seq ?_
            refine W.seqR ?_
            refine LS.vv rfl rfl (by decide) (Val.move rfl) ?_
            refine LS.vv rfl rfl (by decide) (Val.move rfl) ?_
            refine LS.vv rfl rfl (by decide) (Val.gtr rfl rfl) ?_
            refine LS.nil ?_
            first | refine W.condD rfl (fun hc5 => ?_) (fun hc5 => ?_) | refine W.cond rfl (fun hc5 => ?_) (fun hc5 => ?_)
            ·
              have hj3 : Go.Sort.scanDown (fun x => ltN D[a]! x) D i2 j1 = j2 := by rw [← hJ3]; exact down_no (fun h1 => (by show ltN _ _ = false; rw [← gnA]; exact ltN_no (by omega)))
              rw [pe_end hi3 hj3 (by omega)] at hP
              refine W.exit ?_
              refine thenP_exit ?_
              refine inBlk_ne (by decide) ?_
              refine thenP_exit ?_
              refine inBlk_exit ?_
              refine thenP_normal ?_
              refine W.seqR ?_
              refine LS.vv rfl rfl (by decide) (Val.move rfl) ?_
              refine LS.vv rfl rfl (by decide) (Val.assign rfl) ?_
              refine LS.nil ?_
              refine W.ret ?_
              refine ret1 (by first | exact .inl rfl | exact .inr rfl) rfl ?_
              exact ⟨(i2, D), hP.symm, rfl, hM, hB⟩
            ·
              have hj3 : Go.Sort.scanDown (fun x => ltN D[a]! x) D i2 j1 = j2 := by rw [← hJ3]; exact down_no (fun h1 => (by show ltN _ _ = false; rw [← gnA]; exact ltN_no (by omega)))
              refine W.skip ?_
              refine thenP_normal ?_
              refine W.seqT (S := fun w => Below B w0 w) (.val 0 (.val 1 (.val 2 (.val 3 (.val 4 (.val 5 (.val 6 (.val 8 (.val 9 (.val 10 (.two (.mem 7 (.mem 11 (.val 12 (.mem 13 (.val 14 (.mem 15 (.done))))))) (.mem 11 (.mem 7 (.val 12 (.mem 13 (.val 14 (.mem 15 (.done)))))))))))))))))) mixed (by kernel_rfl) hB.drew ?_
              replace hB := hB.drew
              replace hM := hM.drew
              refine DT.vv rfl rfl rfl (by decide) (Val.move rfl) ?_
              refine DT.vv rfl rfl rfl (by decide) (Val.move rfl) ?_
              refine DT.vv rfl rfl rfl (by decide) (Val.move rfl) ?_
              refine DT.vv rfl rfl rfl (by decide) (Val.move rfl) ?_
              refine DT.vv rfl rfl rfl (by decide) (Val.move rfl) ?_
              refine DT.vv rfl rfl rfl (by decide) (Val.move rfl) ?_
              refine DT.vv rfl rfl rfl (by decide) (Val.index1 Try.underlying32 elem37 rfl rfl (by first | omega | (simp only [List.length_set]; omega)) (hM.o0.rd) (uv_lt (by first | omega | (simp only [List.length_set]; omega)))) ?_
              refine DT.vv rfl rfl rfl (by decide) (Val.move rfl) ?_
              refine DT.vv rfl rfl rfl (by decide) (Val.move rfl) ?_
              refine DT.vv rfl rfl rfl (by decide) (Val.index1 Try.underlying32 elem37 rfl rfl (by first | omega | (simp only [List.length_set]; omega)) (hM.o0.rd) (uv_lt (by first | omega | (simp only [List.length_set]; omega)))) ?_
              refine DT.two ?_ ?_
              ·
                refine DT.m rfl rfl (Step.load rfl rfl (by decide) flat37 rfl (hM.o0.rd) (uv_at (by first | omega | (simp only [List.length_set]; omega))) ?_)
                refine ⟨hB, ?_⟩
                refine DT.m rfl rfl (Step.load rfl rfl (by decide) flat37 rfl (hM.o0.rd) (uv_at (by first | omega | (simp only [List.length_set]; omega))) ?_)
                refine ⟨hB, ?_⟩
                refine DT.vv rfl rfl rfl (by decide) (Val.index1 Try.underlying32 elem37 rfl rfl (by first | omega | (simp only [List.length_set]; omega)) (hM.o0.rd) (uv_lt (by first | omega | (simp only [List.length_set]; omega)))) ?_
                refine DT.m rfl rfl (Step.store (B := B) rfl rfl flat37 elem37 rfl rfl rfl (hM.o0) (by first | omega | (simp only [List.length_set]; omega)) (Nat.le_trans hB0 hB.size) ?_)
                rintro w13 hO13 hg13 hbl13 hsz13
                replace hM := hM.s0 hg13 hO13 inl_block
                try simp only [uv_app1, uv_app, uv_set, uv_rep, uv_one, uv_cons, uv_take, uv_drop, List.nil_append] at hM
                replace hB := hB.trans hbl13
                refine ⟨hB, ?_⟩
                refine DT.vv rfl rfl rfl (by decide) (Val.index1 Try.underlying32 elem37 rfl rfl (by first | omega | (simp only [List.length_set]; omega)) (hM.o0.rd) (uv_lt (by first | omega | (simp only [List.length_set]; omega)))) ?_
                refine DT.m rfl rfl (Step.store (B := B) rfl rfl flat37 elem37 rfl rfl rfl (hM.o0) (by first | omega | (simp only [List.length_set]; omega)) (Nat.le_trans hB0 hB.size) ?_)
                rintro w14 hO14 hg14 hbl14 hsz14
                replace hM := hM.s0 hg14 hO14 inl_block
                try simp only [uv_app1, uv_app, uv_set, uv_rep, uv_one, uv_cons, uv_take, uv_drop, List.nil_append] at hM
                replace hB := hB.trans hbl14
                refine ⟨hB, ?_⟩
                refine DT.nil ?_
                refine W.seqR ?_
                refine LS.vv rfl rfl (by decide) (Val.move rfl) ?_
                first | refine LS.vv rfl rfl (by decide) (Val.addN (j := 1) rfl rfl (by first | omega | (simp only [List.length_set]; omega))) ?_ | refine LS.vv rfl rfl (by decide) (Val.add64 rfl rfl (by first | omega | (simp only [List.length_set]; omega))) ?_
                refine LS.vv rfl rfl (by decide) (Val.assign rfl) ?_
                refine LS.nil ?_
                refine W.reg ?_
                refine LS.vv rfl rfl (by decide) (Val.move rfl) ?_
                first | refine LS.vv rfl rfl (by decide) (Val.subN (j := 1) rfl rfl (by first | omega | (simp only [List.length_set]; omega)) (by first | omega | (simp only [List.length_set]; omega))) ?_ | refine LS.vv rfl rfl (by decide) (Val.sub64 rfl rfl (by first | omega | (simp only [List.length_set]; omega))) ?_
                refine LS.vv rfl rfl (by decide) (Val.assign rfl) ?_
                refine LS.nil ?_
                refine inBlk_normal ?_
                refine thenP_normal ?_
                simp only [swpA] at hM
                try rw [swp_comm D j2 i2] at hM
                rw [pe_step hi3 hj3 (by omega) (by omega) (by omega) (by omega)] at hP
                refine ⟨(Go.Sort.swp D i2 j2, i2 + 1, j2 - 1), ?_, ?_, ⟨⟨hP, by simp only; omega, by simp only; omega, by simp only; omega, by simp only; omega, by simp only [swp_size]; exact hDn⟩, hM, hB⟩, by simp only; omega⟩
                · exact (Sub.cons rfl (Sub.cons rfl (Sub.nil _)))
                · repeat (first | exact Sub.nil _ | refine Sub.cons rfl ?_)
              ·
                refine DT.m rfl rfl (Step.load rfl rfl (by decide) flat37 rfl (hM.o0.rd) (uv_at (by first | omega | (simp only [List.length_set]; omega))) ?_)
                refine ⟨hB, ?_⟩
                refine DT.m rfl rfl (Step.load rfl rfl (by decide) flat37 rfl (hM.o0.rd) (uv_at (by first | omega | (simp only [List.length_set]; omega))) ?_)
                refine ⟨hB, ?_⟩
                refine DT.vv rfl rfl rfl (by decide) (Val.index1 Try.underlying32 elem37 rfl rfl (by first | omega | (simp only [List.length_set]; omega)) (hM.o0.rd) (uv_lt (by first | omega | (simp only [List.length_set]; omega)))) ?_
                refine DT.m rfl rfl (Step.store (B := B) rfl rfl flat37 elem37 rfl rfl rfl (hM.o0) (by first | omega | (simp only [List.length_set]; omega)) (Nat.le_trans hB0 hB.size) ?_)
                rintro w15 hO15 hg15 hbl15 hsz15
                replace hM := hM.s0 hg15 hO15 inl_block
                try simp only [uv_app1, uv_app, uv_set, uv_rep, uv_one, uv_cons, uv_take, uv_drop, List.nil_append] at hM
                replace hB := hB.trans hbl15
                refine ⟨hB, ?_⟩
                refine DT.vv rfl rfl rfl (by decide) (Val.index1 Try.underlying32 elem37 rfl rfl (by first | omega | (simp only [List.length_set]; omega)) (hM.o0.rd) (uv_lt (by first | omega | (simp only [List.length_set]; omega)))) ?_
                refine DT.m rfl rfl (Step.store (B := B) rfl rfl flat37 elem37 rfl rfl rfl (hM.o0) (by first | omega | (simp only [List.length_set]; omega)) (Nat.le_trans hB0 hB.size) ?_)
                rintro w16 hO16 hg16 hbl16 hsz16
                replace hM := hM.s0 hg16 hO16 inl_block
                try simp only [uv_app1, uv_app, uv_set, uv_rep, uv_one, uv_cons, uv_take, uv_drop, List.nil_append] at hM
                replace hB := hB.trans hbl16
                refine ⟨hB, ?_⟩
                refine DT.nil ?_
                refine W.seqR ?_
                refine LS.vv rfl rfl (by decide) (Val.move rfl) ?_
                first | refine LS.vv rfl rfl (by decide) (Val.addN (j := 1) rfl rfl (by first | omega | (simp only [List.length_set]; omega))) ?_ | refine LS.vv rfl rfl (by decide) (Val.add64 rfl rfl (by first | omega | (simp only [List.length_set]; omega))) ?_
                refine LS.vv rfl rfl (by decide) (Val.assign rfl) ?_
                refine LS.nil ?_
                refine W.reg ?_
                refine LS.vv rfl rfl (by decide) (Val.move rfl) ?_
                first | refine LS.vv rfl rfl (by decide) (Val.subN (j := 1) rfl rfl (by first | omega | (simp only [List.length_set]; omega)) (by first | omega | (simp only [List.length_set]; omega))) ?_ | refine LS.vv rfl rfl (by decide) (Val.sub64 rfl rfl (by first | omega | (simp only [List.length_set]; omega))) ?_
                refine LS.vv rfl rfl (by decide) (Val.assign rfl) ?_
                refine LS.nil ?_
                refine inBlk_normal ?_
                refine thenP_normal ?_
                simp only [swpA] at hM
                try rw [swp_comm D j2 i2] at hM
                rw [pe_step hi3 hj3 (by omega) (by omega) (by omega) (by omega)] at hP
                refine ⟨(Go.Sort.swp D i2 j2, i2 + 1, j2 - 1), ?_, ?_, ⟨⟨hP, by simp only; omega, by simp only; omega, by simp only; omega, by simp only; omega, by simp only [swp_size]; exact hDn⟩, hM, hB⟩, by simp only; omega⟩
                · exact (Sub.cons rfl (Sub.cons rfl (Sub.nil _)))
                · repeat (first | exact Sub.nil _ | refine Sub.cons rfl ?_)

theorem partialIns_u32 (d : Array Nat) (p : Option Addr) (n c B : Nat) (S : List Ob) (a b : Nat) (w0 : World) (hM0 : Mem w0 B (⟨37, p, n, c, uv d.toList⟩ :: S)) (hB0 : B ≤ w0.heap.size) (hn : d.size = n) (hn2 : n ≤ 1000000) (hab : a < b) (hb : b ≤ n) :
    CallsV Try.prog 65 #[.slice p n c, .int .i64 (a : Int), .int .i64 (b : Int)] w0 (fun v w => ∃ r : Array Nat × Bool, Go.Sort.partialInsertionSort ltN d a b = r ∧ v = .bool r.2 ∧ Mem w B (⟨37, p, n, c, uv r.1.toList⟩ :: S) ∧ Below B w0 w) := by
  refine enter1 Try.func65 rfl Try.ntmps65 (by simp) rfl ?_
  have hB := Below.refl B w0
  simp only [argLoc, Nat.zero_add, Nat.reduceAdd]
  have hM := hM0
  refine W.seqR ?_
  refine LS.vv rfl rfl (by decide) (Val.assign rfl) ?_
  refine LS.nil ?_
  refine W.seqR ?_
  refine LS.vv rfl rfl (by decide) (Val.move rfl) ?_
  first | refine LS.vv rfl rfl (by decide) (Val.addN (j := 1) rfl rfl (by first | omega | (simp only [List.length_set]; omega))) ?_ | refine LS.vv rfl rfl (by decide) (Val.add64 rfl rfl (by first | omega | (simp only [List.length_set]; omega))) ?_
  refine LS.vv rfl rfl (by decide) (Val.assign rfl) ?_
  refine LS.nil ?_
  refine W.seq ?_
  refine W.seqR ?_
  refine LS.vv rfl rfl (by decide) (Val.cast (v := .int .i64 ((0 : Nat) : Int)) (Val.assign rfl) rfl) ?_
  refine LS.nil ?_
  refine W.block ?_
  refine W.loop (α := Array Nat × Nat × Nat) (fun g => [(7, .int .i64 (g.2.1 : Int)), (8, .int .i64 (g.2.2 : Int))]) [(0, _), (1, _), (2, _)] (fun g w => (Go.Sort.partialIns ltN a b (5 - g.2.2) g.2.1 g.1 = Go.Sort.partialInsertionSort ltN d a b ∧ a + 1 ≤ g.2.1 ∧ g.2.1 ≤ b ∧ g.2.2 ≤ 5 ∧ g.1.size = n) ∧ Mem w B (⟨37, p, n, c, uv g.1.toList⟩ :: S) ∧ Below B w0 w) (fun g => 5 - g.2.2) ((d, a + 1, 0)) (Sub.cons rfl (Sub.cons rfl (Sub.nil _))) (Sub.cons rfl (Sub.cons rfl (Sub.cons rfl (Sub.nil _)))) ?_ ?_
  · exact ⟨⟨rfl, by simp only; omega, by simp only; omega, by simp only; omega, hn⟩, hM, hB⟩
  rintro ⟨D, i, k⟩ w1 ⟨⟨hP, hi1, hib, hk5, hDn⟩, hM, hB⟩
  try simp only at hM
  simp only [List.cons_append, List.nil_append]
  simp only at hP hi1 hib hk5 hDn
  have hlD : D.toList.length = n := by rw [Array.length_toList]; first | assumption | omega
  refine W.seq ?_
  refine W.seqR ?_
  refine LS.vv rfl rfl (by decide) (Val.move rfl) ?_
  refine LS.vv rfl rfl (by decide) (Val.lss rfl rfl) ?_
  refine LS.nil ?_
  first | refine W.condD rfl (fun hc1 => ?_) (fun hc1 => ?_) | refine W.cond rfl (fun hc1 => ?_) (fun hc1 => ?_)
  ·
    refine W.skip ?_
    refine thenP_normal ?_
    refine W.seq ?_
    refine W.block ?_
    refine W.seq ?_
    refine W.block ?_
    refine W.loop (α := Nat) (fun i2 => [(7, .int .i64 (i2 : Int))]) [(0, _), (1, _), (2, _), (8, _)] (fun i2 w => (Go.Sort.scanSorted ltN D b i2 = Go.Sort.scanSorted ltN D b i ∧ i ≤ i2 ∧ i2 ≤ b) ∧ Mem w B (⟨37, p, n, c, uv D.toList⟩ :: S) ∧ Below B w0 w) (fun i2 => b - i2) (i) (Sub.cons rfl (Sub.nil _)) (Sub.cons rfl (Sub.cons rfl (Sub.cons rfl (Sub.cons rfl (Sub.nil _))))) ?_ ?_
    · exact ⟨⟨rfl, Nat.le_refl _, hib⟩, hM, hB⟩
    rintro i2 w2 ⟨⟨hS, hi2, hib2⟩, hM, hB⟩
    try simp only at hM
    simp only [List.cons_append, List.nil_append]
    refine W.seq ?_
    refine W.mid (α := Unit) (fun _ => [(32, .bool (decide (i2 < b ∧ ¬ gn D.toList i2 < gn D.toList (i2 - 1))))]) [(0, _), (1, _), (2, _), (7, _), (8, _)] (fun _ w => (True) ∧ Mem w B (⟨37, p, n, c, uv D.toList⟩ :: S) ∧ Below B w0 w) (Sub.cons rfl (Sub.cons rfl (Sub.cons rfl (Sub.cons rfl (Sub.cons rfl (Sub.nil _)))))) ?_ ?_
    ·
      refine W.regF 16 [(0, true), (1, true), (2, true), (3, true), (4, true), (5, true), (6, true), (7, true), (8, true), (9, true), (10, true), (11, true), (12, true), (13, false), (14, true), (15, true)] mixed (by kernel_rfl) hB hM ?_
      replace hB := hB.drew
      replace hM := hM.drew
      refine DF.vv rfl rfl rfl (by decide) (Val.move rfl) ?_
      refine DF.vv rfl rfl rfl (by decide) (Val.move rfl) ?_
      refine DF.vv rfl rfl rfl (by decide) (Val.lss rfl rfl) ?_
      refine DF.vv rfl rfl rfl (by decide) (Val.move rfl) ?_
      refine DF.split 3 rfl (fun hg2 => ?_) (fun hg2 => ?_)
      ·
        first | (have hg2p := of_decide_eq_true hg2) | skip
        refine DF.vg rfl rfl rfl rfl hg2 (by decide) (Val.move rfl) ?_
        refine DF.vg rfl rfl rfl rfl hg2 (by decide) (Val.move rfl) ?_
        refine DF.vg rfl rfl rfl rfl hg2 (by decide) (Val.index1 Try.underlying32 elem37 rfl rfl (by first | omega | (simp only [List.length_set]; omega)) (hM.o0.rd) (uv_lt (by first | omega | (simp only [List.length_set]; omega)))) ?_
        refine DF.vg rfl rfl rfl rfl hg2 (by decide) (Val.load flat37 rfl (fun _ h => h.2.o0.rd) (uv_at (by first | omega | (simp only [List.length_set]; omega)))) ?_
        refine DF.vg rfl rfl rfl rfl hg2 (by decide) (Val.move rfl) ?_
        refine DF.vg rfl rfl rfl rfl hg2 (by decide) (Val.move rfl) ?_
        first | refine DF.vg rfl rfl rfl rfl hg2 (by decide) (Val.subN (j := 1) rfl rfl (by first | omega | (simp only [List.length_set]; omega)) (by first | omega | (simp only [List.length_set]; omega))) ?_ | refine DF.vg rfl rfl rfl rfl hg2 (by decide) (Val.sub64 rfl rfl (by first | omega | (simp only [List.length_set]; omega))) ?_
        refine DF.vg rfl rfl rfl rfl hg2 (by decide) (Val.index1 Try.underlying32 elem37 rfl rfl (by first | omega | (simp only [List.length_set]; omega)) (hM.o0.rd) (uv_lt (by first | omega | (simp only [List.length_set]; omega)))) ?_
        refine DF.vg rfl rfl rfl rfl hg2 (by decide) (Val.load flat37 rfl (fun _ h => h.2.o0.rd) (uv_at (by first | omega | (simp only [List.length_set]; omega)))) ?_
        refine DF.mg rfl rfl rfl hg2 (Step.call body66 rfl rfl (by decide) rfl (CallsV.mono (less_u32 (gn D.toList i2) (gn D.toList (i2 - 1)) _) ?_))
        rintro _ w3 ⟨rfl, hb3⟩
        replace hM := hM.below hb3
        replace hB := hB.trans (hb3.mono (Nat.le_trans hB0 hB.size))
        refine ⟨fun _ => ⟨hB, hM⟩, ?_⟩
        refine DF.vg rfl rfl rfl rfl hg2 (by decide) (Val.not rfl) ?_
        refine DF.vv rfl rfl rfl (by decide) (Val.pickT rfl hg2 rfl) ?_
        refine DF.nil ?_
        refine thenP_normal ?_
        refine ⟨(), ?_, ?_, ⟨trivial, hM, hB⟩⟩
        · exact Sub.cons' rfl (congrArg Value.bool (by first | exact decide_eq_decide.2 (by omega) | (rw [← decide_not]; exact decide_eq_decide.2 (by omega)) | exact (decide_eq_false (by omega)).symm | exact (decide_eq_true (by omega)).symm)) (Sub.nil _)
        · repeat (first | exact Sub.nil _ | refine Sub.cons rfl ?_)
      ·
        first | (have hg2p := of_decide_eq_false hg2) | skip
        refine DF.s rfl rfl rfl rfl hg2 (by decide) ?_
        refine DF.s rfl rfl rfl rfl hg2 (by decide) ?_
        refine DF.s rfl rfl rfl rfl hg2 (by decide) ?_
        refine DF.s rfl rfl rfl rfl hg2 (by decide) ?_
        refine DF.s rfl rfl rfl rfl hg2 (by decide) ?_
        refine DF.s rfl rfl rfl rfl hg2 (by decide) ?_
        refine DF.s rfl rfl rfl rfl hg2 (by decide) ?_
        refine DF.s rfl rfl rfl rfl hg2 (by decide) ?_
        refine DF.s rfl rfl rfl rfl hg2 (by decide) ?_
        refine DF.s rfl rfl rfl rfl hg2 (by decide) ?_
        refine DF.s rfl rfl rfl rfl hg2 (by decide) ?_
        refine DF.vv rfl rfl rfl (by decide) (Val.pickF rfl hg2 rfl) ?_
        refine DF.nil ?_
        refine thenP_normal ?_
        refine ⟨(), ?_, ?_, ⟨trivial, hM, hB⟩⟩
        · exact Sub.cons' rfl (congrArg Value.bool (by first | exact decide_eq_decide.2 (by omega) | (rw [← decide_not]; exact decide_eq_decide.2 (by omega)) | exact (decide_eq_false (by omega)).symm | exact (decide_eq_true (by omega)).symm)) (Sub.nil _)
        · repeat (first | exact Sub.nil _ | refine Sub.cons rfl ?_)
    ·
      rintro _ w4 ⟨_, hM, hB⟩
      simp only [List.cons_append, List.nil_append]
      try simp only at hM
      first | refine W.condD rfl (fun hc3 => ?_) (fun hc3 => ?_) | refine W.cond rfl (fun hc3 => ?_) (fun hc3 => ?_)
      ·
        refine W.skip ?_
        refine thenP_normal ?_
        refine W.block ?_
        refine W.reg ?_
        refine LS.vv rfl rfl (by decide) (Val.move rfl) ?_
        first | refine LS.vv rfl rfl (by decide) (Val.addN (j := 1) rfl rfl (by first | omega | (simp only [List.length_set]; omega))) ?_ | refine LS.vv rfl rfl (by decide) (Val.add64 rfl rfl (by first | omega | (simp only [List.length_set]; omega))) ?_
        refine LS.vv rfl rfl (by decide) (Val.assign rfl) ?_
        refine LS.nil ?_
        refine inBlk_normal ?_
        refine thenP_normal ?_
        rw [ss_yes (by omega) (by omega)] at hS
        refine ⟨i2 + 1, ?_, ?_, ⟨⟨hS, by omega, by omega⟩, hM, hB⟩, by omega⟩
        · exact (Sub.cons rfl (Sub.nil _))
        · repeat (first | exact Sub.nil _ | refine Sub.cons rfl ?_)
      ·
        refine W.exit ?_
        refine thenP_exit ?_
        refine thenP_exit ?_
        refine inBlk_exit ?_
        refine thenP_normal ?_
        refine W.seq ?_
        refine W.seqR ?_
        refine LS.vv rfl rfl (by decide) (Val.move rfl) ?_
        refine LS.vv rfl rfl (by decide) (Val.move rfl) ?_
        refine LS.vv rfl rfl (by decide) (Val.eql rfl rfl) ?_
        refine LS.nil ?_
        first | refine W.condD rfl (fun hc4 => ?_) (fun hc4 => ?_) | refine W.cond rfl (fun hc4 => ?_) (fun hc4 => ?_)
        ·
          have hss : Go.Sort.scanSorted ltN D b i = i2 := by rw [← hS]; exact ss_no (fun h1 => by omega)
          rw [show 5 - k = (4 - k) + 1 by omega, pi_eq hss, if_pos (by omega)] at hP
          refine W.seqR ?_
          refine LS.vv rfl rfl (by decide) (Val.assign rfl) ?_
          refine LS.nil ?_
          refine W.ret ?_
          refine thenP_ret ?_
          refine inBlk_ret ?_
          refine thenP_ret ?_
          refine thenP_ret ?_
          refine inBlk_ret ?_
          refine thenP_ret ?_
          refine ret1 (by first | exact .inl rfl | exact .inr rfl) rfl ?_
          first
            | exact ⟨(D, true), hP.symm, rfl, hM, hB⟩
            | exact ⟨(D, false), hP.symm, rfl, hM, hB⟩
            | (obtain rfl : k = 5 := by omega
               exact ⟨(D, false), hP.symm, rfl, hM, hB⟩)
        ·
          have hss : Go.Sort.scanSorted ltN D b i = i2 := by rw [← hS]; exact ss_no (fun h1 => by omega)
          rw [show 5 - k = (4 - k) + 1 by omega, pi_eq hss] at hP
          refine W.skip ?_
          refine thenP_normal ?_
          refine W.seq ?_
          refine W.seqR ?_
          refine LS.vv rfl rfl (by decide) (Val.move rfl) ?_
          refine LS.vv rfl rfl (by decide) (Val.move rfl) ?_
          first | refine LS.vv rfl rfl (by decide) (Val.subN rfl rfl (by first | omega | (simp only [List.length_set]; omega)) (by first | omega | (simp only [List.length_set]; omega))) ?_ | refine LS.vv rfl rfl (by decide) (Val.sub64 rfl rfl (by first | omega | (simp only [List.length_set]; omega))) ?_
          refine LS.vv rfl rfl (by decide) (Val.lss rfl rfl) ?_
          refine LS.nil ?_
          first | refine W.condD rfl (fun hc5 => ?_) (fun hc5 => ?_) | refine W.cond rfl (fun hc5 => ?_) (fun hc5 => ?_)
          ·
            rw [if_neg (by omega), if_pos (by omega)] at hP
            refine W.seqR ?_
            refine LS.vv rfl rfl (by decide) (Val.assign rfl) ?_
            refine LS.nil ?_
            refine W.ret ?_
            refine thenP_ret ?_
            refine inBlk_ret ?_
            refine thenP_ret ?_
            refine thenP_ret ?_
            refine inBlk_ret ?_
            refine thenP_ret ?_
            refine ret1 (by first | exact .inl rfl | exact .inr rfl) rfl ?_
            first
              | exact ⟨(D, true), hP.symm, rfl, hM, hB⟩
              | exact ⟨(D, false), hP.symm, rfl, hM, hB⟩
              | (obtain rfl : k = 5 := by omega
                 exact ⟨(D, false), hP.symm, rfl, hM, hB⟩)
          ·
            refine W.skip ?_
            refine thenP_normal ?_
            refine W.mid (α := Unit) (fun _ => []) [(0, _), (1, _), (2, _), (7, _), (8, _)] (fun _ w => (True) ∧ Mem w B (⟨37, p, n, c, uv (Go.Sort.swp D i2 (i2 - 1)).toList⟩ :: S) ∧ Below B w0 w) (Sub.cons rfl (Sub.cons rfl (Sub.cons rfl (Sub.cons rfl (Sub.cons rfl (Sub.nil _)))))) ?_ ?_
            ·
              refine W.regT (S := fun w => Below B w0 w) (.val 0 (.val 1 (.val 2 (.val 3 (.val 4 (.val 5 (.val 6 (.val 7 (.val 8 (.val 10 (.val 11 (.val 12 (.two (.mem 9 (.mem 13 (.val 14 (.mem 15 (.val 16 (.mem 17 (.done))))))) (.mem 13 (.mem 9 (.val 14 (.mem 15 (.val 16 (.mem 17 (.done)))))))))))))))))))) mixed (by kernel_rfl) hB.drew ?_
              replace hB := hB.drew
              replace hM := hM.drew
              refine DT.vv rfl rfl rfl (by decide) (Val.move rfl) ?_
              refine DT.vv rfl rfl rfl (by decide) (Val.move rfl) ?_
              refine DT.vv rfl rfl rfl (by decide) (Val.move rfl) ?_
              refine DT.vv rfl rfl rfl (by decide) (Val.move rfl) ?_
              first | refine DT.vv rfl rfl rfl (by decide) (Val.subN (j := 1) rfl rfl (by first | omega | (simp only [List.length_set]; omega)) (by first | omega | (simp only [List.length_set]; omega))) ?_ | refine DT.vv rfl rfl rfl (by decide) (Val.sub64 rfl rfl (by first | omega | (simp only [List.length_set]; omega))) ?_
              refine DT.vv rfl rfl rfl (by decide) (Val.move rfl) ?_
              refine DT.vv rfl rfl rfl (by decide) (Val.move rfl) ?_
              first | refine DT.vv rfl rfl rfl (by decide) (Val.subN (j := 1) rfl rfl (by first | omega | (simp only [List.length_set]; omega)) (by first | omega | (simp only [List.length_set]; omega))) ?_ | refine DT.vv rfl rfl rfl (by decide) (Val.sub64 rfl rfl (by first | omega | (simp only [List.length_set]; omega))) ?_
              refine DT.vv rfl rfl rfl (by decide) (Val.index1 Try.underlying32 elem37 rfl rfl (by first | omega | (simp only [List.length_set]; omega)) (hM.o0.rd) (uv_lt (by first | omega | (simp only [List.length_set]; omega)))) ?_
              refine DT.vv rfl rfl rfl (by decide) (Val.move rfl) ?_
              refine DT.vv rfl rfl rfl (by decide) (Val.move rfl) ?_
              refine DT.vv rfl rfl rfl (by decide) (Val.index1 Try.underlying32 elem37 rfl rfl (by first | omega | (simp only [List.length_set]; omega)) (hM.o0.rd) (uv_lt (by first | omega | (simp only [List.length_set]; omega)))) ?_
              refine DT.two ?_ ?_
              ·
                refine DT.m rfl rfl (Step.load rfl rfl (by decide) flat37 rfl (hM.o0.rd) (uv_at (by first | omega | (simp only [List.length_set]; omega))) ?_)
                refine ⟨hB, ?_⟩
                refine DT.m rfl rfl (Step.load rfl rfl (by decide) flat37 rfl (hM.o0.rd) (uv_at (by first | omega | (simp only [List.length_set]; omega))) ?_)
                refine ⟨hB, ?_⟩
                refine DT.vv rfl rfl rfl (by decide) (Val.index1 Try.underlying32 elem37 rfl rfl (by first | omega | (simp only [List.length_set]; omega)) (hM.o0.rd) (uv_lt (by first | omega | (simp only [List.length_set]; omega)))) ?_
                refine DT.m rfl rfl (Step.store (B := B) rfl rfl flat37 elem37 rfl rfl rfl (hM.o0) (by first | omega | (simp only [List.length_set]; omega)) (Nat.le_trans hB0 hB.size) ?_)
                rintro w5 hO5 hg5 hbl5 hsz5
                replace hM := hM.s0 hg5 hO5 inl_block
                try simp only [uv_app1, uv_app, uv_set, uv_rep, uv_one, uv_cons, uv_take, uv_drop, List.nil_append] at hM
                replace hB := hB.trans hbl5
                refine ⟨hB, ?_⟩
                refine DT.vv rfl rfl rfl (by decide) (Val.index1 Try.underlying32 elem37 rfl rfl (by first | omega | (simp only [List.length_set]; omega)) (hM.o0.rd) (uv_lt (by first | omega | (simp only [List.length_set]; omega)))) ?_
                refine DT.m rfl rfl (Step.store (B := B) rfl rfl flat37 elem37 rfl rfl rfl (hM.o0) (by first | omega | (simp only [List.length_set]; omega)) (Nat.le_trans hB0 hB.size) ?_)
                rintro w6 hO6 hg6 hbl6 hsz6
                replace hM := hM.s0 hg6 hO6 inl_block
                try simp only [uv_app1, uv_app, uv_set, uv_rep, uv_one, uv_cons, uv_take, uv_drop, List.nil_append] at hM
                replace hB := hB.trans hbl6
                refine ⟨hB, ?_⟩
                refine DT.nil ?_
                refine thenP_normal ?_
                simp only [swpA] at hM
                try rw [swp_comm D (i2 - 1) i2] at hM
                refine ⟨(), ?_, ?_, ⟨trivial, hM, hB⟩⟩
                · exact Sub.nil _
                · repeat (first | exact Sub.nil _ | refine Sub.cons rfl ?_)
              ·
                refine DT.m rfl rfl (Step.load rfl rfl (by decide) flat37 rfl (hM.o0.rd) (uv_at (by first | omega | (simp only [List.length_set]; omega))) ?_)
                refine ⟨hB, ?_⟩
                refine DT.m rfl rfl (Step.load rfl rfl (by decide) flat37 rfl (hM.o0.rd) (uv_at (by first | omega | (simp only [List.length_set]; omega))) ?_)
                refine ⟨hB, ?_⟩
                refine DT.vv rfl rfl rfl (by decide) (Val.index1 Try.underlying32 elem37 rfl rfl (by first | omega | (simp only [List.length_set]; omega)) (hM.o0.rd) (uv_lt (by first | omega | (simp only [List.length_set]; omega)))) ?_
                refine DT.m rfl rfl (Step.store (B := B) rfl rfl flat37 elem37 rfl rfl rfl (hM.o0) (by first | omega | (simp only [List.length_set]; omega)) (Nat.le_trans hB0 hB.size) ?_)
                rintro w7 hO7 hg7 hbl7 hsz7
                replace hM := hM.s0 hg7 hO7 inl_block
                try simp only [uv_app1, uv_app, uv_set, uv_rep, uv_one, uv_cons, uv_take, uv_drop, List.nil_append] at hM
                replace hB := hB.trans hbl7
                refine ⟨hB, ?_⟩
                refine DT.vv rfl rfl rfl (by decide) (Val.index1 Try.underlying32 elem37 rfl rfl (by first | omega | (simp only [List.length_set]; omega)) (hM.o0.rd) (uv_lt (by first | omega | (simp only [List.length_set]; omega)))) ?_
                refine DT.m rfl rfl (Step.store (B := B) rfl rfl flat37 elem37 rfl rfl rfl (hM.o0) (by first | omega | (simp only [List.length_set]; omega)) (Nat.le_trans hB0 hB.size) ?_)
                rintro w8 hO8 hg8 hbl8 hsz8
                replace hM := hM.s0 hg8 hO8 inl_block
                try simp only [uv_app1, uv_app, uv_set, uv_rep, uv_one, uv_cons, uv_take, uv_drop, List.nil_append] at hM
                replace hB := hB.trans hbl8
                refine ⟨hB, ?_⟩
                refine DT.nil ?_
                refine thenP_normal ?_
                simp only [swpA] at hM
                try rw [swp_comm D (i2 - 1) i2] at hM
                refine ⟨(), ?_, ?_, ⟨trivial, hM, hB⟩⟩
                · exact Sub.nil _
                · repeat (first | exact Sub.nil _ | refine Sub.cons rfl ?_)
            ·
              rintro _ w9 ⟨_, hM, hB⟩
              simp only [List.cons_append, List.nil_append]
              try simp only at hM
              refine W.mid (α := Array Nat) (fun E => []) [(0, _), (1, _), (2, _), (7, _), (8, _)] (fun E w => (E = (if i2 - a ≥ 2 then Go.Sort.shiftDown ltN (i2 - 1) (Go.Sort.swp D i2 (i2 - 1)) else Go.Sort.swp D i2 (i2 - 1)) ∧ E.size = n) ∧ Mem w B (⟨37, p, n, c, uv E.toList⟩ :: S) ∧ Below B w0 w) (Sub.cons rfl (Sub.cons rfl (Sub.cons rfl (Sub.cons rfl (Sub.cons rfl (Sub.nil _)))))) ?_ ?_
              ·
                refine W.seqR ?_
                refine LS.vv rfl rfl (by decide) (Val.move rfl) ?_
                refine LS.vv rfl rfl (by decide) (Val.move rfl) ?_
                first | refine LS.vv rfl rfl (by decide) (Val.subN rfl rfl (by first | omega | (simp only [List.length_set]; omega)) (by first | omega | (simp only [List.length_set]; omega))) ?_ | refine LS.vv rfl rfl (by decide) (Val.sub64 rfl rfl (by first | omega | (simp only [List.length_set]; omega))) ?_
                refine LS.vv rfl rfl (by decide) (Val.geq rfl rfl) ?_
                refine LS.nil ?_
                first | refine W.condD rfl (fun hc6 => ?_) (fun hc6 => ?_) | refine W.cond rfl (fun hc6 => ?_) (fun hc6 => ?_)
                ·
                  refine W.seqR ?_
                  refine LS.vv rfl rfl (by decide) (Val.move rfl) ?_
                  first | refine LS.vv rfl rfl (by decide) (Val.subN (j := 1) rfl rfl (by first | omega | (simp only [List.length_set]; omega)) (by first | omega | (simp only [List.length_set]; omega))) ?_ | refine LS.vv rfl rfl (by decide) (Val.sub64 rfl rfl (by first | omega | (simp only [List.length_set]; omega))) ?_
                  refine LS.vv rfl rfl (by decide) (Val.assign rfl) ?_
                  refine LS.nil ?_
                  refine W.block ?_
                  refine W.loop (α := Array Nat × Nat) (fun g => [(9, .int .i64 (g.2 : Int))]) [(0, _), (1, _), (2, _), (7, _), (8, _)] (fun g w => (Go.Sort.shiftDown ltN g.2 g.1 = Go.Sort.shiftDown ltN (i2 - 1) (Go.Sort.swp D i2 (i2 - 1)) ∧ g.2 < i2 ∧ g.1.size = n) ∧ Mem w B (⟨37, p, n, c, uv g.1.toList⟩ :: S) ∧ Below B w0 w) (fun g => g.2) ((Go.Sort.swp D i2 (i2 - 1), i2 - 1)) (Sub.cons rfl (Sub.nil _)) (Sub.cons rfl (Sub.cons rfl (Sub.cons rfl (Sub.cons rfl (Sub.cons rfl (Sub.nil _)))))) ?_ ?_
                  · exact ⟨⟨rfl, by simp only; omega, by simp only [swp_size]; exact hDn⟩, hM, hB⟩
                  rintro ⟨F, jj⟩ w10 ⟨⟨hF, hjj, hFn⟩, hM, hB⟩
                  try simp only at hM
                  simp only [List.cons_append, List.nil_append]
                  simp only at hF hjj hFn
                  have hlF : F.toList.length = n := by rw [Array.length_toList]; first | assumption | omega
                  refine W.seq ?_
                  refine W.seqR ?_
                  refine LS.vv rfl rfl (by decide) (Val.move rfl) ?_
                  refine LS.vv rfl rfl (by decide) (Val.geq rfl rfl) ?_
                  refine LS.nil ?_
                  first | refine W.condD rfl (fun hc7 => ?_) (fun hc7 => ?_) | refine W.cond rfl (fun hc7 => ?_) (fun hc7 => ?_)
                  ·
                    refine W.skip ?_
                    refine thenP_normal ?_
                    refine W.seq ?_
                    refine W.block ?_
                    refine W.seq ?_
                    refine W.seqF 11 [(0, true), (1, true), (2, true), (3, true), (4, true), (5, true), (6, true), (7, true), (8, true), (9, false), (10, true)] mixed (by kernel_rfl) hB hM ?_
                    replace hB := hB.drew
                    replace hM := hM.drew
                    refine DF.vv rfl rfl rfl (by decide) (Val.move rfl) ?_
                    refine DF.vv rfl rfl rfl (by decide) (Val.move rfl) ?_
                    refine DF.vv rfl rfl rfl (by decide) (Val.index1 Try.underlying32 elem37 rfl rfl (by first | omega | (simp only [List.length_set]; omega)) (hM.o0.rd) (uv_lt (by first | omega | (simp only [List.length_set]; omega)))) ?_
                    refine DF.vv rfl rfl rfl (by decide) (Val.load flat37 rfl (fun _ h => h.2.o0.rd) (uv_at (by first | omega | (simp only [List.length_set]; omega)))) ?_
                    refine DF.vv rfl rfl rfl (by decide) (Val.move rfl) ?_
                    refine DF.vv rfl rfl rfl (by decide) (Val.move rfl) ?_
                    first | refine DF.vv rfl rfl rfl (by decide) (Val.subN (j := 1) rfl rfl (by first | omega | (simp only [List.length_set]; omega)) (by first | omega | (simp only [List.length_set]; omega))) ?_ | refine DF.vv rfl rfl rfl (by decide) (Val.sub64 rfl rfl (by first | omega | (simp only [List.length_set]; omega))) ?_
                    refine DF.vv rfl rfl rfl (by decide) (Val.index1 Try.underlying32 elem37 rfl rfl (by first | omega | (simp only [List.length_set]; omega)) (hM.o0.rd) (uv_lt (by first | omega | (simp only [List.length_set]; omega)))) ?_
                    refine DF.vv rfl rfl rfl (by decide) (Val.load flat37 rfl (fun _ h => h.2.o0.rd) (uv_at (by first | omega | (simp only [List.length_set]; omega)))) ?_
                    refine DF.m rfl rfl (Step.call body66 rfl rfl (by decide) rfl (CallsV.mono (less_u32 (gn F.toList jj) (gn F.toList (jj - 1)) _) ?_))
                    rintro _ w11 ⟨rfl, hb11⟩
                    replace hM := hM.below hb11
                    replace hB := hB.trans (hb11.mono (Nat.le_trans hB0 hB.size))
                    refine ⟨fun _ => ⟨hB, hM⟩, ?_⟩
                    refine DF.vv rfl rfl rfl (by decide) (Val.not rfl) ?_
                    refine DF.nil ?_
                    first | refine W.condD rfl (fun hc8 => ?_) (fun hc8 => ?_) | refine W.cond rfl (fun hc8 => ?_) (fun hc8 => ?_)
                    ·
                      refine W.exit ?_
                      refine thenP_exit ?_
                      refine inBlk_ne (by decide) ?_
                      refine thenP_exit ?_
                      refine thenP_exit ?_
                      refine inBlk_exit ?_
                      refine thenP_normal ?_
                      first
                        | (refine ⟨F, Sub.nil _, (by repeat (first | exact Sub.nil _ | refine Sub.cons rfl ?_)), ⟨⟨?_, hFn⟩, hM, hB⟩⟩; rw [if_pos (by omega), ← hF]; exact (shd_no (fun h1 => by first | omega | (have hx := (by assumption : (!decide (gn F.toList jj < gn F.toList (jj - 1))) = true); simp at hx; omega))).symm)
                        | (refine ⟨Go.Sort.swp D i2 (i2 - 1), Sub.nil _, (by repeat (first | exact Sub.nil _ | refine Sub.cons rfl ?_)), ⟨⟨?_, (by rw [swp_size]; exact hDn)⟩, hM, hB⟩⟩; rw [if_neg (by omega)])
                    ·
                      refine W.skip ?_
                      refine thenP_normal ?_
                      refine W.regT (S := fun w => Below B w0 w) (.val 0 (.val 1 (.val 2 (.val 3 (.val 4 (.val 5 (.val 6 (.val 7 (.val 8 (.val 10 (.val 11 (.val 12 (.two (.mem 9 (.mem 13 (.val 14 (.mem 15 (.val 16 (.mem 17 (.done))))))) (.mem 13 (.mem 9 (.val 14 (.mem 15 (.val 16 (.mem 17 (.done)))))))))))))))))))) mixed (by kernel_rfl) hB.drew ?_
                      replace hB := hB.drew
                      replace hM := hM.drew
                      refine DT.vv rfl rfl rfl (by decide) (Val.move rfl) ?_
                      refine DT.vv rfl rfl rfl (by decide) (Val.move rfl) ?_
                      refine DT.vv rfl rfl rfl (by decide) (Val.move rfl) ?_
                      refine DT.vv rfl rfl rfl (by decide) (Val.move rfl) ?_
                      first | refine DT.vv rfl rfl rfl (by decide) (Val.subN (j := 1) rfl rfl (by first | omega | (simp only [List.length_set]; omega)) (by first | omega | (simp only [List.length_set]; omega))) ?_ | refine DT.vv rfl rfl rfl (by decide) (Val.sub64 rfl rfl (by first | omega | (simp only [List.length_set]; omega))) ?_
                      refine DT.vv rfl rfl rfl (by decide) (Val.move rfl) ?_
                      refine DT.vv rfl rfl rfl (by decide) (Val.move rfl) ?_
                      first | refine DT.vv rfl rfl rfl (by decide) (Val.subN (j := 1) rfl rfl (by first | omega | (simp only [List.length_set]; omega)) (by first | omega | (simp only [List.length_set]; omega))) ?_ | refine DT.vv rfl rfl rfl (by decide) (Val.sub64 rfl rfl (by first | omega | (simp only [List.length_set]; omega))) ?_
                      refine DT.vv rfl rfl rfl (by decide) (Val.index1 Try.underlying32 elem37 rfl rfl (by first | omega | (simp only [List.length_set]; omega)) (hM.o0.rd) (uv_lt (by first | omega | (simp only [List.length_set]; omega)))) ?_
                      refine DT.vv rfl rfl rfl (by decide) (Val.move rfl) ?_
                      refine DT.vv rfl rfl rfl (by decide) (Val.move rfl) ?_
                      refine DT.vv rfl rfl rfl (by decide) (Val.index1 Try.underlying32 elem37 rfl rfl (by first | omega | (simp only [List.length_set]; omega)) (hM.o0.rd) (uv_lt (by first | omega | (simp only [List.length_set]; omega)))) ?_
                      refine DT.two ?_ ?_
                      ·
                        refine DT.m rfl rfl (Step.load rfl rfl (by decide) flat37 rfl (hM.o0.rd) (uv_at (by first | omega | (simp only [List.length_set]; omega))) ?_)
                        refine ⟨hB, ?_⟩
                        refine DT.m rfl rfl (Step.load rfl rfl (by decide) flat37 rfl (hM.o0.rd) (uv_at (by first | omega | (simp only [List.length_set]; omega))) ?_)
                        refine ⟨hB, ?_⟩
                        refine DT.vv rfl rfl rfl (by decide) (Val.index1 Try.underlying32 elem37 rfl rfl (by first | omega | (simp only [List.length_set]; omega)) (hM.o0.rd) (uv_lt (by first | omega | (simp only [List.length_set]; omega)))) ?_
                        refine DT.m rfl rfl (Step.store (B := B) rfl rfl flat37 elem37 rfl rfl rfl (hM.o0) (by first | omega | (simp only [List.length_set]; omega)) (Nat.le_trans hB0 hB.size) ?_)
                        rintro w12 hO12 hg12 hbl12 hsz12
                        replace hM := hM.s0 hg12 hO12 inl_block
                        try simp only [uv_app1, uv_app, uv_set, uv_rep, uv_one, uv_cons, uv_take, uv_drop, List.nil_append] at hM
                        replace hB := hB.trans hbl12
                        refine ⟨hB, ?_⟩
                        refine DT.vv rfl rfl rfl (by decide) (Val.index1 Try.underlying32 elem37 rfl rfl (by first | omega | (simp only [List.length_set]; omega)) (hM.o0.rd) (uv_lt (by first | omega | (simp only [List.length_set]; omega)))) ?_
                        refine DT.m rfl rfl (Step.store (B := B) rfl rfl flat37 elem37 rfl rfl rfl (hM.o0) (by first | omega | (simp only [List.length_set]; omega)) (Nat.le_trans hB0 hB.size) ?_)
                        rintro w13 hO13 hg13 hbl13 hsz13
                        replace hM := hM.s0 hg13 hO13 inl_block
                        try simp only [uv_app1, uv_app, uv_set, uv_rep, uv_one, uv_cons, uv_take, uv_drop, List.nil_append] at hM
                        replace hB := hB.trans hbl13
                        refine ⟨hB, ?_⟩
                        refine DT.nil ?_
                        refine inBlk_normal ?_
                        refine thenP_normal ?_
                        refine W.reg ?_
                        refine LS.vv rfl rfl (by decide) (Val.move rfl) ?_
                        first | refine LS.vv rfl rfl (by decide) (Val.subN (j := 1) rfl rfl (by first | omega | (simp only [List.length_set]; omega)) (by first | omega | (simp only [List.length_set]; omega))) ?_ | refine LS.vv rfl rfl (by decide) (Val.sub64 rfl rfl (by first | omega | (simp only [List.length_set]; omega))) ?_
                        refine LS.vv rfl rfl (by decide) (Val.assign rfl) ?_
                        refine LS.nil ?_
                        refine thenP_normal ?_
                        simp only [swpA] at hM
                        try rw [swp_comm F (jj - 1) jj] at hM
                        have hlt : gn F.toList jj < gn F.toList (jj - 1) := by simpa using (by assumption : (!decide (gn F.toList jj < gn F.toList (jj - 1))) = false)
                        rw [shd_yes (by omega) hlt] at hF
                        refine ⟨(Go.Sort.swp F jj (jj - 1), jj - 1), ?_, ?_, ⟨⟨hF, by simp only; omega, by simp only [swp_size]; exact hFn⟩, hM, hB⟩, by simp only; omega⟩
                        · exact (Sub.cons rfl (Sub.nil _))
                        · repeat (first | exact Sub.nil _ | refine Sub.cons rfl ?_)
                      ·
                        refine DT.m rfl rfl (Step.load rfl rfl (by decide) flat37 rfl (hM.o0.rd) (uv_at (by first | omega | (simp only [List.length_set]; omega))) ?_)
                        refine ⟨hB, ?_⟩
                        refine DT.m rfl rfl (Step.load rfl rfl (by decide) flat37 rfl (hM.o0.rd) (uv_at (by first | omega | (simp only [List.length_set]; omega))) ?_)
                        refine ⟨hB, ?_⟩
                        refine DT.vv rfl rfl rfl (by decide) (Val.index1 Try.underlying32 elem37 rfl rfl (by first | omega | (simp only [List.length_set]; omega)) (hM.o0.rd) (uv_lt (by first | omega | (simp only [List.length_set]; omega)))) ?_
                        refine DT.m rfl rfl (Step.store (B := B) rfl rfl flat37 elem37 rfl rfl rfl (hM.o0) (by first | omega | (simp only [List.length_set]; omega)) (Nat.le_trans hB0 hB.size) ?_)
                        rintro w14 hO14 hg14 hbl14 hsz14
                        replace hM := hM.s0 hg14 hO14 inl_block
                        try simp only [uv_app1, uv_app, uv_set, uv_rep, uv_one, uv_cons, uv_take, uv_drop, List.nil_append] at hM
                        replace hB := hB.trans hbl14
                        refine ⟨hB, ?_⟩
                        refine DT.vv rfl rfl rfl (by decide) (Val.index1 Try.underlying32 elem37 rfl rfl (by first | omega | (simp only [List.length_set]; omega)) (hM.o0.rd) (uv_lt (by first | omega | (simp only [List.length_set]; omega)))) ?_
                        refine DT.m rfl rfl (Step.store (B := B) rfl rfl flat37 elem37 rfl rfl rfl (hM.o0) (by first | omega | (simp only [List.length_set]; omega)) (Nat.le_trans hB0 hB.size) ?_)
                        rintro w15 hO15 hg15 hbl15 hsz15
                        replace hM := hM.s0 hg15 hO15 inl_block
                        try simp only [uv_app1, uv_app, uv_set, uv_rep, uv_one, uv_cons, uv_take, uv_drop, List.nil_append] at hM
                        replace hB := hB.trans hbl15
                        refine ⟨hB, ?_⟩
                        refine DT.nil ?_
                        refine inBlk_normal ?_
                        refine thenP_normal ?_
                        refine W.reg ?_
                        refine LS.vv rfl rfl (by decide) (Val.move rfl) ?_
                        first | refine LS.vv rfl rfl (by decide) (Val.subN (j := 1) rfl rfl (by first | omega | (simp only [List.length_set]; omega)) (by first | omega | (simp only [List.length_set]; omega))) ?_ | refine LS.vv rfl rfl (by decide) (Val.sub64 rfl rfl (by first | omega | (simp only [List.length_set]; omega))) ?_
                        refine LS.vv rfl rfl (by decide) (Val.assign rfl) ?_
                        refine LS.nil ?_
                        refine thenP_normal ?_
                        simp only [swpA] at hM
                        try rw [swp_comm F (jj - 1) jj] at hM
                        have hlt : gn F.toList jj < gn F.toList (jj - 1) := by simpa using (by assumption : (!decide (gn F.toList jj < gn F.toList (jj - 1))) = false)
                        rw [shd_yes (by omega) hlt] at hF
                        refine ⟨(Go.Sort.swp F jj (jj - 1), jj - 1), ?_, ?_, ⟨⟨hF, by simp only; omega, by simp only [swp_size]; exact hFn⟩, hM, hB⟩, by simp only; omega⟩
                        · exact (Sub.cons rfl (Sub.nil _))
                        · repeat (first | exact Sub.nil _ | refine Sub.cons rfl ?_)
                  ·
                    refine W.exit ?_
                    refine thenP_exit ?_
                    refine thenP_exit ?_
                    refine inBlk_exit ?_
                    refine thenP_normal ?_
                    first
                      | (refine ⟨F, Sub.nil _, (by repeat (first | exact Sub.nil _ | refine Sub.cons rfl ?_)), ⟨⟨?_, hFn⟩, hM, hB⟩⟩; rw [if_pos (by omega), ← hF]; exact (shd_no (fun h1 => by first | omega | (have hx := (by assumption : (!decide (gn F.toList jj < gn F.toList (jj - 1))) = true); simp at hx; omega))).symm)
                      | (refine ⟨Go.Sort.swp D i2 (i2 - 1), Sub.nil _, (by repeat (first | exact Sub.nil _ | refine Sub.cons rfl ?_)), ⟨⟨?_, (by rw [swp_size]; exact hDn)⟩, hM, hB⟩⟩; rw [if_neg (by omega)])
                ·
                  refine W.skip ?_
                  refine thenP_normal ?_
                  first
                    | (refine ⟨F, Sub.nil _, (by repeat (first | exact Sub.nil _ | refine Sub.cons rfl ?_)), ⟨⟨?_, hFn⟩, hM, hB⟩⟩; rw [if_pos (by omega), ← hF]; exact (shd_no (fun h1 => by first | omega | (have hx := (by assumption : (!decide (gn F.toList jj < gn F.toList (jj - 1))) = true); simp at hx; omega))).symm)
                    | (refine ⟨Go.Sort.swp D i2 (i2 - 1), Sub.nil _, (by repeat (first | exact Sub.nil _ | refine Sub.cons rfl ?_)), ⟨⟨?_, (by rw [swp_size]; exact hDn)⟩, hM, hB⟩⟩; rw [if_neg (by omega)])
              ·
                rintro E w16 ⟨⟨hE, hEn⟩, hM, hB⟩
                simp only [List.cons_append, List.nil_append]
                try simp only at hM
                have hlE : E.toList.length = n := by rw [Array.length_toList]; first | assumption | omega
                refine W.seqR ?_
                refine LS.vv rfl rfl (by decide) (Val.move rfl) ?_
                refine LS.vv rfl rfl (by decide) (Val.move rfl) ?_
                first | refine LS.vv rfl rfl (by decide) (Val.subN rfl rfl (by first | omega | (simp only [List.length_set]; omega)) (by first | omega | (simp only [List.length_set]; omega))) ?_ | refine LS.vv rfl rfl (by decide) (Val.sub64 rfl rfl (by first | omega | (simp only [List.length_set]; omega))) ?_
                refine LS.vv rfl rfl (by decide) (Val.geq rfl rfl) ?_
                refine LS.nil ?_
                first | refine W.condD rfl (fun hc9 => ?_) (fun hc9 => ?_) | refine W.cond rfl (fun hc9 => ?_) (fun hc9 => ?_)
                ·
                  refine W.seqR ?_
                  refine LS.vv rfl rfl (by decide) (Val.move rfl) ?_
                  first | refine LS.vv rfl rfl (by decide) (Val.addN (j := 1) rfl rfl (by first | omega | (simp only [List.length_set]; omega))) ?_ | refine LS.vv rfl rfl (by decide) (Val.add64 rfl rfl (by first | omega | (simp only [List.length_set]; omega))) ?_
                  refine LS.vv rfl rfl (by decide) (Val.assign rfl) ?_
                  refine LS.nil ?_
                  refine W.block ?_
                  refine W.loop (α := Array Nat × Nat) (fun g => [(10, .int .i64 (g.2 : Int))]) [(0, _), (1, _), (2, _), (7, _), (8, _)] (fun g w => (Go.Sort.shiftUp ltN b g.2 g.1 = Go.Sort.shiftUp ltN b (i2 + 1) E ∧ i2 + 1 ≤ g.2 ∧ g.1.size = n) ∧ Mem w B (⟨37, p, n, c, uv g.1.toList⟩ :: S) ∧ Below B w0 w) (fun g => b - g.2) ((E, i2 + 1)) (Sub.cons rfl (Sub.nil _)) (Sub.cons rfl (Sub.cons rfl (Sub.cons rfl (Sub.cons rfl (Sub.cons rfl (Sub.nil _)))))) ?_ ?_
                  · exact ⟨⟨rfl, Nat.le_refl _, hEn⟩, hM, hB⟩
                  rintro ⟨F, jj⟩ w17 ⟨⟨hF, hjj, hFn⟩, hM, hB⟩
                  try simp only at hM
                  simp only [List.cons_append, List.nil_append]
                  simp only at hF hjj hFn
                  have hlF : F.toList.length = n := by rw [Array.length_toList]; first | assumption | omega
                  refine W.seq ?_
                  refine W.seqR ?_
                  refine LS.vv rfl rfl (by decide) (Val.move rfl) ?_
                  refine LS.vv rfl rfl (by decide) (Val.move rfl) ?_
                  refine LS.vv rfl rfl (by decide) (Val.lss rfl rfl) ?_
                  refine LS.nil ?_
                  first | refine W.condD rfl (fun hc10 => ?_) (fun hc10 => ?_) | refine W.cond rfl (fun hc10 => ?_) (fun hc10 => ?_)
                  ·
                    refine W.skip ?_
                    refine thenP_normal ?_
                    refine W.seq ?_
                    refine W.block ?_
                    refine W.seq ?_
                    refine W.seqF 11 [(0, true), (1, true), (2, true), (3, true), (4, true), (5, true), (6, true), (7, true), (8, true), (9, false), (10, true)] mixed (by kernel_rfl) hB hM ?_
                    replace hB := hB.drew
                    replace hM := hM.drew
                    refine DF.vv rfl rfl rfl (by decide) (Val.move rfl) ?_
                    refine DF.vv rfl rfl rfl (by decide) (Val.move rfl) ?_
                    refine DF.vv rfl rfl rfl (by decide) (Val.index1 Try.underlying32 elem37 rfl rfl (by first | omega | (simp only [List.length_set]; omega)) (hM.o0.rd) (uv_lt (by first | omega | (simp only [List.length_set]; omega)))) ?_
                    refine DF.vv rfl rfl rfl (by decide) (Val.load flat37 rfl (fun _ h => h.2.o0.rd) (uv_at (by first | omega | (simp only [List.length_set]; omega)))) ?_
                    refine DF.vv rfl rfl rfl (by decide) (Val.move rfl) ?_
                    refine DF.vv rfl rfl rfl (by decide) (Val.move rfl) ?_
                    first | refine DF.vv rfl rfl rfl (by decide) (Val.subN (j := 1) rfl rfl (by first | omega | (simp only [List.length_set]; omega)) (by first | omega | (simp only [List.length_set]; omega))) ?_ | refine DF.vv rfl rfl rfl (by decide) (Val.sub64 rfl rfl (by first | omega | (simp only [List.length_set]; omega))) ?_
                    refine DF.vv rfl rfl rfl (by decide) (Val.index1 Try.underlying32 elem37 rfl rfl (by first | omega | (simp only [List.length_set]; omega)) (hM.o0.rd) (uv_lt (by first | omega | (simp only [List.length_set]; omega)))) ?_
                    refine DF.vv rfl rfl rfl (by decide) (Val.load flat37 rfl (fun _ h => h.2.o0.rd) (uv_at (by first | omega | (simp only [List.length_set]; omega)))) ?_
                    refine DF.m rfl rfl (Step.call body66 rfl rfl (by decide) rfl (CallsV.mono (less_u32 (gn F.toList jj) (gn F.toList (jj - 1)) _) ?_))
                    rintro _ w18 ⟨rfl, hb18⟩
                    replace hM := hM.below hb18
                    replace hB := hB.trans (hb18.mono (Nat.le_trans hB0 hB.size))
                    refine ⟨fun _ => ⟨hB, hM⟩, ?_⟩
                    refine DF.vv rfl rfl rfl (by decide) (Val.not rfl) ?_
                    refine DF.nil ?_
                    first | refine W.condD rfl (fun hc11 => ?_) (fun hc11 => ?_) | refine W.cond rfl (fun hc11 => ?_) (fun hc11 => ?_)
                    ·
                      refine W.exit ?_
                      refine thenP_exit ?_
                      refine inBlk_ne (by decide) ?_
                      refine thenP_exit ?_
                      refine thenP_exit ?_
                      refine inBlk_exit ?_
                      refine inBlk_normal ?_
                      refine thenP_normal ?_
                      refine W.reg ?_
                      refine LS.vv rfl rfl (by decide) (Val.move rfl) ?_
                      first | refine LS.vv rfl rfl (by decide) (Val.addN (j := 1) rfl rfl (by first | omega | (simp only [List.length_set]; omega))) ?_ | refine LS.vv rfl rfl (by decide) (Val.add64 rfl rfl (by first | omega | (simp only [List.length_set]; omega))) ?_
                      refine LS.vv rfl rfl (by decide) (Val.assign rfl) ?_
                      refine LS.nil ?_
                      refine thenP_normal ?_
                      first
                        | (have hG : F = (if b - i2 ≥ 2 then Go.Sort.shiftUp ltN b (i2 + 1) E else E) := by { rw [if_pos (by omega), ← hF]; exact (shu_no (fun h1 => by first | omega | (have hx := (by assumption : (!decide (gn F.toList jj < gn F.toList (jj - 1))) = true); simp at hx; omega))).symm }
                           rw [if_neg (by omega), if_neg (by omega), ← hE, ← hG] at hP
                           refine ⟨(F, i2, k + 1), (Sub.cons rfl (Sub.cons rfl (Sub.nil _))), (by repeat (first | exact Sub.nil _ | refine Sub.cons rfl ?_)), ⟨⟨by rw [show 5 - (k + 1) = 4 - k by omega]; exact hP, by simp only; omega, by simp only; omega, by simp only; omega, hFn⟩, hM, hB⟩, by simp only; omega⟩)
                        | (have hG : E = (if b - i2 ≥ 2 then Go.Sort.shiftUp ltN b (i2 + 1) E else E) := by { rw [if_neg (by omega)] }
                           rw [if_neg (by omega), if_neg (by omega), ← hE, ← hG] at hP
                           refine ⟨(E, i2, k + 1), (Sub.cons rfl (Sub.cons rfl (Sub.nil _))), (by repeat (first | exact Sub.nil _ | refine Sub.cons rfl ?_)), ⟨⟨by rw [show 5 - (k + 1) = 4 - k by omega]; exact hP, by simp only; omega, by simp only; omega, by simp only; omega, hEn⟩, hM, hB⟩, by simp only; omega⟩)
                    ·
                      refine W.skip ?_
                      refine thenP_normal ?_
                      refine W.regT (S := fun w => Below B w0 w) (.val 0 (.val 1 (.val 2 (.val 3 (.val 4 (.val 5 (.val 6 (.val 7 (.val 8 (.val 10 (.val 11 (.val 12 (.two (.mem 9 (.mem 13 (.val 14 (.mem 15 (.val 16 (.mem 17 (.done))))))) (.mem 13 (.mem 9 (.val 14 (.mem 15 (.val 16 (.mem 17 (.done)))))))))))))))))))) mixed (by kernel_rfl) hB.drew ?_
                      replace hB := hB.drew
                      replace hM := hM.drew
                      refine DT.vv rfl rfl rfl (by decide) (Val.move rfl) ?_
                      refine DT.vv rfl rfl rfl (by decide) (Val.move rfl) ?_
                      refine DT.vv rfl rfl rfl (by decide) (Val.move rfl) ?_
                      refine DT.vv rfl rfl rfl (by decide) (Val.move rfl) ?_
                      first | refine DT.vv rfl rfl rfl (by decide) (Val.subN (j := 1) rfl rfl (by first | omega | (simp only [List.length_set]; omega)) (by first | omega | (simp only [List.length_set]; omega))) ?_ | refine DT.vv rfl rfl rfl (by decide) (Val.sub64 rfl rfl (by first | omega | (simp only [List.length_set]; omega))) ?_
                      refine DT.vv rfl rfl rfl (by decide) (Val.move rfl) ?_
                      refine DT.vv rfl rfl rfl (by decide) (Val.move rfl) ?_
                      first | refine DT.vv rfl rfl rfl (by decide) (Val.subN (j := 1) rfl rfl (by first | omega | (simp only [List.length_set]; omega)) (by first | omega | (simp only [List.length_set]; omega))) ?_ | refine DT.vv rfl rfl rfl (by decide) (Val.sub64 rfl rfl (by first | omega | (simp only [List.length_set]; omega))) ?_
                      refine DT.vv rfl rfl rfl (by decide) (Val.index1 Try.underlying32 elem37 rfl rfl (by first | omega | (simp only [List.length_set]; omega)) (hM.o0.rd) (uv_lt (by first | omega | (simp only [List.length_set]; omega)))) ?_
                      refine DT.vv rfl rfl rfl (by decide) (Val.move rfl) ?_
                      refine DT.vv rfl rfl rfl (by decide) (Val.move rfl) ?_
                      refine DT.vv rfl rfl rfl (by decide) (Val.index1 Try.underlying32 elem37 rfl rfl (by first | omega | (simp only [List.length_set]; omega)) (hM.o0.rd) (uv_lt (by first | omega | (simp only [List.length_set]; omega)))) ?_
                      refine DT.two ?_ ?_
                      ·
                        refine DT.m rfl rfl (Step.load rfl rfl (by decide) flat37 rfl (hM.o0.rd) (uv_at (by first | omega | (simp only [List.length_set]; omega))) ?_)
                        refine ⟨hB, ?_⟩
                        refine DT.m rfl rfl (Step.load rfl rfl (by decide) flat37 rfl (hM.o0.rd) (uv_at (by first | omega | (simp only [List.length_set]; omega))) ?_)
                        refine ⟨hB, ?_⟩
                        refine DT.vv rfl rfl rfl (by decide) (Val.index1 Try.underlying32 elem37 rfl rfl (by first | omega | (simp only [List.length_set]; omega)) (hM.o0.rd) (uv_lt (by first | omega | (simp only [List.length_set]; omega)))) ?_
                        refine DT.m rfl rfl (Step.store (B := B) rfl rfl flat37 elem37 rfl rfl rfl (hM.o0) (by first | omega | (simp only [List.length_set]; omega)) (Nat.le_trans hB0 hB.size) ?_)
                        rintro w19 hO19 hg19 hbl19 hsz19
                        replace hM := hM.s0 hg19 hO19 inl_block
                        try simp only [uv_app1, uv_app, uv_set, uv_rep, uv_one, uv_cons, uv_take, uv_drop, List.nil_append] at hM
                        replace hB := hB.trans hbl19
                        refine ⟨hB, ?_⟩
                        refine DT.vv rfl rfl rfl (by decide) (Val.index1 Try.underlying32 elem37 rfl rfl (by first | omega | (simp only [List.length_set]; omega)) (hM.o0.rd) (uv_lt (by first | omega | (simp only [List.length_set]; omega)))) ?_
                        refine DT.m rfl rfl (Step.store (B := B) rfl rfl flat37 elem37 rfl rfl rfl (hM.o0) (by first | omega | (simp only [List.length_set]; omega)) (Nat.le_trans hB0 hB.size) ?_)
                        rintro w20 hO20 hg20 hbl20 hsz20
                        replace hM := hM.s0 hg20 hO20 inl_block
                        try simp only [uv_app1, uv_app, uv_set, uv_rep, uv_one, uv_cons, uv_take, uv_drop, List.nil_append] at hM
                        replace hB := hB.trans hbl20
                        refine ⟨hB, ?_⟩
                        refine DT.nil ?_
                        refine inBlk_normal ?_
                        refine thenP_normal ?_
                        refine W.reg ?_
                        refine LS.vv rfl rfl (by decide) (Val.move rfl) ?_
                        first | refine LS.vv rfl rfl (by decide) (Val.addN (j := 1) rfl rfl (by first | omega | (simp only [List.length_set]; omega))) ?_ | refine LS.vv rfl rfl (by decide) (Val.add64 rfl rfl (by first | omega | (simp only [List.length_set]; omega))) ?_
                        refine LS.vv rfl rfl (by decide) (Val.assign rfl) ?_
                        refine LS.nil ?_
                        refine thenP_normal ?_
                        simp only [swpA] at hM
                        try rw [swp_comm F (jj - 1) jj] at hM
                        have hlt : gn F.toList jj < gn F.toList (jj - 1) := by simpa using (by assumption : (!decide (gn F.toList jj < gn F.toList (jj - 1))) = false)
                        rw [shu_yes (by omega) hlt] at hF
                        refine ⟨(Go.Sort.swp F jj (jj - 1), jj + 1), ?_, ?_, ⟨⟨hF, by simp only; omega, by simp only [swp_size]; exact hFn⟩, hM, hB⟩, by simp only; omega⟩
                        · exact (Sub.cons rfl (Sub.nil _))
                        · repeat (first | exact Sub.nil _ | refine Sub.cons rfl ?_)
                      ·
                        refine DT.m rfl rfl (Step.load rfl rfl (by decide) flat37 rfl (hM.o0.rd) (uv_at (by first | omega | (simp only [List.length_set]; omega))) ?_)
                        refine ⟨hB, ?_⟩
                        refine DT.m rfl rfl (Step.load rfl rfl (by decide) flat37 rfl (hM.o0.rd) (uv_at (by first | omega | (simp only [List.length_set]; omega))) ?_)
                        refine ⟨hB, ?_⟩
                        refine DT.vv rfl rfl rfl (by decide) (Val.index1 Try.underlying32 elem37 rfl rfl (by first | omega | (simp only [List.length_set]; omega)) (hM.o0.rd) (uv_lt (by first | omega | (simp only [List.length_set]; omega)))) ?_
                        refine DT.m rfl rfl (Step.store (B := B) rfl rfl flat37 elem37 rfl rfl rfl (hM.o0) (by first | omega | (simp only [List.length_set]; omega)) (Nat.le_trans hB0 hB.size) ?_)
                        rintro w21 hO21 hg21 hbl21 hsz21
                        replace hM := hM.s0 hg21 hO21 inl_block
                        try simp only [uv_app1, uv_app, uv_set, uv_rep, uv_one, uv_cons, uv_take, uv_drop, List.nil_append] at hM
                        replace hB := hB.trans hbl21
                        refine ⟨hB, ?_⟩
                        refine DT.vv rfl rfl rfl (by decide) (Val.index1 Try.underlying32 elem37 rfl rfl (by first | omega | (simp only [List.length_set]; omega)) (hM.o0.rd) (uv_lt (by first | omega | (simp only [List.length_set]; omega)))) ?_
                        refine DT.m rfl rfl (Step.store (B := B) rfl rfl flat37 elem37 rfl rfl rfl (hM.o0) (by first | omega | (simp only [List.length_set]; omega)) (Nat.le_trans hB0 hB.size) ?_)
                        rintro w22 hO22 hg22 hbl22 hsz22
                        replace hM := hM.s0 hg22 hO22 inl_block
                        try simp only [uv_app1, uv_app, uv_set, uv_rep, uv_one, uv_cons, uv_take, uv_drop, List.nil_append] at hM
                        replace hB := hB.trans hbl22
                        refine ⟨hB, ?_⟩
                        refine DT.nil ?_
                        refine inBlk_normal ?_
                        refine thenP_normal ?_
                        refine W.reg ?_
                        refine LS.vv rfl rfl (by decide) (Val.move rfl) ?_
                        first | refine LS.vv rfl rfl (by decide) (Val.addN (j := 1) rfl rfl (by first | omega | (simp only [List.length_set]; omega))) ?_ | refine LS.vv rfl rfl (by decide) (Val.add64 rfl rfl (by first | omega | (simp only [List.length_set]; omega))) ?_
                        refine LS.vv rfl rfl (by decide) (Val.assign rfl) ?_
                        refine LS.nil ?_
                        refine thenP_normal ?_
                        simp only [swpA] at hM
                        try rw [swp_comm F (jj - 1) jj] at hM
                        have hlt : gn F.toList jj < gn F.toList (jj - 1) := by simpa using (by assumption : (!decide (gn F.toList jj < gn F.toList (jj - 1))) = false)
                        rw [shu_yes (by omega) hlt] at hF
                        refine ⟨(Go.Sort.swp F jj (jj - 1), jj + 1), ?_, ?_, ⟨⟨hF, by simp only; omega, by simp only [swp_size]; exact hFn⟩, hM, hB⟩, by simp only; omega⟩
                        · exact (Sub.cons rfl (Sub.nil _))
                        · repeat (first | exact Sub.nil _ | refine Sub.cons rfl ?_)
                  ·
                    refine W.exit ?_
                    refine thenP_exit ?_
                    refine thenP_exit ?_
                    refine inBlk_exit ?_
                    refine inBlk_normal ?_
                    refine thenP_normal ?_
                    refine W.reg ?_
                    refine LS.vv rfl rfl (by decide) (Val.move rfl) ?_
                    first | refine LS.vv rfl rfl (by decide) (Val.addN (j := 1) rfl rfl (by first | omega | (simp only [List.length_set]; omega))) ?_ | refine LS.vv rfl rfl (by decide) (Val.add64 rfl rfl (by first | omega | (simp only [List.length_set]; omega))) ?_
                    refine LS.vv rfl rfl (by decide) (Val.assign rfl) ?_
                    refine LS.nil ?_
                    refine thenP_normal ?_
                    first
                      | (have hG : F = (if b - i2 ≥ 2 then Go.Sort.shiftUp ltN b (i2 + 1) E else E) := by { rw [if_pos (by omega), ← hF]; exact (shu_no (fun h1 => by first | omega | (have hx := (by assumption : (!decide (gn F.toList jj < gn F.toList (jj - 1))) = true); simp at hx; omega))).symm }
                         rw [if_neg (by omega), if_neg (by omega), ← hE, ← hG] at hP
                         refine ⟨(F, i2, k + 1), (Sub.cons rfl (Sub.cons rfl (Sub.nil _))), (by repeat (first | exact Sub.nil _ | refine Sub.cons rfl ?_)), ⟨⟨by rw [show 5 - (k + 1) = 4 - k by omega]; exact hP, by simp only; omega, by simp only; omega, by simp only; omega, hFn⟩, hM, hB⟩, by simp only; omega⟩)
                      | (have hG : E = (if b - i2 ≥ 2 then Go.Sort.shiftUp ltN b (i2 + 1) E else E) := by { rw [if_neg (by omega)] }
                         rw [if_neg (by omega), if_neg (by omega), ← hE, ← hG] at hP
                         refine ⟨(E, i2, k + 1), (Sub.cons rfl (Sub.cons rfl (Sub.nil _))), (by repeat (first | exact Sub.nil _ | refine Sub.cons rfl ?_)), ⟨⟨by rw [show 5 - (k + 1) = 4 - k by omega]; exact hP, by simp only; omega, by simp only; omega, by simp only; omega, hEn⟩, hM, hB⟩, by simp only; omega⟩)
                ·
                  refine W.skip ?_
                  refine inBlk_normal ?_
                  refine thenP_normal ?_
                  refine W.reg ?_
                  refine LS.vv rfl rfl (by decide) (Val.move rfl) ?_
                  first | refine LS.vv rfl rfl (by decide) (Val.addN (j := 1) rfl rfl (by first | omega | (simp only [List.length_set]; omega))) ?_ | refine LS.vv rfl rfl (by decide) (Val.add64 rfl rfl (by first | omega | (simp only [List.length_set]; omega))) ?_
                  refine LS.vv rfl rfl (by decide) (Val.assign rfl) ?_
                  refine LS.nil ?_
                  refine thenP_normal ?_
                  first
                    | (have hG : F = (if b - i2 ≥ 2 then Go.Sort.shiftUp ltN b (i2 + 1) E else E) := by { rw [if_pos (by omega), ← hF]; exact (shu_no (fun h1 => by first | omega | (have hx := (by assumption : (!decide (gn F.toList jj < gn F.toList (jj - 1))) = true); simp at hx; omega))).symm }
                       rw [if_neg (by omega), if_neg (by omega), ← hE, ← hG] at hP
                       refine ⟨(F, i2, k + 1), (Sub.cons rfl (Sub.cons rfl (Sub.nil _))), (by repeat (first | exact Sub.nil _ | refine Sub.cons rfl ?_)), ⟨⟨by rw [show 5 - (k + 1) = 4 - k by omega]; exact hP, by simp only; omega, by simp only; omega, by simp only; omega, hFn⟩, hM, hB⟩, by simp only; omega⟩)
                    | (have hG : E = (if b - i2 ≥ 2 then Go.Sort.shiftUp ltN b (i2 + 1) E else E) := by { rw [if_neg (by omega)] }
                       rw [if_neg (by omega), if_neg (by omega), ← hE, ← hG] at hP
                       refine ⟨(E, i2, k + 1), (Sub.cons rfl (Sub.cons rfl (Sub.nil _))), (by repeat (first | exact Sub.nil _ | refine Sub.cons rfl ?_)), ⟨⟨by rw [show 5 - (k + 1) = 4 - k by omega]; exact hP, by simp only; omega, by simp only; omega, by simp only; omega, hEn⟩, hM, hB⟩, by simp only; omega⟩)
  ·
    refine W.exit ?_
    refine thenP_exit ?_
    refine thenP_exit ?_
    refine inBlk_exit ?_
    refine thenP_normal ?_
    refine W.seqR ?_
    refine LS.vv rfl rfl (by decide) (Val.assign rfl) ?_
    refine LS.nil ?_
    refine W.ret ?_
    refine ret1 (by first | exact .inl rfl | exact .inr rfl) rfl ?_
    first
      | exact ⟨(D, true), hP.symm, rfl, hM, hB⟩
      | exact ⟨(D, false), hP.symm, rfl, hM, hB⟩
      | (obtain rfl : k = 5 := by omega
         exact ⟨(D, false), hP.symm, rfl, hM, hB⟩)

end Go.Proofs.Ytjmpkmomlpgbdaa
