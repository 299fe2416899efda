/-
  The array of package stripe: one move.
-/
import Derived.Test.YtldcpihjoakigaaArray
namespace Go.Proofs.Ytldcpihjoakigaa
open Go Go.RowKit V
set_option linter.unusedVariables false
set_option linter.unusedSimpArgs false

theorem do_any (T : List Tx) (lost : Int) (po : Option Addr) (g co d B : Nat) (S : List Oz) (w0 : World) (hM0 : AM w0 B g po co T lost S) (hB0 : B ≤ w0.heap.size) (hd : T.length = d) (hsh : Shape d (dT T)) (hd3 : 3 ≤ d) (hd6 : d ≤ 6) (kd bl : Int) (x : Nat) (hx : x < 256) :
    CallsV Try.prog 21 #[.pointer (some ⟨g, 0, none⟩), .agg #[.int .i64 kd, .int .i64 bl, .int .u8 (x : Int)]] w0 (fun v w => ∃ (T2 : List Tx) (l2 : Int) (val e : Nat), v = .tuple #[.int .u8 (val : Int), .int .i64 (e : Int)] ∧ AM w B g po co T2 l2 S ∧ T2.length = d ∧ (dT T2, l2, val, e) = ado d (dT T) lost kd bl x ∧ Below B w0 w) := by
  refine enter2 Try.func21 rfl Try.ntmps21 (by simp) rfl ?_
  have hB := Below.refl B w0
  simp only [argLoc, Nat.zero_add]
  have hM := hM0
  have hmo := manyOf_cases d kd
  subst hd
  refine W.seqR ?_
  refine LS.m rfl (Step.boxZ rfl rfl (by decide) rfl rfl ?_)
  rintro w1 hO1 hg1 hbl1 hsz1
  replace hM := hM.add (Nat.le_trans hB0 hB.size) hbl1 hO1
  try simp only [List.length_cons, List.length_nil, Nat.zero_add, Nat.reduceAdd, Value.cells, List.toList_toArray, List.append_nil, List.set_cons_zero, List.set_cons_succ] at hM
  replace hB := hB.trans (hbl1.mono (Nat.le_trans hB0 hB.size))
  skip
  refine LS.vv rfl rfl (by decide) (Val.cast (v := .int .u8 ((0 : Nat) : Int)) (Val.assign rfl) rfl) ?_
  refine LS.vv rfl rfl (by decide) (Val.cast (v := .int .i64 ((0 : Nat) : Int)) (Val.assign rfl) rfl) ?_
  refine LS.nil ?_
  refine W.seqR ?_
  refine LS.vv rfl rfl (by decide) (Val.cast (v := .int .i64 ((24 : Nat) : Int)) (Val.assign rfl) rfl) ?_
  refine LS.nil ?_
  refine W.seq ?_
  refine W.seqR ?_
  refine LS.vv rfl rfl (by decide) (Val.fieldAddr0 fld33_0 rfl) ?_
  refine LS.m rfl (Step.load rfl rfl (by decide) flat3 rfl (hM.o0.rd) (rfl) ?_)
  refine LS.vv rfl rfl (by decide) (Val.eql rfl rfl) ?_
  refine LS.vv rfl rfl (by decide) (Val.move rfl) ?_
  refine LS.split 3 rfl (fun hg1 => ?_) (fun hg1 => ?_)
  ·
    first | (have hg1p := of_decide_eq_true hg1) | skip
    refine LS.s rfl rfl rfl hg1 (by decide) ?_
    refine LS.s rfl rfl rfl hg1 (by decide) ?_
    refine LS.s rfl rfl rfl hg1 (by decide) ?_
    refine LS.vv rfl rfl (by decide) (Val.pickT rfl hg1 rfl) ?_
    refine LS.nil ?_
    refine W.condT rfl ?_
    refine W.reg ?_
    refine LS.vv rfl rfl (by decide) (Val.move rfl) ?_
    first | refine LS.vv rfl rfl (by decide) (Val.nilCheck rfl) ?_ | refine LS.vv rfl rfl (by decide) (Val.nilCheckP rfl) ?_
    refine LS.vv rfl rfl (by decide) (Val.fieldAddr0 fld64_0 rfl) ?_
    refine LS.m rfl (Step.load rfl rfl (by decide) flat28 rfl (hM.o1.rd) (rfl) ?_)
    refine LS.vv rfl rfl (by decide) (Val.len Try.underlying28 rfl) ?_
    refine LS.vv rfl rfl (by decide) (Val.assign rfl) ?_
    refine LS.nil ?_
    refine thenP_normal ?_
    refine W.seq ?_
    refine W.block ?_
    refine W.seqR ?_
    refine LS.vv rfl rfl (by decide) (Val.fieldAddr0 fld33_0 rfl) ?_
    refine LS.m rfl (Step.load rfl rfl (by decide) flat3 rfl (hM.o0.rd) (rfl) ?_)
    refine LS.vv rfl rfl (by decide) (Val.lss rfl rfl) ?_
    refine LS.vv rfl rfl (by decide) (Val.move rfl) ?_
    refine LS.split 3 rfl (fun hg2 => ?_) (fun hg2 => ?_)
    ·
      first | (have hg2p := of_decide_eq_true hg2) | skip
      refine LS.s rfl rfl rfl hg2 (by decide) ?_
      refine LS.s rfl rfl rfl hg2 (by decide) ?_
      refine LS.s rfl rfl rfl hg2 (by decide) ?_
      refine LS.vv rfl rfl (by decide) (Val.pickT rfl hg2 rfl) ?_
      refine LS.vv rfl rfl (by decide) (Val.assign rfl) ?_
      refine LS.nil ?_
      refine W.condT rfl ?_
      refine W.seqR ?_
      refine LS.vv rfl rfl (by decide) (Val.cast (v := .int .u8 ((0 : Nat) : Int)) (Val.assign rfl) rfl) ?_
      refine LS.vv rfl rfl (by decide) (Val.cast (v := .int .i64 ((6 : Nat) : Int)) (Val.assign rfl) rfl) ?_
      refine LS.nil ?_
      refine W.ret ?_
      refine inBlk_ret ?_
      refine thenP_ret ?_
      refine ret2 (by first | exact .inl rfl | exact .inr rfl) rfl rfl ?_
      first | (exfalso; omega) | exact ⟨T, lost, 0, 6, rfl, hM.tail, rfl, (by unfold ado; (try simp only [Int.toNat_natCast]); (repeat' split); all_goals first | rfl | (exfalso; omega)), hB⟩ | exact ⟨T, lost, 0, 2, rfl, hM.tail, rfl, (by unfold ado; (try simp only [Int.toNat_natCast]); (repeat' split); all_goals first | rfl | (exfalso; omega)), hB⟩ | exact ⟨T, lost, _, 0, rfl, hM.tail, rfl, (by unfold ado; (try simp only [Int.toNat_natCast]); (repeat' split); all_goals first | rfl | (exfalso; omega)), hB⟩ | (rcases hcs with ⟨q1, rfl, rfl, rfl⟩ | ⟨q1, rfl, rfl, q2⟩; (exact ⟨_, _, 0, _, rfl, hM, hl2, (by unfold ado; (try simp only [Int.toNat_natCast]); (repeat' split); all_goals first | rfl | (exfalso; omega)), hB⟩); (exact ⟨_, _, 0, _, rfl, hM, hl2, (by rw [q2]; exact (by unfold ado; (try simp only [Int.toNat_natCast]); (repeat' split); all_goals first | rfl | (exfalso; omega))), hB⟩)) | exact ⟨_, _, 0, 0, rfl, hM, hl2, (by rw [hT2]; exact (by unfold ado; (try simp only [Int.toNat_natCast]); (repeat' split); all_goals first | rfl | (exfalso; omega))), hB⟩
    ·
      first | (have hg2p := of_decide_eq_false hg2) | skip
      refine LS.vg rfl rfl rfl hg2 (by decide) (Val.fieldAddr0 fld33_0 rfl) ?_
      refine LS.mg rfl rfl hg2 (Step.load rfl rfl (by decide) flat3 rfl (hM.o0.rd) (rfl) ?_)
      refine LS.vg rfl rfl rfl hg2 (by decide) (Val.gtr rfl rfl) ?_
      refine LS.vv rfl rfl (by decide) (Val.pickF rfl hg2 rfl) ?_
      refine LS.vv rfl rfl (by decide) (Val.assign rfl) ?_
      refine LS.nil ?_
      first | refine W.condD rfl (fun hc3 => ?_) (fun hc3 => ?_) | refine W.cond rfl (fun hc3 => ?_) (fun hc3 => ?_)
      ·
        refine W.seqR ?_
        refine LS.vv rfl rfl (by decide) (Val.cast (v := .int .u8 ((0 : Nat) : Int)) (Val.assign rfl) rfl) ?_
        refine LS.vv rfl rfl (by decide) (Val.cast (v := .int .i64 ((6 : Nat) : Int)) (Val.assign rfl) rfl) ?_
        refine LS.nil ?_
        refine W.ret ?_
        refine inBlk_ret ?_
        refine thenP_ret ?_
        refine ret2 (by first | exact .inl rfl | exact .inr rfl) rfl rfl ?_
        first | (exfalso; omega) | exact ⟨T, lost, 0, 6, rfl, hM.tail, rfl, (by unfold ado; (try simp only [Int.toNat_natCast]); (repeat' split); all_goals first | rfl | (exfalso; omega)), hB⟩ | exact ⟨T, lost, 0, 2, rfl, hM.tail, rfl, (by unfold ado; (try simp only [Int.toNat_natCast]); (repeat' split); all_goals first | rfl | (exfalso; omega)), hB⟩ | exact ⟨T, lost, _, 0, rfl, hM.tail, rfl, (by unfold ado; (try simp only [Int.toNat_natCast]); (repeat' split); all_goals first | rfl | (exfalso; omega)), hB⟩ | (rcases hcs with ⟨q1, rfl, rfl, rfl⟩ | ⟨q1, rfl, rfl, q2⟩; (exact ⟨_, _, 0, _, rfl, hM, hl2, (by unfold ado; (try simp only [Int.toNat_natCast]); (repeat' split); all_goals first | rfl | (exfalso; omega)), hB⟩); (exact ⟨_, _, 0, _, rfl, hM, hl2, (by rw [q2]; exact (by unfold ado; (try simp only [Int.toNat_natCast]); (repeat' split); all_goals first | rfl | (exfalso; omega))), hB⟩)) | exact ⟨_, _, 0, 0, rfl, hM, hl2, (by rw [hT2]; exact (by unfold ado; (try simp only [Int.toNat_natCast]); (repeat' split); all_goals first | rfl | (exfalso; omega))), hB⟩
      ·
        refine W.seqR ?_
        refine LS.vv rfl rfl (by decide) (Val.fieldAddr0 fld33_1 rfl) ?_
        refine LS.m rfl (Step.load rfl rfl (by decide) flat3 rfl (hM.o0.rd) (rfl) ?_)
        refine LS.vv rfl rfl (by decide) (Val.lss rfl rfl) ?_
        refine LS.vv rfl rfl (by decide) (Val.move rfl) ?_
        refine LS.split 3 rfl (fun hg4 => ?_) (fun hg4 => ?_)
        ·
          first | (have hg4p := of_decide_eq_true hg4) | skip
          refine LS.s rfl rfl rfl hg4 (by decide) ?_
          refine LS.s rfl rfl rfl hg4 (by decide) ?_
          refine LS.s rfl rfl rfl hg4 (by decide) ?_
          refine LS.s rfl rfl rfl hg4 (by decide) ?_
          refine LS.vv rfl rfl (by decide) (Val.pickT rfl hg4 rfl) ?_
          refine LS.vv rfl rfl (by decide) (Val.assign rfl) ?_
          refine LS.nil ?_
          refine W.condT rfl ?_
          refine W.seqR ?_
          refine LS.vv rfl rfl (by decide) (Val.cast (v := .int .u8 ((0 : Nat) : Int)) (Val.assign rfl) rfl) ?_
          refine LS.vv rfl rfl (by decide) (Val.cast (v := .int .i64 ((2 : Nat) : Int)) (Val.assign rfl) rfl) ?_
          refine LS.nil ?_
          refine W.ret ?_
          refine inBlk_ret ?_
          refine thenP_ret ?_
          refine ret2 (by first | exact .inl rfl | exact .inr rfl) rfl rfl ?_
          first | (exfalso; omega) | exact ⟨T, lost, 0, 6, rfl, hM.tail, rfl, (by unfold ado; (try simp only [Int.toNat_natCast]); (repeat' split); all_goals first | rfl | (exfalso; omega)), hB⟩ | exact ⟨T, lost, 0, 2, rfl, hM.tail, rfl, (by unfold ado; (try simp only [Int.toNat_natCast]); (repeat' split); all_goals first | rfl | (exfalso; omega)), hB⟩ | exact ⟨T, lost, _, 0, rfl, hM.tail, rfl, (by unfold ado; (try simp only [Int.toNat_natCast]); (repeat' split); all_goals first | rfl | (exfalso; omega)), hB⟩ | (rcases hcs with ⟨q1, rfl, rfl, rfl⟩ | ⟨q1, rfl, rfl, q2⟩; (exact ⟨_, _, 0, _, rfl, hM, hl2, (by unfold ado; (try simp only [Int.toNat_natCast]); (repeat' split); all_goals first | rfl | (exfalso; omega)), hB⟩); (exact ⟨_, _, 0, _, rfl, hM, hl2, (by rw [q2]; exact (by unfold ado; (try simp only [Int.toNat_natCast]); (repeat' split); all_goals first | rfl | (exfalso; omega))), hB⟩)) | exact ⟨_, _, 0, 0, rfl, hM, hl2, (by rw [hT2]; exact (by unfold ado; (try simp only [Int.toNat_natCast]); (repeat' split); all_goals first | rfl | (exfalso; omega))), hB⟩
        ·
          first | (have hg4p := of_decide_eq_false hg4) | skip
          refine LS.vg rfl rfl rfl hg4 (by decide) (Val.fieldAddr0 fld33_1 rfl) ?_
          refine LS.mg rfl rfl hg4 (Step.load rfl rfl (by decide) flat3 rfl (hM.o0.rd) (rfl) ?_)
          refine LS.vg rfl rfl rfl hg4 (by decide) (Val.move rfl) ?_
          refine LS.vg rfl rfl rfl hg4 (by decide) (Val.geq rfl rfl) ?_
          refine LS.vv rfl rfl (by decide) (Val.pickF rfl hg4 rfl) ?_
          refine LS.vv rfl rfl (by decide) (Val.assign rfl) ?_
          refine LS.nil ?_
          first | refine W.condD rfl (fun hc5 => ?_) (fun hc5 => ?_) | refine W.cond rfl (fun hc5 => ?_) (fun hc5 => ?_)
          ·
            refine W.seqR ?_
            refine LS.vv rfl rfl (by decide) (Val.cast (v := .int .u8 ((0 : Nat) : Int)) (Val.assign rfl) rfl) ?_
            refine LS.vv rfl rfl (by decide) (Val.cast (v := .int .i64 ((2 : Nat) : Int)) (Val.assign rfl) rfl) ?_
            refine LS.nil ?_
            refine W.ret ?_
            refine inBlk_ret ?_
            refine thenP_ret ?_
            refine ret2 (by first | exact .inl rfl | exact .inr rfl) rfl rfl ?_
            first | (exfalso; omega) | exact ⟨T, lost, 0, 6, rfl, hM.tail, rfl, (by unfold ado; (try simp only [Int.toNat_natCast]); (repeat' split); all_goals first | rfl | (exfalso; omega)), hB⟩ | exact ⟨T, lost, 0, 2, rfl, hM.tail, rfl, (by unfold ado; (try simp only [Int.toNat_natCast]); (repeat' split); all_goals first | rfl | (exfalso; omega)), hB⟩ | exact ⟨T, lost, _, 0, rfl, hM.tail, rfl, (by unfold ado; (try simp only [Int.toNat_natCast]); (repeat' split); all_goals first | rfl | (exfalso; omega)), hB⟩ | (rcases hcs with ⟨q1, rfl, rfl, rfl⟩ | ⟨q1, rfl, rfl, q2⟩; (exact ⟨_, _, 0, _, rfl, hM, hl2, (by unfold ado; (try simp only [Int.toNat_natCast]); (repeat' split); all_goals first | rfl | (exfalso; omega)), hB⟩); (exact ⟨_, _, 0, _, rfl, hM, hl2, (by rw [q2]; exact (by unfold ado; (try simp only [Int.toNat_natCast]); (repeat' split); all_goals first | rfl | (exfalso; omega))), hB⟩)) | exact ⟨_, _, 0, 0, rfl, hM, hl2, (by rw [hT2]; exact (by unfold ado; (try simp only [Int.toNat_natCast]); (repeat' split); all_goals first | rfl | (exfalso; omega))), hB⟩
          ·
            refine W.skip ?_
            refine inBlk_normal ?_
            refine thenP_normal ?_
            refine W.seq ?_
            refine W.seqR ?_
            refine LS.vv rfl rfl (by decide) (Val.fieldAddr0 fld33_0 rfl) ?_
            refine LS.m rfl (Step.load rfl rfl (by decide) flat3 rfl (hM.o0.rd) (rfl) ?_)
            refine LS.nil ?_
            refine W.block ?_
            refine W.seqR ?_
            refine LS.vv rfl rfl (by decide) (Val.eql rfl rfl) ?_
            refine LS.vv rfl rfl (by decide) (Val.assign rfl) ?_
            refine LS.nil ?_
            first | refine W.condD rfl (fun hc6 => ?_) (fun hc6 => ?_) | refine W.cond rfl (fun hc6 => ?_) (fun hc6 => ?_)
            ·
              refine W.seqR ?_
              refine LS.vv rfl rfl (by decide) (Val.move rfl) ?_
              refine LS.vv rfl rfl (by decide) (Val.fieldAddr0 fld33_1 rfl) ?_
              refine LS.m rfl (Step.load rfl rfl (by decide) flat3 rfl (hM.o0.rd) (rfl) ?_)
              obtain ⟨b, rfl⟩ := Int.eq_ofNat_of_zero_le (show 0 ≤ bl by omega)
              refine LS.m rfl (Step.call body27 rfl rfl (by decide) rfl (CallsV.mono (Read_any T lost po g co T.length B S _ hM.tail (Nat.le_trans hB0 hB.size) rfl hsh hd3 hd6 b (by omega)) ?_))
              rintro _ w2 ⟨rfl, hb2⟩
              replace hM := hM.below hb2
              replace hB := hB.trans (hb2.mono (Nat.le_trans hB0 hB.size))
              refine LS.vv rfl rfl (by decide) (Val.assign rfl) ?_
              refine LS.vv rfl rfl (by decide) (Val.cast (v := .int .i64 ((0 : Nat) : Int)) (Val.assign rfl) rfl) ?_
              refine LS.nil ?_
              refine W.ret ?_
              refine inBlk_ret ?_
              refine thenP_ret ?_
              refine ret2 (by first | exact .inl rfl | exact .inr rfl) rfl rfl ?_
              first | (exfalso; omega) | exact ⟨T, lost, 0, 6, rfl, hM.tail, rfl, (by unfold ado; (try simp only [Int.toNat_natCast]); (repeat' split); all_goals first | rfl | (exfalso; omega)), hB⟩ | exact ⟨T, lost, 0, 2, rfl, hM.tail, rfl, (by unfold ado; (try simp only [Int.toNat_natCast]); (repeat' split); all_goals first | rfl | (exfalso; omega)), hB⟩ | exact ⟨T, lost, _, 0, rfl, hM.tail, rfl, (by unfold ado; (try simp only [Int.toNat_natCast]); (repeat' split); all_goals first | rfl | (exfalso; omega)), hB⟩ | (rcases hcs with ⟨q1, rfl, rfl, rfl⟩ | ⟨q1, rfl, rfl, q2⟩; (exact ⟨_, _, 0, _, rfl, hM, hl2, (by unfold ado; (try simp only [Int.toNat_natCast]); (repeat' split); all_goals first | rfl | (exfalso; omega)), hB⟩); (exact ⟨_, _, 0, _, rfl, hM, hl2, (by rw [q2]; exact (by unfold ado; (try simp only [Int.toNat_natCast]); (repeat' split); all_goals first | rfl | (exfalso; omega))), hB⟩)) | exact ⟨_, _, 0, 0, rfl, hM, hl2, (by rw [hT2]; exact (by unfold ado; (try simp only [Int.toNat_natCast]); (repeat' split); all_goals first | rfl | (exfalso; omega))), hB⟩
            ·
              refine W.seqR ?_
              refine LS.vv rfl rfl (by decide) (Val.eql rfl rfl) ?_
              refine LS.vv rfl rfl (by decide) (Val.assign rfl) ?_
              refine LS.nil ?_
              first | refine W.condD rfl (fun hc7 => ?_) (fun hc7 => ?_) | refine W.cond rfl (fun hc7 => ?_) (fun hc7 => ?_)
              ·
                refine W.seqR ?_
                refine LS.vv rfl rfl (by decide) (Val.move rfl) ?_
                refine LS.vv rfl rfl (by decide) (Val.fieldAddr0 fld33_1 rfl) ?_
                refine LS.m rfl (Step.load rfl rfl (by decide) flat3 rfl (hM.o0.rd) (rfl) ?_)
                obtain ⟨b, rfl⟩ := Int.eq_ofNat_of_zero_le (show 0 ≤ bl by omega)
                refine LS.m rfl (Step.call body28 rfl rfl (by decide) rfl (CallsV.mono (Lose_any T lost po g co T.length B S _ hM.tail (Nat.le_trans hB0 hB.size) rfl hsh hd3 hd6 b (by omega)) ?_))
                rintro _ w3 ⟨T2, l2, e, rfl, hM3, hl2, hcs, hb3⟩
                replace hM := hM3
                replace hB := hB.trans hb3
                refine LS.vv rfl rfl (by decide) (Val.cast (v := .int .u8 ((0 : Nat) : Int)) (Val.assign rfl) rfl) ?_
                refine LS.vv rfl rfl (by decide) (Val.assign rfl) ?_
                refine LS.nil ?_
                refine W.ret ?_
                refine inBlk_ret ?_
                refine thenP_ret ?_
                refine ret2 (by first | exact .inl rfl | exact .inr rfl) rfl rfl ?_
                first | (exfalso; omega) | exact ⟨T, lost, 0, 6, rfl, hM.tail, rfl, (by unfold ado; (try simp only [Int.toNat_natCast]); (repeat' split); all_goals first | rfl | (exfalso; omega)), hB⟩ | exact ⟨T, lost, 0, 2, rfl, hM.tail, rfl, (by unfold ado; (try simp only [Int.toNat_natCast]); (repeat' split); all_goals first | rfl | (exfalso; omega)), hB⟩ | exact ⟨T, lost, _, 0, rfl, hM.tail, rfl, (by unfold ado; (try simp only [Int.toNat_natCast]); (repeat' split); all_goals first | rfl | (exfalso; omega)), hB⟩ | (rcases hcs with ⟨q1, rfl, rfl, rfl⟩ | ⟨q1, rfl, rfl, q2⟩; (exact ⟨_, _, 0, _, rfl, hM, hl2, (by unfold ado; (try simp only [Int.toNat_natCast]); (repeat' split); all_goals first | rfl | (exfalso; omega)), hB⟩); (exact ⟨_, _, 0, _, rfl, hM, hl2, (by rw [q2]; exact (by unfold ado; (try simp only [Int.toNat_natCast]); (repeat' split); all_goals first | rfl | (exfalso; omega))), hB⟩)) | exact ⟨_, _, 0, 0, rfl, hM, hl2, (by rw [hT2]; exact (by unfold ado; (try simp only [Int.toNat_natCast]); (repeat' split); all_goals first | rfl | (exfalso; omega))), hB⟩
              ·
                refine W.seqR ?_
                refine LS.vv rfl rfl (by decide) (Val.eql rfl rfl) ?_
                refine LS.vv rfl rfl (by decide) (Val.assign rfl) ?_
                refine LS.nil ?_
                first | refine W.condD rfl (fun hc8 => ?_) (fun hc8 => ?_) | refine W.cond rfl (fun hc8 => ?_) (fun hc8 => ?_)
                ·
                  refine W.seqR ?_
                  refine LS.vv rfl rfl (by decide) (Val.move rfl) ?_
                  refine LS.vv rfl rfl (by decide) (Val.fieldAddr0 fld33_1 rfl) ?_
                  refine LS.m rfl (Step.load rfl rfl (by decide) flat3 rfl (hM.o0.rd) (rfl) ?_)
                  obtain ⟨b, rfl⟩ := Int.eq_ofNat_of_zero_le (show 0 ≤ bl by omega)
                  refine LS.m rfl (Step.call body29 rfl rfl (by decide) rfl (CallsV.mono (Renew_any T lost po g co T.length B S _ hM.tail (Nat.le_trans hB0 hB.size) rfl hsh hd3 hd6 b (by omega)) ?_))
                  rintro _ w4 ⟨T2, l2, e, rfl, hM4, hl2, hcs, hb4⟩
                  replace hM := hM4
                  replace hB := hB.trans hb4
                  refine LS.vv rfl rfl (by decide) (Val.cast (v := .int .u8 ((0 : Nat) : Int)) (Val.assign rfl) rfl) ?_
                  refine LS.vv rfl rfl (by decide) (Val.assign rfl) ?_
                  refine LS.nil ?_
                  refine W.ret ?_
                  refine inBlk_ret ?_
                  refine thenP_ret ?_
                  refine ret2 (by first | exact .inl rfl | exact .inr rfl) rfl rfl ?_
                  first | (exfalso; omega) | exact ⟨T, lost, 0, 6, rfl, hM.tail, rfl, (by unfold ado; (try simp only [Int.toNat_natCast]); (repeat' split); all_goals first | rfl | (exfalso; omega)), hB⟩ | exact ⟨T, lost, 0, 2, rfl, hM.tail, rfl, (by unfold ado; (try simp only [Int.toNat_natCast]); (repeat' split); all_goals first | rfl | (exfalso; omega)), hB⟩ | exact ⟨T, lost, _, 0, rfl, hM.tail, rfl, (by unfold ado; (try simp only [Int.toNat_natCast]); (repeat' split); all_goals first | rfl | (exfalso; omega)), hB⟩ | (rcases hcs with ⟨q1, rfl, rfl, rfl⟩ | ⟨q1, rfl, rfl, q2⟩; (exact ⟨_, _, 0, _, rfl, hM, hl2, (by unfold ado; (try simp only [Int.toNat_natCast]); (repeat' split); all_goals first | rfl | (exfalso; omega)), hB⟩); (exact ⟨_, _, 0, _, rfl, hM, hl2, (by rw [q2]; exact (by unfold ado; (try simp only [Int.toNat_natCast]); (repeat' split); all_goals first | rfl | (exfalso; omega))), hB⟩)) | exact ⟨_, _, 0, 0, rfl, hM, hl2, (by rw [hT2]; exact (by unfold ado; (try simp only [Int.toNat_natCast]); (repeat' split); all_goals first | rfl | (exfalso; omega))), hB⟩
                ·
                  refine W.skip ?_
                  refine inBlk_normal ?_
                  refine thenP_normal ?_
                  refine W.seqR ?_
                  refine LS.vv rfl rfl (by decide) (Val.move rfl) ?_
                  refine LS.vv rfl rfl (by decide) (Val.fieldAddr0 fld33_1 rfl) ?_
                  refine LS.m rfl (Step.load rfl rfl (by decide) flat3 rfl (hM.o0.rd) (rfl) ?_)
                  refine LS.vv rfl rfl (by decide) (Val.fieldAddr0 fld33_2 rfl) ?_
                  refine LS.m rfl (Step.load rfl rfl (by decide) flat5 rfl (hM.o0.rd) (rfl) ?_)
                  obtain ⟨b, rfl⟩ := Int.eq_ofNat_of_zero_le (show 0 ≤ bl by omega)
                  refine LS.m rfl (Step.call body30 rfl rfl (by decide) rfl (CallsV.mono (Write_any T lost po g co T.length B S _ hM.tail (Nat.le_trans hB0 hB.size) rfl hsh hd3 hd6 b x (by omega) hx) ?_))
                  rintro _ w5 ⟨T2, hM5, hT2, hl2, hb5⟩
                  replace hM := hM5
                  replace hB := hB.trans hb5
                  refine LS.nil ?_
                  refine W.seqR ?_
                  refine LS.vv rfl rfl (by decide) (Val.cast (v := .int .u8 ((0 : Nat) : Int)) (Val.assign rfl) rfl) ?_
                  refine LS.vv rfl rfl (by decide) (Val.cast (v := .int .i64 ((0 : Nat) : Int)) (Val.assign rfl) rfl) ?_
                  refine LS.nil ?_
                  refine W.ret ?_
                  refine ret2 (by first | exact .inl rfl | exact .inr rfl) rfl rfl ?_
                  first | (exfalso; omega) | exact ⟨T, lost, 0, 6, rfl, hM.tail, rfl, (by unfold ado; (try simp only [Int.toNat_natCast]); (repeat' split); all_goals first | rfl | (exfalso; omega)), hB⟩ | exact ⟨T, lost, 0, 2, rfl, hM.tail, rfl, (by unfold ado; (try simp only [Int.toNat_natCast]); (repeat' split); all_goals first | rfl | (exfalso; omega)), hB⟩ | exact ⟨T, lost, _, 0, rfl, hM.tail, rfl, (by unfold ado; (try simp only [Int.toNat_natCast]); (repeat' split); all_goals first | rfl | (exfalso; omega)), hB⟩ | (rcases hcs with ⟨q1, rfl, rfl, rfl⟩ | ⟨q1, rfl, rfl, q2⟩; (exact ⟨_, _, 0, _, rfl, hM, hl2, (by unfold ado; (try simp only [Int.toNat_natCast]); (repeat' split); all_goals first | rfl | (exfalso; omega)), hB⟩); (exact ⟨_, _, 0, _, rfl, hM, hl2, (by rw [q2]; exact (by unfold ado; (try simp only [Int.toNat_natCast]); (repeat' split); all_goals first | rfl | (exfalso; omega))), hB⟩)) | exact ⟨_, _, 0, 0, rfl, hM, hl2, (by rw [hT2]; exact (by unfold ado; (try simp only [Int.toNat_natCast]); (repeat' split); all_goals first | rfl | (exfalso; omega))), hB⟩
  ·
    first | (have hg1p := of_decide_eq_false hg1) | skip
    refine LS.vg rfl rfl rfl hg1 (by decide) (Val.fieldAddr0 fld33_0 rfl) ?_
    refine LS.mg rfl rfl hg1 (Step.load rfl rfl (by decide) flat3 rfl (hM.o0.rd) (rfl) ?_)
    refine LS.vg rfl rfl rfl hg1 (by decide) (Val.eql rfl rfl) ?_
    refine LS.vv rfl rfl (by decide) (Val.pickF rfl hg1 rfl) ?_
    refine LS.nil ?_
    first | refine W.condD rfl (fun hc9 => ?_) (fun hc9 => ?_) | refine W.cond rfl (fun hc9 => ?_) (fun hc9 => ?_)
    ·
      refine W.reg ?_
      refine LS.vv rfl rfl (by decide) (Val.move rfl) ?_
      first | refine LS.vv rfl rfl (by decide) (Val.nilCheck rfl) ?_ | refine LS.vv rfl rfl (by decide) (Val.nilCheckP rfl) ?_
      refine LS.vv rfl rfl (by decide) (Val.fieldAddr0 fld64_0 rfl) ?_
      refine LS.m rfl (Step.load rfl rfl (by decide) flat28 rfl (hM.o1.rd) (rfl) ?_)
      refine LS.vv rfl rfl (by decide) (Val.len Try.underlying28 rfl) ?_
      refine LS.vv rfl rfl (by decide) (Val.assign rfl) ?_
      refine LS.nil ?_
      refine thenP_normal ?_
      refine W.seq ?_
      refine W.block ?_
      refine W.seqR ?_
      refine LS.vv rfl rfl (by decide) (Val.fieldAddr0 fld33_0 rfl) ?_
      refine LS.m rfl (Step.load rfl rfl (by decide) flat3 rfl (hM.o0.rd) (rfl) ?_)
      refine LS.vv rfl rfl (by decide) (Val.lss rfl rfl) ?_
      refine LS.vv rfl rfl (by decide) (Val.move rfl) ?_
      refine LS.split 3 rfl (fun hg10 => ?_) (fun hg10 => ?_)
      ·
        first | (have hg10p := of_decide_eq_true hg10) | skip
        refine LS.s rfl rfl rfl hg10 (by decide) ?_
        refine LS.s rfl rfl rfl hg10 (by decide) ?_
        refine LS.s rfl rfl rfl hg10 (by decide) ?_
        refine LS.vv rfl rfl (by decide) (Val.pickT rfl hg10 rfl) ?_
        refine LS.vv rfl rfl (by decide) (Val.assign rfl) ?_
        refine LS.nil ?_
        refine W.condT rfl ?_
        refine W.seqR ?_
        refine LS.vv rfl rfl (by decide) (Val.cast (v := .int .u8 ((0 : Nat) : Int)) (Val.assign rfl) rfl) ?_
        refine LS.vv rfl rfl (by decide) (Val.cast (v := .int .i64 ((6 : Nat) : Int)) (Val.assign rfl) rfl) ?_
        refine LS.nil ?_
        refine W.ret ?_
        refine inBlk_ret ?_
        refine thenP_ret ?_
        refine ret2 (by first | exact .inl rfl | exact .inr rfl) rfl rfl ?_
        first | (exfalso; omega) | exact ⟨T, lost, 0, 6, rfl, hM.tail, rfl, (by unfold ado; (try simp only [Int.toNat_natCast]); (repeat' split); all_goals first | rfl | (exfalso; omega)), hB⟩ | exact ⟨T, lost, 0, 2, rfl, hM.tail, rfl, (by unfold ado; (try simp only [Int.toNat_natCast]); (repeat' split); all_goals first | rfl | (exfalso; omega)), hB⟩ | exact ⟨T, lost, _, 0, rfl, hM.tail, rfl, (by unfold ado; (try simp only [Int.toNat_natCast]); (repeat' split); all_goals first | rfl | (exfalso; omega)), hB⟩ | (rcases hcs with ⟨q1, rfl, rfl, rfl⟩ | ⟨q1, rfl, rfl, q2⟩; (exact ⟨_, _, 0, _, rfl, hM, hl2, (by unfold ado; (try simp only [Int.toNat_natCast]); (repeat' split); all_goals first | rfl | (exfalso; omega)), hB⟩); (exact ⟨_, _, 0, _, rfl, hM, hl2, (by rw [q2]; exact (by unfold ado; (try simp only [Int.toNat_natCast]); (repeat' split); all_goals first | rfl | (exfalso; omega))), hB⟩)) | exact ⟨_, _, 0, 0, rfl, hM, hl2, (by rw [hT2]; exact (by unfold ado; (try simp only [Int.toNat_natCast]); (repeat' split); all_goals first | rfl | (exfalso; omega))), hB⟩
      ·
        first | (have hg10p := of_decide_eq_false hg10) | skip
        refine LS.vg rfl rfl rfl hg10 (by decide) (Val.fieldAddr0 fld33_0 rfl) ?_
        refine LS.mg rfl rfl hg10 (Step.load rfl rfl (by decide) flat3 rfl (hM.o0.rd) (rfl) ?_)
        refine LS.vg rfl rfl rfl hg10 (by decide) (Val.gtr rfl rfl) ?_
        refine LS.vv rfl rfl (by decide) (Val.pickF rfl hg10 rfl) ?_
        refine LS.vv rfl rfl (by decide) (Val.assign rfl) ?_
        refine LS.nil ?_
        first | refine W.condD rfl (fun hc11 => ?_) (fun hc11 => ?_) | refine W.cond rfl (fun hc11 => ?_) (fun hc11 => ?_)
        ·
          refine W.seqR ?_
          refine LS.vv rfl rfl (by decide) (Val.cast (v := .int .u8 ((0 : Nat) : Int)) (Val.assign rfl) rfl) ?_
          refine LS.vv rfl rfl (by decide) (Val.cast (v := .int .i64 ((6 : Nat) : Int)) (Val.assign rfl) rfl) ?_
          refine LS.nil ?_
          refine W.ret ?_
          refine inBlk_ret ?_
          refine thenP_ret ?_
          refine ret2 (by first | exact .inl rfl | exact .inr rfl) rfl rfl ?_
          first | (exfalso; omega) | exact ⟨T, lost, 0, 6, rfl, hM.tail, rfl, (by unfold ado; (try simp only [Int.toNat_natCast]); (repeat' split); all_goals first | rfl | (exfalso; omega)), hB⟩ | exact ⟨T, lost, 0, 2, rfl, hM.tail, rfl, (by unfold ado; (try simp only [Int.toNat_natCast]); (repeat' split); all_goals first | rfl | (exfalso; omega)), hB⟩ | exact ⟨T, lost, _, 0, rfl, hM.tail, rfl, (by unfold ado; (try simp only [Int.toNat_natCast]); (repeat' split); all_goals first | rfl | (exfalso; omega)), hB⟩ | (rcases hcs with ⟨q1, rfl, rfl, rfl⟩ | ⟨q1, rfl, rfl, q2⟩; (exact ⟨_, _, 0, _, rfl, hM, hl2, (by unfold ado; (try simp only [Int.toNat_natCast]); (repeat' split); all_goals first | rfl | (exfalso; omega)), hB⟩); (exact ⟨_, _, 0, _, rfl, hM, hl2, (by rw [q2]; exact (by unfold ado; (try simp only [Int.toNat_natCast]); (repeat' split); all_goals first | rfl | (exfalso; omega))), hB⟩)) | exact ⟨_, _, 0, 0, rfl, hM, hl2, (by rw [hT2]; exact (by unfold ado; (try simp only [Int.toNat_natCast]); (repeat' split); all_goals first | rfl | (exfalso; omega))), hB⟩
        ·
          refine W.seqR ?_
          refine LS.vv rfl rfl (by decide) (Val.fieldAddr0 fld33_1 rfl) ?_
          refine LS.m rfl (Step.load rfl rfl (by decide) flat3 rfl (hM.o0.rd) (rfl) ?_)
          refine LS.vv rfl rfl (by decide) (Val.lss rfl rfl) ?_
          refine LS.vv rfl rfl (by decide) (Val.move rfl) ?_
          refine LS.split 3 rfl (fun hg12 => ?_) (fun hg12 => ?_)
          ·
            first | (have hg12p := of_decide_eq_true hg12) | skip
            refine LS.s rfl rfl rfl hg12 (by decide) ?_
            refine LS.s rfl rfl rfl hg12 (by decide) ?_
            refine LS.s rfl rfl rfl hg12 (by decide) ?_
            refine LS.s rfl rfl rfl hg12 (by decide) ?_
            refine LS.vv rfl rfl (by decide) (Val.pickT rfl hg12 rfl) ?_
            refine LS.vv rfl rfl (by decide) (Val.assign rfl) ?_
            refine LS.nil ?_
            refine W.condT rfl ?_
            refine W.seqR ?_
            refine LS.vv rfl rfl (by decide) (Val.cast (v := .int .u8 ((0 : Nat) : Int)) (Val.assign rfl) rfl) ?_
            refine LS.vv rfl rfl (by decide) (Val.cast (v := .int .i64 ((2 : Nat) : Int)) (Val.assign rfl) rfl) ?_
            refine LS.nil ?_
            refine W.ret ?_
            refine inBlk_ret ?_
            refine thenP_ret ?_
            refine ret2 (by first | exact .inl rfl | exact .inr rfl) rfl rfl ?_
            first | (exfalso; omega) | exact ⟨T, lost, 0, 6, rfl, hM.tail, rfl, (by unfold ado; (try simp only [Int.toNat_natCast]); (repeat' split); all_goals first | rfl | (exfalso; omega)), hB⟩ | exact ⟨T, lost, 0, 2, rfl, hM.tail, rfl, (by unfold ado; (try simp only [Int.toNat_natCast]); (repeat' split); all_goals first | rfl | (exfalso; omega)), hB⟩ | exact ⟨T, lost, _, 0, rfl, hM.tail, rfl, (by unfold ado; (try simp only [Int.toNat_natCast]); (repeat' split); all_goals first | rfl | (exfalso; omega)), hB⟩ | (rcases hcs with ⟨q1, rfl, rfl, rfl⟩ | ⟨q1, rfl, rfl, q2⟩; (exact ⟨_, _, 0, _, rfl, hM, hl2, (by unfold ado; (try simp only [Int.toNat_natCast]); (repeat' split); all_goals first | rfl | (exfalso; omega)), hB⟩); (exact ⟨_, _, 0, _, rfl, hM, hl2, (by rw [q2]; exact (by unfold ado; (try simp only [Int.toNat_natCast]); (repeat' split); all_goals first | rfl | (exfalso; omega))), hB⟩)) | exact ⟨_, _, 0, 0, rfl, hM, hl2, (by rw [hT2]; exact (by unfold ado; (try simp only [Int.toNat_natCast]); (repeat' split); all_goals first | rfl | (exfalso; omega))), hB⟩
          ·
            first | (have hg12p := of_decide_eq_false hg12) | skip
            refine LS.vg rfl rfl rfl hg12 (by decide) (Val.fieldAddr0 fld33_1 rfl) ?_
            refine LS.mg rfl rfl hg12 (Step.load rfl rfl (by decide) flat3 rfl (hM.o0.rd) (rfl) ?_)
            refine LS.vg rfl rfl rfl hg12 (by decide) (Val.move rfl) ?_
            refine LS.vg rfl rfl rfl hg12 (by decide) (Val.geq rfl rfl) ?_
            refine LS.vv rfl rfl (by decide) (Val.pickF rfl hg12 rfl) ?_
            refine LS.vv rfl rfl (by decide) (Val.assign rfl) ?_
            refine LS.nil ?_
            first | refine W.condD rfl (fun hc13 => ?_) (fun hc13 => ?_) | refine W.cond rfl (fun hc13 => ?_) (fun hc13 => ?_)
            ·
              refine W.seqR ?_
              refine LS.vv rfl rfl (by decide) (Val.cast (v := .int .u8 ((0 : Nat) : Int)) (Val.assign rfl) rfl) ?_
              refine LS.vv rfl rfl (by decide) (Val.cast (v := .int .i64 ((2 : Nat) : Int)) (Val.assign rfl) rfl) ?_
              refine LS.nil ?_
              refine W.ret ?_
              refine inBlk_ret ?_
              refine thenP_ret ?_
              refine ret2 (by first | exact .inl rfl | exact .inr rfl) rfl rfl ?_
              first | (exfalso; omega) | exact ⟨T, lost, 0, 6, rfl, hM.tail, rfl, (by unfold ado; (try simp only [Int.toNat_natCast]); (repeat' split); all_goals first | rfl | (exfalso; omega)), hB⟩ | exact ⟨T, lost, 0, 2, rfl, hM.tail, rfl, (by unfold ado; (try simp only [Int.toNat_natCast]); (repeat' split); all_goals first | rfl | (exfalso; omega)), hB⟩ | exact ⟨T, lost, _, 0, rfl, hM.tail, rfl, (by unfold ado; (try simp only [Int.toNat_natCast]); (repeat' split); all_goals first | rfl | (exfalso; omega)), hB⟩ | (rcases hcs with ⟨q1, rfl, rfl, rfl⟩ | ⟨q1, rfl, rfl, q2⟩; (exact ⟨_, _, 0, _, rfl, hM, hl2, (by unfold ado; (try simp only [Int.toNat_natCast]); (repeat' split); all_goals first | rfl | (exfalso; omega)), hB⟩); (exact ⟨_, _, 0, _, rfl, hM, hl2, (by rw [q2]; exact (by unfold ado; (try simp only [Int.toNat_natCast]); (repeat' split); all_goals first | rfl | (exfalso; omega))), hB⟩)) | exact ⟨_, _, 0, 0, rfl, hM, hl2, (by rw [hT2]; exact (by unfold ado; (try simp only [Int.toNat_natCast]); (repeat' split); all_goals first | rfl | (exfalso; omega))), hB⟩
            ·
              refine W.skip ?_
              refine inBlk_normal ?_
              refine thenP_normal ?_
              refine W.seq ?_
              refine W.seqR ?_
              refine LS.vv rfl rfl (by decide) (Val.fieldAddr0 fld33_0 rfl) ?_
              refine LS.m rfl (Step.load rfl rfl (by decide) flat3 rfl (hM.o0.rd) (rfl) ?_)
              refine LS.nil ?_
              refine W.block ?_
              refine W.seqR ?_
              refine LS.vv rfl rfl (by decide) (Val.eql rfl rfl) ?_
              refine LS.vv rfl rfl (by decide) (Val.assign rfl) ?_
              refine LS.nil ?_
              first | refine W.condD rfl (fun hc14 => ?_) (fun hc14 => ?_) | refine W.cond rfl (fun hc14 => ?_) (fun hc14 => ?_)
              ·
                refine W.seqR ?_
                refine LS.vv rfl rfl (by decide) (Val.move rfl) ?_
                refine LS.vv rfl rfl (by decide) (Val.fieldAddr0 fld33_1 rfl) ?_
                refine LS.m rfl (Step.load rfl rfl (by decide) flat3 rfl (hM.o0.rd) (rfl) ?_)
                obtain ⟨b, rfl⟩ := Int.eq_ofNat_of_zero_le (show 0 ≤ bl by omega)
                refine LS.m rfl (Step.call body27 rfl rfl (by decide) rfl (CallsV.mono (Read_any T lost po g co T.length B S _ hM.tail (Nat.le_trans hB0 hB.size) rfl hsh hd3 hd6 b (by omega)) ?_))
                rintro _ w6 ⟨rfl, hb6⟩
                replace hM := hM.below hb6
                replace hB := hB.trans (hb6.mono (Nat.le_trans hB0 hB.size))
                refine LS.vv rfl rfl (by decide) (Val.assign rfl) ?_
                refine LS.vv rfl rfl (by decide) (Val.cast (v := .int .i64 ((0 : Nat) : Int)) (Val.assign rfl) rfl) ?_
                refine LS.nil ?_
                refine W.ret ?_
                refine inBlk_ret ?_
                refine thenP_ret ?_
                refine ret2 (by first | exact .inl rfl | exact .inr rfl) rfl rfl ?_
                first | (exfalso; omega) | exact ⟨T, lost, 0, 6, rfl, hM.tail, rfl, (by unfold ado; (try simp only [Int.toNat_natCast]); (repeat' split); all_goals first | rfl | (exfalso; omega)), hB⟩ | exact ⟨T, lost, 0, 2, rfl, hM.tail, rfl, (by unfold ado; (try simp only [Int.toNat_natCast]); (repeat' split); all_goals first | rfl | (exfalso; omega)), hB⟩ | exact ⟨T, lost, _, 0, rfl, hM.tail, rfl, (by unfold ado; (try simp only [Int.toNat_natCast]); (repeat' split); all_goals first | rfl | (exfalso; omega)), hB⟩ | (rcases hcs with ⟨q1, rfl, rfl, rfl⟩ | ⟨q1, rfl, rfl, q2⟩; (exact ⟨_, _, 0, _, rfl, hM, hl2, (by unfold ado; (try simp only [Int.toNat_natCast]); (repeat' split); all_goals first | rfl | (exfalso; omega)), hB⟩); (exact ⟨_, _, 0, _, rfl, hM, hl2, (by rw [q2]; exact (by unfold ado; (try simp only [Int.toNat_natCast]); (repeat' split); all_goals first | rfl | (exfalso; omega))), hB⟩)) | exact ⟨_, _, 0, 0, rfl, hM, hl2, (by rw [hT2]; exact (by unfold ado; (try simp only [Int.toNat_natCast]); (repeat' split); all_goals first | rfl | (exfalso; omega))), hB⟩
              ·
                refine W.seqR ?_
                refine LS.vv rfl rfl (by decide) (Val.eql rfl rfl) ?_
                refine LS.vv rfl rfl (by decide) (Val.assign rfl) ?_
                refine LS.nil ?_
                first | refine W.condD rfl (fun hc15 => ?_) (fun hc15 => ?_) | refine W.cond rfl (fun hc15 => ?_) (fun hc15 => ?_)
                ·
                  refine W.seqR ?_
                  refine LS.vv rfl rfl (by decide) (Val.move rfl) ?_
                  refine LS.vv rfl rfl (by decide) (Val.fieldAddr0 fld33_1 rfl) ?_
                  refine LS.m rfl (Step.load rfl rfl (by decide) flat3 rfl (hM.o0.rd) (rfl) ?_)
                  obtain ⟨b, rfl⟩ := Int.eq_ofNat_of_zero_le (show 0 ≤ bl by omega)
                  refine LS.m rfl (Step.call body28 rfl rfl (by decide) rfl (CallsV.mono (Lose_any T lost po g co T.length B S _ hM.tail (Nat.le_trans hB0 hB.size) rfl hsh hd3 hd6 b (by omega)) ?_))
                  rintro _ w7 ⟨T2, l2, e, rfl, hM7, hl2, hcs, hb7⟩
                  replace hM := hM7
                  replace hB := hB.trans hb7
                  refine LS.vv rfl rfl (by decide) (Val.cast (v := .int .u8 ((0 : Nat) : Int)) (Val.assign rfl) rfl) ?_
                  refine LS.vv rfl rfl (by decide) (Val.assign rfl) ?_
                  refine LS.nil ?_
                  refine W.ret ?_
                  refine inBlk_ret ?_
                  refine thenP_ret ?_
                  refine ret2 (by first | exact .inl rfl | exact .inr rfl) rfl rfl ?_
                  first | (exfalso; omega) | exact ⟨T, lost, 0, 6, rfl, hM.tail, rfl, (by unfold ado; (try simp only [Int.toNat_natCast]); (repeat' split); all_goals first | rfl | (exfalso; omega)), hB⟩ | exact ⟨T, lost, 0, 2, rfl, hM.tail, rfl, (by unfold ado; (try simp only [Int.toNat_natCast]); (repeat' split); all_goals first | rfl | (exfalso; omega)), hB⟩ | exact ⟨T, lost, _, 0, rfl, hM.tail, rfl, (by unfold ado; (try simp only [Int.toNat_natCast]); (repeat' split); all_goals first | rfl | (exfalso; omega)), hB⟩ | (rcases hcs with ⟨q1, rfl, rfl, rfl⟩ | ⟨q1, rfl, rfl, q2⟩; (exact ⟨_, _, 0, _, rfl, hM, hl2, (by unfold ado; (try simp only [Int.toNat_natCast]); (repeat' split); all_goals first | rfl | (exfalso; omega)), hB⟩); (exact ⟨_, _, 0, _, rfl, hM, hl2, (by rw [q2]; exact (by unfold ado; (try simp only [Int.toNat_natCast]); (repeat' split); all_goals first | rfl | (exfalso; omega))), hB⟩)) | exact ⟨_, _, 0, 0, rfl, hM, hl2, (by rw [hT2]; exact (by unfold ado; (try simp only [Int.toNat_natCast]); (repeat' split); all_goals first | rfl | (exfalso; omega))), hB⟩
                ·
                  refine W.seqR ?_
                  refine LS.vv rfl rfl (by decide) (Val.eql rfl rfl) ?_
                  refine LS.vv rfl rfl (by decide) (Val.assign rfl) ?_
                  refine LS.nil ?_
                  first | refine W.condD rfl (fun hc16 => ?_) (fun hc16 => ?_) | refine W.cond rfl (fun hc16 => ?_) (fun hc16 => ?_)
                  ·
                    refine W.seqR ?_
                    refine LS.vv rfl rfl (by decide) (Val.move rfl) ?_
                    refine LS.vv rfl rfl (by decide) (Val.fieldAddr0 fld33_1 rfl) ?_
                    refine LS.m rfl (Step.load rfl rfl (by decide) flat3 rfl (hM.o0.rd) (rfl) ?_)
                    obtain ⟨b, rfl⟩ := Int.eq_ofNat_of_zero_le (show 0 ≤ bl by omega)
                    refine LS.m rfl (Step.call body29 rfl rfl (by decide) rfl (CallsV.mono (Renew_any T lost po g co T.length B S _ hM.tail (Nat.le_trans hB0 hB.size) rfl hsh hd3 hd6 b (by omega)) ?_))
                    rintro _ w8 ⟨T2, l2, e, rfl, hM8, hl2, hcs, hb8⟩
                    replace hM := hM8
                    replace hB := hB.trans hb8
                    refine LS.vv rfl rfl (by decide) (Val.cast (v := .int .u8 ((0 : Nat) : Int)) (Val.assign rfl) rfl) ?_
                    refine LS.vv rfl rfl (by decide) (Val.assign rfl) ?_
                    refine LS.nil ?_
                    refine W.ret ?_
                    refine inBlk_ret ?_
                    refine thenP_ret ?_
                    refine ret2 (by first | exact .inl rfl | exact .inr rfl) rfl rfl ?_
                    first | (exfalso; omega) | exact ⟨T, lost, 0, 6, rfl, hM.tail, rfl, (by unfold ado; (try simp only [Int.toNat_natCast]); (repeat' split); all_goals first | rfl | (exfalso; omega)), hB⟩ | exact ⟨T, lost, 0, 2, rfl, hM.tail, rfl, (by unfold ado; (try simp only [Int.toNat_natCast]); (repeat' split); all_goals first | rfl | (exfalso; omega)), hB⟩ | exact ⟨T, lost, _, 0, rfl, hM.tail, rfl, (by unfold ado; (try simp only [Int.toNat_natCast]); (repeat' split); all_goals first | rfl | (exfalso; omega)), hB⟩ | (rcases hcs with ⟨q1, rfl, rfl, rfl⟩ | ⟨q1, rfl, rfl, q2⟩; (exact ⟨_, _, 0, _, rfl, hM, hl2, (by unfold ado; (try simp only [Int.toNat_natCast]); (repeat' split); all_goals first | rfl | (exfalso; omega)), hB⟩); (exact ⟨_, _, 0, _, rfl, hM, hl2, (by rw [q2]; exact (by unfold ado; (try simp only [Int.toNat_natCast]); (repeat' split); all_goals first | rfl | (exfalso; omega))), hB⟩)) | exact ⟨_, _, 0, 0, rfl, hM, hl2, (by rw [hT2]; exact (by unfold ado; (try simp only [Int.toNat_natCast]); (repeat' split); all_goals first | rfl | (exfalso; omega))), hB⟩
                  ·
                    refine W.skip ?_
                    refine inBlk_normal ?_
                    refine thenP_normal ?_
                    refine W.seqR ?_
                    refine LS.vv rfl rfl (by decide) (Val.move rfl) ?_
                    refine LS.vv rfl rfl (by decide) (Val.fieldAddr0 fld33_1 rfl) ?_
                    refine LS.m rfl (Step.load rfl rfl (by decide) flat3 rfl (hM.o0.rd) (rfl) ?_)
                    refine LS.vv rfl rfl (by decide) (Val.fieldAddr0 fld33_2 rfl) ?_
                    refine LS.m rfl (Step.load rfl rfl (by decide) flat5 rfl (hM.o0.rd) (rfl) ?_)
                    obtain ⟨b, rfl⟩ := Int.eq_ofNat_of_zero_le (show 0 ≤ bl by omega)
                    refine LS.m rfl (Step.call body30 rfl rfl (by decide) rfl (CallsV.mono (Write_any T lost po g co T.length B S _ hM.tail (Nat.le_trans hB0 hB.size) rfl hsh hd3 hd6 b x (by omega) hx) ?_))
                    rintro _ w9 ⟨T2, hM9, hT2, hl2, hb9⟩
                    replace hM := hM9
                    replace hB := hB.trans hb9
                    refine LS.nil ?_
                    refine W.seqR ?_
                    refine LS.vv rfl rfl (by decide) (Val.cast (v := .int .u8 ((0 : Nat) : Int)) (Val.assign rfl) rfl) ?_
                    refine LS.vv rfl rfl (by decide) (Val.cast (v := .int .i64 ((0 : Nat) : Int)) (Val.assign rfl) rfl) ?_
                    refine LS.nil ?_
                    refine W.ret ?_
                    refine ret2 (by first | exact .inl rfl | exact .inr rfl) rfl rfl ?_
                    first | (exfalso; omega) | exact ⟨T, lost, 0, 6, rfl, hM.tail, rfl, (by unfold ado; (try simp only [Int.toNat_natCast]); (repeat' split); all_goals first | rfl | (exfalso; omega)), hB⟩ | exact ⟨T, lost, 0, 2, rfl, hM.tail, rfl, (by unfold ado; (try simp only [Int.toNat_natCast]); (repeat' split); all_goals first | rfl | (exfalso; omega)), hB⟩ | exact ⟨T, lost, _, 0, rfl, hM.tail, rfl, (by unfold ado; (try simp only [Int.toNat_natCast]); (repeat' split); all_goals first | rfl | (exfalso; omega)), hB⟩ | (rcases hcs with ⟨q1, rfl, rfl, rfl⟩ | ⟨q1, rfl, rfl, q2⟩; (exact ⟨_, _, 0, _, rfl, hM, hl2, (by unfold ado; (try simp only [Int.toNat_natCast]); (repeat' split); all_goals first | rfl | (exfalso; omega)), hB⟩); (exact ⟨_, _, 0, _, rfl, hM, hl2, (by rw [q2]; exact (by unfold ado; (try simp only [Int.toNat_natCast]); (repeat' split); all_goals first | rfl | (exfalso; omega))), hB⟩)) | exact ⟨_, _, 0, 0, rfl, hM, hl2, (by rw [hT2]; exact (by unfold ado; (try simp only [Int.toNat_natCast]); (repeat' split); all_goals first | rfl | (exfalso; omega))), hB⟩
    ·
      refine W.skip ?_
      refine thenP_normal ?_
      refine W.seq ?_
      refine W.block ?_
      refine W.seqR ?_
      refine LS.vv rfl rfl (by decide) (Val.fieldAddr0 fld33_0 rfl) ?_
      refine LS.m rfl (Step.load rfl rfl (by decide) flat3 rfl (hM.o0.rd) (rfl) ?_)
      refine LS.vv rfl rfl (by decide) (Val.lss rfl rfl) ?_
      refine LS.vv rfl rfl (by decide) (Val.move rfl) ?_
      refine LS.split 3 rfl (fun hg17 => ?_) (fun hg17 => ?_)
      ·
        first | (have hg17p := of_decide_eq_true hg17) | skip
        refine LS.s rfl rfl rfl hg17 (by decide) ?_
        refine LS.s rfl rfl rfl hg17 (by decide) ?_
        refine LS.s rfl rfl rfl hg17 (by decide) ?_
        refine LS.vv rfl rfl (by decide) (Val.pickT rfl hg17 rfl) ?_
        refine LS.vv rfl rfl (by decide) (Val.assign rfl) ?_
        refine LS.nil ?_
        refine W.condT rfl ?_
        refine W.seqR ?_
        refine LS.vv rfl rfl (by decide) (Val.cast (v := .int .u8 ((0 : Nat) : Int)) (Val.assign rfl) rfl) ?_
        refine LS.vv rfl rfl (by decide) (Val.cast (v := .int .i64 ((6 : Nat) : Int)) (Val.assign rfl) rfl) ?_
        refine LS.nil ?_
        refine W.ret ?_
        refine inBlk_ret ?_
        refine thenP_ret ?_
        refine ret2 (by first | exact .inl rfl | exact .inr rfl) rfl rfl ?_
        first | (exfalso; omega) | exact ⟨T, lost, 0, 6, rfl, hM.tail, rfl, (by unfold ado; (try simp only [Int.toNat_natCast]); (repeat' split); all_goals first | rfl | (exfalso; omega)), hB⟩ | exact ⟨T, lost, 0, 2, rfl, hM.tail, rfl, (by unfold ado; (try simp only [Int.toNat_natCast]); (repeat' split); all_goals first | rfl | (exfalso; omega)), hB⟩ | exact ⟨T, lost, _, 0, rfl, hM.tail, rfl, (by unfold ado; (try simp only [Int.toNat_natCast]); (repeat' split); all_goals first | rfl | (exfalso; omega)), hB⟩ | (rcases hcs with ⟨q1, rfl, rfl, rfl⟩ | ⟨q1, rfl, rfl, q2⟩; (exact ⟨_, _, 0, _, rfl, hM, hl2, (by unfold ado; (try simp only [Int.toNat_natCast]); (repeat' split); all_goals first | rfl | (exfalso; omega)), hB⟩); (exact ⟨_, _, 0, _, rfl, hM, hl2, (by rw [q2]; exact (by unfold ado; (try simp only [Int.toNat_natCast]); (repeat' split); all_goals first | rfl | (exfalso; omega))), hB⟩)) | exact ⟨_, _, 0, 0, rfl, hM, hl2, (by rw [hT2]; exact (by unfold ado; (try simp only [Int.toNat_natCast]); (repeat' split); all_goals first | rfl | (exfalso; omega))), hB⟩
      ·
        first | (have hg17p := of_decide_eq_false hg17) | skip
        refine LS.vg rfl rfl rfl hg17 (by decide) (Val.fieldAddr0 fld33_0 rfl) ?_
        refine LS.mg rfl rfl hg17 (Step.load rfl rfl (by decide) flat3 rfl (hM.o0.rd) (rfl) ?_)
        refine LS.vg rfl rfl rfl hg17 (by decide) (Val.gtr rfl rfl) ?_
        refine LS.vv rfl rfl (by decide) (Val.pickF rfl hg17 rfl) ?_
        refine LS.vv rfl rfl (by decide) (Val.assign rfl) ?_
        refine LS.nil ?_
        first | refine W.condD rfl (fun hc18 => ?_) (fun hc18 => ?_) | refine W.cond rfl (fun hc18 => ?_) (fun hc18 => ?_)
        ·
          refine W.seqR ?_
          refine LS.vv rfl rfl (by decide) (Val.cast (v := .int .u8 ((0 : Nat) : Int)) (Val.assign rfl) rfl) ?_
          refine LS.vv rfl rfl (by decide) (Val.cast (v := .int .i64 ((6 : Nat) : Int)) (Val.assign rfl) rfl) ?_
          refine LS.nil ?_
          refine W.ret ?_
          refine inBlk_ret ?_
          refine thenP_ret ?_
          refine ret2 (by first | exact .inl rfl | exact .inr rfl) rfl rfl ?_
          first | (exfalso; omega) | exact ⟨T, lost, 0, 6, rfl, hM.tail, rfl, (by unfold ado; (try simp only [Int.toNat_natCast]); (repeat' split); all_goals first | rfl | (exfalso; omega)), hB⟩ | exact ⟨T, lost, 0, 2, rfl, hM.tail, rfl, (by unfold ado; (try simp only [Int.toNat_natCast]); (repeat' split); all_goals first | rfl | (exfalso; omega)), hB⟩ | exact ⟨T, lost, _, 0, rfl, hM.tail, rfl, (by unfold ado; (try simp only [Int.toNat_natCast]); (repeat' split); all_goals first | rfl | (exfalso; omega)), hB⟩ | (rcases hcs with ⟨q1, rfl, rfl, rfl⟩ | ⟨q1, rfl, rfl, q2⟩; (exact ⟨_, _, 0, _, rfl, hM, hl2, (by unfold ado; (try simp only [Int.toNat_natCast]); (repeat' split); all_goals first | rfl | (exfalso; omega)), hB⟩); (exact ⟨_, _, 0, _, rfl, hM, hl2, (by rw [q2]; exact (by unfold ado; (try simp only [Int.toNat_natCast]); (repeat' split); all_goals first | rfl | (exfalso; omega))), hB⟩)) | exact ⟨_, _, 0, 0, rfl, hM, hl2, (by rw [hT2]; exact (by unfold ado; (try simp only [Int.toNat_natCast]); (repeat' split); all_goals first | rfl | (exfalso; omega))), hB⟩
        ·
          refine W.seqR ?_
          refine LS.vv rfl rfl (by decide) (Val.fieldAddr0 fld33_1 rfl) ?_
          refine LS.m rfl (Step.load rfl rfl (by decide) flat3 rfl (hM.o0.rd) (rfl) ?_)
          refine LS.vv rfl rfl (by decide) (Val.lss rfl rfl) ?_
          refine LS.vv rfl rfl (by decide) (Val.move rfl) ?_
          refine LS.split 3 rfl (fun hg19 => ?_) (fun hg19 => ?_)
          ·
            first | (have hg19p := of_decide_eq_true hg19) | skip
            refine LS.s rfl rfl rfl hg19 (by decide) ?_
            refine LS.s rfl rfl rfl hg19 (by decide) ?_
            refine LS.s rfl rfl rfl hg19 (by decide) ?_
            refine LS.s rfl rfl rfl hg19 (by decide) ?_
            refine LS.vv rfl rfl (by decide) (Val.pickT rfl hg19 rfl) ?_
            refine LS.vv rfl rfl (by decide) (Val.assign rfl) ?_
            refine LS.nil ?_
            refine W.condT rfl ?_
            refine W.seqR ?_
            refine LS.vv rfl rfl (by decide) (Val.cast (v := .int .u8 ((0 : Nat) : Int)) (Val.assign rfl) rfl) ?_
            refine LS.vv rfl rfl (by decide) (Val.cast (v := .int .i64 ((2 : Nat) : Int)) (Val.assign rfl) rfl) ?_
            refine LS.nil ?_
            refine W.ret ?_
            refine inBlk_ret ?_
            refine thenP_ret ?_
            refine ret2 (by first | exact .inl rfl | exact .inr rfl) rfl rfl ?_
            first | (exfalso; omega) | exact ⟨T, lost, 0, 6, rfl, hM.tail, rfl, (by unfold ado; (try simp only [Int.toNat_natCast]); (repeat' split); all_goals first | rfl | (exfalso; omega)), hB⟩ | exact ⟨T, lost, 0, 2, rfl, hM.tail, rfl, (by unfold ado; (try simp only [Int.toNat_natCast]); (repeat' split); all_goals first | rfl | (exfalso; omega)), hB⟩ | exact ⟨T, lost, _, 0, rfl, hM.tail, rfl, (by unfold ado; (try simp only [Int.toNat_natCast]); (repeat' split); all_goals first | rfl | (exfalso; omega)), hB⟩ | (rcases hcs with ⟨q1, rfl, rfl, rfl⟩ | ⟨q1, rfl, rfl, q2⟩; (exact ⟨_, _, 0, _, rfl, hM, hl2, (by unfold ado; (try simp only [Int.toNat_natCast]); (repeat' split); all_goals first | rfl | (exfalso; omega)), hB⟩); (exact ⟨_, _, 0, _, rfl, hM, hl2, (by rw [q2]; exact (by unfold ado; (try simp only [Int.toNat_natCast]); (repeat' split); all_goals first | rfl | (exfalso; omega))), hB⟩)) | exact ⟨_, _, 0, 0, rfl, hM, hl2, (by rw [hT2]; exact (by unfold ado; (try simp only [Int.toNat_natCast]); (repeat' split); all_goals first | rfl | (exfalso; omega))), hB⟩
          ·
            first | (have hg19p := of_decide_eq_false hg19) | skip
            refine LS.vg rfl rfl rfl hg19 (by decide) (Val.fieldAddr0 fld33_1 rfl) ?_
            refine LS.mg rfl rfl hg19 (Step.load rfl rfl (by decide) flat3 rfl (hM.o0.rd) (rfl) ?_)
            refine LS.vg rfl rfl rfl hg19 (by decide) (Val.move rfl) ?_
            refine LS.vg rfl rfl rfl hg19 (by decide) (Val.geq rfl rfl) ?_
            refine LS.vv rfl rfl (by decide) (Val.pickF rfl hg19 rfl) ?_
            refine LS.vv rfl rfl (by decide) (Val.assign rfl) ?_
            refine LS.nil ?_
            first | refine W.condD rfl (fun hc20 => ?_) (fun hc20 => ?_) | refine W.cond rfl (fun hc20 => ?_) (fun hc20 => ?_)
            ·
              refine W.seqR ?_
              refine LS.vv rfl rfl (by decide) (Val.cast (v := .int .u8 ((0 : Nat) : Int)) (Val.assign rfl) rfl) ?_
              refine LS.vv rfl rfl (by decide) (Val.cast (v := .int .i64 ((2 : Nat) : Int)) (Val.assign rfl) rfl) ?_
              refine LS.nil ?_
              refine W.ret ?_
              refine inBlk_ret ?_
              refine thenP_ret ?_
              refine ret2 (by first | exact .inl rfl | exact .inr rfl) rfl rfl ?_
              first | (exfalso; omega) | exact ⟨T, lost, 0, 6, rfl, hM.tail, rfl, (by unfold ado; (try simp only [Int.toNat_natCast]); (repeat' split); all_goals first | rfl | (exfalso; omega)), hB⟩ | exact ⟨T, lost, 0, 2, rfl, hM.tail, rfl, (by unfold ado; (try simp only [Int.toNat_natCast]); (repeat' split); all_goals first | rfl | (exfalso; omega)), hB⟩ | exact ⟨T, lost, _, 0, rfl, hM.tail, rfl, (by unfold ado; (try simp only [Int.toNat_natCast]); (repeat' split); all_goals first | rfl | (exfalso; omega)), hB⟩ | (rcases hcs with ⟨q1, rfl, rfl, rfl⟩ | ⟨q1, rfl, rfl, q2⟩; (exact ⟨_, _, 0, _, rfl, hM, hl2, (by unfold ado; (try simp only [Int.toNat_natCast]); (repeat' split); all_goals first | rfl | (exfalso; omega)), hB⟩); (exact ⟨_, _, 0, _, rfl, hM, hl2, (by rw [q2]; exact (by unfold ado; (try simp only [Int.toNat_natCast]); (repeat' split); all_goals first | rfl | (exfalso; omega))), hB⟩)) | exact ⟨_, _, 0, 0, rfl, hM, hl2, (by rw [hT2]; exact (by unfold ado; (try simp only [Int.toNat_natCast]); (repeat' split); all_goals first | rfl | (exfalso; omega))), hB⟩
            ·
              refine W.skip ?_
              refine inBlk_normal ?_
              refine thenP_normal ?_
              refine W.seq ?_
              refine W.seqR ?_
              refine LS.vv rfl rfl (by decide) (Val.fieldAddr0 fld33_0 rfl) ?_
              refine LS.m rfl (Step.load rfl rfl (by decide) flat3 rfl (hM.o0.rd) (rfl) ?_)
              refine LS.nil ?_
              refine W.block ?_
              refine W.seqR ?_
              refine LS.vv rfl rfl (by decide) (Val.eql rfl rfl) ?_
              refine LS.vv rfl rfl (by decide) (Val.assign rfl) ?_
              refine LS.nil ?_
              first | refine W.condD rfl (fun hc21 => ?_) (fun hc21 => ?_) | refine W.cond rfl (fun hc21 => ?_) (fun hc21 => ?_)
              ·
                refine W.seqR ?_
                refine LS.vv rfl rfl (by decide) (Val.move rfl) ?_
                refine LS.vv rfl rfl (by decide) (Val.fieldAddr0 fld33_1 rfl) ?_
                refine LS.m rfl (Step.load rfl rfl (by decide) flat3 rfl (hM.o0.rd) (rfl) ?_)
                obtain ⟨b, rfl⟩ := Int.eq_ofNat_of_zero_le (show 0 ≤ bl by omega)
                refine LS.m rfl (Step.call body27 rfl rfl (by decide) rfl (CallsV.mono (Read_any T lost po g co T.length B S _ hM.tail (Nat.le_trans hB0 hB.size) rfl hsh hd3 hd6 b (by omega)) ?_))
                rintro _ w10 ⟨rfl, hb10⟩
                replace hM := hM.below hb10
                replace hB := hB.trans (hb10.mono (Nat.le_trans hB0 hB.size))
                refine LS.vv rfl rfl (by decide) (Val.assign rfl) ?_
                refine LS.vv rfl rfl (by decide) (Val.cast (v := .int .i64 ((0 : Nat) : Int)) (Val.assign rfl) rfl) ?_
                refine LS.nil ?_
                refine W.ret ?_
                refine inBlk_ret ?_
                refine thenP_ret ?_
                refine ret2 (by first | exact .inl rfl | exact .inr rfl) rfl rfl ?_
                first | (exfalso; omega) | exact ⟨T, lost, 0, 6, rfl, hM.tail, rfl, (by unfold ado; (try simp only [Int.toNat_natCast]); (repeat' split); all_goals first | rfl | (exfalso; omega)), hB⟩ | exact ⟨T, lost, 0, 2, rfl, hM.tail, rfl, (by unfold ado; (try simp only [Int.toNat_natCast]); (repeat' split); all_goals first | rfl | (exfalso; omega)), hB⟩ | exact ⟨T, lost, _, 0, rfl, hM.tail, rfl, (by unfold ado; (try simp only [Int.toNat_natCast]); (repeat' split); all_goals first | rfl | (exfalso; omega)), hB⟩ | (rcases hcs with ⟨q1, rfl, rfl, rfl⟩ | ⟨q1, rfl, rfl, q2⟩; (exact ⟨_, _, 0, _, rfl, hM, hl2, (by unfold ado; (try simp only [Int.toNat_natCast]); (repeat' split); all_goals first | rfl | (exfalso; omega)), hB⟩); (exact ⟨_, _, 0, _, rfl, hM, hl2, (by rw [q2]; exact (by unfold ado; (try simp only [Int.toNat_natCast]); (repeat' split); all_goals first | rfl | (exfalso; omega))), hB⟩)) | exact ⟨_, _, 0, 0, rfl, hM, hl2, (by rw [hT2]; exact (by unfold ado; (try simp only [Int.toNat_natCast]); (repeat' split); all_goals first | rfl | (exfalso; omega))), hB⟩
              ·
                refine W.seqR ?_
                refine LS.vv rfl rfl (by decide) (Val.eql rfl rfl) ?_
                refine LS.vv rfl rfl (by decide) (Val.assign rfl) ?_
                refine LS.nil ?_
                first | refine W.condD rfl (fun hc22 => ?_) (fun hc22 => ?_) | refine W.cond rfl (fun hc22 => ?_) (fun hc22 => ?_)
                ·
                  refine W.seqR ?_
                  refine LS.vv rfl rfl (by decide) (Val.move rfl) ?_
                  refine LS.vv rfl rfl (by decide) (Val.fieldAddr0 fld33_1 rfl) ?_
                  refine LS.m rfl (Step.load rfl rfl (by decide) flat3 rfl (hM.o0.rd) (rfl) ?_)
                  obtain ⟨b, rfl⟩ := Int.eq_ofNat_of_zero_le (show 0 ≤ bl by omega)
                  refine LS.m rfl (Step.call body28 rfl rfl (by decide) rfl (CallsV.mono (Lose_any T lost po g co T.length B S _ hM.tail (Nat.le_trans hB0 hB.size) rfl hsh hd3 hd6 b (by omega)) ?_))
                  rintro _ w11 ⟨T2, l2, e, rfl, hM11, hl2, hcs, hb11⟩
                  replace hM := hM11
                  replace hB := hB.trans hb11
                  refine LS.vv rfl rfl (by decide) (Val.cast (v := .int .u8 ((0 : Nat) : Int)) (Val.assign rfl) rfl) ?_
                  refine LS.vv rfl rfl (by decide) (Val.assign rfl) ?_
                  refine LS.nil ?_
                  refine W.ret ?_
                  refine inBlk_ret ?_
                  refine thenP_ret ?_
                  refine ret2 (by first | exact .inl rfl | exact .inr rfl) rfl rfl ?_
                  first | (exfalso; omega) | exact ⟨T, lost, 0, 6, rfl, hM.tail, rfl, (by unfold ado; (try simp only [Int.toNat_natCast]); (repeat' split); all_goals first | rfl | (exfalso; omega)), hB⟩ | exact ⟨T, lost, 0, 2, rfl, hM.tail, rfl, (by unfold ado; (try simp only [Int.toNat_natCast]); (repeat' split); all_goals first | rfl | (exfalso; omega)), hB⟩ | exact ⟨T, lost, _, 0, rfl, hM.tail, rfl, (by unfold ado; (try simp only [Int.toNat_natCast]); (repeat' split); all_goals first | rfl | (exfalso; omega)), hB⟩ | (rcases hcs with ⟨q1, rfl, rfl, rfl⟩ | ⟨q1, rfl, rfl, q2⟩; (exact ⟨_, _, 0, _, rfl, hM, hl2, (by unfold ado; (try simp only [Int.toNat_natCast]); (repeat' split); all_goals first | rfl | (exfalso; omega)), hB⟩); (exact ⟨_, _, 0, _, rfl, hM, hl2, (by rw [q2]; exact (by unfold ado; (try simp only [Int.toNat_natCast]); (repeat' split); all_goals first | rfl | (exfalso; omega))), hB⟩)) | exact ⟨_, _, 0, 0, rfl, hM, hl2, (by rw [hT2]; exact (by unfold ado; (try simp only [Int.toNat_natCast]); (repeat' split); all_goals first | rfl | (exfalso; omega))), hB⟩
                ·
                  refine W.seqR ?_
                  refine LS.vv rfl rfl (by decide) (Val.eql rfl rfl) ?_
                  refine LS.vv rfl rfl (by decide) (Val.assign rfl) ?_
                  refine LS.nil ?_
                  first | refine W.condD rfl (fun hc23 => ?_) (fun hc23 => ?_) | refine W.cond rfl (fun hc23 => ?_) (fun hc23 => ?_)
                  ·
                    refine W.seqR ?_
                    refine LS.vv rfl rfl (by decide) (Val.move rfl) ?_
                    refine LS.vv rfl rfl (by decide) (Val.fieldAddr0 fld33_1 rfl) ?_
                    refine LS.m rfl (Step.load rfl rfl (by decide) flat3 rfl (hM.o0.rd) (rfl) ?_)
                    obtain ⟨b, rfl⟩ := Int.eq_ofNat_of_zero_le (show 0 ≤ bl by omega)
                    refine LS.m rfl (Step.call body29 rfl rfl (by decide) rfl (CallsV.mono (Renew_any T lost po g co T.length B S _ hM.tail (Nat.le_trans hB0 hB.size) rfl hsh hd3 hd6 b (by omega)) ?_))
                    rintro _ w12 ⟨T2, l2, e, rfl, hM12, hl2, hcs, hb12⟩
                    replace hM := hM12
                    replace hB := hB.trans hb12
                    refine LS.vv rfl rfl (by decide) (Val.cast (v := .int .u8 ((0 : Nat) : Int)) (Val.assign rfl) rfl) ?_
                    refine LS.vv rfl rfl (by decide) (Val.assign rfl) ?_
                    refine LS.nil ?_
                    refine W.ret ?_
                    refine inBlk_ret ?_
                    refine thenP_ret ?_
                    refine ret2 (by first | exact .inl rfl | exact .inr rfl) rfl rfl ?_
                    first | (exfalso; omega) | exact ⟨T, lost, 0, 6, rfl, hM.tail, rfl, (by unfold ado; (try simp only [Int.toNat_natCast]); (repeat' split); all_goals first | rfl | (exfalso; omega)), hB⟩ | exact ⟨T, lost, 0, 2, rfl, hM.tail, rfl, (by unfold ado; (try simp only [Int.toNat_natCast]); (repeat' split); all_goals first | rfl | (exfalso; omega)), hB⟩ | exact ⟨T, lost, _, 0, rfl, hM.tail, rfl, (by unfold ado; (try simp only [Int.toNat_natCast]); (repeat' split); all_goals first | rfl | (exfalso; omega)), hB⟩ | (rcases hcs with ⟨q1, rfl, rfl, rfl⟩ | ⟨q1, rfl, rfl, q2⟩; (exact ⟨_, _, 0, _, rfl, hM, hl2, (by unfold ado; (try simp only [Int.toNat_natCast]); (repeat' split); all_goals first | rfl | (exfalso; omega)), hB⟩); (exact ⟨_, _, 0, _, rfl, hM, hl2, (by rw [q2]; exact (by unfold ado; (try simp only [Int.toNat_natCast]); (repeat' split); all_goals first | rfl | (exfalso; omega))), hB⟩)) | exact ⟨_, _, 0, 0, rfl, hM, hl2, (by rw [hT2]; exact (by unfold ado; (try simp only [Int.toNat_natCast]); (repeat' split); all_goals first | rfl | (exfalso; omega))), hB⟩
                  ·
                    refine W.skip ?_
                    refine inBlk_normal ?_
                    refine thenP_normal ?_
                    refine W.seqR ?_
                    refine LS.vv rfl rfl (by decide) (Val.move rfl) ?_
                    refine LS.vv rfl rfl (by decide) (Val.fieldAddr0 fld33_1 rfl) ?_
                    refine LS.m rfl (Step.load rfl rfl (by decide) flat3 rfl (hM.o0.rd) (rfl) ?_)
                    refine LS.vv rfl rfl (by decide) (Val.fieldAddr0 fld33_2 rfl) ?_
                    refine LS.m rfl (Step.load rfl rfl (by decide) flat5 rfl (hM.o0.rd) (rfl) ?_)
                    obtain ⟨b, rfl⟩ := Int.eq_ofNat_of_zero_le (show 0 ≤ bl by omega)
                    refine LS.m rfl (Step.call body30 rfl rfl (by decide) rfl (CallsV.mono (Write_any T lost po g co T.length B S _ hM.tail (Nat.le_trans hB0 hB.size) rfl hsh hd3 hd6 b x (by omega) hx) ?_))
                    rintro _ w13 ⟨T2, hM13, hT2, hl2, hb13⟩
                    replace hM := hM13
                    replace hB := hB.trans hb13
                    refine LS.nil ?_
                    refine W.seqR ?_
                    refine LS.vv rfl rfl (by decide) (Val.cast (v := .int .u8 ((0 : Nat) : Int)) (Val.assign rfl) rfl) ?_
                    refine LS.vv rfl rfl (by decide) (Val.cast (v := .int .i64 ((0 : Nat) : Int)) (Val.assign rfl) rfl) ?_
                    refine LS.nil ?_
                    refine W.ret ?_
                    refine ret2 (by first | exact .inl rfl | exact .inr rfl) rfl rfl ?_
                    first | (exfalso; omega) | exact ⟨T, lost, 0, 6, rfl, hM.tail, rfl, (by unfold ado; (try simp only [Int.toNat_natCast]); (repeat' split); all_goals first | rfl | (exfalso; omega)), hB⟩ | exact ⟨T, lost, 0, 2, rfl, hM.tail, rfl, (by unfold ado; (try simp only [Int.toNat_natCast]); (repeat' split); all_goals first | rfl | (exfalso; omega)), hB⟩ | exact ⟨T, lost, _, 0, rfl, hM.tail, rfl, (by unfold ado; (try simp only [Int.toNat_natCast]); (repeat' split); all_goals first | rfl | (exfalso; omega)), hB⟩ | (rcases hcs with ⟨q1, rfl, rfl, rfl⟩ | ⟨q1, rfl, rfl, q2⟩; (exact ⟨_, _, 0, _, rfl, hM, hl2, (by unfold ado; (try simp only [Int.toNat_natCast]); (repeat' split); all_goals first | rfl | (exfalso; omega)), hB⟩); (exact ⟨_, _, 0, _, rfl, hM, hl2, (by rw [q2]; exact (by unfold ado; (try simp only [Int.toNat_natCast]); (repeat' split); all_goals first | rfl | (exfalso; omega))), hB⟩)) | exact ⟨_, _, 0, 0, rfl, hM, hl2, (by rw [hT2]; exact (by unfold ado; (try simp only [Int.toNat_natCast]); (repeat' split); all_goals first | rfl | (exfalso; omega))), hB⟩

end Go.Proofs.Ytldcpihjoakigaa
