/-
  The statement SpanClosed.
-/
import Derived.Test.YtjmpkmomlpgbdaaSpanA
namespace Go.Proofs.Ytjmpkmomlpgbdaa
open Go Go.RowKit V
set_option linter.unusedVariables false
set_option linter.unusedSimpArgs false

def hasTo (L : List Nat) (x q : Nat) : Bool := (List.range q).any fun j => decide (gn L j = x)
theorem hasTo_succ (L : List Nat) (x q : Nat) : hasTo L x (q + 1) = (hasTo L x q || decide (gn L q = x)) := by
  unfold hasTo; rw [List.range_succ, List.any_append]; simp
theorem hasTo_all {L : List Nat} {x : Nat} (h : x ∈ L) : hasTo L x L.length = true := by
  obtain ⟨j, hj, e⟩ := gn_mem.2 h
  exact List.any_eq_true.2 ⟨j, List.mem_range.2 hj, decide_eq_true e⟩
theorem first_zero {L : List Nat} (h0 : 0 ∈ L) (hs : L.Pairwise (· ≤ ·)) : gn L 0 = 0 ∧ 1 ≤ L.length := by
  cases L with
  | nil => simp at h0
  | cons a t =>
    rw [List.pairwise_cons] at hs
    refine ⟨?_, by simp⟩
    show a = 0
    rcases List.mem_cons.1 h0 with h | h
    · exact h.symm
    · have := hs.1 0 h; omega

theorem closed_any (n : Int) (cs : List Nat) (p : Option Addr) (c : Nat) (i j : Nat) (w0 : World) (hr : Rd w0 p (uv cs)) (hl : cs.length ≤ 9223372036854775807) (hcs : ∀ x ∈ cs, x < 4294967296) (hi : i < 65536) (hj : j < 65536) :
    CallsV Try.prog 5 #[.int .i64 n, .slice p cs.length c, .int .u16 (i : Int), .int .u16 (j : Int)] w0 (fun v w => v = .bool true ∧ Below w0.heap.size w0 w) := by
  refine enter1 Try.func5 rfl Try.ntmps5 (by simp) rfl ?_
  have hB := Below.refl w0.heap.size w0
  simp only [argLoc, Nat.zero_add, Nat.reduceAdd]
  have hM := Mem.nil w0 w0.heap.size
  refine W.seqR ?_
  refine LS.vv rfl rfl (by decide) (Val.assign rfl) ?_
  refine LS.nil ?_
  refine W.seqR ?_
  refine LS.vv rfl rfl (by decide) (Val.move rfl) ?_
  refine LS.vv rfl rfl (by decide) (Val.move rfl) ?_
  refine LS.m rfl (Step.call body13 rfl rfl (by decide) rfl (CallsV.mono (spanS_any n cs _ _ _ (hr.below hB) hl hcs) ?_))
  rintro _ w1 ⟨p2, c2, L, e, rfl, hOL, he, hLL, hb1⟩
  replace hM := hM.add hB.size hb1 hOL
  replace hB := hB.trans (hb1.mono hB.size)
  refine LS.vv rfl rfl (by decide) (Val.move rfl) ?_
  refine LS.vv rfl rfl (by decide) (Val.extract rfl rfl) ?_
  refine LS.vv rfl rfl (by decide) (Val.extract rfl rfl) ?_
  refine LS.vv rfl rfl (by decide) (Val.assign rfl) ?_
  refine LS.vv rfl rfl (by decide) (Val.assign rfl) ?_
  refine LS.nil ?_
  refine W.seq ?_
  refine W.seqR ?_
  refine LS.vv rfl rfl (by decide) (Val.move rfl) ?_
  refine LS.vv rfl rfl (by decide) (Val.move rfl) ?_
  refine LS.m rfl (Step.call body14 rfl rfl (by decide) rfl (CallsV.mono (rowed_any n cs _ _ _ (hr.below hB) hl hcs) ?_))
  rintro _ w2 ⟨b, rfl, hbb, hb2⟩
  replace hM := hM.below hb2
  replace hB := hB.trans (hb2.mono hB.size)
  refine LS.vv rfl rfl (by decide) (Val.not rfl) ?_
  refine LS.nil ?_
  first | refine W.condD rfl (fun hc1 => ?_) (fun hc1 => ?_) | refine W.cond rfl (fun hc1 => ?_) (fun hc1 => ?_)
  ·
    refine W.seqR ?_
    refine LS.vv rfl rfl (by decide) (Val.move rfl) ?_
    have hen : e ≠ 0 := fun h => by have := hbb.2 (he.1 h); simp_all
    refine LS.vv rfl rfl (by decide) (Val.cast (v := .bool true) (Val.neq rfl rfl) (by first | rfl | (exfalso; omega) | (refine congrArg Value.bool (decide_eq_true ?_); omega))) ?_
    refine LS.vv rfl rfl (by decide) (Val.assign rfl) ?_
    refine LS.nil ?_
    refine W.ret ?_
    refine thenP_ret ?_
    refine ret1 (by first | exact .inl rfl | exact .inr rfl) rfl ?_
    first | exact ⟨rfl, hB⟩ | (exfalso; omega)
  ·
    have hok := hbb.1 (by simp_all)
    have he0 := he.2 hok
    obtain ⟨hL1, hL2⟩ := hLL he0
    have hI := spn_inv hok.1.2.2
    have hn12 := hok.1.2.1
    have hp12 : 2 ^ n.toNat ≤ 2 ^ 12 := Nat.pow_le_pow_right (by omega) (by omega)
    obtain ⟨hz1, hz2⟩ := first_zero (hL1.mem_iff.2 hI.zero) hL2
    have hlt2 : ∀ q, q < L.length → gn L q < 2 ^ n.toNat := fun q hq => hI.lt _ (hL1.mem_iff.1 (by rw [gn_lt hq]; exact List.getElem_mem _))
    have hlen := spk_len hok.1.2.2 (Nat.le_refl _) hok.2
    have hll : L.length = (spk cs cs.length).length := hL1.length_eq
    have hmi := Nat.mod_lt i (show 0 < L.length by omega)
    have hmj := Nat.mod_lt j (show 0 < L.length by omega)
    have h8 := hok.2
    have hall : ∀ k, k < ((gn L (i % L.length) ^^^ gn L (j % L.length)) :: cs).length → gn ((gn L (i % L.length) ^^^ gn L (j % L.length)) :: cs) k ∈ L := fun k hk => by { refine hL1.mem_iff.2 ?_; cases k with | zero => exact hI.clos _ (hL1.mem_iff.1 (by rw [gn_lt hmi]; exact List.getElem_mem _)) _ (hL1.mem_iff.1 (by rw [gn_lt hmj]; exact List.getElem_mem _)) | succ k => exact hI.mem k (by simpa using hk) }
    refine W.skip ?_
    refine thenP_normal ?_
    refine W.seq ?_
    refine W.seqR ?_
    refine LS.vv rfl rfl (by decide) (Val.move rfl) ?_
    refine LS.vv rfl rfl (by decide) (Val.neq rfl rfl) ?_
    refine LS.vv rfl rfl (by decide) (Val.move rfl) ?_
    refine LS.split 2 rfl (fun hg2 => ?_) (fun hg2 => ?_)
    ·
      first | (have hg2p := of_decide_eq_true hg2) | skip
      refine LS.s rfl rfl rfl hg2 (by decide) ?_
      refine LS.s rfl rfl rfl hg2 (by decide) ?_
      refine LS.s rfl rfl rfl hg2 (by decide) ?_
      refine LS.vv rfl rfl (by decide) (Val.cast (v := .bool false) (Val.pickT rfl hg2 rfl) (by first | rfl | (exfalso; omega) | (refine congrArg Value.bool (decide_eq_false ?_); omega))) ?_
      refine LS.vv rfl rfl (by decide) (Val.move rfl) ?_
      refine LS.vg rfl rfl rfl rfl (by decide) (Val.move rfl) ?_
      refine LS.vg rfl rfl rfl rfl (by decide) (Val.index1 (j := 0) Try.underlying32 elem37 rfl rfl (by omega) (hM.o0.rd) (uv_lt (by omega))) ?_
      refine LS.mg rfl rfl rfl (Step.load rfl rfl (by decide) flat37 rfl (hM.o0.rd) (uv_at (by omega)) ?_)
      refine LS.vg rfl rfl rfl rfl (by decide) (Val.neq rfl rfl) ?_
      refine LS.vv rfl rfl (by decide) (Val.cast (v := .bool false) (Val.pickF rfl rfl rfl) (by first | rfl | (exfalso; omega) | (refine congrArg Value.bool (decide_eq_false ?_); omega))) ?_
      refine LS.nil ?_
      refine W.condF rfl ?_
      refine W.skip ?_
      refine thenP_normal ?_
      refine W.seq ?_
      refine W.seqT (S := fun w => Below w0.heap.size w0 w ∧ Mem w w0.heap.size _) (.val 0 (.val 1 (.val 2 (.val 3 (.val 4 (.val 5 (.val 6 (.val 7 (.val 8 (.val 9 (.val 10 (.val 11 (.val 12 (.val 13 (.val 14 (.val 15 (.val 16 (.val 18 (.val 21 (.mem 17 (.mem 19 (.val 20 (.done))))))))))))))))))))))) mixed (by kernel_rfl) ⟨hB.drew, hM.drew⟩ ?_
      replace hB := hB.drew
      replace hM := hM.drew
      refine DT.vv rfl rfl rfl (by decide) (Val.move rfl) ?_
      refine DT.vv rfl rfl rfl (by decide) (Val.move rfl) ?_
      refine DT.vv rfl rfl rfl (by decide) (Val.conv rfl Try.underlying33 Try.underlying3 (IntWalk.i64_in _ (by omega))) ?_
      refine DT.vv rfl rfl rfl (by decide) (Val.move rfl) ?_
      refine DT.vv rfl rfl rfl (by decide) (Val.len Try.underlying32 rfl) ?_
      first | refine DT.vv rfl rfl rfl (by decide) (Val.remN rfl rfl (by omega)) ?_ | refine DT.vv rfl rfl rfl (by decide) (Val.rem rfl rfl (by omega) (by omega)) ?_ | refine DT.vv rfl rfl rfl (by decide) (Val.remT rfl rfl (by omega)) ?_
      refine DT.vv rfl rfl rfl (by decide) (Val.index1 Try.underlying32 elem37 rfl rfl (by omega) (hM.o0.rd) (uv_lt (by omega))) ?_
      refine DT.vv rfl rfl rfl (by decide) (Val.load flat37 rfl (fun _ h => h.2.o0.rd) (uv_at (by omega))) ?_
      refine DT.vv rfl rfl rfl (by decide) (Val.move rfl) ?_
      refine DT.vv rfl rfl rfl (by decide) (Val.move rfl) ?_
      refine DT.vv rfl rfl rfl (by decide) (Val.conv rfl Try.underlying33 Try.underlying3 (IntWalk.i64_in _ (by omega))) ?_
      refine DT.vv rfl rfl rfl (by decide) (Val.move rfl) ?_
      refine DT.vv rfl rfl rfl (by decide) (Val.len Try.underlying32 rfl) ?_
      first | refine DT.vv rfl rfl rfl (by decide) (Val.remN rfl rfl (by omega)) ?_ | refine DT.vv rfl rfl rfl (by decide) (Val.rem rfl rfl (by omega) (by omega)) ?_ | refine DT.vv rfl rfl rfl (by decide) (Val.remT rfl rfl (by omega)) ?_
      refine DT.vv rfl rfl rfl (by decide) (Val.index1 Try.underlying32 elem37 rfl rfl (by omega) (hM.o0.rd) (uv_lt (by omega))) ?_
      refine DT.vv rfl rfl rfl (by decide) (Val.load flat37 rfl (fun _ h => h.2.o0.rd) (uv_at (by omega))) ?_
      have ha32 : gn L (i % L.length) < 2 ^ n.toNat := hlt2 _ (Nat.mod_lt _ (by omega))
      have hb32 : gn L (j % L.length) < 2 ^ n.toNat := hlt2 _ (Nat.mod_lt _ (by omega))
      refine DT.vv rfl rfl rfl (by decide) (Val.xorU32 rfl rfl (by omega) (by omega)) ?_
      refine DT.vv rfl rfl rfl (by decide) (Val.move rfl) ?_
      refine DT.vv rfl rfl rfl (by decide) (Val.cast (v := .int .i64 ((0 : Nat) : Int)) (Val.move rfl) rfl) ?_
      refine DT.m rfl rfl (Step.lit rfl rfl (by decide) Try.underlying32 elem37 rfl rfl (by omega) (by simp [Value.oneCell']) (Nat.le_refl _) ?_)
      rintro w3 hO3 hg3 hbl3 hsz3
      replace hM := hM.add hB.size hbl3 hO3
      try simp only [uv_app1, uv_app, uv_set, uv_rep, uv_one, uv_cons, uv_take, uv_drop, List.nil_append] at hM
      replace hB := hB.trans (hbl3.mono hB.size)
      generalize w2.drew.heap.size = gg3 at *
      refine ⟨⟨hB, hM.er0⟩, ?_⟩
      refine DT.m rfl rfl (Step.append2 (B := w0.heap.size) rfl rfl (by decide) Try.underlying32 elem37 rfl rfl rfl rfl (hM.o0) ((hr.below hB)) (by simp [uv]) (by first | exact one_map _ (fun _ => rfl) _ | simp [Value.oneCell']) (by omega) (by omega) hB.size ?_)
      rintro p4 c4 w4 hO4 hg4 hbl4 hbk4
      replace hM := hM.s0 hg4 hO4 hbk4
      try simp only [uv_app1, uv_app, uv_set, uv_rep, uv_one, uv_cons, uv_take, uv_drop, List.nil_append] at hM
      replace hB := hB.trans hbl4
      refine ⟨⟨hB, hM.er0⟩, ?_⟩
      refine DT.vv rfl rfl rfl (by decide) (Val.len Try.underlying32 rfl) ?_
      refine DT.nil ?_
      refine W.block ?_
      refine W.loop (α := Nat) (fun k => [(62, .int .i64 (k : Int))]) [(9, _), (60, _), (61, _)] (fun k w => (k ≤ 1 + cs.length) ∧ Mem w w0.heap.size [⟨37, p4, 1 + cs.length, c4, uv ((gn L (i % L.length) ^^^ gn L (j % L.length)) :: cs)⟩, ⟨37, p2, L.length, c2, uv L⟩] ∧ Below w0.heap.size w0 w) (fun k => 1 + cs.length - k) (0) (Sub.cons rfl (Sub.nil _)) (Sub.cons rfl (Sub.cons rfl (Sub.cons rfl (Sub.nil _)))) ?_ ?_
      · exact ⟨Nat.zero_le _, hM, hB⟩
      rintro k w5 ⟨hk, hM, hB⟩
      try simp only at hM
      simp only [List.cons_append, List.nil_append]
      have hXl : ((gn L (i % L.length) ^^^ gn L (j % L.length)) :: cs).length = cs.length + 1 := rfl
      refine W.seqR ?_
      refine LS.vv rfl rfl (by decide) (Val.lss rfl rfl) ?_
      refine LS.nil ?_
      refine W.seq ?_
      first | refine W.condD rfl (fun hc3 => ?_) (fun hc3 => ?_) | refine W.cond rfl (fun hc3 => ?_) (fun hc3 => ?_)
      ·
        refine W.skip ?_
        refine thenP_normal ?_
        refine W.seq ?_
        refine W.block ?_
        refine W.seqR ?_
        refine LS.vv rfl rfl (by decide) (Val.index1 Try.underlying32 elem37 rfl rfl (by omega) (hM.o0.rd) (uv_lt (by omega))) ?_
        refine LS.m rfl (Step.load rfl rfl (by decide) flat37 rfl (hM.o0.rd) (uv_at (by omega)) ?_)
        refine LS.vv rfl rfl (by decide) (Val.assign rfl) ?_
        refine LS.nil ?_
        refine W.seqR ?_
        refine LS.vv rfl rfl (by decide) (Val.assign rfl) ?_
        refine LS.nil ?_
        refine W.seq ?_
        refine W.seqR ?_
        refine LS.vv rfl rfl (by decide) (Val.move rfl) ?_
        refine LS.vv rfl rfl (by decide) (Val.len Try.underlying32 rfl) ?_
        refine LS.vv rfl rfl (by decide) (Val.cast (v := .int .i64 ((0 : Nat) : Int)) (Val.move rfl) rfl) ?_
        refine LS.nil ?_
        refine W.block ?_
        have hxin := hall k (by rw [List.length_cons]; omega)
        refine W.loop (α := Nat) (fun q => [(13, .bool (hasTo L (gn ((gn L (i % L.length) ^^^ gn L (j % L.length)) :: cs) k) q)), (68, .int .i64 (q : Int))]) [(9, _), (12, _), (60, _), (61, _), (62, _), (66, _), (67, _)] (fun q w => (q ≤ L.length) ∧ Mem w w0.heap.size [⟨37, p4, 1 + cs.length, c4, uv ((gn L (i % L.length) ^^^ gn L (j % L.length)) :: cs)⟩, ⟨37, p2, L.length, c2, uv L⟩] ∧ Below w0.heap.size w0 w) (fun q => L.length - q) (0) (Sub.cons rfl (Sub.cons rfl (Sub.nil _))) (Sub.cons rfl (Sub.cons rfl (Sub.cons rfl (Sub.cons rfl (Sub.cons rfl (Sub.cons rfl (Sub.cons rfl (Sub.nil _)))))))) ?_ ?_
        · exact ⟨Nat.zero_le _, hM, hB⟩
        rintro q w6 ⟨hq, hM, hB⟩
        try simp only at hM
        simp only [List.cons_append, List.nil_append]
        refine W.seqR ?_
        refine LS.vv rfl rfl (by decide) (Val.lss rfl rfl) ?_
        refine LS.nil ?_
        refine W.seq ?_
        first | refine W.condD rfl (fun hc4 => ?_) (fun hc4 => ?_) | refine W.cond rfl (fun hc4 => ?_) (fun hc4 => ?_)
        ·
          refine W.skip ?_
          refine thenP_normal ?_
          refine W.seq ?_
          refine W.block ?_
          refine W.seqR ?_
          refine LS.vv rfl rfl (by decide) (Val.index1 Try.underlying32 elem37 rfl rfl (by omega) (hM.o1.rd) (uv_lt (by omega))) ?_
          refine LS.m rfl (Step.load rfl rfl (by decide) flat37 rfl (hM.o1.rd) (uv_at (by omega)) ?_)
          refine LS.vv rfl rfl (by decide) (Val.assign rfl) ?_
          refine LS.nil ?_
          refine W.reg ?_
          refine LS.vv rfl rfl (by decide) (Val.move rfl) ?_
          refine LS.vv rfl rfl (by decide) (Val.move rfl) ?_
          refine LS.split 1 rfl (fun hg5 => ?_) (fun hg5 => ?_)
          ·
            first | (have hg5p := of_decide_eq_true hg5) | skip
            refine LS.s rfl rfl rfl hg5 (by decide) ?_
            refine LS.s rfl rfl rfl hg5 (by decide) ?_
            refine LS.s rfl rfl rfl hg5 (by decide) ?_
            refine LS.vv rfl rfl (by decide) (Val.pickT rfl hg5 rfl) ?_
            refine LS.vv rfl rfl (by decide) (Val.assign rfl) ?_
            refine LS.nil ?_
            refine inBlk_normal ?_
            refine thenP_normal ?_
            refine W.reg ?_
            first | refine LS.vv rfl rfl (by decide) (Val.addN (j := 1) rfl rfl (by omega)) ?_ | refine LS.vv rfl rfl (by decide) (Val.add64 rfl rfl (by omega)) ?_
            refine LS.vv rfl rfl (by decide) (Val.move rfl) ?_
            refine LS.nil ?_
            refine thenP_normal ?_
            refine ⟨q + 1, ?_, ?_, ⟨by omega, hM, hB⟩, by omega⟩
            · exact Sub.cons' rfl (congrArg Value.bool (by rw [hasTo_succ]; first | (simp_all; done) | (simp_all; omega))) (Sub.cons rfl (Sub.nil _))
            · repeat (first | exact Sub.nil _ | refine Sub.cons rfl ?_)
          ·
            first | (have hg5p := of_decide_eq_false hg5) | skip
            refine LS.vg rfl rfl rfl hg5 (by decide) (Val.move rfl) ?_
            refine LS.vg rfl rfl rfl hg5 (by decide) (Val.move rfl) ?_
            refine LS.vg rfl rfl rfl hg5 (by decide) (Val.eql rfl rfl) ?_
            refine LS.vv rfl rfl (by decide) (Val.pickF rfl hg5 rfl) ?_
            refine LS.vv rfl rfl (by decide) (Val.assign rfl) ?_
            refine LS.nil ?_
            refine inBlk_normal ?_
            refine thenP_normal ?_
            refine W.reg ?_
            first | refine LS.vv rfl rfl (by decide) (Val.addN (j := 1) rfl rfl (by omega)) ?_ | refine LS.vv rfl rfl (by decide) (Val.add64 rfl rfl (by omega)) ?_
            refine LS.vv rfl rfl (by decide) (Val.move rfl) ?_
            refine LS.nil ?_
            refine thenP_normal ?_
            refine ⟨q + 1, ?_, ?_, ⟨by omega, hM, hB⟩, by omega⟩
            · exact Sub.cons' rfl (congrArg Value.bool (by rw [hasTo_succ]; first | (simp_all; done) | (simp_all; omega))) (Sub.cons rfl (Sub.nil _))
            · repeat (first | exact Sub.nil _ | refine Sub.cons rfl ?_)
        ·
          refine W.exit ?_
          refine thenP_exit ?_
          refine thenP_exit ?_
          refine inBlk_exit ?_
          refine thenP_normal ?_
          refine W.seqR ?_
          refine LS.vv rfl rfl (by decide) (Val.move rfl) ?_
          refine LS.vv rfl rfl (by decide) (Val.not rfl) ?_
          refine LS.nil ?_
          first | refine W.condD rfl (fun hc6 => ?_) (fun hc6 => ?_) | refine W.cond rfl (fun hc6 => ?_) (fun hc6 => ?_)
          ·
            exfalso; obtain rfl : q = L.length := (by omega); have := hasTo_all hxin; simp_all
          ·
            refine W.skip ?_
            refine inBlk_normal ?_
            refine thenP_normal ?_
            refine W.reg ?_
            first | refine LS.vv rfl rfl (by decide) (Val.addN (j := 1) rfl rfl (by omega)) ?_ | refine LS.vv rfl rfl (by decide) (Val.add64 rfl rfl (by omega)) ?_
            refine LS.vv rfl rfl (by decide) (Val.move rfl) ?_
            refine LS.nil ?_
            refine thenP_normal ?_
            refine ⟨k + 1, ?_, ?_, ⟨by omega, hM, hB⟩, by omega⟩
            · exact (Sub.cons rfl (Sub.nil _))
            · repeat (first | exact Sub.nil _ | refine Sub.cons rfl ?_)
      ·
        refine W.exit ?_
        refine thenP_exit ?_
        refine thenP_exit ?_
        refine inBlk_exit ?_
        refine thenP_normal ?_
        refine W.seqR ?_
        refine LS.vv rfl rfl (by decide) (Val.assign rfl) ?_
        refine LS.nil ?_
        refine W.ret ?_
        refine ret1 (by first | exact .inl rfl | exact .inr rfl) rfl ?_
        first | exact ⟨rfl, hB⟩ | (exfalso; omega)
    ·
      first | (have hg2p := of_decide_eq_false hg2) | skip
      refine LS.vg rfl rfl rfl hg2 (by decide) (Val.move rfl) ?_
      refine LS.vg rfl rfl rfl hg2 (by decide) (Val.len Try.underlying32 rfl) ?_
      refine LS.vg rfl rfl rfl hg2 (by decide) (Val.eql rfl rfl) ?_
      refine LS.vv rfl rfl (by decide) (Val.cast (v := .bool false) (Val.pickF rfl hg2 rfl) (by first | rfl | (exfalso; omega) | (refine congrArg Value.bool (decide_eq_false ?_); omega))) ?_
      refine LS.vv rfl rfl (by decide) (Val.move rfl) ?_
      refine LS.vg rfl rfl rfl rfl (by decide) (Val.move rfl) ?_
      refine LS.vg rfl rfl rfl rfl (by decide) (Val.index1 (j := 0) Try.underlying32 elem37 rfl rfl (by omega) (hM.o0.rd) (uv_lt (by omega))) ?_
      refine LS.mg rfl rfl rfl (Step.load rfl rfl (by decide) flat37 rfl (hM.o0.rd) (uv_at (by omega)) ?_)
      refine LS.vg rfl rfl rfl rfl (by decide) (Val.neq rfl rfl) ?_
      refine LS.vv rfl rfl (by decide) (Val.cast (v := .bool false) (Val.pickF rfl rfl rfl) (by first | rfl | (exfalso; omega) | (refine congrArg Value.bool (decide_eq_false ?_); omega))) ?_
      refine LS.nil ?_
      refine W.condF rfl ?_
      refine W.skip ?_
      refine thenP_normal ?_
      refine W.seq ?_
      refine W.seqT (S := fun w => Below w0.heap.size w0 w ∧ Mem w w0.heap.size _) (.val 0 (.val 1 (.val 2 (.val 3 (.val 4 (.val 5 (.val 6 (.val 7 (.val 8 (.val 9 (.val 10 (.val 11 (.val 12 (.val 13 (.val 14 (.val 15 (.val 16 (.val 18 (.val 21 (.mem 17 (.mem 19 (.val 20 (.done))))))))))))))))))))))) mixed (by kernel_rfl) ⟨hB.drew, hM.drew⟩ ?_
      replace hB := hB.drew
      replace hM := hM.drew
      refine DT.vv rfl rfl rfl (by decide) (Val.move rfl) ?_
      refine DT.vv rfl rfl rfl (by decide) (Val.move rfl) ?_
      refine DT.vv rfl rfl rfl (by decide) (Val.conv rfl Try.underlying33 Try.underlying3 (IntWalk.i64_in _ (by omega))) ?_
      refine DT.vv rfl rfl rfl (by decide) (Val.move rfl) ?_
      refine DT.vv rfl rfl rfl (by decide) (Val.len Try.underlying32 rfl) ?_
      first | refine DT.vv rfl rfl rfl (by decide) (Val.remN rfl rfl (by omega)) ?_ | refine DT.vv rfl rfl rfl (by decide) (Val.rem rfl rfl (by omega) (by omega)) ?_ | refine DT.vv rfl rfl rfl (by decide) (Val.remT rfl rfl (by omega)) ?_
      refine DT.vv rfl rfl rfl (by decide) (Val.index1 Try.underlying32 elem37 rfl rfl (by omega) (hM.o0.rd) (uv_lt (by omega))) ?_
      refine DT.vv rfl rfl rfl (by decide) (Val.load flat37 rfl (fun _ h => h.2.o0.rd) (uv_at (by omega))) ?_
      refine DT.vv rfl rfl rfl (by decide) (Val.move rfl) ?_
      refine DT.vv rfl rfl rfl (by decide) (Val.move rfl) ?_
      refine DT.vv rfl rfl rfl (by decide) (Val.conv rfl Try.underlying33 Try.underlying3 (IntWalk.i64_in _ (by omega))) ?_
      refine DT.vv rfl rfl rfl (by decide) (Val.move rfl) ?_
      refine DT.vv rfl rfl rfl (by decide) (Val.len Try.underlying32 rfl) ?_
      first | refine DT.vv rfl rfl rfl (by decide) (Val.remN rfl rfl (by omega)) ?_ | refine DT.vv rfl rfl rfl (by decide) (Val.rem rfl rfl (by omega) (by omega)) ?_ | refine DT.vv rfl rfl rfl (by decide) (Val.remT rfl rfl (by omega)) ?_
      refine DT.vv rfl rfl rfl (by decide) (Val.index1 Try.underlying32 elem37 rfl rfl (by omega) (hM.o0.rd) (uv_lt (by omega))) ?_
      refine DT.vv rfl rfl rfl (by decide) (Val.load flat37 rfl (fun _ h => h.2.o0.rd) (uv_at (by omega))) ?_
      have ha32 : gn L (i % L.length) < 2 ^ n.toNat := hlt2 _ (Nat.mod_lt _ (by omega))
      have hb32 : gn L (j % L.length) < 2 ^ n.toNat := hlt2 _ (Nat.mod_lt _ (by omega))
      refine DT.vv rfl rfl rfl (by decide) (Val.xorU32 rfl rfl (by omega) (by omega)) ?_
      refine DT.vv rfl rfl rfl (by decide) (Val.move rfl) ?_
      refine DT.vv rfl rfl rfl (by decide) (Val.cast (v := .int .i64 ((0 : Nat) : Int)) (Val.move rfl) rfl) ?_
      refine DT.m rfl rfl (Step.lit rfl rfl (by decide) Try.underlying32 elem37 rfl rfl (by omega) (by simp [Value.oneCell']) (Nat.le_refl _) ?_)
      rintro w7 hO7 hg7 hbl7 hsz7
      replace hM := hM.add hB.size hbl7 hO7
      try simp only [uv_app1, uv_app, uv_set, uv_rep, uv_one, uv_cons, uv_take, uv_drop, List.nil_append] at hM
      replace hB := hB.trans (hbl7.mono hB.size)
      generalize w2.drew.heap.size = gg7 at *
      refine ⟨⟨hB, hM.er0⟩, ?_⟩
      refine DT.m rfl rfl (Step.append2 (B := w0.heap.size) rfl rfl (by decide) Try.underlying32 elem37 rfl rfl rfl rfl (hM.o0) ((hr.below hB)) (by simp [uv]) (by first | exact one_map _ (fun _ => rfl) _ | simp [Value.oneCell']) (by omega) (by omega) hB.size ?_)
      rintro p8 c8 w8 hO8 hg8 hbl8 hbk8
      replace hM := hM.s0 hg8 hO8 hbk8
      try simp only [uv_app1, uv_app, uv_set, uv_rep, uv_one, uv_cons, uv_take, uv_drop, List.nil_append] at hM
      replace hB := hB.trans hbl8
      refine ⟨⟨hB, hM.er0⟩, ?_⟩
      refine DT.vv rfl rfl rfl (by decide) (Val.len Try.underlying32 rfl) ?_
      refine DT.nil ?_
      refine W.block ?_
      refine W.loop (α := Nat) (fun k => [(62, .int .i64 (k : Int))]) [(9, _), (60, _), (61, _)] (fun k w => (k ≤ 1 + cs.length) ∧ Mem w w0.heap.size [⟨37, p8, 1 + cs.length, c8, uv ((gn L (i % L.length) ^^^ gn L (j % L.length)) :: cs)⟩, ⟨37, p2, L.length, c2, uv L⟩] ∧ Below w0.heap.size w0 w) (fun k => 1 + cs.length - k) (0) (Sub.cons rfl (Sub.nil _)) (Sub.cons rfl (Sub.cons rfl (Sub.cons rfl (Sub.nil _)))) ?_ ?_
      · exact ⟨Nat.zero_le _, hM, hB⟩
      rintro k w9 ⟨hk, hM, hB⟩
      try simp only at hM
      simp only [List.cons_append, List.nil_append]
      have hXl : ((gn L (i % L.length) ^^^ gn L (j % L.length)) :: cs).length = cs.length + 1 := rfl
      refine W.seqR ?_
      refine LS.vv rfl rfl (by decide) (Val.lss rfl rfl) ?_
      refine LS.nil ?_
      refine W.seq ?_
      first | refine W.condD rfl (fun hc7 => ?_) (fun hc7 => ?_) | refine W.cond rfl (fun hc7 => ?_) (fun hc7 => ?_)
      ·
        refine W.skip ?_
        refine thenP_normal ?_
        refine W.seq ?_
        refine W.block ?_
        refine W.seqR ?_
        refine LS.vv rfl rfl (by decide) (Val.index1 Try.underlying32 elem37 rfl rfl (by omega) (hM.o0.rd) (uv_lt (by omega))) ?_
        refine LS.m rfl (Step.load rfl rfl (by decide) flat37 rfl (hM.o0.rd) (uv_at (by omega)) ?_)
        refine LS.vv rfl rfl (by decide) (Val.assign rfl) ?_
        refine LS.nil ?_
        refine W.seqR ?_
        refine LS.vv rfl rfl (by decide) (Val.assign rfl) ?_
        refine LS.nil ?_
        refine W.seq ?_
        refine W.seqR ?_
        refine LS.vv rfl rfl (by decide) (Val.move rfl) ?_
        refine LS.vv rfl rfl (by decide) (Val.len Try.underlying32 rfl) ?_
        refine LS.vv rfl rfl (by decide) (Val.cast (v := .int .i64 ((0 : Nat) : Int)) (Val.move rfl) rfl) ?_
        refine LS.nil ?_
        refine W.block ?_
        have hxin := hall k (by rw [List.length_cons]; omega)
        refine W.loop (α := Nat) (fun q => [(13, .bool (hasTo L (gn ((gn L (i % L.length) ^^^ gn L (j % L.length)) :: cs) k) q)), (68, .int .i64 (q : Int))]) [(9, _), (12, _), (60, _), (61, _), (62, _), (66, _), (67, _)] (fun q w => (q ≤ L.length) ∧ Mem w w0.heap.size [⟨37, p8, 1 + cs.length, c8, uv ((gn L (i % L.length) ^^^ gn L (j % L.length)) :: cs)⟩, ⟨37, p2, L.length, c2, uv L⟩] ∧ Below w0.heap.size w0 w) (fun q => L.length - q) (0) (Sub.cons rfl (Sub.cons rfl (Sub.nil _))) (Sub.cons rfl (Sub.cons rfl (Sub.cons rfl (Sub.cons rfl (Sub.cons rfl (Sub.cons rfl (Sub.cons rfl (Sub.nil _)))))))) ?_ ?_
        · exact ⟨Nat.zero_le _, hM, hB⟩
        rintro q w10 ⟨hq, hM, hB⟩
        try simp only at hM
        simp only [List.cons_append, List.nil_append]
        refine W.seqR ?_
        refine LS.vv rfl rfl (by decide) (Val.lss rfl rfl) ?_
        refine LS.nil ?_
        refine W.seq ?_
        first | refine W.condD rfl (fun hc8 => ?_) (fun hc8 => ?_) | refine W.cond rfl (fun hc8 => ?_) (fun hc8 => ?_)
        ·
          refine W.skip ?_
          refine thenP_normal ?_
          refine W.seq ?_
          refine W.block ?_
          refine W.seqR ?_
          refine LS.vv rfl rfl (by decide) (Val.index1 Try.underlying32 elem37 rfl rfl (by omega) (hM.o1.rd) (uv_lt (by omega))) ?_
          refine LS.m rfl (Step.load rfl rfl (by decide) flat37 rfl (hM.o1.rd) (uv_at (by omega)) ?_)
          refine LS.vv rfl rfl (by decide) (Val.assign rfl) ?_
          refine LS.nil ?_
          refine W.reg ?_
          refine LS.vv rfl rfl (by decide) (Val.move rfl) ?_
          refine LS.vv rfl rfl (by decide) (Val.move rfl) ?_
          refine LS.split 1 rfl (fun hg9 => ?_) (fun hg9 => ?_)
          ·
            first | (have hg9p := of_decide_eq_true hg9) | skip
            refine LS.s rfl rfl rfl hg9 (by decide) ?_
            refine LS.s rfl rfl rfl hg9 (by decide) ?_
            refine LS.s rfl rfl rfl hg9 (by decide) ?_
            refine LS.vv rfl rfl (by decide) (Val.pickT rfl hg9 rfl) ?_
            refine LS.vv rfl rfl (by decide) (Val.assign rfl) ?_
            refine LS.nil ?_
            refine inBlk_normal ?_
            refine thenP_normal ?_
            refine W.reg ?_
            first | refine LS.vv rfl rfl (by decide) (Val.addN (j := 1) rfl rfl (by omega)) ?_ | refine LS.vv rfl rfl (by decide) (Val.add64 rfl rfl (by omega)) ?_
            refine LS.vv rfl rfl (by decide) (Val.move rfl) ?_
            refine LS.nil ?_
            refine thenP_normal ?_
            refine ⟨q + 1, ?_, ?_, ⟨by omega, hM, hB⟩, by omega⟩
            · exact Sub.cons' rfl (congrArg Value.bool (by rw [hasTo_succ]; first | (simp_all; done) | (simp_all; omega))) (Sub.cons rfl (Sub.nil _))
            · repeat (first | exact Sub.nil _ | refine Sub.cons rfl ?_)
          ·
            first | (have hg9p := of_decide_eq_false hg9) | skip
            refine LS.vg rfl rfl rfl hg9 (by decide) (Val.move rfl) ?_
            refine LS.vg rfl rfl rfl hg9 (by decide) (Val.move rfl) ?_
            refine LS.vg rfl rfl rfl hg9 (by decide) (Val.eql rfl rfl) ?_
            refine LS.vv rfl rfl (by decide) (Val.pickF rfl hg9 rfl) ?_
            refine LS.vv rfl rfl (by decide) (Val.assign rfl) ?_
            refine LS.nil ?_
            refine inBlk_normal ?_
            refine thenP_normal ?_
            refine W.reg ?_
            first | refine LS.vv rfl rfl (by decide) (Val.addN (j := 1) rfl rfl (by omega)) ?_ | refine LS.vv rfl rfl (by decide) (Val.add64 rfl rfl (by omega)) ?_
            refine LS.vv rfl rfl (by decide) (Val.move rfl) ?_
            refine LS.nil ?_
            refine thenP_normal ?_
            refine ⟨q + 1, ?_, ?_, ⟨by omega, hM, hB⟩, by omega⟩
            · exact Sub.cons' rfl (congrArg Value.bool (by rw [hasTo_succ]; first | (simp_all; done) | (simp_all; omega))) (Sub.cons rfl (Sub.nil _))
            · repeat (first | exact Sub.nil _ | refine Sub.cons rfl ?_)
        ·
          refine W.exit ?_
          refine thenP_exit ?_
          refine thenP_exit ?_
          refine inBlk_exit ?_
          refine thenP_normal ?_
          refine W.seqR ?_
          refine LS.vv rfl rfl (by decide) (Val.move rfl) ?_
          refine LS.vv rfl rfl (by decide) (Val.not rfl) ?_
          refine LS.nil ?_
          first | refine W.condD rfl (fun hc10 => ?_) (fun hc10 => ?_) | refine W.cond rfl (fun hc10 => ?_) (fun hc10 => ?_)
          ·
            exfalso; obtain rfl : q = L.length := (by omega); have := hasTo_all hxin; simp_all
          ·
            refine W.skip ?_
            refine inBlk_normal ?_
            refine thenP_normal ?_
            refine W.reg ?_
            first | refine LS.vv rfl rfl (by decide) (Val.addN (j := 1) rfl rfl (by omega)) ?_ | refine LS.vv rfl rfl (by decide) (Val.add64 rfl rfl (by omega)) ?_
            refine LS.vv rfl rfl (by decide) (Val.move rfl) ?_
            refine LS.nil ?_
            refine thenP_normal ?_
            refine ⟨k + 1, ?_, ?_, ⟨by omega, hM, hB⟩, by omega⟩
            · exact (Sub.cons rfl (Sub.nil _))
            · repeat (first | exact Sub.nil _ | refine Sub.cons rfl ?_)
      ·
        refine W.exit ?_
        refine thenP_exit ?_
        refine thenP_exit ?_
        refine inBlk_exit ?_
        refine thenP_normal ?_
        refine W.seqR ?_
        refine LS.vv rfl rfl (by decide) (Val.assign rfl) ?_
        refine LS.nil ?_
        refine W.ret ?_
        refine ret1 (by first | exact .inl rfl | exact .inr rfl) rfl ?_
        first | exact ⟨rfl, hB⟩ | (exfalso; omega)

end Go.Proofs.Ytjmpkmomlpgbdaa
