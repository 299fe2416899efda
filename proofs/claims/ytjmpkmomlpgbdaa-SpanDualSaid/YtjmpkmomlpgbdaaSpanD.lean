/-
  The statement SpanDual.
-/
import Derived.Test.YtjmpkmomlpgbdaaSpanB
namespace Go.Proofs.Ytjmpkmomlpgbdaa
open Go Go.RowKit V
set_option linter.unusedVariables false
set_option linter.unusedSimpArgs false

def allE (D : List Nat) (x q : Nat) : Bool := (List.range q).all fun j => !od (gn D j) x
theorem allE_succ (D : List Nat) (x q : Nat) : allE D x (q + 1) = (allE D x q && !od (gn D q) x) := by
  unfold allE; rw [List.range_succ, List.all_append]; simp
theorem allE_iff (D : List Nat) (x : Nat) : allE D x D.length = true ↔ ∀ y ∈ D, od y x = false := by
  unfold allE
  rw [List.all_eq_true]
  constructor
  · intro h y hy
    obtain ⟨j, hj, rfl⟩ := List.getElem_of_mem hy
    have := h j (List.mem_range.2 hj)
    rw [gn_lt hj] at this; simpa using this
  · intro h j hj
    have hj := List.mem_range.1 hj
    rw [gn_lt hj, h _ (List.getElem_mem hj)]; rfl

theorem dualL_any (n : Int) (cs : List Nat) (p : Option Addr) (c : Nat) (x : Nat) (w0 : World) (hr : Rd w0 p (uv cs)) (hl : cs.length ≤ 9223372036854775807) (hcs : ∀ x ∈ cs, x < 4294967296) (hx : x < 4294967296) :
    CallsV Try.prog 7 #[.int .i64 n, .slice p cs.length c, .int .u32 (x : Int)] w0 (fun v w => v = .bool true ∧ Below w0.heap.size w0 w) := by
  refine enter1 Try.func7 rfl Try.ntmps7 (by simp) rfl ?_
  have hB := Below.refl w0.heap.size w0
  simp only [argLoc, Nat.zero_add, Nat.reduceAdd]
  have hM := Mem.nil w0 w0.heap.size
  refine W.seqR ?_
  refine LS.vv rfl rfl (by decide) (Val.assign rfl) ?_
  refine LS.nil ?_
  refine W.seqR ?_
  refine LS.vv rfl rfl (by decide) (Val.move rfl) ?_
  refine LS.vv rfl rfl (by decide) (Val.move rfl) ?_
  refine LS.m rfl (Step.call body13 rfl rfl (by decide) rfl (CallsV.mono (spanS_any n cs _ _ _ (hr.below hB) hl hcs) ?_))
  rintro _ w1 ⟨p2, c2, L, e, rfl, hOL, he, hLL, hb1⟩
  replace hM := hM.add hB.size hb1 hOL
  replace hB := hB.trans (hb1.mono hB.size)
  refine LS.vv rfl rfl (by decide) (Val.move rfl) ?_
  refine LS.vv rfl rfl (by decide) (Val.extract rfl rfl) ?_
  refine LS.vv rfl rfl (by decide) (Val.extract rfl rfl) ?_
  refine LS.vv rfl rfl (by decide) (Val.assign rfl) ?_
  refine LS.vv rfl rfl (by decide) (Val.assign rfl) ?_
  refine LS.nil ?_
  refine W.seqR ?_
  refine LS.vv rfl rfl (by decide) (Val.move rfl) ?_
  refine LS.vv rfl rfl (by decide) (Val.move rfl) ?_
  refine LS.m rfl (Step.call body16 rfl rfl (by decide) rfl (CallsV.mono (dual_any n cs _ _ _ (hr.below hB) hl hcs) ?_))
  rintro _ w2 ⟨p3, c3, D, f, rfl, hOD, hf, hDD, hb2⟩
  replace hM := hM.add hB.size hb2 hOD
  replace hB := hB.trans (hb2.mono hB.size)
  refine LS.vv rfl rfl (by decide) (Val.move rfl) ?_
  refine LS.vv rfl rfl (by decide) (Val.extract rfl rfl) ?_
  refine LS.vv rfl rfl (by decide) (Val.extract rfl rfl) ?_
  refine LS.vv rfl rfl (by decide) (Val.assign rfl) ?_
  refine LS.vv rfl rfl (by decide) (Val.assign rfl) ?_
  refine LS.nil ?_
  refine W.seqR ?_
  refine LS.vv rfl rfl (by decide) (Val.move rfl) ?_
  refine LS.vv rfl rfl (by decide) (Val.move rfl) ?_
  refine LS.m rfl (Step.call body19 rfl rfl (by decide) rfl (CallsV.mono (spanSize_any n cs _ _ _ (hr.below hB) hl hcs) ?_))
  rintro _ w3 ⟨q, g, rfl, hg, hqq, hb3⟩
  replace hM := hM.below hb3
  replace hB := hB.trans (hb3.mono hB.size)
  refine LS.vv rfl rfl (by decide) (Val.move rfl) ?_
  refine LS.vv rfl rfl (by decide) (Val.extract rfl rfl) ?_
  refine LS.vv rfl rfl (by decide) (Val.extract rfl rfl) ?_
  refine LS.vv rfl rfl (by decide) (Val.assign rfl) ?_
  refine LS.vv rfl rfl (by decide) (Val.assign rfl) ?_
  refine LS.nil ?_
  refine W.seq ?_
  refine W.seqR ?_
  refine LS.vv rfl rfl (by decide) (Val.move rfl) ?_
  refine LS.vv rfl rfl (by decide) (Val.move rfl) ?_
  refine LS.m rfl (Step.call body14 rfl rfl (by decide) rfl (CallsV.mono (rowed_any n cs _ _ _ (hr.below hB) hl hcs) ?_))
  rintro _ w4 ⟨b, rfl, hbb, hb4⟩
  replace hM := hM.below hb4
  replace hB := hB.trans (hb4.mono hB.size)
  refine LS.vv rfl rfl (by decide) (Val.not rfl) ?_
  refine LS.nil ?_
  first | refine W.condD rfl (fun hc1 => ?_) (fun hc1 => ?_) | refine W.cond rfl (fun hc1 => ?_) (fun hc1 => ?_)
  ·
    refine W.seqR ?_
    refine LS.vv rfl rfl (by decide) (Val.move rfl) ?_
    have hen : e ≠ 0 := fun h => by have := hbb.2 (he.1 h); simp_all
    have hfn : f ≠ 0 := fun h => by have := hbb.2 (hf.1 h); simp_all
    have hgn : g ≠ 0 := fun h => by have := hbb.2 (hg.1 h); simp_all
    refine LS.vv rfl rfl (by decide) (Val.neq rfl rfl) ?_
    refine LS.vv rfl rfl (by decide) (Val.move rfl) ?_
    refine LS.split 2 rfl (fun hg2 => ?_) (fun hg2 => ?_)
    ·
      first | (have hg2p := of_decide_eq_true hg2) | skip
      refine LS.vg rfl rfl rfl hg2 (by decide) (Val.move rfl) ?_
      refine LS.vg rfl rfl rfl hg2 (by decide) (Val.neq rfl rfl) ?_
      refine LS.vv rfl rfl (by decide) (Val.cast (v := .bool true) (Val.pickT rfl hg2 rfl) (by first | rfl | (exfalso; omega) | (refine congrArg Value.bool (decide_eq_true ?_); omega))) ?_
      refine LS.vv rfl rfl (by decide) (Val.move rfl) ?_
      refine LS.vg rfl rfl rfl rfl (by decide) (Val.move rfl) ?_
      refine LS.vg rfl rfl rfl rfl (by decide) (Val.neq rfl rfl) ?_
      refine LS.vv rfl rfl (by decide) (Val.cast (v := .bool true) (Val.pickT rfl rfl rfl) (by first | rfl | (exfalso; omega) | (refine congrArg Value.bool (decide_eq_true ?_); omega))) ?_
      refine LS.vv rfl rfl (by decide) (Val.assign rfl) ?_
      refine LS.nil ?_
      refine W.ret ?_
      refine thenP_ret ?_
      refine ret1 (by first | exact .inl rfl | exact .inr rfl) rfl ?_
      first | exact ⟨rfl, hB⟩ | (exfalso; omega)
    ·
      first | (have hg2p := of_decide_eq_false hg2) | skip
      refine LS.s rfl rfl rfl hg2 (by decide) ?_
      refine LS.s rfl rfl rfl hg2 (by decide) ?_
      refine LS.vv rfl rfl (by decide) (Val.cast (v := .bool true) (Val.pickF rfl hg2 rfl) (by first | rfl | (exfalso; omega) | (refine congrArg Value.bool (decide_eq_true ?_); omega))) ?_
      refine LS.vv rfl rfl (by decide) (Val.move rfl) ?_
      refine LS.vg rfl rfl rfl rfl (by decide) (Val.move rfl) ?_
      refine LS.vg rfl rfl rfl rfl (by decide) (Val.neq rfl rfl) ?_
      refine LS.vv rfl rfl (by decide) (Val.cast (v := .bool true) (Val.pickT rfl rfl rfl) (by first | rfl | (exfalso; omega) | (refine congrArg Value.bool (decide_eq_true ?_); omega))) ?_
      refine LS.vv rfl rfl (by decide) (Val.assign rfl) ?_
      refine LS.nil ?_
      refine W.ret ?_
      refine thenP_ret ?_
      refine ret1 (by first | exact .inl rfl | exact .inr rfl) rfl ?_
      first | exact ⟨rfl, hB⟩ | (exfalso; omega)
  ·
    have hok := hbb.1 (by simp_all)
    have he0 := he.2 hok
    have hf0 := hf.2 hok
    have hg0 := hg.2 hok
    obtain ⟨hL1, hL2⟩ := hLL he0
    have hD := hDD hf0
    obtain ⟨hq1, hq2⟩ := hqq hg0
    have hI := spn_inv hok.1.2.2
    have hn1 := hok.1.1
    have hn2 := hok.1.2.1
    have hlen := spk_len hok.1.2.2 (Nat.le_refl _) hok.2
    have hcm := hok.1.2.2
    clear hLL hDD hqq
    obtain ⟨m, rfl⟩ := Int.eq_ofNat_of_zero_le hn1
    rw [Int.toNat_natCast] at *
    have hp12 : 2 ^ m ≤ 2 ^ 12 := Nat.pow_le_pow_right (by omega) (by omega)
    have hcnt : L.length * D.length = 2 ^ m := by rw [hL1.length_eq, hD]; exact dual_count hI (by omega)
    have hll : L.length = 2 ^ q := by rw [hL1.length_eq]; exact hq1
    have hdlen : D.length ≤ 4096 := by { rw [hD]; unfold dl; have h9 := List.length_filter_le (evn cs cs.length) (List.range (2 ^ m)); rw [List.length_range] at h9; omega }
    have hq12 : 2 ^ q ≤ 2 ^ 12 := Nat.pow_le_pow_right (by omega) (by omega)
    have hcnt2 : (L.length : Int) * (D.length : Int) = ((2 ^ m : Nat) : Int) := by rw [← Int.natCast_mul, hcnt]
    have hdl : ∀ j, j < D.length → gn D j < 2 ^ m := fun j hj => by have h9 := List.getElem_mem hj; rw [← gn_lt hj, hD] at h9; rw [hD]; exact List.mem_range.1 (List.mem_filter.1 h9).1
    refine W.skip ?_
    refine thenP_normal ?_
    refine W.seq ?_
    refine W.seqR ?_
    refine LS.vv rfl rfl (by decide) (Val.move rfl) ?_
    refine LS.vv rfl rfl (by decide) (Val.neq rfl rfl) ?_
    refine LS.vv rfl rfl (by decide) (Val.move rfl) ?_
    refine LS.split 2 rfl (fun hg3 => ?_) (fun hg3 => ?_)
    ·
      first | (have hg3p := of_decide_eq_true hg3) | skip
      refine LS.s rfl rfl rfl hg3 (by decide) ?_
      refine LS.s rfl rfl rfl hg3 (by decide) ?_
      refine LS.vv rfl rfl (by decide) (Val.cast (v := .bool false) (Val.pickT rfl hg3 rfl) (by first | rfl | (exfalso; omega) | (refine congrArg Value.bool (decide_eq_false ?_); omega))) ?_
      refine LS.vv rfl rfl (by decide) (Val.move rfl) ?_
      refine LS.vg rfl rfl rfl rfl (by decide) (Val.move rfl) ?_
      refine LS.vg rfl rfl rfl rfl (by decide) (Val.neq rfl rfl) ?_
      refine LS.vv rfl rfl (by decide) (Val.cast (v := .bool false) (Val.pickF rfl rfl rfl) (by first | rfl | (exfalso; omega) | (refine congrArg Value.bool (decide_eq_false ?_); omega))) ?_
      refine LS.vv rfl rfl (by decide) (Val.move rfl) ?_
      refine LS.vg rfl rfl rfl rfl (by decide) (Val.move rfl) ?_
      refine LS.vg rfl rfl rfl rfl (by decide) (Val.len Try.underlying32 rfl) ?_
      refine LS.vg rfl rfl rfl rfl (by decide) (Val.move rfl) ?_
      refine LS.vg rfl rfl rfl rfl (by decide) (Val.len Try.underlying32 rfl) ?_
      first | refine LS.vg rfl rfl rfl rfl (by decide) (Val.cast (v := .int .i64 ((2 ^ m : Nat) : Int)) (Val.mulN rfl rfl (by omega)) (by rw [← hcnt])) ?_ | refine LS.vg rfl rfl rfl rfl (by decide) (Val.cast (v := .int .i64 ((2 ^ m : Nat) : Int)) (Val.mul64 rfl rfl (by omega)) (by rw [← hcnt])) ?_
      refine LS.vg rfl rfl rfl rfl (by decide) (Val.move rfl) ?_
      refine LS.vg rfl rfl rfl rfl (by decide) (Val.conv rfl Try.underlying3 Try.underlying26 (IntWalk.u64_in _ (by omega))) ?_
      refine LS.vg rfl rfl rfl rfl (by decide) (Val.cast (v := .int .i64 ((2 ^ m : Nat) : Int)) (Val.shl64 (i := 1) rfl rfl (by omega) (by rw [Nat.one_shiftLeft]; omega)) (by rw [Nat.one_shiftLeft])) ?_
      refine LS.vg rfl rfl rfl rfl (by decide) (Val.neq rfl rfl) ?_
      refine LS.vv rfl rfl (by decide) (Val.cast (v := .bool false) (Val.pickF rfl rfl rfl) (by first | rfl | (exfalso; omega) | (refine congrArg Value.bool (decide_eq_false ?_); omega))) ?_
      refine LS.vv rfl rfl (by decide) (Val.move rfl) ?_
      refine LS.vg rfl rfl rfl rfl (by decide) (Val.move rfl) ?_
      refine LS.vg rfl rfl rfl rfl (by decide) (Val.lss rfl rfl) ?_
      refine LS.vv rfl rfl (by decide) (Val.cast (v := .bool false) (Val.pickF rfl rfl rfl) (by first | rfl | (exfalso; omega) | (refine congrArg Value.bool (decide_eq_false ?_); omega))) ?_
      refine LS.vv rfl rfl (by decide) (Val.move rfl) ?_
      refine LS.vg rfl rfl rfl rfl (by decide) (Val.move rfl) ?_
      refine LS.vg rfl rfl rfl rfl (by decide) (Val.move rfl) ?_
      refine LS.vg rfl rfl rfl rfl (by decide) (Val.gtr rfl rfl) ?_
      refine LS.vv rfl rfl (by decide) (Val.cast (v := .bool false) (Val.pickF rfl rfl rfl) (by first | rfl | (exfalso; omega) | (refine congrArg Value.bool (decide_eq_false ?_); omega))) ?_
      refine LS.vv rfl rfl (by decide) (Val.move rfl) ?_
      refine LS.vg rfl rfl rfl rfl (by decide) (Val.move rfl) ?_
      refine LS.vg rfl rfl rfl rfl (by decide) (Val.len Try.underlying32 rfl) ?_
      refine LS.vg rfl rfl rfl rfl (by decide) (Val.move rfl) ?_
      refine LS.vg rfl rfl rfl rfl (by decide) (Val.conv rfl Try.underlying3 Try.underlying26 (IntWalk.u64_in _ (by omega))) ?_
      refine LS.vg rfl rfl rfl rfl (by decide) (Val.cast (v := .int .i64 ((2 ^ q : Nat) : Int)) (Val.shl64 (i := 1) rfl rfl (by omega) (by rw [Nat.one_shiftLeft]; omega)) (by rw [Nat.one_shiftLeft])) ?_
      refine LS.vg rfl rfl rfl rfl (by decide) (Val.neq rfl rfl) ?_
      refine LS.vv rfl rfl (by decide) (Val.cast (v := .bool false) (Val.pickF rfl rfl rfl) (by first | rfl | (exfalso; omega) | (refine congrArg Value.bool (decide_eq_false ?_); omega))) ?_
      refine LS.nil ?_
      refine W.condF rfl ?_
      refine W.skip ?_
      refine thenP_normal ?_
      refine W.seq ?_
      refine W.seqR ?_
      refine LS.vv rfl rfl (by decide) (Val.move rfl) ?_
      refine LS.vv rfl rfl (by decide) (Val.move rfl) ?_
      refine LS.m rfl (Step.lit rfl rfl (by decide) Try.underlying32 elem37 rfl rfl (by omega) (by simp [Value.oneCell']) (Nat.le_refl _) ?_)
      rintro w5 hO5 hg5 hbl5 hsz5
      replace hM := hM.add hB.size hbl5 hO5
      try simp only [uv_app1, uv_app, uv_set, uv_rep, uv_one, uv_cons, uv_take, uv_drop, List.nil_append] at hM
      replace hB := hB.trans (hbl5.mono hB.size)
      generalize w4.heap.size = gg5 at *
      refine LS.m rfl (Step.call body20 rfl rfl (by decide) rfl (CallsV.mono (below_any (m : Int) [x] _ _ _ hM.o0.rd (by simp) (by simp; omega)) ?_))
      rintro _ w6 ⟨bl, rfl, hbl, hb6⟩
      replace hM := hM.below hb6
      replace hB := hB.trans (hb6.mono hB.size)
      refine LS.vv rfl rfl (by decide) (Val.not rfl) ?_
      refine LS.nil ?_
      first | refine W.condD rfl (fun hc4 => ?_) (fun hc4 => ?_) | refine W.cond rfl (fun hc4 => ?_) (fun hc4 => ?_)
      ·
        refine W.seqR ?_
        refine LS.vv rfl rfl (by decide) (Val.assign rfl) ?_
        refine LS.nil ?_
        refine W.ret ?_
        refine thenP_ret ?_
        refine ret1 (by first | exact .inl rfl | exact .inr rfl) rfl ?_
        first | exact ⟨rfl, hB⟩ | (exfalso; omega)
      ·
        have hxm := (hbl.1 (by simp_all)).2.2 x (by simp)
        rw [Int.toNat_natCast] at hxm
        refine W.skip ?_
        refine thenP_normal ?_
        refine W.seqR ?_
        refine LS.vv rfl rfl (by decide) (Val.assign rfl) ?_
        refine LS.nil ?_
        refine W.seq ?_
        refine W.seqR ?_
        refine LS.vv rfl rfl (by decide) (Val.move rfl) ?_
        refine LS.vv rfl rfl (by decide) (Val.len Try.underlying32 rfl) ?_
        refine LS.vv rfl rfl (by decide) (Val.cast (v := .int .i64 ((0 : Nat) : Int)) (Val.move rfl) rfl) ?_
        refine LS.nil ?_
        refine W.block ?_
        replace hM := hM.er2.er0
        refine W.loop (α := Nat) (fun k => [(13, .bool (allE D x k)), (93, .int .i64 (k : Int))]) [(1, _), (2, _), (91, _), (92, _)] (fun k w => (k ≤ D.length) ∧ Mem w w0.heap.size [⟨37, p3, D.length, c3, uv D⟩] ∧ Below w0.heap.size w0 w) (fun k => D.length - k) (0) (Sub.cons rfl (Sub.cons rfl (Sub.nil _))) (Sub.cons rfl (Sub.cons rfl (Sub.cons rfl (Sub.cons rfl (Sub.nil _))))) ?_ ?_
        · exact ⟨Nat.zero_le _, hM, hB⟩
        rintro k w7 ⟨hk, hM, hB⟩
        try simp only at hM
        simp only [List.cons_append, List.nil_append]
        refine W.seqR ?_
        refine LS.vv rfl rfl (by decide) (Val.lss rfl rfl) ?_
        refine LS.nil ?_
        refine W.seq ?_
        first | refine W.condD rfl (fun hc5 => ?_) (fun hc5 => ?_) | refine W.cond rfl (fun hc5 => ?_) (fun hc5 => ?_)
        ·
          have hdk := hdl k (by omega)
          refine W.skip ?_
          refine thenP_normal ?_
          refine W.seq ?_
          refine W.block ?_
          refine W.seqR ?_
          refine LS.vv rfl rfl (by decide) (Val.index1 Try.underlying32 elem37 rfl rfl (by omega) (hM.o0.rd) (uv_lt (by omega))) ?_
          refine LS.m rfl (Step.load rfl rfl (by decide) flat37 rfl (hM.o0.rd) (uv_at (by omega)) ?_)
          refine LS.vv rfl rfl (by decide) (Val.assign rfl) ?_
          refine LS.nil ?_
          refine W.reg ?_
          refine LS.vv rfl rfl (by decide) (Val.move rfl) ?_
          refine LS.vv rfl rfl (by decide) (Val.move rfl) ?_
          refine LS.split 1 rfl (fun hg6 => ?_) (fun hg6 => ?_)
          ·
            first | (have hg6p := of_decide_eq_true hg6) | skip
            refine LS.vg rfl rfl rfl hg6 (by decide) (Val.move rfl) ?_
            refine LS.vg rfl rfl rfl hg6 (by decide) (Val.move rfl) ?_
            refine LS.mg rfl rfl hg6 (Step.call body21 rfl rfl (by decide) rfl (CallsV.mono (odd_any (gn D k) x _ (by omega) hx) ?_))
            rintro _ w8 ⟨rfl, hb8⟩
            replace hM := hM.below hb8
            replace hB := hB.trans (hb8.mono hB.size)
            refine LS.vg rfl rfl rfl hg6 (by decide) (Val.not rfl) ?_
            refine LS.vv rfl rfl (by decide) (Val.pickT rfl hg6 rfl) ?_
            refine LS.vv rfl rfl (by decide) (Val.assign rfl) ?_
            refine LS.nil ?_
            refine inBlk_normal ?_
            refine thenP_normal ?_
            refine W.reg ?_
            first | refine LS.vv rfl rfl (by decide) (Val.addN (j := 1) rfl rfl (by omega)) ?_ | refine LS.vv rfl rfl (by decide) (Val.add64 rfl rfl (by omega)) ?_
            refine LS.vv rfl rfl (by decide) (Val.move rfl) ?_
            refine LS.nil ?_
            refine thenP_normal ?_
            refine ⟨k + 1, ?_, ?_, ⟨by omega, hM, hB⟩, by omega⟩
            · exact Sub.cons' rfl (congrArg Value.bool (by rw [allE_succ]; simp_all)) (Sub.cons rfl (Sub.nil _))
            · repeat (first | exact Sub.nil _ | refine Sub.cons rfl ?_)
          ·
            first | (have hg6p := of_decide_eq_false hg6) | skip
            refine LS.s rfl rfl rfl hg6 (by decide) ?_
            refine LS.s rfl rfl rfl hg6 (by decide) ?_
            refine LS.s rfl rfl rfl hg6 (by decide) ?_
            refine LS.s rfl rfl rfl hg6 (by decide) ?_
            refine LS.vv rfl rfl (by decide) (Val.pickF rfl hg6 rfl) ?_
            refine LS.vv rfl rfl (by decide) (Val.assign rfl) ?_
            refine LS.nil ?_
            refine inBlk_normal ?_
            refine thenP_normal ?_
            refine W.reg ?_
            first | refine LS.vv rfl rfl (by decide) (Val.addN (j := 1) rfl rfl (by omega)) ?_ | refine LS.vv rfl rfl (by decide) (Val.add64 rfl rfl (by omega)) ?_
            refine LS.vv rfl rfl (by decide) (Val.move rfl) ?_
            refine LS.nil ?_
            refine thenP_normal ?_
            refine ⟨k + 1, ?_, ?_, ⟨by omega, hM, hB⟩, by omega⟩
            · exact Sub.cons' rfl (congrArg Value.bool (by rw [allE_succ]; simp_all)) (Sub.cons rfl (Sub.nil _))
            · repeat (first | exact Sub.nil _ | refine Sub.cons rfl ?_)
        ·
          obtain rfl : k = D.length := by omega
          refine W.exit ?_
          refine thenP_exit ?_
          refine thenP_exit ?_
          refine inBlk_exit ?_
          refine thenP_normal ?_
          refine W.seqR ?_
          refine LS.vv rfl rfl (by decide) (Val.move rfl) ?_
          refine LS.vv rfl rfl (by decide) (Val.move rfl) ?_
          refine LS.vv rfl rfl (by decide) (Val.move rfl) ?_
          refine LS.m rfl (Step.call body22 rfl rfl (by decide) rfl (CallsV.mono (in_any cs _ _ x m _ (hr.below hB) hl hcs hok.2 (by omega) hcm) ?_))
          rintro _ w9 ⟨bi, rfl, hbi, hb9⟩
          replace hM := hM.below hb9
          replace hB := hB.trans (hb9.mono hB.size)
          refine LS.vv rfl rfl (by decide) (Val.cast (v := .bool true) (Val.eqlB Try.underlying4 rfl rfl) (by refine congrArg Value.bool (decide_eq_true ?_); rw [Bool.eq_iff_iff, hbi, allE_iff, hD]; exact double_dual hI (by omega) hxm)) ?_
          refine LS.vv rfl rfl (by decide) (Val.assign rfl) ?_
          refine LS.nil ?_
          refine W.ret ?_
          refine ret1 (by first | exact .inl rfl | exact .inr rfl) rfl ?_
          first | exact ⟨rfl, hB⟩ | (exfalso; omega)
    ·
      first | (have hg3p := of_decide_eq_false hg3) | skip
      refine LS.vg rfl rfl rfl hg3 (by decide) (Val.move rfl) ?_
      refine LS.vg rfl rfl rfl hg3 (by decide) (Val.neq rfl rfl) ?_
      refine LS.vv rfl rfl (by decide) (Val.cast (v := .bool false) (Val.pickF rfl hg3 rfl) (by first | rfl | (exfalso; omega) | (refine congrArg Value.bool (decide_eq_false ?_); omega))) ?_
      refine LS.vv rfl rfl (by decide) (Val.move rfl) ?_
      refine LS.vg rfl rfl rfl rfl (by decide) (Val.move rfl) ?_
      refine LS.vg rfl rfl rfl rfl (by decide) (Val.neq rfl rfl) ?_
      refine LS.vv rfl rfl (by decide) (Val.cast (v := .bool false) (Val.pickF rfl rfl rfl) (by first | rfl | (exfalso; omega) | (refine congrArg Value.bool (decide_eq_false ?_); omega))) ?_
      refine LS.vv rfl rfl (by decide) (Val.move rfl) ?_
      refine LS.vg rfl rfl rfl rfl (by decide) (Val.move rfl) ?_
      refine LS.vg rfl rfl rfl rfl (by decide) (Val.len Try.underlying32 rfl) ?_
      refine LS.vg rfl rfl rfl rfl (by decide) (Val.move rfl) ?_
      refine LS.vg rfl rfl rfl rfl (by decide) (Val.len Try.underlying32 rfl) ?_
      first | refine LS.vg rfl rfl rfl rfl (by decide) (Val.cast (v := .int .i64 ((2 ^ m : Nat) : Int)) (Val.mulN rfl rfl (by omega)) (by rw [← hcnt])) ?_ | refine LS.vg rfl rfl rfl rfl (by decide) (Val.cast (v := .int .i64 ((2 ^ m : Nat) : Int)) (Val.mul64 rfl rfl (by omega)) (by rw [← hcnt])) ?_
      refine LS.vg rfl rfl rfl rfl (by decide) (Val.move rfl) ?_
      refine LS.vg rfl rfl rfl rfl (by decide) (Val.conv rfl Try.underlying3 Try.underlying26 (IntWalk.u64_in _ (by omega))) ?_
      refine LS.vg rfl rfl rfl rfl (by decide) (Val.cast (v := .int .i64 ((2 ^ m : Nat) : Int)) (Val.shl64 (i := 1) rfl rfl (by omega) (by rw [Nat.one_shiftLeft]; omega)) (by rw [Nat.one_shiftLeft])) ?_
      refine LS.vg rfl rfl rfl rfl (by decide) (Val.neq rfl rfl) ?_
      refine LS.vv rfl rfl (by decide) (Val.cast (v := .bool false) (Val.pickF rfl rfl rfl) (by first | rfl | (exfalso; omega) | (refine congrArg Value.bool (decide_eq_false ?_); omega))) ?_
      refine LS.vv rfl rfl (by decide) (Val.move rfl) ?_
      refine LS.vg rfl rfl rfl rfl (by decide) (Val.move rfl) ?_
      refine LS.vg rfl rfl rfl rfl (by decide) (Val.lss rfl rfl) ?_
      refine LS.vv rfl rfl (by decide) (Val.cast (v := .bool false) (Val.pickF rfl rfl rfl) (by first | rfl | (exfalso; omega) | (refine congrArg Value.bool (decide_eq_false ?_); omega))) ?_
      refine LS.vv rfl rfl (by decide) (Val.move rfl) ?_
      refine LS.vg rfl rfl rfl rfl (by decide) (Val.move rfl) ?_
      refine LS.vg rfl rfl rfl rfl (by decide) (Val.move rfl) ?_
      refine LS.vg rfl rfl rfl rfl (by decide) (Val.gtr rfl rfl) ?_
      refine LS.vv rfl rfl (by decide) (Val.cast (v := .bool false) (Val.pickF rfl rfl rfl) (by first | rfl | (exfalso; omega) | (refine congrArg Value.bool (decide_eq_false ?_); omega))) ?_
      refine LS.vv rfl rfl (by decide) (Val.move rfl) ?_
      refine LS.vg rfl rfl rfl rfl (by decide) (Val.move rfl) ?_
      refine LS.vg rfl rfl rfl rfl (by decide) (Val.len Try.underlying32 rfl) ?_
      refine LS.vg rfl rfl rfl rfl (by decide) (Val.move rfl) ?_
      refine LS.vg rfl rfl rfl rfl (by decide) (Val.conv rfl Try.underlying3 Try.underlying26 (IntWalk.u64_in _ (by omega))) ?_
      refine LS.vg rfl rfl rfl rfl (by decide) (Val.cast (v := .int .i64 ((2 ^ q : Nat) : Int)) (Val.shl64 (i := 1) rfl rfl (by omega) (by rw [Nat.one_shiftLeft]; omega)) (by rw [Nat.one_shiftLeft])) ?_
      refine LS.vg rfl rfl rfl rfl (by decide) (Val.neq rfl rfl) ?_
      refine LS.vv rfl rfl (by decide) (Val.cast (v := .bool false) (Val.pickF rfl rfl rfl) (by first | rfl | (exfalso; omega) | (refine congrArg Value.bool (decide_eq_false ?_); omega))) ?_
      refine LS.nil ?_
      refine W.condF rfl ?_
      refine W.skip ?_
      refine thenP_normal ?_
      refine W.seq ?_
      refine W.seqR ?_
      refine LS.vv rfl rfl (by decide) (Val.move rfl) ?_
      refine LS.vv rfl rfl (by decide) (Val.move rfl) ?_
      refine LS.m rfl (Step.lit rfl rfl (by decide) Try.underlying32 elem37 rfl rfl (by omega) (by simp [Value.oneCell']) (Nat.le_refl _) ?_)
      rintro w10 hO10 hg10 hbl10 hsz10
      replace hM := hM.add hB.size hbl10 hO10
      try simp only [uv_app1, uv_app, uv_set, uv_rep, uv_one, uv_cons, uv_take, uv_drop, List.nil_append] at hM
      replace hB := hB.trans (hbl10.mono hB.size)
      generalize w4.heap.size = gg10 at *
      refine LS.m rfl (Step.call body20 rfl rfl (by decide) rfl (CallsV.mono (below_any (m : Int) [x] _ _ _ hM.o0.rd (by simp) (by simp; omega)) ?_))
      rintro _ w11 ⟨bl, rfl, hbl, hb11⟩
      replace hM := hM.below hb11
      replace hB := hB.trans (hb11.mono hB.size)
      refine LS.vv rfl rfl (by decide) (Val.not rfl) ?_
      refine LS.nil ?_
      first | refine W.condD rfl (fun hc7 => ?_) (fun hc7 => ?_) | refine W.cond rfl (fun hc7 => ?_) (fun hc7 => ?_)
      ·
        refine W.seqR ?_
        refine LS.vv rfl rfl (by decide) (Val.assign rfl) ?_
        refine LS.nil ?_
        refine W.ret ?_
        refine thenP_ret ?_
        refine ret1 (by first | exact .inl rfl | exact .inr rfl) rfl ?_
        first | exact ⟨rfl, hB⟩ | (exfalso; omega)
      ·
        have hxm := (hbl.1 (by simp_all)).2.2 x (by simp)
        rw [Int.toNat_natCast] at hxm
        refine W.skip ?_
        refine thenP_normal ?_
        refine W.seqR ?_
        refine LS.vv rfl rfl (by decide) (Val.assign rfl) ?_
        refine LS.nil ?_
        refine W.seq ?_
        refine W.seqR ?_
        refine LS.vv rfl rfl (by decide) (Val.move rfl) ?_
        refine LS.vv rfl rfl (by decide) (Val.len Try.underlying32 rfl) ?_
        refine LS.vv rfl rfl (by decide) (Val.cast (v := .int .i64 ((0 : Nat) : Int)) (Val.move rfl) rfl) ?_
        refine LS.nil ?_
        refine W.block ?_
        replace hM := hM.er2.er0
        refine W.loop (α := Nat) (fun k => [(13, .bool (allE D x k)), (93, .int .i64 (k : Int))]) [(1, _), (2, _), (91, _), (92, _)] (fun k w => (k ≤ D.length) ∧ Mem w w0.heap.size [⟨37, p3, D.length, c3, uv D⟩] ∧ Below w0.heap.size w0 w) (fun k => D.length - k) (0) (Sub.cons rfl (Sub.cons rfl (Sub.nil _))) (Sub.cons rfl (Sub.cons rfl (Sub.cons rfl (Sub.cons rfl (Sub.nil _))))) ?_ ?_
        · exact ⟨Nat.zero_le _, hM, hB⟩
        rintro k w12 ⟨hk, hM, hB⟩
        try simp only at hM
        simp only [List.cons_append, List.nil_append]
        refine W.seqR ?_
        refine LS.vv rfl rfl (by decide) (Val.lss rfl rfl) ?_
        refine LS.nil ?_
        refine W.seq ?_
        first | refine W.condD rfl (fun hc8 => ?_) (fun hc8 => ?_) | refine W.cond rfl (fun hc8 => ?_) (fun hc8 => ?_)
        ·
          have hdk := hdl k (by omega)
          refine W.skip ?_
          refine thenP_normal ?_
          refine W.seq ?_
          refine W.block ?_
          refine W.seqR ?_
          refine LS.vv rfl rfl (by decide) (Val.index1 Try.underlying32 elem37 rfl rfl (by omega) (hM.o0.rd) (uv_lt (by omega))) ?_
          refine LS.m rfl (Step.load rfl rfl (by decide) flat37 rfl (hM.o0.rd) (uv_at (by omega)) ?_)
          refine LS.vv rfl rfl (by decide) (Val.assign rfl) ?_
          refine LS.nil ?_
          refine W.reg ?_
          refine LS.vv rfl rfl (by decide) (Val.move rfl) ?_
          refine LS.vv rfl rfl (by decide) (Val.move rfl) ?_
          refine LS.split 1 rfl (fun hg9 => ?_) (fun hg9 => ?_)
          ·
            first | (have hg9p := of_decide_eq_true hg9) | skip
            refine LS.vg rfl rfl rfl hg9 (by decide) (Val.move rfl) ?_
            refine LS.vg rfl rfl rfl hg9 (by decide) (Val.move rfl) ?_
            refine LS.mg rfl rfl hg9 (Step.call body21 rfl rfl (by decide) rfl (CallsV.mono (odd_any (gn D k) x _ (by omega) hx) ?_))
            rintro _ w13 ⟨rfl, hb13⟩
            replace hM := hM.below hb13
            replace hB := hB.trans (hb13.mono hB.size)
            refine LS.vg rfl rfl rfl hg9 (by decide) (Val.not rfl) ?_
            refine LS.vv rfl rfl (by decide) (Val.pickT rfl hg9 rfl) ?_
            refine LS.vv rfl rfl (by decide) (Val.assign rfl) ?_
            refine LS.nil ?_
            refine inBlk_normal ?_
            refine thenP_normal ?_
            refine W.reg ?_
            first | refine LS.vv rfl rfl (by decide) (Val.addN (j := 1) rfl rfl (by omega)) ?_ | refine LS.vv rfl rfl (by decide) (Val.add64 rfl rfl (by omega)) ?_
            refine LS.vv rfl rfl (by decide) (Val.move rfl) ?_
            refine LS.nil ?_
            refine thenP_normal ?_
            refine ⟨k + 1, ?_, ?_, ⟨by omega, hM, hB⟩, by omega⟩
            · exact Sub.cons' rfl (congrArg Value.bool (by rw [allE_succ]; simp_all)) (Sub.cons rfl (Sub.nil _))
            · repeat (first | exact Sub.nil _ | refine Sub.cons rfl ?_)
          ·
            first | (have hg9p := of_decide_eq_false hg9) | skip
            refine LS.s rfl rfl rfl hg9 (by decide) ?_
            refine LS.s rfl rfl rfl hg9 (by decide) ?_
            refine LS.s rfl rfl rfl hg9 (by decide) ?_
            refine LS.s rfl rfl rfl hg9 (by decide) ?_
            refine LS.vv rfl rfl (by decide) (Val.pickF rfl hg9 rfl) ?_
            refine LS.vv rfl rfl (by decide) (Val.assign rfl) ?_
            refine LS.nil ?_
            refine inBlk_normal ?_
            refine thenP_normal ?_
            refine W.reg ?_
            first | refine LS.vv rfl rfl (by decide) (Val.addN (j := 1) rfl rfl (by omega)) ?_ | refine LS.vv rfl rfl (by decide) (Val.add64 rfl rfl (by omega)) ?_
            refine LS.vv rfl rfl (by decide) (Val.move rfl) ?_
            refine LS.nil ?_
            refine thenP_normal ?_
            refine ⟨k + 1, ?_, ?_, ⟨by omega, hM, hB⟩, by omega⟩
            · exact Sub.cons' rfl (congrArg Value.bool (by rw [allE_succ]; simp_all)) (Sub.cons rfl (Sub.nil _))
            · repeat (first | exact Sub.nil _ | refine Sub.cons rfl ?_)
        ·
          obtain rfl : k = D.length := by omega
          refine W.exit ?_
          refine thenP_exit ?_
          refine thenP_exit ?_
          refine inBlk_exit ?_
          refine thenP_normal ?_
          refine W.seqR ?_
          refine LS.vv rfl rfl (by decide) (Val.move rfl) ?_
          refine LS.vv rfl rfl (by decide) (Val.move rfl) ?_
          refine LS.vv rfl rfl (by decide) (Val.move rfl) ?_
          refine LS.m rfl (Step.call body22 rfl rfl (by decide) rfl (CallsV.mono (in_any cs _ _ x m _ (hr.below hB) hl hcs hok.2 (by omega) hcm) ?_))
          rintro _ w14 ⟨bi, rfl, hbi, hb14⟩
          replace hM := hM.below hb14
          replace hB := hB.trans (hb14.mono hB.size)
          refine LS.vv rfl rfl (by decide) (Val.cast (v := .bool true) (Val.eqlB Try.underlying4 rfl rfl) (by refine congrArg Value.bool (decide_eq_true ?_); rw [Bool.eq_iff_iff, hbi, allE_iff, hD]; exact double_dual hI (by omega) hxm)) ?_
          refine LS.vv rfl rfl (by decide) (Val.assign rfl) ?_
          refine LS.nil ?_
          refine W.ret ?_
          refine ret1 (by first | exact .inl rfl | exact .inr rfl) rfl ?_
          first | exact ⟨rfl, hB⟩ | (exfalso; omega)

end Go.Proofs.Ytjmpkmomlpgbdaa
