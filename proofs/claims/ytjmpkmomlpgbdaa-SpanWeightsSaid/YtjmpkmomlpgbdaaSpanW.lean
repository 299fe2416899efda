/-
  The statement SpanWeights.
-/
import Derived.Test.YtjmpkmomlpgbdaaSpanB
namespace Go.Proofs.Ytjmpkmomlpgbdaa
open Go Go.RowKit V
set_option linter.unusedVariables false
set_option linter.unusedSimpArgs false

theorem pw_abs (n k x : Nat) : ∀ w : Nat, -(w : Int) ≤ sI (List.range w) (fun y => if popc y = k then ch y x else 0) ∧ sI (List.range w) (fun y => if popc y = k then ch y x else 0) ≤ (w : Int)
  | 0 => by simp [sI]
  | w + 1 => by
    have ih := pw_abs n k x w
    rw [sI_range_succ]
    have : -1 ≤ (if popc w = k then ch w x else 0) ∧ (if popc w = k then ch w x else 0) ≤ 1 := by
      unfold ch; split <;> (try split) <;> omega
    omega
theorem sI_le {f : Nat → Int} {B : Int} (hB : 0 ≤ B) : ∀ (l : List Nat), (∀ x ∈ l, -B ≤ f x ∧ f x ≤ B) → -((l.length : Int) * B) ≤ sI l f ∧ sI l f ≤ (l.length : Int) * B
  | [], _ => by simp [sI]
  | x :: l, h => by
    have h1 := h x (by simp)
    have h2 := sI_le hB l fun y hy => h y (by simp [hy])
    rw [sI, List.length_cons, Int.natCast_succ, Int.add_mul, Int.one_mul]
    omega
theorem mul_bound {a : Nat} {z : Int} (ha : a ≤ 256) (hz : -4096 ≤ z ∧ z ≤ 4096) : -1048576 ≤ (a : Int) * z ∧ (a : Int) * z ≤ 1048576 := by
  have h1 : (a : Int) * z ≤ (a : Int) * 4096 := Int.mul_le_mul_of_nonneg_left hz.2 (by omega)
  have h2 : (a : Int) * (-4096) ≤ (a : Int) * z := Int.mul_le_mul_of_nonneg_left hz.1 (by omega)
  omega

theorem kraw_any (m k j : Nat) (w0 : World) (hm : m ≤ 12) (hk : k ≤ 12) (hj : j ≤ 12) :
    CallsV Try.prog 18 #[.int .i64 (m : Int), .int .i64 (k : Int), .int .i64 (j : Int)] w0 (fun v w => v = .int .i64 (Kf m k (2 ^ j - 1)) ∧ Below w0.heap.size w0 w) := by
  refine enter1 Try.func18 rfl Try.ntmps18 (by simp) rfl ?_
  have hB := Below.refl w0.heap.size w0
  simp only [argLoc, Nat.zero_add, Nat.reduceAdd]
  have hM := Mem.nil w0 w0.heap.size
  have hj1 : 1 ≤ 2 ^ j := Nat.two_pow_pos j
  have hp12 : 2 ^ j ≤ 2 ^ 12 := Nat.pow_le_pow_right (by omega) hj
  have hm12 : 1 <<< m ≤ 4096 := by { rw [Nat.one_shiftLeft]; exact Nat.pow_le_pow_right (n := 2) (i := m) (j := 12) (by omega) (by omega) }
  refine W.seqR ?_
  refine LS.vv rfl rfl (by decide) (Val.cast (v := .int .i64 ((0 : Nat) : Int)) (Val.assign rfl) rfl) ?_
  refine LS.nil ?_
  refine W.seqR ?_
  refine LS.vv rfl rfl (by decide) (Val.cast (v := .int .i64 ((0 : Nat) : Int)) (Val.assign rfl) rfl) ?_
  refine LS.nil ?_
  refine W.seq ?_
  refine W.seqR ?_
  refine LS.vv rfl rfl (by decide) (Val.cast (v := .int .u32 ((0 : Nat) : Int)) (Val.assign rfl) rfl) ?_
  refine LS.nil ?_
  refine W.block ?_
  refine W.loop (α := Nat) (fun u => [(7, .int .i64 (sI (List.range u) (fun y => if popc y = k then ch y (2 ^ j - 1) else 0))), (8, .int .u32 (u : Int))]) [(0, _), (1, _), (2, _)] (fun u w => (u ≤ 1 <<< m) ∧ Mem w w0.heap.size [] ∧ Below w0.heap.size w0 w) (fun u => (1 <<< m) - u) (0) (Sub.cons rfl (Sub.cons rfl (Sub.nil _))) (Sub.cons rfl (Sub.cons rfl (Sub.cons rfl (Sub.nil _)))) ?_ ?_
  · exact ⟨Nat.zero_le _, hM, hB⟩
  rintro u w1 ⟨hu, hM, hB⟩
  try simp only at hM
  simp only [List.cons_append, List.nil_append]
  have hab := pw_abs m k (2 ^ j - 1) u
  have hss := sI_range_succ u (fun y => if popc y = k then ch y (2 ^ j - 1) else 0)
  have hchd : ch u (2 ^ j - 1) = if popc (u &&& (2 ^ j - 1)) % 2 = 1 then -1 else 1 := by { unfold ch od; simp only [decide_eq_true_iff] }
  refine W.seq ?_
  refine W.seqR ?_
  refine LS.vv rfl rfl (by decide) (Val.move rfl) ?_
  refine LS.vv rfl rfl (by decide) (Val.move rfl) ?_
  refine LS.vv rfl rfl (by decide) (Val.conv rfl Try.underlying3 Try.underlying26 (IntWalk.u64_in _ (by omega))) ?_
  refine LS.vv rfl rfl (by decide) (Val.shlU32 (i := 1) rfl rfl (by omega) (by omega)) ?_
  refine LS.vv rfl rfl (by decide) (Val.lss rfl rfl) ?_
  refine LS.nil ?_
  first | refine W.condD rfl (fun hc1 => ?_) (fun hc1 => ?_) | refine W.cond rfl (fun hc1 => ?_) (fun hc1 => ?_)
  ·
    refine W.skip ?_
    refine thenP_normal ?_
    refine W.seq ?_
    refine W.block ?_
    refine W.seq ?_
    refine W.seqR ?_
    refine LS.vv rfl rfl (by decide) (Val.move rfl) ?_
    refine LS.m rfl (Step.call body17 rfl rfl (by decide) rfl (CallsV.mono (size_any u _ (by omega)) ?_))
    rintro _ w2 ⟨rfl, hb2⟩
    replace hM := hM.below hb2
    replace hB := hB.trans (hb2.mono hB.size)
    refine LS.vv rfl rfl (by decide) (Val.move rfl) ?_
    refine LS.vv rfl rfl (by decide) (Val.neq rfl rfl) ?_
    refine LS.nil ?_
    first | refine W.condD rfl (fun hc2 => ?_) (fun hc2 => ?_) | refine W.cond rfl (fun hc2 => ?_) (fun hc2 => ?_)
    ·
      refine W.exit ?_
      refine thenP_exit ?_
      refine inBlk_exit ?_
      refine thenP_normal ?_
      refine W.reg ?_
      refine LS.vv rfl rfl (by decide) (Val.move rfl) ?_
      first | refine LS.vv rfl rfl (by decide) (Val.addNU32 (j := 1) rfl rfl (by omega)) ?_ | refine LS.vv rfl rfl (by decide) (Val.addU32 rfl rfl (by omega)) ?_
      refine LS.vv rfl rfl (by decide) (Val.assign rfl) ?_
      refine LS.nil ?_
      refine thenP_normal ?_
      refine ⟨u + 1, ?_, ?_, ⟨by omega, hM, hB⟩, by omega⟩
      · exact Sub.cons' rfl (by rw [hss]; refine congrArg (Value.int .i64) ?_; first | (rw [if_neg (by omega)]; omega) | (rw [if_pos (by omega), hchd, if_neg (by omega)]) | (rw [if_pos (by omega), hchd, if_pos (by omega)]; omega)) (Sub.cons rfl (Sub.nil _))
      · repeat (first | exact Sub.nil _ | refine Sub.cons rfl ?_)
    ·
      refine W.skip ?_
      refine thenP_normal ?_
      refine W.seqR ?_
      refine LS.vv rfl rfl (by decide) (Val.move rfl) ?_
      refine LS.vv rfl rfl (by decide) (Val.move rfl) ?_
      refine LS.vv rfl rfl (by decide) (Val.conv rfl Try.underlying3 Try.underlying26 (IntWalk.u64_in _ (by omega))) ?_
      refine LS.vv rfl rfl (by decide) (Val.cast (v := .int .u32 ((2 ^ j : Nat) : Int)) (Val.shlU32 (i := 1) rfl rfl (by omega) (by rw [Nat.one_shiftLeft]; omega)) (by rw [Nat.one_shiftLeft])) ?_
      first | refine LS.vv rfl rfl (by decide) (Val.subNU32 (j := 1) rfl rfl (by omega) (by omega)) ?_ | refine LS.vv rfl rfl (by decide) (Val.subU32 rfl rfl (by omega)) ?_
      refine LS.vv rfl rfl (by decide) (Val.andU32 rfl rfl (by omega) (by omega)) ?_
      have han : u &&& (2 ^ j - 1) < 2 ^ 32 := Nat.and_lt_two_pow _ (by omega)
      have hpc : popc (u &&& (2 ^ j - 1)) ≤ 32 := popTo_le _ 32
      refine LS.m rfl (Step.call body17 rfl rfl (by decide) rfl (CallsV.mono (size_any _ _ (by omega)) ?_))
      rintro _ w3 ⟨rfl, hb3⟩
      replace hM := hM.below hb3
      replace hB := hB.trans (hb3.mono hB.size)
      first | refine LS.vv rfl rfl (by decide) (Val.remN (j := 2) rfl rfl (by omega)) ?_ | refine LS.vv rfl rfl (by decide) (Val.rem rfl rfl (by omega) (by omega)) ?_ | refine LS.vv rfl rfl (by decide) (Val.remT rfl rfl (by omega)) ?_
      refine LS.vv rfl rfl (by decide) (Val.eql rfl rfl) ?_
      refine LS.nil ?_
      first | refine W.condD rfl (fun hc3 => ?_) (fun hc3 => ?_) | refine W.cond rfl (fun hc3 => ?_) (fun hc3 => ?_)
      ·
        refine W.reg ?_
        refine LS.vv rfl rfl (by decide) (Val.move rfl) ?_
        first | refine LS.vv rfl rfl (by decide) (Val.addN (j := 1) rfl rfl (by omega)) ?_ | refine LS.vv rfl rfl (by decide) (Val.add64 rfl rfl (by omega)) ?_
        refine LS.vv rfl rfl (by decide) (Val.assign rfl) ?_
        refine LS.nil ?_
        refine inBlk_normal ?_
        refine thenP_normal ?_
        refine W.reg ?_
        refine LS.vv rfl rfl (by decide) (Val.move rfl) ?_
        first | refine LS.vv rfl rfl (by decide) (Val.addNU32 (j := 1) rfl rfl (by omega)) ?_ | refine LS.vv rfl rfl (by decide) (Val.addU32 rfl rfl (by omega)) ?_
        refine LS.vv rfl rfl (by decide) (Val.assign rfl) ?_
        refine LS.nil ?_
        refine thenP_normal ?_
        refine ⟨u + 1, ?_, ?_, ⟨by omega, hM, hB⟩, by omega⟩
        · exact Sub.cons' rfl (by rw [hss]; refine congrArg (Value.int .i64) ?_; first | (rw [if_neg (by omega)]; omega) | (rw [if_pos (by omega), hchd, if_neg (by omega)]) | (rw [if_pos (by omega), hchd, if_pos (by omega)]; omega)) (Sub.cons rfl (Sub.nil _))
        · repeat (first | exact Sub.nil _ | refine Sub.cons rfl ?_)
      ·
        refine W.reg ?_
        refine LS.vv rfl rfl (by decide) (Val.move rfl) ?_
        first | refine LS.vv rfl rfl (by decide) (Val.subN (j := 1) rfl rfl (by omega) (by omega)) ?_ | refine LS.vv rfl rfl (by decide) (Val.sub64 rfl rfl (by omega)) ?_
        refine LS.vv rfl rfl (by decide) (Val.assign rfl) ?_
        refine LS.nil ?_
        refine inBlk_normal ?_
        refine thenP_normal ?_
        refine W.reg ?_
        refine LS.vv rfl rfl (by decide) (Val.move rfl) ?_
        first | refine LS.vv rfl rfl (by decide) (Val.addNU32 (j := 1) rfl rfl (by omega)) ?_ | refine LS.vv rfl rfl (by decide) (Val.addU32 rfl rfl (by omega)) ?_
        refine LS.vv rfl rfl (by decide) (Val.assign rfl) ?_
        refine LS.nil ?_
        refine thenP_normal ?_
        refine ⟨u + 1, ?_, ?_, ⟨by omega, hM, hB⟩, by omega⟩
        · exact Sub.cons' rfl (by rw [hss]; refine congrArg (Value.int .i64) ?_; first | (rw [if_neg (by omega)]; omega) | (rw [if_pos (by omega), hchd, if_neg (by omega)]) | (rw [if_pos (by omega), hchd, if_pos (by omega)]; omega)) (Sub.cons rfl (Sub.nil _))
        · repeat (first | exact Sub.nil _ | refine Sub.cons rfl ?_)
  ·
    refine W.exit ?_
    refine thenP_exit ?_
    refine thenP_exit ?_
    refine inBlk_exit ?_
    refine thenP_normal ?_
    refine W.seqR ?_
    refine LS.vv rfl rfl (by decide) (Val.move rfl) ?_
    refine LS.vv rfl rfl (by decide) (Val.assign rfl) ?_
    refine LS.nil ?_
    refine W.ret ?_
    refine ret1 (by first | exact .inl rfl | exact .inr rfl) rfl ?_
    obtain rfl : u = 1 <<< m := by omega
    refine ⟨?_, hB⟩
    unfold Kf
    rw [Nat.one_shiftLeft]

theorem weightsL_any (n : Int) (cs : List Nat) (p : Option Addr) (c : Nat) (w0 : World) (hr : Rd w0 p (uv cs)) (hl : cs.length ≤ 9223372036854775807) (hcs : ∀ x ∈ cs, x < 4294967296) :
    CallsV Try.prog 6 #[.int .i64 n, .slice p cs.length c] w0 (fun v w => v = .bool true ∧ Below w0.heap.size w0 w) := by
  refine enter1 Try.func6 rfl Try.ntmps6 (by simp) rfl ?_
  have hB := Below.refl w0.heap.size w0
  simp only [argLoc, Nat.zero_add]
  have hM := Mem.nil w0 w0.heap.size
  refine W.seqR ?_
  refine LS.vv rfl rfl (by decide) (Val.assign rfl) ?_
  refine LS.nil ?_
  refine W.seqR ?_
  refine LS.vv rfl rfl (by decide) (Val.move rfl) ?_
  refine LS.vv rfl rfl (by decide) (Val.move rfl) ?_
  refine LS.m rfl (Step.call body15 rfl rfl (by decide) rfl (CallsV.mono (weights_any n cs _ _ _ (hr.below hB) hl hcs) ?_))
  rintro _ w1 ⟨p2, c2, A, e, rfl, hOA, he, hAA, hb1⟩
  replace hM := hM.add hB.size hb1 hOA
  replace hB := hB.trans (hb1.mono hB.size)
  refine LS.vv rfl rfl (by decide) (Val.move rfl) ?_
  refine LS.vv rfl rfl (by decide) (Val.extract rfl rfl) ?_
  refine LS.vv rfl rfl (by decide) (Val.extract rfl rfl) ?_
  refine LS.vv rfl rfl (by decide) (Val.assign rfl) ?_
  refine LS.vv rfl rfl (by decide) (Val.assign rfl) ?_
  refine LS.nil ?_
  refine W.seqR ?_
  refine LS.vv rfl rfl (by decide) (Val.move rfl) ?_
  refine LS.vv rfl rfl (by decide) (Val.move rfl) ?_
  refine LS.m rfl (Step.call body16 rfl rfl (by decide) rfl (CallsV.mono (dual_any n cs _ _ _ (hr.below hB) hl hcs) ?_))
  rintro _ w2 ⟨p3, c3, D, f, rfl, hOD, hf, hDD, hb2⟩
  replace hM := hM.add hB.size hb2 hOD
  replace hB := hB.trans (hb2.mono hB.size)
  refine LS.vv rfl rfl (by decide) (Val.move rfl) ?_
  refine LS.vv rfl rfl (by decide) (Val.extract rfl rfl) ?_
  refine LS.vv rfl rfl (by decide) (Val.extract rfl rfl) ?_
  refine LS.vv rfl rfl (by decide) (Val.assign rfl) ?_
  refine LS.vv rfl rfl (by decide) (Val.assign rfl) ?_
  refine LS.nil ?_
  refine W.seq ?_
  refine W.seqR ?_
  refine LS.vv rfl rfl (by decide) (Val.move rfl) ?_
  refine LS.vv rfl rfl (by decide) (Val.move rfl) ?_
  refine LS.m rfl (Step.call body14 rfl rfl (by decide) rfl (CallsV.mono (rowed_any n cs _ _ _ (hr.below hB) hl hcs) ?_))
  rintro _ w3 ⟨b, rfl, hbb, hb3⟩
  replace hM := hM.below hb3
  replace hB := hB.trans (hb3.mono hB.size)
  refine LS.vv rfl rfl (by decide) (Val.not rfl) ?_
  refine LS.nil ?_
  first | refine W.condD rfl (fun hc1 => ?_) (fun hc1 => ?_) | refine W.cond rfl (fun hc1 => ?_) (fun hc1 => ?_)
  ·
    refine W.seqR ?_
    refine LS.vv rfl rfl (by decide) (Val.move rfl) ?_
    refine LS.vv rfl rfl (by decide) (Val.neq rfl rfl) ?_
    refine LS.vv rfl rfl (by decide) (Val.move rfl) ?_
    refine LS.split 2 rfl (fun hg2 => ?_) (fun hg2 => ?_)
    ·
      first | (have hg2p := of_decide_eq_true hg2) | skip
      refine LS.vg rfl rfl rfl hg2 (by decide) (Val.move rfl) ?_
      refine LS.vg rfl rfl rfl hg2 (by decide) (Val.neq rfl rfl) ?_
      have hen : e ≠ 0 := fun h => by have := hbb.2 (he.1 h); simp_all
      have hfn : f ≠ 0 := fun h => by have := hbb.2 (hf.1 h); simp_all
      refine LS.vv rfl rfl (by decide) (Val.cast (v := .bool true) (Val.pickT rfl hg2 rfl) (by first | rfl | (exfalso; omega) | (refine congrArg Value.bool (decide_eq_true ?_); omega))) ?_
      refine LS.vv rfl rfl (by decide) (Val.assign rfl) ?_
      refine LS.nil ?_
      refine W.ret ?_
      refine thenP_ret ?_
      refine ret1 (by first | exact .inl rfl | exact .inr rfl) rfl ?_
      first
        | exact ⟨rfl, hB⟩
        | (refine ⟨congrArg Value.bool (decide_eq_true ?_), hB⟩
           rw [hall]
           have := hlen.2
           have e9 : (spn cs).length = (spk cs cs.length).length := rfl
           omega)
        | (exfalso; omega)
    ·
      first | (have hg2p := of_decide_eq_false hg2) | skip
      refine LS.s rfl rfl rfl hg2 (by decide) ?_
      refine LS.s rfl rfl rfl hg2 (by decide) ?_
      have hen : e ≠ 0 := fun h => by have := hbb.2 (he.1 h); simp_all
      have hfn : f ≠ 0 := fun h => by have := hbb.2 (hf.1 h); simp_all
      refine LS.vv rfl rfl (by decide) (Val.cast (v := .bool true) (Val.pickF rfl hg2 rfl) (by first | rfl | (exfalso; omega) | (refine congrArg Value.bool (decide_eq_true ?_); omega))) ?_
      refine LS.vv rfl rfl (by decide) (Val.assign rfl) ?_
      refine LS.nil ?_
      refine W.ret ?_
      refine thenP_ret ?_
      refine ret1 (by first | exact .inl rfl | exact .inr rfl) rfl ?_
      first
        | exact ⟨rfl, hB⟩
        | (refine ⟨congrArg Value.bool (decide_eq_true ?_), hB⟩
           rw [hall]
           have := hlen.2
           have e9 : (spn cs).length = (spk cs cs.length).length := rfl
           omega)
        | (exfalso; omega)
  ·
    have hok := hbb.1 (by simp_all)
    have he0 := he.2 hok
    have hf0 := hf.2 hok
    obtain ⟨hA1, hA2⟩ := hAA he0
    have hD := hDD hf0
    have hI := spn_inv hok.1.2.2
    have hn1 := hok.1.1
    have hn2 := hok.1.2.1
    have hlen := spk_len hok.1.2.2 (Nat.le_refl _) hok.2
    clear hAA hDD
    obtain ⟨m, rfl⟩ := Int.eq_ofNat_of_zero_le hn1
    rw [Int.toNat_natCast] at *
    have hp12 : 2 ^ m ≤ 2 ^ 12 := Nat.pow_le_pow_right (by omega) (by omega)
    have hdlen : D.length ≤ 4096 := by { rw [hD]; unfold dl; have h9 := List.length_filter_le (evn cs cs.length) (List.range (2 ^ m)); rw [List.length_range] at h9; omega }
    have hdl : ∀ j, j < D.length → gn D j < 2 ^ m := fun j hj => by have h9 := List.getElem_mem hj; rw [← gn_lt hj, hD] at h9; rw [hD]; exact List.mem_range.1 (List.mem_filter.1 h9).1
    have hA3 : ∀ j, j < m + 1 → gn A j ≤ 256 := fun j hj => by rw [hA2 j hj]; have := cntW_le (spn cs) (spn cs).length j; rw [List.take_length] at this; exact Nat.le_trans this hlen.1
    have hsum : sI (List.range (m + 1)) (fun j => (gn A j : Int)) = ((spn cs).length : Int) := by { rw [sI_congr (g := fun j => (cntW (spn cs) j : Int)) (fun j hj => by rw [hA2 j (List.mem_range.1 hj)])]; exact cntW_all fun x hx => by have := popc_le (hI.lt x hx); omega }
    have hmac : ∀ k, sI (List.range (m + 1)) (fun j => (gn A j : Int) * Kf m k (2 ^ j - 1)) = ((spn cs).length : Int) * (cntW (dl cs m) k : Int) := fun k => by { rw [sI_congr (g := fun j => (cntW (spn cs) j : Int) * Kf m k (2 ^ j - 1)) (fun j hj => by rw [hA2 j (List.mem_range.1 hj)])]; exact macw hI (by omega) k }
    refine W.skip ?_
    refine thenP_normal ?_
    refine W.seq ?_
    refine W.seqR ?_
    refine LS.vv rfl rfl (by decide) (Val.move rfl) ?_
    refine LS.vv rfl rfl (by decide) (Val.neq rfl rfl) ?_
    refine LS.vv rfl rfl (by decide) (Val.move rfl) ?_
    refine LS.split 2 rfl (fun hg3 => ?_) (fun hg3 => ?_)
    ·
      first | (have hg3p := of_decide_eq_true hg3) | skip
      refine LS.s rfl rfl rfl hg3 (by decide) ?_
      refine LS.s rfl rfl rfl hg3 (by decide) ?_
      refine LS.vv rfl rfl (by decide) (Val.cast (v := .bool false) (Val.pickT rfl hg3 rfl) (by first | rfl | (exfalso; omega) | (refine congrArg Value.bool (decide_eq_false ?_); omega))) ?_
      refine LS.vv rfl rfl (by decide) (Val.move rfl) ?_
      refine LS.vg rfl rfl rfl rfl (by decide) (Val.move rfl) ?_
      refine LS.vg rfl rfl rfl rfl (by decide) (Val.len Try.underlying39 rfl) ?_
      refine LS.vg rfl rfl rfl rfl (by decide) (Val.move rfl) ?_
      first | refine LS.vg rfl rfl rfl rfl (by decide) (Val.addN (j := 1) rfl rfl (by first | omega | (simp only [wts_len, List.length_set]; omega))) ?_ | refine LS.vg rfl rfl rfl rfl (by decide) (Val.add64 rfl rfl (by first | omega | (simp only [wts_len, List.length_set]; omega))) ?_
      refine LS.vg rfl rfl rfl rfl (by decide) (Val.neq rfl rfl) ?_
      refine LS.vv rfl rfl (by decide) (Val.cast (v := .bool false) (Val.pickF rfl rfl rfl) (by first | rfl | (exfalso; omega) | (refine congrArg Value.bool (decide_eq_false ?_); omega))) ?_
      refine LS.nil ?_
      refine W.condF rfl ?_
      refine W.skip ?_
      refine thenP_normal ?_
      refine W.seqR ?_
      refine LS.vv rfl rfl (by decide) (Val.move rfl) ?_
      first | refine LS.vv rfl rfl (by decide) (Val.addN (j := 1) rfl rfl (by first | omega | (simp only [wts_len, List.length_set]; omega))) ?_ | refine LS.vv rfl rfl (by decide) (Val.add64 rfl rfl (by first | omega | (simp only [wts_len, List.length_set]; omega))) ?_
      refine LS.m rfl (Step.make rfl rfl (by decide) Try.underlying39 elem2 rfl rfl rfl (by first | omega | (simp only [wts_len, List.length_set]; omega)) (by first | omega | (simp only [wts_len, List.length_set]; omega)) (Nat.le_refl _) ?_)
      rintro w4 hO4 hg4 hbl4
      replace hM := hM.add hB.size hbl4 hO4
      try simp only [nv_app1, nv_app, nv_set, nv_rep, nv_one, nv_cons, nv_take, nv_drop, List.nil_append] at hM
      replace hB := hB.trans (hbl4.mono hB.size)
      generalize w3.heap.size = gg4 at *
      refine LS.vv rfl rfl (by decide) (Val.assign rfl) ?_
      refine LS.nil ?_
      refine W.seq ?_
      refine W.seqR ?_
      refine LS.vv rfl rfl (by decide) (Val.move rfl) ?_
      refine LS.vv rfl rfl (by decide) (Val.len Try.underlying32 rfl) ?_
      refine LS.vv rfl rfl (by decide) (Val.cast (v := .int .i64 ((0 : Nat) : Int)) (Val.move rfl) rfl) ?_
      refine LS.nil ?_
      refine W.block ?_
      rw [← wts_zero D (m + 1)] at hM
      refine W.loop (α := Nat) (fun k => [(58, .int .i64 (k : Int))]) [(0, _), (5, _), (9, _), (56, _), (57, _)] (fun k w => (k ≤ D.length) ∧ Mem w w0.heap.size [⟨2, some ⟨gg4, 0, none⟩, m + 1, m + 1, nv (wts D (m + 1) k)⟩, ⟨37, p3, D.length, c3, uv D⟩, ⟨2, p2, A.length, c2, nv A⟩] ∧ Below w0.heap.size w0 w) (fun k => D.length - k) (0) (Sub.cons rfl (Sub.nil _)) (Sub.cons rfl (Sub.cons rfl (Sub.cons rfl (Sub.cons rfl (Sub.cons rfl (Sub.nil _)))))) ?_ ?_
      · exact ⟨Nat.zero_le _, hM, hB⟩
      rintro k w5 ⟨hk, hM, hB⟩
      try simp only at hM
      simp only [List.cons_append, List.nil_append]
      refine W.seqR ?_
      refine LS.vv rfl rfl (by decide) (Val.lss rfl rfl) ?_
      refine LS.nil ?_
      refine W.seq ?_
      first | refine W.condD rfl (fun hc4 => ?_) (fun hc4 => ?_) | refine W.cond rfl (fun hc4 => ?_) (fun hc4 => ?_)
      ·
        have hdk := hdl k (by omega)
        have hpl := popc_le hdk
        have hwl := wts_len D (m + 1) k
        have hwg := wts_gn D (n := m + 1) (k := k) (j := popc (gn D k)) (by omega)
        have hcl := cntW_le D k (popc (gn D k))
        refine W.skip ?_
        refine thenP_normal ?_
        refine W.seq ?_
        refine W.block ?_
        refine W.seqR ?_
        refine LS.vv rfl rfl (by decide) (Val.index1 Try.underlying32 elem37 rfl rfl (by first | omega | (simp only [wts_len, List.length_set]; omega)) (hM.o1.rd) (uv_lt (by first | omega | (simp only [wts_len, List.length_set]; omega)))) ?_
        refine LS.m rfl (Step.load rfl rfl (by decide) flat37 rfl (hM.o1.rd) (uv_at (by first | omega | (simp only [wts_len, List.length_set]; omega))) ?_)
        refine LS.vv rfl rfl (by decide) (Val.assign rfl) ?_
        refine LS.nil ?_
        refine W.reg ?_
        refine LS.vv rfl rfl (by decide) (Val.move rfl) ?_
        refine LS.vv rfl rfl (by decide) (Val.move rfl) ?_
        refine LS.m rfl (Step.call body17 rfl rfl (by decide) rfl (CallsV.mono (size_any (gn D k) _ (by omega)) ?_))
        rintro _ w6 ⟨rfl, hb6⟩
        replace hM := hM.below hb6
        replace hB := hB.trans (hb6.mono hB.size)
        refine LS.vv rfl rfl (by decide) (Val.move rfl) ?_
        refine LS.vv rfl rfl (by decide) (Val.move rfl) ?_
        refine LS.m rfl (Step.call body17 rfl rfl (by decide) rfl (CallsV.mono (size_any (gn D k) _ (by omega)) ?_))
        rintro _ w7 ⟨rfl, hb7⟩
        replace hM := hM.below hb7
        replace hB := hB.trans (hb7.mono hB.size)
        refine LS.vv rfl rfl (by decide) (Val.index1 Try.underlying39 elem2 rfl rfl (by first | omega | (simp only [wts_len, List.length_set]; omega)) (hM.o0.rd) (nv_lt (by first | omega | (simp only [wts_len, List.length_set]; omega)))) ?_
        refine LS.m rfl (Step.load rfl rfl (by decide) flat2 rfl (hM.o0.rd) (nv_at (by first | omega | (simp only [wts_len, List.length_set]; omega))) ?_)
        first | refine LS.vv rfl rfl (by decide) (Val.addN (j := 1) rfl rfl (by first | omega | (simp only [wts_len, List.length_set]; omega))) ?_ | refine LS.vv rfl rfl (by decide) (Val.add64 rfl rfl (by first | omega | (simp only [wts_len, List.length_set]; omega))) ?_
        refine LS.vv rfl rfl (by decide) (Val.index1 Try.underlying39 elem2 rfl rfl (by first | omega | (simp only [wts_len, List.length_set]; omega)) (hM.o0.rd) (nv_lt (by first | omega | (simp only [wts_len, List.length_set]; omega)))) ?_
        refine LS.m rfl (Step.store (B := w0.heap.size) rfl rfl flat2 elem2 rfl rfl rfl (hM.o0) (by first | omega | (simp only [wts_len, List.length_set]; omega)) hB.size ?_)
        rintro w8 hO8 hg8 hbl8 hsz8
        replace hM := hM.s0 hg8 hO8 inl_block
        try simp only [nv_app1, nv_app, nv_set, nv_rep, nv_one, nv_cons, nv_take, nv_drop, List.nil_append] at hM
        replace hB := hB.trans hbl8
        refine LS.nil ?_
        refine inBlk_normal ?_
        refine thenP_normal ?_
        refine W.reg ?_
        first | refine LS.vv rfl rfl (by decide) (Val.addN (j := 1) rfl rfl (by first | omega | (simp only [wts_len, List.length_set]; omega))) ?_ | refine LS.vv rfl rfl (by decide) (Val.add64 rfl rfl (by first | omega | (simp only [wts_len, List.length_set]; omega))) ?_
        refine LS.vv rfl rfl (by decide) (Val.move rfl) ?_
        refine LS.nil ?_
        refine thenP_normal ?_
        rw [wts_succ (by omega)] at hM
        refine ⟨k + 1, ?_, ?_, ⟨by omega, hM, hB⟩, by omega⟩
        · exact (Sub.cons rfl (Sub.nil _))
        · repeat (first | exact Sub.nil _ | refine Sub.cons rfl ?_)
      ·
        refine W.exit ?_
        refine thenP_exit ?_
        refine thenP_exit ?_
        refine inBlk_exit ?_
        refine thenP_normal ?_
        refine W.seqR ?_
        refine LS.vv rfl rfl (by decide) (Val.cast (v := .int .i64 ((0 : Nat) : Int)) (Val.assign rfl) rfl) ?_
        refine LS.nil ?_
        refine W.seq ?_
        refine W.seqR ?_
        refine LS.vv rfl rfl (by decide) (Val.move rfl) ?_
        refine LS.vv rfl rfl (by decide) (Val.len Try.underlying39 rfl) ?_
        refine LS.vv rfl rfl (by decide) (Val.cast (v := .int .i64 ((0 : Nat) : Int)) (Val.move rfl) rfl) ?_
        refine LS.nil ?_
        refine W.block ?_
        obtain rfl : k = D.length := by omega
        replace hM := hM.er1
        refine W.loop (α := Nat) (fun k => [(12, .int .i64 (sI (List.range k) (fun j => (gn A j : Int)))), (75, .int .i64 (k : Int))]) [(0, _), (5, _), (9, _), (73, _), (74, _)] (fun k w => (k ≤ A.length ∧ 0 ≤ sI (List.range k) (fun j => (gn A j : Int)) ∧ sI (List.range k) (fun j => (gn A j : Int)) ≤ 256 * (k : Int)) ∧ Mem w w0.heap.size [⟨2, some ⟨gg4, 0, none⟩, m + 1, m + 1, nv (wts D (m + 1) D.length)⟩, ⟨2, p2, A.length, c2, nv A⟩] ∧ Below w0.heap.size w0 w) (fun k => A.length - k) (0) (Sub.cons rfl (Sub.cons rfl (Sub.nil _))) (Sub.cons rfl (Sub.cons rfl (Sub.cons rfl (Sub.cons rfl (Sub.cons rfl (Sub.nil _)))))) ?_ ?_
        · exact ⟨⟨Nat.zero_le _, by simp [sI], by simp [sI]⟩, hM, hB⟩
        rintro k w9 ⟨⟨hk, hs1, hs2⟩, hM, hB⟩
        try simp only at hM
        simp only [List.cons_append, List.nil_append]
        have hss := sI_range_succ k (fun j => (gn A j : Int))
        refine W.seqR ?_
        refine LS.vv rfl rfl (by decide) (Val.lss rfl rfl) ?_
        refine LS.nil ?_
        refine W.seq ?_
        first | refine W.condD rfl (fun hc5 => ?_) (fun hc5 => ?_) | refine W.cond rfl (fun hc5 => ?_) (fun hc5 => ?_)
        ·
          have hAk := hA3 k (by omega)
          refine W.skip ?_
          refine thenP_normal ?_
          refine W.seq ?_
          refine W.block ?_
          refine W.seqR ?_
          refine LS.vv rfl rfl (by decide) (Val.index1 Try.underlying39 elem2 rfl rfl (by first | omega | (simp only [wts_len, List.length_set]; omega)) (hM.o1.rd) (nv_lt (by first | omega | (simp only [wts_len, List.length_set]; omega)))) ?_
          refine LS.m rfl (Step.load rfl rfl (by decide) flat2 rfl (hM.o1.rd) (nv_at (by first | omega | (simp only [wts_len, List.length_set]; omega))) ?_)
          refine LS.vv rfl rfl (by decide) (Val.assign rfl) ?_
          refine LS.nil ?_
          refine W.reg ?_
          refine LS.vv rfl rfl (by decide) (Val.move rfl) ?_
          refine LS.vv rfl rfl (by decide) (Val.move rfl) ?_
          first | refine LS.vv rfl rfl (by decide) (Val.addN rfl rfl (by first | omega | (simp only [wts_len, List.length_set]; omega))) ?_ | refine LS.vv rfl rfl (by decide) (Val.add64 rfl rfl (by first | omega | (simp only [wts_len, List.length_set]; omega))) ?_
          refine LS.vv rfl rfl (by decide) (Val.assign rfl) ?_
          refine LS.nil ?_
          refine inBlk_normal ?_
          refine thenP_normal ?_
          refine W.reg ?_
          first | refine LS.vv rfl rfl (by decide) (Val.addN (j := 1) rfl rfl (by first | omega | (simp only [wts_len, List.length_set]; omega))) ?_ | refine LS.vv rfl rfl (by decide) (Val.add64 rfl rfl (by first | omega | (simp only [wts_len, List.length_set]; omega))) ?_
          refine LS.vv rfl rfl (by decide) (Val.move rfl) ?_
          refine LS.nil ?_
          refine thenP_normal ?_
          refine ⟨k + 1, ?_, ?_, ⟨⟨by omega, by rw [hss]; omega, by rw [hss]; omega⟩, hM, hB⟩, by omega⟩
          · exact Sub.cons' rfl (by rw [hss]) (Sub.cons rfl (Sub.nil _))
          · repeat (first | exact Sub.nil _ | refine Sub.cons rfl ?_)
        ·
          refine W.exit ?_
          refine thenP_exit ?_
          refine thenP_exit ?_
          refine inBlk_exit ?_
          refine thenP_normal ?_
          refine W.seq ?_
          refine W.seqR ?_
          refine LS.vv rfl rfl (by decide) (Val.cast (v := .int .i64 ((0 : Nat) : Int)) (Val.assign rfl) rfl) ?_
          refine LS.nil ?_
          refine W.block ?_
          obtain rfl : k = m + 1 := by omega
          have hall : sI (List.range (m + 1)) (fun j => (gn A j : Int)) = ((spn cs).length : Int) := hsum
          refine W.loop (α := Nat) (fun k => [(15, .int .i64 (k : Int))]) [(0, _), (5, _), (9, _), (12, _)] (fun k w => (k ≤ m + 1) ∧ Mem w w0.heap.size [⟨2, some ⟨gg4, 0, none⟩, m + 1, m + 1, nv (wts D (m + 1) D.length)⟩, ⟨2, p2, A.length, c2, nv A⟩] ∧ Below w0.heap.size w0 w) (fun k => m + 1 - k) (0) (Sub.cons rfl (Sub.nil _)) (Sub.cons rfl (Sub.cons rfl (Sub.cons rfl (Sub.cons rfl (Sub.nil _))))) ?_ ?_
          · exact ⟨Nat.zero_le _, hM, hB⟩
          rintro k w10 ⟨hk, hM, hB⟩
          try simp only at hM
          simp only [List.cons_append, List.nil_append]
          refine W.seq ?_
          refine W.seqR ?_
          refine LS.vv rfl rfl (by decide) (Val.move rfl) ?_
          refine LS.vv rfl rfl (by decide) (Val.move rfl) ?_
          refine LS.vv rfl rfl (by decide) (Val.leq rfl rfl) ?_
          refine LS.nil ?_
          first | refine W.condD rfl (fun hc6 => ?_) (fun hc6 => ?_) | refine W.cond rfl (fun hc6 => ?_) (fun hc6 => ?_)
          ·
            refine W.skip ?_
            refine thenP_normal ?_
            refine W.seq ?_
            refine W.block ?_
            refine W.seqR ?_
            refine LS.vv rfl rfl (by decide) (Val.cast (v := .int .i64 ((0 : Nat) : Int)) (Val.assign rfl) rfl) ?_
            refine LS.nil ?_
            refine W.seq ?_
            refine W.seqR ?_
            refine LS.vv rfl rfl (by decide) (Val.cast (v := .int .i64 ((0 : Nat) : Int)) (Val.assign rfl) rfl) ?_
            refine LS.nil ?_
            refine W.block ?_
            refine W.loop (α := Nat) (fun j => [(16, .int .i64 (sI (List.range j) (fun j => (gn A j : Int) * Kf m k (2 ^ j - 1)))), (17, .int .i64 (j : Int))]) [(0, _), (5, _), (9, _), (12, _), (15, _)] (fun j w => (j ≤ m + 1 ∧ -(1048576 * (j : Int)) ≤ sI (List.range j) (fun j => (gn A j : Int) * Kf m k (2 ^ j - 1)) ∧ sI (List.range j) (fun j => (gn A j : Int) * Kf m k (2 ^ j - 1)) ≤ 1048576 * (j : Int)) ∧ Mem w w0.heap.size [⟨2, some ⟨gg4, 0, none⟩, m + 1, m + 1, nv (wts D (m + 1) D.length)⟩, ⟨2, p2, A.length, c2, nv A⟩] ∧ Below w0.heap.size w0 w) (fun j => m + 1 - j) (0) (Sub.cons rfl (Sub.cons rfl (Sub.nil _))) (Sub.cons rfl (Sub.cons rfl (Sub.cons rfl (Sub.cons rfl (Sub.cons rfl (Sub.nil _)))))) ?_ ?_
            · exact ⟨⟨Nat.zero_le _, by simp [sI], by simp [sI]⟩, hM, hB⟩
            rintro j w11 ⟨⟨hj, hs3, hs4⟩, hM, hB⟩
            try simp only at hM
            simp only [List.cons_append, List.nil_append]
            have hss := sI_range_succ j (fun j => (gn A j : Int) * Kf m k (2 ^ j - 1))
            refine W.seq ?_
            refine W.seqR ?_
            refine LS.vv rfl rfl (by decide) (Val.move rfl) ?_
            refine LS.vv rfl rfl (by decide) (Val.move rfl) ?_
            refine LS.vv rfl rfl (by decide) (Val.leq rfl rfl) ?_
            refine LS.nil ?_
            first | refine W.condD rfl (fun hc7 => ?_) (fun hc7 => ?_) | refine W.cond rfl (fun hc7 => ?_) (fun hc7 => ?_)
            ·
              have hKb := pw_abs m k (2 ^ j - 1) (2 ^ m)
              have hKf : Kf m k (2 ^ j - 1) = sI (List.range (2 ^ m)) (fun y => if popc y = k then ch y (2 ^ j - 1) else 0) := rfl
              rw [← hKf] at hKb
              have hAj := hA3 j (by omega)
              have hmb := mul_bound (a := gn A j) (z := Kf m k (2 ^ j - 1)) hAj ⟨by omega, by omega⟩
              refine W.skip ?_
              refine thenP_normal ?_
              refine W.seq ?_
              refine W.block ?_
              refine W.regT (S := fun w => Below w0.heap.size w0 w ∧ Mem w w0.heap.size _) (.val 0 (.val 1 (.val 2 (.val 3 (.val 4 (.val 5 (.val 6 (.val 7 (.mem 8 (.val 9 (.val 10 (.val 11 (.done))))))))))))) mixed (by kernel_rfl) ⟨hB.drew, hM.drew⟩ ?_
              replace hB := hB.drew
              replace hM := hM.drew
              refine DT.vv rfl rfl rfl (by decide) (Val.move rfl) ?_
              refine DT.vv rfl rfl rfl (by decide) (Val.move rfl) ?_
              refine DT.vv rfl rfl rfl (by decide) (Val.move rfl) ?_
              refine DT.vv rfl rfl rfl (by decide) (Val.index1 Try.underlying39 elem2 rfl rfl (by first | omega | (simp only [wts_len, List.length_set]; omega)) (hM.o1.rd) (nv_lt (by first | omega | (simp only [wts_len, List.length_set]; omega)))) ?_
              refine DT.vv rfl rfl rfl (by decide) (Val.load flat2 rfl (fun _ h => h.2.o1.rd) (nv_at (by first | omega | (simp only [wts_len, List.length_set]; omega)))) ?_
              refine DT.vv rfl rfl rfl (by decide) (Val.move rfl) ?_
              refine DT.vv rfl rfl rfl (by decide) (Val.move rfl) ?_
              refine DT.vv rfl rfl rfl (by decide) (Val.move rfl) ?_
              refine DT.m rfl rfl (Step.call body18 rfl rfl (by decide) rfl (CallsV.mono (kraw_any m k j _ (by omega) (by omega) (by omega)) ?_))
              rintro _ w12 ⟨rfl, hb12⟩
              replace hM := hM.below hb12
              replace hB := hB.trans (hb12.mono hB.size)
              refine ⟨⟨hB, hM⟩, ?_⟩
              refine DT.vv rfl rfl rfl (by decide) (Val.mul64 rfl rfl (by omega)) ?_
              refine DT.vv rfl rfl rfl (by decide) (Val.add64 rfl rfl (by omega)) ?_
              refine DT.vv rfl rfl rfl (by decide) (Val.assign rfl) ?_
              refine DT.nil ?_
              refine inBlk_normal ?_
              refine thenP_normal ?_
              refine W.reg ?_
              refine LS.vv rfl rfl (by decide) (Val.move rfl) ?_
              first | refine LS.vv rfl rfl (by decide) (Val.addN (j := 1) rfl rfl (by first | omega | (simp only [wts_len, List.length_set]; omega))) ?_ | refine LS.vv rfl rfl (by decide) (Val.add64 rfl rfl (by first | omega | (simp only [wts_len, List.length_set]; omega))) ?_
              refine LS.vv rfl rfl (by decide) (Val.assign rfl) ?_
              refine LS.nil ?_
              refine thenP_normal ?_
              refine ⟨j + 1, ?_, ?_, ⟨⟨by omega, by rw [hss]; omega, by rw [hss]; omega⟩, hM, hB⟩, by omega⟩
              · exact Sub.cons' rfl (by rw [hss]) (Sub.cons rfl (Sub.nil _))
              · repeat (first | exact Sub.nil _ | refine Sub.cons rfl ?_)
            ·
              obtain rfl : j = m + 1 := by omega
              have hbk : (gn (wts D (m + 1) D.length) k : Int) = (cntW (dl cs m) k : Int) := by rw [wts_gn D (by omega), List.take_length, hD]
              have hmw := hmac k
              have hc1 := cntW_le D D.length k
              rw [List.take_length, hD] at hc1
              rw [hD] at hdlen
              have hpb := Nat.mul_le_mul hlen.1 (show cntW (dl cs m) k ≤ 4096 by omega)
              have hpc : ((spn cs).length : Int) * (cntW (dl cs m) k : Int) = (((spn cs).length * cntW (dl cs m) k : Nat) : Int) := by rw [Int.natCast_mul]
              change (spn cs).length * cntW (dl cs m) k ≤ 256 * 4096 at hpb
              refine W.exit ?_
              refine thenP_exit ?_
              refine thenP_exit ?_
              refine inBlk_exit ?_
              refine thenP_normal ?_
              refine W.seqR ?_
              refine LS.vv rfl rfl (by decide) (Val.move rfl) ?_
              refine LS.vv rfl rfl (by decide) (Val.move rfl) ?_
              refine LS.vv rfl rfl (by decide) (Val.move rfl) ?_
              refine LS.vv rfl rfl (by decide) (Val.move rfl) ?_
              refine LS.vv rfl rfl (by decide) (Val.index1 Try.underlying39 elem2 rfl rfl (by first | omega | (simp only [wts_len, List.length_set]; omega)) (hM.o0.rd) (nv_lt (by first | omega | (simp only [wts_len, List.length_set]; omega)))) ?_
              refine LS.m rfl (Step.load rfl rfl (by decide) flat2 rfl (hM.o0.rd) (nv_at (by first | omega | (simp only [wts_len, List.length_set]; omega))) ?_)
              refine LS.vv rfl rfl (by decide) (Val.cast (v := .int .i64 (((spn cs).length : Int) * (cntW (dl cs m) k : Int))) (Val.mul64 rfl rfl (by rw [hall, hbk]; omega)) (by rw [hall, hbk])) ?_
              refine LS.vv rfl rfl (by decide) (Val.cast (v := .bool false) (Val.neq rfl rfl) (by refine congrArg Value.bool (decide_eq_false fun h => h ?_); rw [hmw])) ?_
              refine LS.nil ?_
              refine W.condF rfl ?_
              refine W.skip ?_
              refine inBlk_normal ?_
              refine thenP_normal ?_
              refine W.reg ?_
              refine LS.vv rfl rfl (by decide) (Val.move rfl) ?_
              first | refine LS.vv rfl rfl (by decide) (Val.addN (j := 1) rfl rfl (by first | omega | (simp only [wts_len, List.length_set]; omega))) ?_ | refine LS.vv rfl rfl (by decide) (Val.add64 rfl rfl (by first | omega | (simp only [wts_len, List.length_set]; omega))) ?_
              refine LS.vv rfl rfl (by decide) (Val.assign rfl) ?_
              refine LS.nil ?_
              refine thenP_normal ?_
              refine ⟨k + 1, ?_, ?_, ⟨by omega, hM, hB⟩, by omega⟩
              · exact (Sub.cons rfl (Sub.nil _))
              · repeat (first | exact Sub.nil _ | refine Sub.cons rfl ?_)
          ·
            refine W.exit ?_
            refine thenP_exit ?_
            refine thenP_exit ?_
            refine inBlk_exit ?_
            refine thenP_normal ?_
            refine W.seqR ?_
            refine LS.vv rfl rfl (by decide) (Val.move rfl) ?_
            refine LS.vv rfl rfl (by decide) (Val.geq rfl rfl) ?_
            refine LS.vv rfl rfl (by decide) (Val.assign rfl) ?_
            refine LS.nil ?_
            refine W.ret ?_
            refine ret1 (by first | exact .inl rfl | exact .inr rfl) rfl ?_
            first
              | exact ⟨rfl, hB⟩
              | (refine ⟨congrArg Value.bool (decide_eq_true ?_), hB⟩
                 rw [hall]
                 have := hlen.2
                 have e9 : (spn cs).length = (spk cs cs.length).length := rfl
                 omega)
              | (exfalso; omega)
    ·
      first | (have hg3p := of_decide_eq_false hg3) | skip
      refine LS.vg rfl rfl rfl hg3 (by decide) (Val.move rfl) ?_
      refine LS.vg rfl rfl rfl hg3 (by decide) (Val.neq rfl rfl) ?_
      refine LS.vv rfl rfl (by decide) (Val.cast (v := .bool false) (Val.pickF rfl hg3 rfl) (by first | rfl | (exfalso; omega) | (refine congrArg Value.bool (decide_eq_false ?_); omega))) ?_
      refine LS.vv rfl rfl (by decide) (Val.move rfl) ?_
      refine LS.vg rfl rfl rfl rfl (by decide) (Val.move rfl) ?_
      refine LS.vg rfl rfl rfl rfl (by decide) (Val.len Try.underlying39 rfl) ?_
      refine LS.vg rfl rfl rfl rfl (by decide) (Val.move rfl) ?_
      first | refine LS.vg rfl rfl rfl rfl (by decide) (Val.addN (j := 1) rfl rfl (by first | omega | (simp only [wts_len, List.length_set]; omega))) ?_ | refine LS.vg rfl rfl rfl rfl (by decide) (Val.add64 rfl rfl (by first | omega | (simp only [wts_len, List.length_set]; omega))) ?_
      refine LS.vg rfl rfl rfl rfl (by decide) (Val.neq rfl rfl) ?_
      refine LS.vv rfl rfl (by decide) (Val.cast (v := .bool false) (Val.pickF rfl rfl rfl) (by first | rfl | (exfalso; omega) | (refine congrArg Value.bool (decide_eq_false ?_); omega))) ?_
      refine LS.nil ?_
      refine W.condF rfl ?_
      refine W.skip ?_
      refine thenP_normal ?_
      refine W.seqR ?_
      refine LS.vv rfl rfl (by decide) (Val.move rfl) ?_
      first | refine LS.vv rfl rfl (by decide) (Val.addN (j := 1) rfl rfl (by first | omega | (simp only [wts_len, List.length_set]; omega))) ?_ | refine LS.vv rfl rfl (by decide) (Val.add64 rfl rfl (by first | omega | (simp only [wts_len, List.length_set]; omega))) ?_
      refine LS.m rfl (Step.make rfl rfl (by decide) Try.underlying39 elem2 rfl rfl rfl (by first | omega | (simp only [wts_len, List.length_set]; omega)) (by first | omega | (simp only [wts_len, List.length_set]; omega)) (Nat.le_refl _) ?_)
      rintro w13 hO13 hg13 hbl13
      replace hM := hM.add hB.size hbl13 hO13
      try simp only [nv_app1, nv_app, nv_set, nv_rep, nv_one, nv_cons, nv_take, nv_drop, List.nil_append] at hM
      replace hB := hB.trans (hbl13.mono hB.size)
      generalize w3.heap.size = gg13 at *
      refine LS.vv rfl rfl (by decide) (Val.assign rfl) ?_
      refine LS.nil ?_
      refine W.seq ?_
      refine W.seqR ?_
      refine LS.vv rfl rfl (by decide) (Val.move rfl) ?_
      refine LS.vv rfl rfl (by decide) (Val.len Try.underlying32 rfl) ?_
      refine LS.vv rfl rfl (by decide) (Val.cast (v := .int .i64 ((0 : Nat) : Int)) (Val.move rfl) rfl) ?_
      refine LS.nil ?_
      refine W.block ?_
      rw [← wts_zero D (m + 1)] at hM
      refine W.loop (α := Nat) (fun k => [(58, .int .i64 (k : Int))]) [(0, _), (5, _), (9, _), (56, _), (57, _)] (fun k w => (k ≤ D.length) ∧ Mem w w0.heap.size [⟨2, some ⟨gg13, 0, none⟩, m + 1, m + 1, nv (wts D (m + 1) k)⟩, ⟨37, p3, D.length, c3, uv D⟩, ⟨2, p2, A.length, c2, nv A⟩] ∧ Below w0.heap.size w0 w) (fun k => D.length - k) (0) (Sub.cons rfl (Sub.nil _)) (Sub.cons rfl (Sub.cons rfl (Sub.cons rfl (Sub.cons rfl (Sub.cons rfl (Sub.nil _)))))) ?_ ?_
      · exact ⟨Nat.zero_le _, hM, hB⟩
      rintro k w14 ⟨hk, hM, hB⟩
      try simp only at hM
      simp only [List.cons_append, List.nil_append]
      refine W.seqR ?_
      refine LS.vv rfl rfl (by decide) (Val.lss rfl rfl) ?_
      refine LS.nil ?_
      refine W.seq ?_
      first | refine W.condD rfl (fun hc8 => ?_) (fun hc8 => ?_) | refine W.cond rfl (fun hc8 => ?_) (fun hc8 => ?_)
      ·
        have hdk := hdl k (by omega)
        have hpl := popc_le hdk
        have hwl := wts_len D (m + 1) k
        have hwg := wts_gn D (n := m + 1) (k := k) (j := popc (gn D k)) (by omega)
        have hcl := cntW_le D k (popc (gn D k))
        refine W.skip ?_
        refine thenP_normal ?_
        refine W.seq ?_
        refine W.block ?_
        refine W.seqR ?_
        refine LS.vv rfl rfl (by decide) (Val.index1 Try.underlying32 elem37 rfl rfl (by first | omega | (simp only [wts_len, List.length_set]; omega)) (hM.o1.rd) (uv_lt (by first | omega | (simp only [wts_len, List.length_set]; omega)))) ?_
        refine LS.m rfl (Step.load rfl rfl (by decide) flat37 rfl (hM.o1.rd) (uv_at (by first | omega | (simp only [wts_len, List.length_set]; omega))) ?_)
        refine LS.vv rfl rfl (by decide) (Val.assign rfl) ?_
        refine LS.nil ?_
        refine W.reg ?_
        refine LS.vv rfl rfl (by decide) (Val.move rfl) ?_
        refine LS.vv rfl rfl (by decide) (Val.move rfl) ?_
        refine LS.m rfl (Step.call body17 rfl rfl (by decide) rfl (CallsV.mono (size_any (gn D k) _ (by omega)) ?_))
        rintro _ w15 ⟨rfl, hb15⟩
        replace hM := hM.below hb15
        replace hB := hB.trans (hb15.mono hB.size)
        refine LS.vv rfl rfl (by decide) (Val.move rfl) ?_
        refine LS.vv rfl rfl (by decide) (Val.move rfl) ?_
        refine LS.m rfl (Step.call body17 rfl rfl (by decide) rfl (CallsV.mono (size_any (gn D k) _ (by omega)) ?_))
        rintro _ w16 ⟨rfl, hb16⟩
        replace hM := hM.below hb16
        replace hB := hB.trans (hb16.mono hB.size)
        refine LS.vv rfl rfl (by decide) (Val.index1 Try.underlying39 elem2 rfl rfl (by first | omega | (simp only [wts_len, List.length_set]; omega)) (hM.o0.rd) (nv_lt (by first | omega | (simp only [wts_len, List.length_set]; omega)))) ?_
        refine LS.m rfl (Step.load rfl rfl (by decide) flat2 rfl (hM.o0.rd) (nv_at (by first | omega | (simp only [wts_len, List.length_set]; omega))) ?_)
        first | refine LS.vv rfl rfl (by decide) (Val.addN (j := 1) rfl rfl (by first | omega | (simp only [wts_len, List.length_set]; omega))) ?_ | refine LS.vv rfl rfl (by decide) (Val.add64 rfl rfl (by first | omega | (simp only [wts_len, List.length_set]; omega))) ?_
        refine LS.vv rfl rfl (by decide) (Val.index1 Try.underlying39 elem2 rfl rfl (by first | omega | (simp only [wts_len, List.length_set]; omega)) (hM.o0.rd) (nv_lt (by first | omega | (simp only [wts_len, List.length_set]; omega)))) ?_
        refine LS.m rfl (Step.store (B := w0.heap.size) rfl rfl flat2 elem2 rfl rfl rfl (hM.o0) (by first | omega | (simp only [wts_len, List.length_set]; omega)) hB.size ?_)
        rintro w17 hO17 hg17 hbl17 hsz17
        replace hM := hM.s0 hg17 hO17 inl_block
        try simp only [nv_app1, nv_app, nv_set, nv_rep, nv_one, nv_cons, nv_take, nv_drop, List.nil_append] at hM
        replace hB := hB.trans hbl17
        refine LS.nil ?_
        refine inBlk_normal ?_
        refine thenP_normal ?_
        refine W.reg ?_
        first | refine LS.vv rfl rfl (by decide) (Val.addN (j := 1) rfl rfl (by first | omega | (simp only [wts_len, List.length_set]; omega))) ?_ | refine LS.vv rfl rfl (by decide) (Val.add64 rfl rfl (by first | omega | (simp only [wts_len, List.length_set]; omega))) ?_
        refine LS.vv rfl rfl (by decide) (Val.move rfl) ?_
        refine LS.nil ?_
        refine thenP_normal ?_
        rw [wts_succ (by omega)] at hM
        refine ⟨k + 1, ?_, ?_, ⟨by omega, hM, hB⟩, by omega⟩
        · exact (Sub.cons rfl (Sub.nil _))
        · repeat (first | exact Sub.nil _ | refine Sub.cons rfl ?_)
      ·
        refine W.exit ?_
        refine thenP_exit ?_
        refine thenP_exit ?_
        refine inBlk_exit ?_
        refine thenP_normal ?_
        refine W.seqR ?_
        refine LS.vv rfl rfl (by decide) (Val.cast (v := .int .i64 ((0 : Nat) : Int)) (Val.assign rfl) rfl) ?_
        refine LS.nil ?_
        refine W.seq ?_
        refine W.seqR ?_
        refine LS.vv rfl rfl (by decide) (Val.move rfl) ?_
        refine LS.vv rfl rfl (by decide) (Val.len Try.underlying39 rfl) ?_
        refine LS.vv rfl rfl (by decide) (Val.cast (v := .int .i64 ((0 : Nat) : Int)) (Val.move rfl) rfl) ?_
        refine LS.nil ?_
        refine W.block ?_
        obtain rfl : k = D.length := by omega
        replace hM := hM.er1
        refine W.loop (α := Nat) (fun k => [(12, .int .i64 (sI (List.range k) (fun j => (gn A j : Int)))), (75, .int .i64 (k : Int))]) [(0, _), (5, _), (9, _), (73, _), (74, _)] (fun k w => (k ≤ A.length ∧ 0 ≤ sI (List.range k) (fun j => (gn A j : Int)) ∧ sI (List.range k) (fun j => (gn A j : Int)) ≤ 256 * (k : Int)) ∧ Mem w w0.heap.size [⟨2, some ⟨gg13, 0, none⟩, m + 1, m + 1, nv (wts D (m + 1) D.length)⟩, ⟨2, p2, A.length, c2, nv A⟩] ∧ Below w0.heap.size w0 w) (fun k => A.length - k) (0) (Sub.cons rfl (Sub.cons rfl (Sub.nil _))) (Sub.cons rfl (Sub.cons rfl (Sub.cons rfl (Sub.cons rfl (Sub.cons rfl (Sub.nil _)))))) ?_ ?_
        · exact ⟨⟨Nat.zero_le _, by simp [sI], by simp [sI]⟩, hM, hB⟩
        rintro k w18 ⟨⟨hk, hs1, hs2⟩, hM, hB⟩
        try simp only at hM
        simp only [List.cons_append, List.nil_append]
        have hss := sI_range_succ k (fun j => (gn A j : Int))
        refine W.seqR ?_
        refine LS.vv rfl rfl (by decide) (Val.lss rfl rfl) ?_
        refine LS.nil ?_
        refine W.seq ?_
        first | refine W.condD rfl (fun hc9 => ?_) (fun hc9 => ?_) | refine W.cond rfl (fun hc9 => ?_) (fun hc9 => ?_)
        ·
          have hAk := hA3 k (by omega)
          refine W.skip ?_
          refine thenP_normal ?_
          refine W.seq ?_
          refine W.block ?_
          refine W.seqR ?_
          refine LS.vv rfl rfl (by decide) (Val.index1 Try.underlying39 elem2 rfl rfl (by first | omega | (simp only [wts_len, List.length_set]; omega)) (hM.o1.rd) (nv_lt (by first | omega | (simp only [wts_len, List.length_set]; omega)))) ?_
          refine LS.m rfl (Step.load rfl rfl (by decide) flat2 rfl (hM.o1.rd) (nv_at (by first | omega | (simp only [wts_len, List.length_set]; omega))) ?_)
          refine LS.vv rfl rfl (by decide) (Val.assign rfl) ?_
          refine LS.nil ?_
          refine W.reg ?_
          refine LS.vv rfl rfl (by decide) (Val.move rfl) ?_
          refine LS.vv rfl rfl (by decide) (Val.move rfl) ?_
          first | refine LS.vv rfl rfl (by decide) (Val.addN rfl rfl (by first | omega | (simp only [wts_len, List.length_set]; omega))) ?_ | refine LS.vv rfl rfl (by decide) (Val.add64 rfl rfl (by first | omega | (simp only [wts_len, List.length_set]; omega))) ?_
          refine LS.vv rfl rfl (by decide) (Val.assign rfl) ?_
          refine LS.nil ?_
          refine inBlk_normal ?_
          refine thenP_normal ?_
          refine W.reg ?_
          first | refine LS.vv rfl rfl (by decide) (Val.addN (j := 1) rfl rfl (by first | omega | (simp only [wts_len, List.length_set]; omega))) ?_ | refine LS.vv rfl rfl (by decide) (Val.add64 rfl rfl (by first | omega | (simp only [wts_len, List.length_set]; omega))) ?_
          refine LS.vv rfl rfl (by decide) (Val.move rfl) ?_
          refine LS.nil ?_
          refine thenP_normal ?_
          refine ⟨k + 1, ?_, ?_, ⟨⟨by omega, by rw [hss]; omega, by rw [hss]; omega⟩, hM, hB⟩, by omega⟩
          · exact Sub.cons' rfl (by rw [hss]) (Sub.cons rfl (Sub.nil _))
          · repeat (first | exact Sub.nil _ | refine Sub.cons rfl ?_)
        ·
          refine W.exit ?_
          refine thenP_exit ?_
          refine thenP_exit ?_
          refine inBlk_exit ?_
          refine thenP_normal ?_
          refine W.seq ?_
          refine W.seqR ?_
          refine LS.vv rfl rfl (by decide) (Val.cast (v := .int .i64 ((0 : Nat) : Int)) (Val.assign rfl) rfl) ?_
          refine LS.nil ?_
          refine W.block ?_
          obtain rfl : k = m + 1 := by omega
          have hall : sI (List.range (m + 1)) (fun j => (gn A j : Int)) = ((spn cs).length : Int) := hsum
          refine W.loop (α := Nat) (fun k => [(15, .int .i64 (k : Int))]) [(0, _), (5, _), (9, _), (12, _)] (fun k w => (k ≤ m + 1) ∧ Mem w w0.heap.size [⟨2, some ⟨gg13, 0, none⟩, m + 1, m + 1, nv (wts D (m + 1) D.length)⟩, ⟨2, p2, A.length, c2, nv A⟩] ∧ Below w0.heap.size w0 w) (fun k => m + 1 - k) (0) (Sub.cons rfl (Sub.nil _)) (Sub.cons rfl (Sub.cons rfl (Sub.cons rfl (Sub.cons rfl (Sub.nil _))))) ?_ ?_
          · exact ⟨Nat.zero_le _, hM, hB⟩
          rintro k w19 ⟨hk, hM, hB⟩
          try simp only at hM
          simp only [List.cons_append, List.nil_append]
          refine W.seq ?_
          refine W.seqR ?_
          refine LS.vv rfl rfl (by decide) (Val.move rfl) ?_
          refine LS.vv rfl rfl (by decide) (Val.move rfl) ?_
          refine LS.vv rfl rfl (by decide) (Val.leq rfl rfl) ?_
          refine LS.nil ?_
          first | refine W.condD rfl (fun hc10 => ?_) (fun hc10 => ?_) | refine W.cond rfl (fun hc10 => ?_) (fun hc10 => ?_)
          ·
            refine W.skip ?_
            refine thenP_normal ?_
            refine W.seq ?_
            refine W.block ?_
            refine W.seqR ?_
            refine LS.vv rfl rfl (by decide) (Val.cast (v := .int .i64 ((0 : Nat) : Int)) (Val.assign rfl) rfl) ?_
            refine LS.nil ?_
            refine W.seq ?_
            refine W.seqR ?_
            refine LS.vv rfl rfl (by decide) (Val.cast (v := .int .i64 ((0 : Nat) : Int)) (Val.assign rfl) rfl) ?_
            refine LS.nil ?_
            refine W.block ?_
            refine W.loop (α := Nat) (fun j => [(16, .int .i64 (sI (List.range j) (fun j => (gn A j : Int) * Kf m k (2 ^ j - 1)))), (17, .int .i64 (j : Int))]) [(0, _), (5, _), (9, _), (12, _), (15, _)] (fun j w => (j ≤ m + 1 ∧ -(1048576 * (j : Int)) ≤ sI (List.range j) (fun j => (gn A j : Int) * Kf m k (2 ^ j - 1)) ∧ sI (List.range j) (fun j => (gn A j : Int) * Kf m k (2 ^ j - 1)) ≤ 1048576 * (j : Int)) ∧ Mem w w0.heap.size [⟨2, some ⟨gg13, 0, none⟩, m + 1, m + 1, nv (wts D (m + 1) D.length)⟩, ⟨2, p2, A.length, c2, nv A⟩] ∧ Below w0.heap.size w0 w) (fun j => m + 1 - j) (0) (Sub.cons rfl (Sub.cons rfl (Sub.nil _))) (Sub.cons rfl (Sub.cons rfl (Sub.cons rfl (Sub.cons rfl (Sub.cons rfl (Sub.nil _)))))) ?_ ?_
            · exact ⟨⟨Nat.zero_le _, by simp [sI], by simp [sI]⟩, hM, hB⟩
            rintro j w20 ⟨⟨hj, hs3, hs4⟩, hM, hB⟩
            try simp only at hM
            simp only [List.cons_append, List.nil_append]
            have hss := sI_range_succ j (fun j => (gn A j : Int) * Kf m k (2 ^ j - 1))
            refine W.seq ?_
            refine W.seqR ?_
            refine LS.vv rfl rfl (by decide) (Val.move rfl) ?_
            refine LS.vv rfl rfl (by decide) (Val.move rfl) ?_
            refine LS.vv rfl rfl (by decide) (Val.leq rfl rfl) ?_
            refine LS.nil ?_
            first | refine W.condD rfl (fun hc11 => ?_) (fun hc11 => ?_) | refine W.cond rfl (fun hc11 => ?_) (fun hc11 => ?_)
            ·
              have hKb := pw_abs m k (2 ^ j - 1) (2 ^ m)
              have hKf : Kf m k (2 ^ j - 1) = sI (List.range (2 ^ m)) (fun y => if popc y = k then ch y (2 ^ j - 1) else 0) := rfl
              rw [← hKf] at hKb
              have hAj := hA3 j (by omega)
              have hmb := mul_bound (a := gn A j) (z := Kf m k (2 ^ j - 1)) hAj ⟨by omega, by omega⟩
              refine W.skip ?_
              refine thenP_normal ?_
              refine W.seq ?_
              refine W.block ?_
              refine W.regT (S := fun w => Below w0.heap.size w0 w ∧ Mem w w0.heap.size _) (.val 0 (.val 1 (.val 2 (.val 3 (.val 4 (.val 5 (.val 6 (.val 7 (.mem 8 (.val 9 (.val 10 (.val 11 (.done))))))))))))) mixed (by kernel_rfl) ⟨hB.drew, hM.drew⟩ ?_
              replace hB := hB.drew
              replace hM := hM.drew
              refine DT.vv rfl rfl rfl (by decide) (Val.move rfl) ?_
              refine DT.vv rfl rfl rfl (by decide) (Val.move rfl) ?_
              refine DT.vv rfl rfl rfl (by decide) (Val.move rfl) ?_
              refine DT.vv rfl rfl rfl (by decide) (Val.index1 Try.underlying39 elem2 rfl rfl (by first | omega | (simp only [wts_len, List.length_set]; omega)) (hM.o1.rd) (nv_lt (by first | omega | (simp only [wts_len, List.length_set]; omega)))) ?_
              refine DT.vv rfl rfl rfl (by decide) (Val.load flat2 rfl (fun _ h => h.2.o1.rd) (nv_at (by first | omega | (simp only [wts_len, List.length_set]; omega)))) ?_
              refine DT.vv rfl rfl rfl (by decide) (Val.move rfl) ?_
              refine DT.vv rfl rfl rfl (by decide) (Val.move rfl) ?_
              refine DT.vv rfl rfl rfl (by decide) (Val.move rfl) ?_
              refine DT.m rfl rfl (Step.call body18 rfl rfl (by decide) rfl (CallsV.mono (kraw_any m k j _ (by omega) (by omega) (by omega)) ?_))
              rintro _ w21 ⟨rfl, hb21⟩
              replace hM := hM.below hb21
              replace hB := hB.trans (hb21.mono hB.size)
              refine ⟨⟨hB, hM⟩, ?_⟩
              refine DT.vv rfl rfl rfl (by decide) (Val.mul64 rfl rfl (by omega)) ?_
              refine DT.vv rfl rfl rfl (by decide) (Val.add64 rfl rfl (by omega)) ?_
              refine DT.vv rfl rfl rfl (by decide) (Val.assign rfl) ?_
              refine DT.nil ?_
              refine inBlk_normal ?_
              refine thenP_normal ?_
              refine W.reg ?_
              refine LS.vv rfl rfl (by decide) (Val.move rfl) ?_
              first | refine LS.vv rfl rfl (by decide) (Val.addN (j := 1) rfl rfl (by first | omega | (simp only [wts_len, List.length_set]; omega))) ?_ | refine LS.vv rfl rfl (by decide) (Val.add64 rfl rfl (by first | omega | (simp only [wts_len, List.length_set]; omega))) ?_
              refine LS.vv rfl rfl (by decide) (Val.assign rfl) ?_
              refine LS.nil ?_
              refine thenP_normal ?_
              refine ⟨j + 1, ?_, ?_, ⟨⟨by omega, by rw [hss]; omega, by rw [hss]; omega⟩, hM, hB⟩, by omega⟩
              · exact Sub.cons' rfl (by rw [hss]) (Sub.cons rfl (Sub.nil _))
              · repeat (first | exact Sub.nil _ | refine Sub.cons rfl ?_)
            ·
              obtain rfl : j = m + 1 := by omega
              have hbk : (gn (wts D (m + 1) D.length) k : Int) = (cntW (dl cs m) k : Int) := by rw [wts_gn D (by omega), List.take_length, hD]
              have hmw := hmac k
              have hc1 := cntW_le D D.length k
              rw [List.take_length, hD] at hc1
              rw [hD] at hdlen
              have hpb := Nat.mul_le_mul hlen.1 (show cntW (dl cs m) k ≤ 4096 by omega)
              have hpc : ((spn cs).length : Int) * (cntW (dl cs m) k : Int) = (((spn cs).length * cntW (dl cs m) k : Nat) : Int) := by rw [Int.natCast_mul]
              change (spn cs).length * cntW (dl cs m) k ≤ 256 * 4096 at hpb
              refine W.exit ?_
              refine thenP_exit ?_
              refine thenP_exit ?_
              refine inBlk_exit ?_
              refine thenP_normal ?_
              refine W.seqR ?_
              refine LS.vv rfl rfl (by decide) (Val.move rfl) ?_
              refine LS.vv rfl rfl (by decide) (Val.move rfl) ?_
              refine LS.vv rfl rfl (by decide) (Val.move rfl) ?_
              refine LS.vv rfl rfl (by decide) (Val.move rfl) ?_
              refine LS.vv rfl rfl (by decide) (Val.index1 Try.underlying39 elem2 rfl rfl (by first | omega | (simp only [wts_len, List.length_set]; omega)) (hM.o0.rd) (nv_lt (by first | omega | (simp only [wts_len, List.length_set]; omega)))) ?_
              refine LS.m rfl (Step.load rfl rfl (by decide) flat2 rfl (hM.o0.rd) (nv_at (by first | omega | (simp only [wts_len, List.length_set]; omega))) ?_)
              refine LS.vv rfl rfl (by decide) (Val.cast (v := .int .i64 (((spn cs).length : Int) * (cntW (dl cs m) k : Int))) (Val.mul64 rfl rfl (by rw [hall, hbk]; omega)) (by rw [hall, hbk])) ?_
              refine LS.vv rfl rfl (by decide) (Val.cast (v := .bool false) (Val.neq rfl rfl) (by refine congrArg Value.bool (decide_eq_false fun h => h ?_); rw [hmw])) ?_
              refine LS.nil ?_
              refine W.condF rfl ?_
              refine W.skip ?_
              refine inBlk_normal ?_
              refine thenP_normal ?_
              refine W.reg ?_
              refine LS.vv rfl rfl (by decide) (Val.move rfl) ?_
              first | refine LS.vv rfl rfl (by decide) (Val.addN (j := 1) rfl rfl (by first | omega | (simp only [wts_len, List.length_set]; omega))) ?_ | refine LS.vv rfl rfl (by decide) (Val.add64 rfl rfl (by first | omega | (simp only [wts_len, List.length_set]; omega))) ?_
              refine LS.vv rfl rfl (by decide) (Val.assign rfl) ?_
              refine LS.nil ?_
              refine thenP_normal ?_
              refine ⟨k + 1, ?_, ?_, ⟨by omega, hM, hB⟩, by omega⟩
              · exact (Sub.cons rfl (Sub.nil _))
              · repeat (first | exact Sub.nil _ | refine Sub.cons rfl ?_)
          ·
            refine W.exit ?_
            refine thenP_exit ?_
            refine thenP_exit ?_
            refine inBlk_exit ?_
            refine thenP_normal ?_
            refine W.seqR ?_
            refine LS.vv rfl rfl (by decide) (Val.move rfl) ?_
            refine LS.vv rfl rfl (by decide) (Val.geq rfl rfl) ?_
            refine LS.vv rfl rfl (by decide) (Val.assign rfl) ?_
            refine LS.nil ?_
            refine W.ret ?_
            refine ret1 (by first | exact .inl rfl | exact .inr rfl) rfl ?_
            first
              | exact ⟨rfl, hB⟩
              | (refine ⟨congrArg Value.bool (decide_eq_true ?_), hB⟩
                 rw [hall]
                 have := hlen.2
                 have e9 : (spn cs).length = (spk cs cs.length).length := rfl
                 omega)
              | (exfalso; omega)

end Go.Proofs.Ytjmpkmomlpgbdaa
