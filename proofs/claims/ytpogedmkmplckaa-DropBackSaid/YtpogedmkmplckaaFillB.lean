/-
  drop.Fill.
-/
import Derived.Test.YtpogedmkmplckaaInsert
import Derived.Test.YtpogedmkmplckaaDrop
import Derived.Test.YtpogedmkmplckaaLib
namespace Go.Proofs.Ytpogedmkmplckaa
open Go Go.RowKit V
set_option linter.unusedVariables false
set_option linter.unusedSimpArgs false

theorem tmod_bd (a : Int) {b : Int} (h : 0 < b) : -b < a.tmod b ∧ a.tmod b < b := ⟨Int.lt_tmod_of_pos a h, Int.tmod_lt_of_pos a h⟩
theorem ones_one {l : List Bool} {k : Nat} (h : k < l.length) : onesOf ((l.drop k).take 1) = if gb l k = true then 1 else 0 := by
  rw [List.drop_eq_getElem_cons h, List.take_succ_cons, List.take_zero, onesOf_cons, gb_lt h]; simp [onesOf]

theorem ones_any (bs : List Bool) (p : Option Addr) (c m : Nat) (w0 : World) (hr : Rd w0 p (bv bs)) (hm : bs.length = m) (hl : m ≤ 1000) :
    CallsV Try.prog 33 #[.slice p m c] w0 (fun v w => v = .int .i64 (onesOf bs : Int) ∧ Below w0.heap.size w0 w) := by
  refine enter1 Try.func33 rfl Try.ntmps33 (by simp) rfl ?_
  have hB := Below.refl w0.heap.size w0
  simp only [argLoc]
  have hM := Mem.nil w0 w0.heap.size
  subst hm
  refine W.seqR ?_
  refine LS.vv rfl rfl (by decide) (Val.cast (v := .int .i64 ((0 : Nat) : Int)) (Val.assign rfl) rfl) ?_
  refine LS.nil ?_
  refine W.seqR ?_
  refine LS.vv rfl rfl (by decide) (Val.cast (v := .int .i64 ((0 : Nat) : Int)) (Val.assign rfl) rfl) ?_
  refine LS.nil ?_
  refine W.seq ?_
  refine W.seqR ?_
  refine LS.vv rfl rfl (by decide) (Val.move rfl) ?_
  refine LS.vv rfl rfl (by decide) (Val.len Try.underlying22 rfl) ?_
  refine LS.vv rfl rfl (by decide) (Val.cast (v := .int .i64 ((0 : Nat) : Int)) (Val.move rfl) rfl) ?_
  refine LS.nil ?_
  refine W.block ?_
  refine W.loop (α := Nat) (fun k => [(3, .int .i64 (onesOf (bs.take k) : Int)), (8, .int .i64 (k : Int))]) [(6, _), (7, _)] (fun k w => (k ≤ bs.length) ∧ Mem w w0.heap.size [] ∧ Below w0.heap.size w0 w) (fun k => bs.length - k) (0) (Sub.cons rfl (Sub.cons rfl (Sub.nil _))) (Sub.cons rfl (Sub.cons rfl (Sub.nil _))) ?_ ?_
  · exact ⟨Nat.zero_le _, hM, hB⟩
  rintro k w1 ⟨hk, hM, hB⟩
  try simp only at hM
  simp only [List.cons_append, List.nil_append]
  have hol := onesOf_le (bs.take k)
  rw [List.length_take] at hol
  refine W.seqR ?_
  refine LS.vv rfl rfl (by decide) (Val.lss rfl rfl) ?_
  refine LS.nil ?_
  refine W.seq ?_
  first | refine W.condD rfl (fun hc1 => ?_) (fun hc1 => ?_) | refine W.cond rfl (fun hc1 => ?_) (fun hc1 => ?_)
  ·
    refine W.skip ?_
    refine thenP_normal ?_
    refine W.seq ?_
    refine W.block ?_
    refine W.seqR ?_
    refine LS.vv rfl rfl (by decide) (Val.index1 Try.underlying22 elem4 rfl rfl (by omega) ((hr.below hB)) (bv_lt (by omega))) ?_
    refine LS.m rfl (Step.load rfl rfl (by decide) flat4 rfl ((hr.below hB)) (bv_at (by omega)) ?_)
    refine LS.vv rfl rfl (by decide) (Val.assign rfl) ?_
    refine LS.nil ?_
    refine W.seqR ?_
    refine LS.vv rfl rfl (by decide) (Val.move rfl) ?_
    refine LS.nil ?_
    first | refine W.condD rfl (fun hc2 => ?_) (fun hc2 => ?_) | refine W.cond rfl (fun hc2 => ?_) (fun hc2 => ?_)
    ·
      refine W.reg ?_
      refine LS.vv rfl rfl (by decide) (Val.move rfl) ?_
      first | refine LS.vv rfl rfl (by decide) (Val.addN (j := 1) rfl rfl (by omega)) ?_ | refine LS.vv rfl rfl (by decide) (Val.add64 rfl rfl (by omega)) ?_
      refine LS.vv rfl rfl (by decide) (Val.assign rfl) ?_
      refine LS.nil ?_
      refine inBlk_normal ?_
      refine thenP_normal ?_
      refine W.reg ?_
      first | refine LS.vv rfl rfl (by decide) (Val.addN (j := 1) rfl rfl (by omega)) ?_ | refine LS.vv rfl rfl (by decide) (Val.add64 rfl rfl (by omega)) ?_
      refine LS.vv rfl rfl (by decide) (Val.move rfl) ?_
      refine LS.nil ?_
      refine thenP_normal ?_
      have hos := onesOf_take_succ bs k (by omega)
      refine ⟨k + 1, ?_, ?_, ⟨by omega, hM, hB⟩, by omega⟩
      · exact Sub.cons' rfl (by rw [hos]; first | (rw [if_pos (by assumption)]; done) | (rw [if_neg (by simp_all), Nat.add_zero]; done)) (Sub.cons rfl (Sub.nil _))
      · repeat (first | exact Sub.nil _ | refine Sub.cons rfl ?_)
    ·
      refine W.skip ?_
      refine inBlk_normal ?_
      refine thenP_normal ?_
      refine W.reg ?_
      first | refine LS.vv rfl rfl (by decide) (Val.addN (j := 1) rfl rfl (by omega)) ?_ | refine LS.vv rfl rfl (by decide) (Val.add64 rfl rfl (by omega)) ?_
      refine LS.vv rfl rfl (by decide) (Val.move rfl) ?_
      refine LS.nil ?_
      refine thenP_normal ?_
      have hos := onesOf_take_succ bs k (by omega)
      refine ⟨k + 1, ?_, ?_, ⟨by omega, hM, hB⟩, by omega⟩
      · exact Sub.cons' rfl (by rw [hos]; first | (rw [if_pos (by assumption)]; done) | (rw [if_neg (by simp_all), Nat.add_zero]; done)) (Sub.cons rfl (Sub.nil _))
      · repeat (first | exact Sub.nil _ | refine Sub.cons rfl ?_)
  ·
    refine W.exit ?_
    refine thenP_exit ?_
    refine thenP_exit ?_
    refine inBlk_exit ?_
    refine thenP_normal ?_
    refine W.seqR ?_
    refine LS.vv rfl rfl (by decide) (Val.move rfl) ?_
    refine LS.vv rfl rfl (by decide) (Val.assign rfl) ?_
    refine LS.nil ?_
    refine W.ret ?_
    refine ret1 (by first | exact .inl rfl | exact .inr rfl) rfl ?_
    obtain rfl : k = bs.length := by omega
    rw [List.take_length]
    exact ⟨rfl, hB⟩

set_option maxHeartbeats 1000000 in
theorem fill_any (x : List Bool) (i : Nat) (hi : i < x.length) (h12 : x.length ≤ 12) (p : Option Addr) (c m : Nat) (w0 : World) (hr : Rd w0 p (bv (x.eraseIdx i))) (hm : (x.eraseIdx i).length = m) (hc : m ≤ c) :
    CallsV Try.prog 17 #[.int .i64 (sumOf x : Int), .slice p m c] w0 (fun v w => ∃ (p2 : Option Addr) (c2 : Nat), v = .tuple #[.slice p2 x.length c2, .int .i64 0] ∧ Rd w p2 (bv x) ∧ Below w0.heap.size w0 w) := by
  refine enter2 Try.func17 rfl Try.ntmps17 (by simp) rfl ?_
  have hB := Below.refl w0.heap.size w0
  simp only [argLoc, Nat.zero_add]
  have hM := Mem.nil w0 w0.heap.size
  subst hm
  have hxl : x.length = (x.eraseIdx i).length + 1 := by rw [List.length_eraseIdx_of_lt hi]; omega
  have hsx : sumOf x < x.length + 1 := Nat.mod_lt _ (by omega)
  have hwb := weigh_bound (x.eraseIdx i) (x.eraseIdx i).length
  have hww : weigh (x.eraseIdx i) ≤ 144 := Nat.le_trans hwb (Nat.mul_le_mul (show (x.eraseIdx i).length ≤ 12 by omega) (show (x.eraseIdx i).length ≤ 12 by omega))
  have hbl := behind_le x i hi
  have hol := onesOf_le (x.eraseIdx i)
  obtain ⟨hbc1, hbc2⟩ := behind_case x i hi
  have hls := lackOf_spec x i hi
  clear hwb
  have hb1 := tmod_bd ((sumOf x : Int) - (weigh (x.eraseIdx i) : Int)) (b := ((x.length + 1 : Nat) : Int)) (by omega)
  refine W.seqR ?_
  refine LS.vv rfl rfl (by decide) (Val.assign rfl) ?_
  refine LS.vv rfl rfl (by decide) (Val.cast (v := .int .i64 ((0 : Nat) : Int)) (Val.assign rfl) rfl) ?_
  refine LS.nil ?_
  refine W.seqR ?_
  refine LS.vv rfl rfl (by decide) (Val.move rfl) ?_
  refine LS.vv rfl rfl (by decide) (Val.len Try.underlying22 rfl) ?_
  first | refine LS.vv rfl rfl (by decide) (Val.addN (j := 1) rfl rfl (by omega)) ?_ | refine LS.vv rfl rfl (by decide) (Val.add64 rfl rfl (by omega)) ?_
  rw [← hxl]
  refine LS.vv rfl rfl (by decide) (Val.assign rfl) ?_
  refine LS.nil ?_
  refine W.seq ?_
  refine W.seqR ?_
  refine LS.vv rfl rfl (by decide) (Val.move rfl) ?_
  refine LS.vv rfl rfl (by decide) (Val.gtr rfl rfl) ?_
  refine LS.nil ?_
  first | refine W.condD rfl (fun hc1 => ?_) (fun hc1 => ?_) | refine W.cond rfl (fun hc1 => ?_) (fun hc1 => ?_)
  ·
    exfalso; omega
  ·
    refine W.skip ?_
    refine thenP_normal ?_
    refine W.seq ?_
    refine W.seqR ?_
    refine LS.vv rfl rfl (by decide) (Val.move rfl) ?_
    refine LS.vv rfl rfl (by decide) (Val.lss rfl rfl) ?_
    refine LS.vv rfl rfl (by decide) (Val.move rfl) ?_
    refine LS.split 2 rfl (fun hg2 => ?_) (fun hg2 => ?_)
    ·
      first | (have hg2p := of_decide_eq_true hg2) | skip
      refine LS.s rfl rfl rfl hg2 (by decide) ?_
      refine LS.s rfl rfl rfl hg2 (by decide) ?_
      refine LS.s rfl rfl rfl hg2 (by decide) ?_
      refine LS.vv rfl rfl (by decide) (Val.pickT rfl hg2 rfl) ?_
      refine LS.nil ?_
      refine W.condT rfl ?_
      refine W.seqR ?_
      refine LS.vv rfl rfl (by decide) (Val.assign rfl) ?_
      refine LS.vv rfl rfl (by decide) (Val.cast (v := .int .i64 ((4 : Nat) : Int)) (Val.assign rfl) rfl) ?_
      refine LS.nil ?_
      refine W.ret ?_
      refine thenP_ret ?_
      refine ret2 (by first | exact .inl rfl | exact .inr rfl) rfl rfl ?_
      first
        | (exfalso; omega)
        | (have hgf : gb x i = false := by cases h : gb x i; rfl; have := hbc2 h; omega
           have hfr := fill_right x i k false hi (by omega) (by simp; omega)
           rw [hfr] at hR9
           exact ⟨p9, c9, by rw [hxl]; rfl, hR9, hB⟩)
        | (have hzo := zeros_ones (x.eraseIdx i) k (by omega)
           have hfr := fill_right x i k true hi (by omega) (by simp; omega)
           rw [hfr] at hR9
           exact ⟨p9, c9, by rw [hxl]; rfl, hR9, hB⟩)
    ·
      first | (have hg2p := of_decide_eq_false hg2) | skip
      refine LS.vg rfl rfl rfl hg2 (by decide) (Val.move rfl) ?_
      refine LS.vg rfl rfl rfl hg2 (by decide) (Val.move rfl) ?_
      refine LS.vg rfl rfl rfl hg2 (by decide) (Val.gtr rfl rfl) ?_
      refine LS.vv rfl rfl (by decide) (Val.pickF rfl hg2 rfl) ?_
      refine LS.nil ?_
      first | refine W.condD rfl (fun hc3 => ?_) (fun hc3 => ?_) | refine W.cond rfl (fun hc3 => ?_) (fun hc3 => ?_)
      ·
        exfalso; omega
      ·
        refine W.skip ?_
        refine thenP_normal ?_
        refine W.seqR ?_
        refine LS.vv rfl rfl (by decide) (Val.move rfl) ?_
        refine LS.vv rfl rfl (by decide) (Val.move rfl) ?_
        refine LS.m rfl (Step.call body32 rfl rfl (by decide) rfl (CallsV.mono (weigh_any (x.eraseIdx i) _ _ _ (hr.below hB) (by omega)) ?_))
        rintro _ w1 ⟨rfl, hb1⟩
        replace hM := hM.below hb1
        replace hB := hB.trans (hb1.mono hB.size)
        first | refine LS.vv rfl rfl (by decide) (Val.subN rfl rfl (by omega) (by omega)) ?_ | refine LS.vv rfl rfl (by decide) (Val.sub64 rfl rfl (by omega)) ?_
        refine LS.vv rfl rfl (by decide) (Val.move rfl) ?_
        first | refine LS.vv rfl rfl (by decide) (Val.addN (j := 1) rfl rfl (by omega)) ?_ | refine LS.vv rfl rfl (by decide) (Val.add64 rfl rfl (by omega)) ?_
        first | refine LS.vv rfl rfl (by decide) (Val.remN rfl rfl (by omega)) ?_ | refine LS.vv rfl rfl (by decide) (Val.rem rfl rfl (by omega) (by omega)) ?_ | refine LS.vv rfl rfl (by decide) (Val.remT rfl rfl (by omega)) ?_
        refine LS.vv rfl rfl (by decide) (Val.move rfl) ?_
        first | refine LS.vv rfl rfl (by decide) (Val.addN rfl rfl (by omega)) ?_ | refine LS.vv rfl rfl (by decide) (Val.add64 rfl rfl (by omega)) ?_
        first | refine LS.vv rfl rfl (by decide) (Val.addN (j := 1) rfl rfl (by omega)) ?_ | refine LS.vv rfl rfl (by decide) (Val.add64 rfl rfl (by omega)) ?_
        refine LS.vv rfl rfl (by decide) (Val.move rfl) ?_
        first | refine LS.vv rfl rfl (by decide) (Val.addN (j := 1) rfl rfl (by omega)) ?_ | refine LS.vv rfl rfl (by decide) (Val.add64 rfl rfl (by omega)) ?_
        first | refine LS.vv rfl rfl (by decide) (Val.cast (v := .int .i64 ((behind 1 x i) : Int)) (Val.remN rfl rfl (by omega)) (by have h9 := hls; unfold lackOf at h9; rw [show ((x.length : Int) + 1) = ((x.length + 1 : Nat) : Int) by omega] at h9; exact congrArg (Value.int .i64) h9)) ?_ | refine LS.vv rfl rfl (by decide) (Val.cast (v := .int .i64 ((behind 1 x i) : Int)) (Val.rem rfl rfl (by omega) (by omega)) (by have h9 := hls; unfold lackOf at h9; rw [show ((x.length : Int) + 1) = ((x.length + 1 : Nat) : Int) by omega] at h9; exact congrArg (Value.int .i64) h9)) ?_ | refine LS.vv rfl rfl (by decide) (Val.cast (v := .int .i64 ((behind 1 x i) : Int)) (Val.remT rfl rfl (by omega)) (by have h9 := hls; unfold lackOf at h9; rw [show ((x.length : Int) + 1) = ((x.length + 1 : Nat) : Int) by omega] at h9; exact congrArg (Value.int .i64) h9)) ?_
        refine LS.vv rfl rfl (by decide) (Val.assign rfl) ?_
        refine LS.nil ?_
        refine W.seqR ?_
        refine LS.vv rfl rfl (by decide) (Val.move rfl) ?_
        refine LS.m rfl (Step.call body33 rfl rfl (by decide) rfl (CallsV.mono (ones_any (x.eraseIdx i) _ _ _ _ (hr.below hB) rfl (by omega)) ?_))
        rintro _ w2 ⟨rfl, hb2⟩
        replace hM := hM.below hb2
        replace hB := hB.trans (hb2.mono hB.size)
        refine LS.vv rfl rfl (by decide) (Val.assign rfl) ?_
        refine LS.nil ?_
        refine W.seq ?_
        refine W.seqR ?_
        refine LS.vv rfl rfl (by decide) (Val.move rfl) ?_
        refine LS.vv rfl rfl (by decide) (Val.move rfl) ?_
        refine LS.vv rfl rfl (by decide) (Val.leq rfl rfl) ?_
        refine LS.nil ?_
        first | refine W.condD rfl (fun hc4 => ?_) (fun hc4 => ?_) | refine W.cond rfl (fun hc4 => ?_) (fun hc4 => ?_)
        ·
          refine W.seqR ?_
          refine LS.vv rfl rfl (by decide) (Val.move rfl) ?_
          refine LS.vv rfl rfl (by decide) (Val.len Try.underlying22 rfl) ?_
          refine LS.vv rfl rfl (by decide) (Val.assign rfl) ?_
          refine LS.nil ?_
          refine W.seq ?_
          refine W.block ?_
          refine W.loop (α := Nat) (fun k => [(7, .int .i64 (((behind 1 x i) - onesOf ((x.eraseIdx i).drop k) : Nat) : Int)), (9, .int .i64 (k : Int))]) [(1, _)] (fun k w => (k ≤ (x.eraseIdx i).length ∧ onesOf ((x.eraseIdx i).drop k) ≤ (behind 1 x i)) ∧ Mem w w0.heap.size [] ∧ Below w0.heap.size w0 w) (fun k => k) ((x.eraseIdx i).length) (Sub.cons' rfl (by rw [List.drop_length]; rfl) (Sub.cons rfl (Sub.nil _))) (Sub.cons rfl (Sub.nil _)) ?_ ?_
          · exact ⟨⟨Nat.le_refl _, by rw [List.drop_length]; exact Nat.zero_le _⟩, hM, hB⟩
          rintro k w3 ⟨⟨hk, hok⟩, hM, hB⟩
          try simp only at hM
          simp only [List.cons_append, List.nil_append]
          have hkp : k = 0 → onesOf ((x.eraseIdx i).drop k) = onesOf (x.eraseIdx i) := fun h => by rw [h, List.drop_zero]
          refine W.seq ?_
          refine W.seqR ?_
          refine LS.vv rfl rfl (by decide) (Val.move rfl) ?_
          refine LS.vv rfl rfl (by decide) (Val.gtr rfl rfl) ?_
          refine LS.nil ?_
          first | refine W.condD rfl (fun hc5 => ?_) (fun hc5 => ?_) | refine W.cond rfl (fun hc5 => ?_) (fun hc5 => ?_)
          ·
            refine W.skip ?_
            refine thenP_normal ?_
            refine W.seq ?_
            refine W.block ?_
            refine W.reg ?_
            refine LS.vv rfl rfl (by decide) (Val.move rfl) ?_
            first | refine LS.vv rfl rfl (by decide) (Val.subN (j := 1) rfl rfl (by omega) (by omega)) ?_ | refine LS.vv rfl rfl (by decide) (Val.sub64 rfl rfl (by omega)) ?_
            refine LS.vv rfl rfl (by decide) (Val.assign rfl) ?_
            refine LS.nil ?_
            refine inBlk_normal ?_
            refine thenP_normal ?_
            refine W.reg ?_
            refine LS.vv rfl rfl (by decide) (Val.move rfl) ?_
            refine LS.vv rfl rfl (by decide) (Val.move rfl) ?_
            refine LS.vv rfl rfl (by decide) (Val.move rfl) ?_
            refine LS.vv rfl rfl (by decide) (Val.move rfl) ?_
            first | refine LS.vv rfl rfl (by decide) (Val.addN (j := 1) rfl rfl (by omega)) ?_ | refine LS.vv rfl rfl (by decide) (Val.add64 rfl rfl (by omega)) ?_
            refine LS.vv rfl rfl (by decide) (Val.sliceFromTo Try.underlying22 elem4 rfl rfl rfl (by omega) (by omega)) ?_
            have hod := onesOf_drop_pred (x.eraseIdx i) (k - 1) (by omega)
            rw [show k - 1 + 1 = k by omega] at hod
            have hbit : (if gb (x.eraseIdx i) (k - 1) = true then 1 else 0) ≤ 1 := by split <;> omega
            refine LS.m rfl (Step.call body33 rfl rfl (by decide) rfl (CallsV.mono (ones_any (((x.eraseIdx i).drop (k - 1)).take 1) _ _ _ _ (((hr.below hB).cut_bv hc).take_bv (k := 1)) (by simp; omega) (by omega)) ?_))
            rintro _ w4 ⟨rfl, hb4⟩
            replace hM := hM.below hb4
            replace hB := hB.trans (hb4.mono hB.size)
            rw [ones_one (by omega)]
            first | refine LS.vv rfl rfl (by decide) (Val.subN rfl rfl (by omega) (by omega)) ?_ | refine LS.vv rfl rfl (by decide) (Val.sub64 rfl rfl (by omega)) ?_
            refine LS.vv rfl rfl (by decide) (Val.assign rfl) ?_
            refine LS.nil ?_
            refine thenP_normal ?_
            refine ⟨k - 1, ?_, ?_, ⟨⟨by omega, by omega⟩, hM, hB⟩, by omega⟩
            · exact Sub.cons' rfl (by refine congrArg (Value.int .i64) ?_; omega) (Sub.cons rfl (Sub.nil _))
            · repeat (first | exact Sub.nil _ | refine Sub.cons rfl ?_)
          ·
            refine W.exit ?_
            refine thenP_exit ?_
            refine thenP_exit ?_
            refine inBlk_exit ?_
            refine thenP_normal ?_
            refine W.seqR ?_
            refine LS.vv rfl rfl (by decide) (Val.move rfl) ?_
            refine LS.m rfl (Step.call body35 rfl rfl (by decide) rfl (CallsV.mono (clone_bool (x.eraseIdx i) _ _ _ (hr.below hB) (by omega)) ?_))
            rintro _ w5 ⟨px, cx, rfl, hOc, hb5⟩
            replace hM := hM.add hB.size hb5 hOc
            replace hB := hB.trans (hb5.mono hB.size)
            refine LS.vv rfl rfl (by decide) (Val.move rfl) ?_
            refine LS.m rfl (Step.lit rfl rfl (by decide) Try.underlying22 elem4 rfl rfl (by omega) (by simp [Value.oneCell']) (Nat.le_refl _) ?_)
            rintro w6 hO6 hg6 hbl6 hsz6
            replace hM := hM.add hB.size hbl6 hO6
            try simp only [bv_app1, bv_app, bv_set, bv_rep, bv_one, bv_cons, bv_take, bv_drop, List.nil_append] at hM
            replace hB := hB.trans (hbl6.mono hB.size)
            generalize w5.heap.size = gg6 at *
            refine LS.m rfl (Step.call body34 rfl rfl (by decide) rfl (CallsV.mono (insert_any (x.eraseIdx i) false k _ _ _ w0.heap.size _ [] _ hM hB.size rfl (by omega) (by omega)) ?_))
            rintro _ w7 ⟨p9, c9, rfl, hR9, hb7⟩
            replace hM := Mem.nil w7 w0.heap.size
            replace hB := hB.trans hb7
            refine LS.vv rfl rfl (by decide) (Val.assign rfl) ?_
            refine LS.vv rfl rfl (by decide) (Val.cast (v := .int .i64 ((0 : Nat) : Int)) (Val.assign rfl) rfl) ?_
            refine LS.nil ?_
            refine W.ret ?_
            refine thenP_ret ?_
            refine ret2 (by first | exact .inl rfl | exact .inr rfl) rfl rfl ?_
            first
              | (exfalso; omega)
              | (have hgf : gb x i = false := by cases h : gb x i; rfl; have := hbc2 h; omega
                 have hfr := fill_right x i k false hi (by omega) (by simp; omega)
                 rw [hfr] at hR9
                 exact ⟨p9, c9, by rw [hxl]; rfl, hR9, hB⟩)
              | (have hzo := zeros_ones (x.eraseIdx i) k (by omega)
                 have hfr := fill_right x i k true hi (by omega) (by simp; omega)
                 rw [hfr] at hR9
                 exact ⟨p9, c9, by rw [hxl]; rfl, hR9, hB⟩)
        ·
          refine W.skip ?_
          refine thenP_normal ?_
          refine W.seqR ?_
          refine LS.vv rfl rfl (by decide) (Val.cast (v := .int .i64 ((0 : Nat) : Int)) (Val.assign rfl) rfl) ?_
          refine LS.nil ?_
          refine W.seq ?_
          refine W.seqR ?_
          refine LS.vv rfl rfl (by decide) (Val.move rfl) ?_
          refine LS.vv rfl rfl (by decide) (Val.move rfl) ?_
          first | refine LS.vv rfl rfl (by decide) (Val.addN (j := 1) rfl rfl (by omega)) ?_ | refine LS.vv rfl rfl (by decide) (Val.add64 rfl rfl (by omega)) ?_
          first | refine LS.vv rfl rfl (by decide) (Val.subN rfl rfl (by omega) (by omega)) ?_ | refine LS.vv rfl rfl (by decide) (Val.sub64 rfl rfl (by omega)) ?_
          refine LS.vv rfl rfl (by decide) (Val.assign rfl) ?_
          refine LS.nil ?_
          refine W.block ?_
          refine W.loop (α := Nat) (fun k => [(7, .int .i64 (((behind 1 x i) - (onesOf (x.eraseIdx i) + 1) - (k - onesOf ((x.eraseIdx i).take k)) : Nat) : Int)), (10, .int .i64 (k : Int))]) [(1, _)] (fun k w => (k ≤ (x.eraseIdx i).length ∧ k - onesOf ((x.eraseIdx i).take k) ≤ (behind 1 x i) - (onesOf (x.eraseIdx i) + 1)) ∧ Mem w w0.heap.size [] ∧ Below w0.heap.size w0 w) (fun k => (x.eraseIdx i).length - k) (0) (Sub.cons rfl (Sub.cons rfl (Sub.nil _))) (Sub.cons rfl (Sub.nil _)) ?_ ?_
          · exact ⟨⟨Nat.zero_le _, by omega⟩, hM, hB⟩
          rintro k w8 ⟨⟨hk, hok⟩, hM, hB⟩
          try simp only at hM
          simp only [List.cons_append, List.nil_append]
          have hkp : k = (x.eraseIdx i).length → onesOf ((x.eraseIdx i).take k) = onesOf (x.eraseIdx i) := fun h => by rw [h, List.take_length]
          have hol2 := onesOf_le ((x.eraseIdx i).take k)
          rw [List.length_take] at hol2
          refine W.seq ?_
          refine W.seqR ?_
          refine LS.vv rfl rfl (by decide) (Val.move rfl) ?_
          refine LS.vv rfl rfl (by decide) (Val.gtr rfl rfl) ?_
          refine LS.nil ?_
          first | refine W.condD rfl (fun hc6 => ?_) (fun hc6 => ?_) | refine W.cond rfl (fun hc6 => ?_) (fun hc6 => ?_)
          ·
            refine W.skip ?_
            refine thenP_normal ?_
            refine W.seq ?_
            refine W.block ?_
            refine W.reg ?_
            refine LS.vv rfl rfl (by decide) (Val.move rfl) ?_
            refine LS.vv rfl rfl (by decide) (Val.move rfl) ?_
            refine LS.vv rfl rfl (by decide) (Val.move rfl) ?_
            refine LS.vv rfl rfl (by decide) (Val.move rfl) ?_
            first | refine LS.vv rfl rfl (by decide) (Val.addN (j := 1) rfl rfl (by omega)) ?_ | refine LS.vv rfl rfl (by decide) (Val.add64 rfl rfl (by omega)) ?_
            refine LS.vv rfl rfl (by decide) (Val.sliceFromTo Try.underlying22 elem4 rfl rfl rfl (by omega) (by omega)) ?_
            have hot := onesOf_take_succ (x.eraseIdx i) k (by omega)
            have hbit : (if gb (x.eraseIdx i) k = true then 1 else 0) ≤ 1 := by split <;> omega
            refine LS.m rfl (Step.call body33 rfl rfl (by decide) rfl (CallsV.mono (ones_any (((x.eraseIdx i).drop k).take 1) _ _ _ _ (((hr.below hB).cut_bv hc).take_bv (k := 1)) (by simp; omega) (by omega)) ?_))
            rintro _ w9 ⟨rfl, hb9⟩
            replace hM := hM.below hb9
            replace hB := hB.trans (hb9.mono hB.size)
            rw [ones_one (by omega)]
            first | refine LS.vv rfl rfl (by decide) (Val.subN (i := 1) rfl rfl (by omega) (by omega)) ?_ | refine LS.vv rfl rfl (by decide) (Val.sub64 rfl rfl (by omega)) ?_
            first | refine LS.vv rfl rfl (by decide) (Val.subN rfl rfl (by omega) (by omega)) ?_ | refine LS.vv rfl rfl (by decide) (Val.sub64 rfl rfl (by omega)) ?_
            refine LS.vv rfl rfl (by decide) (Val.assign rfl) ?_
            refine LS.nil ?_
            refine inBlk_normal ?_
            refine thenP_normal ?_
            refine W.reg ?_
            refine LS.vv rfl rfl (by decide) (Val.move rfl) ?_
            first | refine LS.vv rfl rfl (by decide) (Val.addN (j := 1) rfl rfl (by omega)) ?_ | refine LS.vv rfl rfl (by decide) (Val.add64 rfl rfl (by omega)) ?_
            refine LS.vv rfl rfl (by decide) (Val.assign rfl) ?_
            refine LS.nil ?_
            refine thenP_normal ?_
            refine ⟨k + 1, ?_, ?_, ⟨⟨by omega, by omega⟩, hM, hB⟩, by omega⟩
            · exact Sub.cons' rfl (by refine congrArg (Value.int .i64) ?_; omega) (Sub.cons rfl (Sub.nil _))
            · repeat (first | exact Sub.nil _ | refine Sub.cons rfl ?_)
          ·
            refine W.exit ?_
            refine thenP_exit ?_
            refine thenP_exit ?_
            refine inBlk_exit ?_
            refine thenP_normal ?_
            refine W.seqR ?_
            refine LS.vv rfl rfl (by decide) (Val.move rfl) ?_
            refine LS.m rfl (Step.call body35 rfl rfl (by decide) rfl (CallsV.mono (clone_bool (x.eraseIdx i) _ _ _ (hr.below hB) (by omega)) ?_))
            rintro _ w10 ⟨px, cx, rfl, hOc, hb10⟩
            replace hM := hM.add hB.size hb10 hOc
            replace hB := hB.trans (hb10.mono hB.size)
            refine LS.vv rfl rfl (by decide) (Val.move rfl) ?_
            refine LS.m rfl (Step.lit rfl rfl (by decide) Try.underlying22 elem4 rfl rfl (by omega) (by simp [Value.oneCell']) (Nat.le_refl _) ?_)
            rintro w11 hO11 hg11 hbl11 hsz11
            replace hM := hM.add hB.size hbl11 hO11
            try simp only [bv_app1, bv_app, bv_set, bv_rep, bv_one, bv_cons, bv_take, bv_drop, List.nil_append] at hM
            replace hB := hB.trans (hbl11.mono hB.size)
            generalize w10.heap.size = gg11 at *
            refine LS.m rfl (Step.call body34 rfl rfl (by decide) rfl (CallsV.mono (insert_any (x.eraseIdx i) true k _ _ _ w0.heap.size _ [] _ hM hB.size rfl (by omega) (by omega)) ?_))
            rintro _ w12 ⟨p9, c9, rfl, hR9, hb12⟩
            replace hM := Mem.nil w12 w0.heap.size
            replace hB := hB.trans hb12
            refine LS.vv rfl rfl (by decide) (Val.assign rfl) ?_
            refine LS.vv rfl rfl (by decide) (Val.cast (v := .int .i64 ((0 : Nat) : Int)) (Val.assign rfl) rfl) ?_
            refine LS.nil ?_
            refine W.ret ?_
            refine ret2 (by first | exact .inl rfl | exact .inr rfl) rfl rfl ?_
            first
              | (exfalso; omega)
              | (have hgf : gb x i = false := by cases h : gb x i; rfl; have := hbc2 h; omega
                 have hfr := fill_right x i k false hi (by omega) (by simp; omega)
                 rw [hfr] at hR9
                 exact ⟨p9, c9, by rw [hxl]; rfl, hR9, hB⟩)
              | (have hzo := zeros_ones (x.eraseIdx i) k (by omega)
                 have hfr := fill_right x i k true hi (by omega) (by simp; omega)
                 rw [hfr] at hR9
                 exact ⟨p9, c9, by rw [hxl]; rfl, hR9, hB⟩)

end Go.Proofs.Ytpogedmkmplckaa
