/-
  The walks of package hamm: power, pointer, Put.
-/
import Derived.Test.YtbbmgcmibgdkiaaLib
import Derived.Test.YtbbmgcmibgdkiaaHammPlain
import Derived.Test.YtbbmgcmibgdkiaaVtree
namespace Go.Proofs.Ytbbmgcmibgdkiaa
open Go Go.RowKit V
set_option linter.unusedVariables false

theorem pw_dec (i : Nat) : decide ((((i + 1) &&& (i + 1 - 1) : Nat) : Int) = ((0 : Nat) : Int)) = pw i := by
  rw [Nat.add_sub_cancel]
  unfold pw
  cases h : ((i + 1) &&& i == 0)
  · rw [decide_eq_false_iff_not]; intro e; rw [Int.ofNat_inj.1 e] at h; cases h
  · rw [decide_eq_true_iff]; rw [eq_of_beq h]
theorem pow_cast (m : Nat) : Value.int .i64 ((1 <<< m : Nat) : Int) = .int .i64 ((2 ^ m : Nat) : Int) := by rw [Nat.shiftLeft_eq, Nat.one_mul]
theorem ptTo_le {l : List Bool} {k : Nat} (h : k < 256) : ptTo l k < 256 := ptTo_lt (r := 8) h

theorem power_any (i : Nat) (w0 : World) (hi : i ≤ 1000) :
    CallsV Try.prog 47 #[.int .i64 ((i + 1 : Nat) : Int)] w0 (fun v w => v = .bool (pw i) ∧ Below w0.heap.size w0 w) := by
  refine enter1 Try.func47 rfl Try.ntmps47 (by simp) rfl ?_
  have hB := Below.refl w0.heap.size w0
  simp only [argLoc]
  refine W.seqR ?_
  refine LS.vv rfl rfl (by decide) (Val.assign rfl) ?_
  refine LS.nil ?_
  refine W.seqR ?_
  refine LS.vv rfl rfl (by decide) (Val.move rfl) ?_
  refine LS.vv rfl rfl (by decide) (Val.move rfl) ?_
  first | refine LS.vv rfl rfl (by decide) (Val.subN (j := 1) rfl rfl (by omega) (by omega)) ?_ | refine LS.vv rfl rfl (by decide) (Val.sub64 rfl rfl (by omega)) ?_
  refine LS.vv rfl rfl (by decide) (Val.and64 rfl rfl (by omega) (by omega)) ?_
  refine LS.vv rfl rfl (by decide) (Val.cast (v := .bool (pw i)) (Val.eql rfl rfl) (by exact congrArg Value.bool (pw_dec i))) ?_
  refine LS.vv rfl rfl (by decide) (Val.assign rfl) ?_
  refine LS.nil ?_
  refine W.ret ?_
  refine ret1 (by first | exact .inl rfl | exact .inr rfl) rfl ?_
  exact ⟨rfl, hB⟩

theorem pointer_any (d : List Bool) (p : Option Addr) (c : Nat) (n : Nat) (w0 : World) (hr : Rd w0 p (bv d)) (hn : d.length = n) (hl : n ≤ 200) :
    CallsV Try.prog 48 #[.slice p n c] w0 (fun v w => v = .int .i64 (pt d : Int) ∧ Below w0.heap.size w0 w) := by
  refine enter1 Try.func48 rfl Try.ntmps48 (by simp) rfl ?_
  have hB := Below.refl w0.heap.size w0
  simp only [argLoc]
  refine W.seqR ?_
  refine LS.vv rfl rfl (by decide) (Val.cast (v := .int .i64 ((0 : Nat) : Int)) (Val.assign rfl) rfl) ?_
  refine LS.nil ?_
  refine W.seqR ?_
  refine LS.vv rfl rfl (by decide) (Val.cast (v := .int .i64 ((0 : Nat) : Int)) (Val.assign rfl) rfl) ?_
  refine LS.nil ?_
  refine W.seq ?_
  refine W.seqR ?_
  refine LS.vv rfl rfl (by decide) (Val.move rfl) ?_
  refine LS.vv rfl rfl (by decide) (Val.len Try.underlying23 rfl) ?_
  refine LS.vv rfl rfl (by decide) (Val.cast (v := .int .i64 ((0 : Nat) : Int)) (Val.move rfl) rfl) ?_
  refine LS.nil ?_
  refine W.block ?_
  refine W.loop (α := Nat) (fun k => [(3, .int .i64 (ptTo d k : Int)), (8, .int .i64 (k : Int))]) [(6, _), (7, _)] (fun k w => k ≤ n ∧ Below w0.heap.size w0 w) (fun k => n - k) (0) (Sub.cons rfl (Sub.cons rfl (Sub.nil _))) (Sub.cons rfl (Sub.cons rfl (Sub.nil _))) ?_ ?_
  · exact ⟨Nat.zero_le _, hB⟩
  rintro k w1 ⟨hk, hB⟩
  simp only [List.cons_append, List.nil_append]
  have hle := ptTo_le (l := d) (show k < 256 by omega)
  refine W.seqR ?_
  refine LS.vv rfl rfl (by decide) (Val.lss rfl rfl) ?_
  refine LS.nil ?_
  refine W.seq ?_
  first | refine W.condD rfl (fun hc1 => ?_) (fun hc1 => ?_) | refine W.cond rfl (fun hc1 => ?_) (fun hc1 => ?_)
  ·
    refine W.skip ?_
    refine thenP_normal ?_
    refine W.seq ?_
    refine W.block ?_
    refine W.seqR ?_
    refine LS.vv rfl rfl (by decide) (Val.move rfl) ?_
    refine LS.vv rfl rfl (by decide) (Val.index1 Try.underlying23 elem4 rfl rfl (by omega) hr (bv_lt (by omega))) ?_
    refine LS.m rfl (Step.load rfl rfl (by decide) flat4 rfl (hr.below hB) (bv_at (by omega)) ?_)
    refine LS.vv rfl rfl (by decide) (Val.assign rfl) ?_
    refine LS.vv rfl rfl (by decide) (Val.assign rfl) ?_
    refine LS.nil ?_
    refine W.seqR ?_
    refine LS.vv rfl rfl (by decide) (Val.move rfl) ?_
    refine LS.nil ?_
    first | refine W.condD rfl (fun hc2 => ?_) (fun hc2 => ?_) | refine W.cond rfl (fun hc2 => ?_) (fun hc2 => ?_)
    ·
      refine W.reg ?_
      refine LS.vv rfl rfl (by decide) (Val.move rfl) ?_
      refine LS.vv rfl rfl (by decide) (Val.move rfl) ?_
      first | refine LS.vv rfl rfl (by decide) (Val.addN (j := 1) rfl rfl (by omega)) ?_ | refine LS.vv rfl rfl (by decide) (Val.add64 rfl rfl (by omega)) ?_
      refine LS.vv rfl rfl (by decide) (Val.xor64 rfl rfl (by omega) (by omega)) ?_
      refine LS.vv rfl rfl (by decide) (Val.assign rfl) ?_
      refine LS.nil ?_
      refine inBlk_normal ?_
      refine thenP_normal ?_
      refine W.reg ?_
      first | refine LS.vv rfl rfl (by decide) (Val.addN (j := 1) rfl rfl (by omega)) ?_ | refine LS.vv rfl rfl (by decide) (Val.add64 rfl rfl (by omega)) ?_
      refine LS.vv rfl rfl (by decide) (Val.move rfl) ?_
      refine LS.nil ?_
      refine thenP_normal ?_
      refine ⟨k + 1, ?_, ?_, ⟨by omega, hB⟩, by omega⟩
      · exact Sub.cons' rfl (by rw [ptTo_succ, ‹gb d k = _›]; rfl) (Sub.cons rfl (Sub.nil _))
      · repeat (first | exact Sub.nil _ | refine Sub.cons rfl ?_)
    ·
      refine W.skip ?_
      refine inBlk_normal ?_
      refine thenP_normal ?_
      refine W.reg ?_
      first | refine LS.vv rfl rfl (by decide) (Val.addN (j := 1) rfl rfl (by omega)) ?_ | refine LS.vv rfl rfl (by decide) (Val.add64 rfl rfl (by omega)) ?_
      refine LS.vv rfl rfl (by decide) (Val.move rfl) ?_
      refine LS.nil ?_
      refine thenP_normal ?_
      refine ⟨k + 1, ?_, ?_, ⟨by omega, hB⟩, by omega⟩
      · exact Sub.cons' rfl (by rw [ptTo_succ, ‹gb d k = _›]; rfl) (Sub.cons rfl (Sub.nil _))
      · repeat (first | exact Sub.nil _ | refine Sub.cons rfl ?_)
  ·
    refine W.exit ?_
    refine thenP_exit ?_
    refine thenP_exit ?_
    refine inBlk_exit ?_
    refine thenP_normal ?_
    refine W.seqR ?_
    refine LS.vv rfl rfl (by decide) (Val.move rfl) ?_
    refine LS.vv rfl rfl (by decide) (Val.assign rfl) ?_
    refine LS.nil ?_
    refine W.ret ?_
    refine ret1 (by first | exact .inl rfl | exact .inr rfl) rfl ?_
    exact ⟨by rw [pt, hn, show k = n by omega], hB⟩

theorem putG_any (m : Nat) (d : List Bool) (p : Option Addr) (c : Nat) (w0 : World) (hr : Rd w0 p (bv d)) (h2 : 2 ≤ m) (h4 : m ≤ 4) (hd : d.length = 2 ^ m - 1 - m) :
    CallsV Try.prog 24 #[.int .i64 (m : Int), .slice p d.length c] w0 (fun v w => ∃ (p2 : Option Addr) (c2 : Nat), v = .tuple #[.slice p2 (2 ^ m - 1) c2, .int .i64 0] ∧ Own w w0.heap.size 4 p2 (2 ^ m - 1) c2 (bv (wordOf m d)) ∧ Below w0.heap.size w0 w) := by
  refine enter2 Try.func24 rfl Try.ntmps24 (by simp) rfl ?_
  have hB := Below.refl w0.heap.size w0
  simp only [argLoc, Nat.zero_add]
  have hp2 : 2 ^ 2 ≤ 2 ^ m := Nat.pow_le_pow_right (by omega) h2
  have hp4 : 2 ^ m ≤ 2 ^ 4 := Nat.pow_le_pow_right (by omega) h4
  have hsh : (1 : Nat) <<< m = 2 ^ m := by rw [Nat.shiftLeft_eq, Nat.one_mul]
  have hcn := (pw_iff h2 h4 (show 0 < 2 ^ m - 1 by omega)).2
  have hmn : m + 1 ≤ 2 ^ m := Nat.lt_two_pow_self
  generalize hN : 2 ^ m - 1 = n at *
  refine W.seqR ?_
  refine LS.vv rfl rfl (by decide) (Val.assign rfl) ?_
  refine LS.vv rfl rfl (by decide) (Val.cast (v := .int .i64 ((0 : Nat) : Int)) (Val.assign rfl) rfl) ?_
  refine LS.nil ?_
  refine W.seq ?_
  refine W.seqR ?_
  refine LS.vv rfl rfl (by decide) (Val.move rfl) ?_
  refine LS.vv rfl rfl (by decide) (Val.lss rfl rfl) ?_
  refine LS.vv rfl rfl (by decide) (Val.move rfl) ?_
  refine LS.split 2 rfl (fun hg1 => ?_) (fun hg1 => ?_)
  ·
    first | (have hg1p := of_decide_eq_true hg1) | skip
    refine LS.s rfl rfl rfl hg1 (by decide) ?_
    refine LS.s rfl rfl rfl hg1 (by decide) ?_
    refine LS.vv rfl rfl (by decide) (Val.pickT rfl hg1 rfl) ?_
    refine LS.nil ?_
    refine W.condT rfl ?_
    refine W.seqR ?_
    refine LS.vv rfl rfl (by decide) (Val.assign rfl) ?_
    refine LS.vv rfl rfl (by decide) (Val.cast (v := .int .i64 ((4 : Nat) : Int)) (Val.assign rfl) rfl) ?_
    refine LS.nil ?_
    refine W.ret ?_
    refine thenP_ret ?_
    refine ret2 (by first | exact .inl rfl | exact .inr rfl) rfl rfl ?_
    first | (exfalso; omega) | (obtain rfl : q = m := (by omega); refine ⟨_, _, rfl, ?_, hB⟩; unfold wordOf; rw [hN]; exact hO)
  ·
    first | (have hg1p := of_decide_eq_false hg1) | skip
    refine LS.vg rfl rfl rfl hg1 (by decide) (Val.move rfl) ?_
    refine LS.vg rfl rfl rfl hg1 (by decide) (Val.gtr rfl rfl) ?_
    refine LS.vv rfl rfl (by decide) (Val.pickF rfl hg1 rfl) ?_
    refine LS.nil ?_
    first | refine W.condD rfl (fun hc2 => ?_) (fun hc2 => ?_) | refine W.cond rfl (fun hc2 => ?_) (fun hc2 => ?_)
    ·
      exfalso; omega
    ·
      refine W.skip ?_
      refine thenP_normal ?_
      refine W.seqR ?_
      refine LS.vv rfl rfl (by decide) (Val.move rfl) ?_
      refine LS.vv rfl rfl (by decide) (Val.shl64 (i := 1) rfl rfl (by omega) (by omega)) ?_
      refine LS.vv rfl rfl (by decide) (Val.cast (v := .int .i64 (n : Int)) (Val.subN (j := 1) rfl rfl (by omega) (by omega)) (by rw [hsh, hN])) ?_
      refine LS.vv rfl rfl (by decide) (Val.assign rfl) ?_
      refine LS.nil ?_
      refine W.seq ?_
      refine W.seqR ?_
      refine LS.vv rfl rfl (by decide) (Val.move rfl) ?_
      refine LS.vv rfl rfl (by decide) (Val.len Try.underlying23 rfl) ?_
      refine LS.vv rfl rfl (by decide) (Val.move rfl) ?_
      refine LS.vv rfl rfl (by decide) (Val.move rfl) ?_
      first | refine LS.vv rfl rfl (by decide) (Val.subN rfl rfl (by omega) (by omega)) ?_ | refine LS.vv rfl rfl (by decide) (Val.sub64 rfl rfl (by omega)) ?_
      refine LS.vv rfl rfl (by decide) (Val.neq rfl rfl) ?_
      refine LS.nil ?_
      first | refine W.condD rfl (fun hc3 => ?_) (fun hc3 => ?_) | refine W.cond rfl (fun hc3 => ?_) (fun hc3 => ?_)
      ·
        exfalso; omega
      ·
        refine W.skip ?_
        refine thenP_normal ?_
        refine W.seqR ?_
        refine LS.vv rfl rfl (by decide) (Val.move rfl) ?_
        refine LS.m rfl (Step.make (B := w0.heap.size) rfl rfl (by decide) Try.underlying23 elem4 rfl rfl rfl (by omega) (by omega) hB.size ?_)
        rintro w1 hO1 hg1 hbl1
        replace hB := hB.trans (hbl1.mono hB.size)
        have hO := hO1
        generalize hPL : (some ⟨_, 0, none⟩ : Option Addr) = PL at *
        have hz0 : List.replicate n (Value.bool false) = bv (fillTo n d 0) := by simp [fillTo, iter, zeros, bv]
        rw [hz0] at hO
        refine LS.vv rfl rfl (by decide) (Val.assign rfl) ?_
        refine LS.nil ?_
        refine W.seqR ?_
        refine LS.vv rfl rfl (by decide) (Val.cast (v := .int .i64 ((0 : Nat) : Int)) (Val.assign rfl) rfl) ?_
        refine LS.nil ?_
        refine W.seq ?_
        refine W.seqR ?_
        refine LS.vv rfl rfl (by decide) (Val.move rfl) ?_
        refine LS.vv rfl rfl (by decide) (Val.len Try.underlying23 rfl) ?_
        refine LS.vv rfl rfl (by decide) (Val.cast (v := .int .i64 ((0 : Nat) : Int)) (Val.move rfl) rfl) ?_
        refine LS.nil ?_
        refine W.block ?_
        refine W.loop (α := Nat) (fun k => [(8, .int .i64 (cntTo k : Int)), (31, .int .i64 (k : Int))]) [(0, _), (1, _), (7, _), (30, _)] (fun k w => (k ≤ n ∧ Own w w0.heap.size 4 PL n n (bv (fillTo n d k))) ∧ Below w0.heap.size w0 w) (fun k => n - k) (0) (Sub.cons rfl (Sub.cons rfl (Sub.nil _))) (Sub.cons rfl (Sub.cons rfl (Sub.cons rfl (Sub.cons rfl (Sub.nil _))))) ?_ ?_
        · exact ⟨⟨Nat.zero_le _, hO⟩, hB⟩
        rintro k w2 ⟨⟨hk, hO⟩, hB⟩
        simp only [List.cons_append, List.nil_append]
        have hcl := cntTo_le k
        refine W.seqR ?_
        refine LS.vv rfl rfl (by decide) (Val.lss rfl rfl) ?_
        refine LS.nil ?_
        refine W.seq ?_
        first | refine W.condD rfl (fun hc4 => ?_) (fun hc4 => ?_) | refine W.cond rfl (fun hc4 => ?_) (fun hc4 => ?_)
        ·
          refine W.skip ?_
          refine thenP_normal ?_
          refine W.seq ?_
          refine W.block ?_
          refine W.seqR ?_
          refine LS.vv rfl rfl (by decide) (Val.move rfl) ?_
          refine LS.vv rfl rfl (by decide) (Val.assign rfl) ?_
          refine LS.nil ?_
          refine W.seqR ?_
          refine LS.vv rfl rfl (by decide) (Val.move rfl) ?_
          first | refine LS.vv rfl rfl (by decide) (Val.addN (j := 1) rfl rfl (by omega)) ?_ | refine LS.vv rfl rfl (by decide) (Val.add64 rfl rfl (by omega)) ?_
          refine LS.m rfl (Step.call body47 rfl rfl (by decide) rfl (CallsV.mono (power_any k _ (by omega)) ?_))
          rintro _ w3 ⟨rfl, hb3⟩
          replace hB := hB.trans (hb3.mono hB.size)
          replace hO := hO.below hb3
          refine LS.vv rfl rfl (by decide) (Val.not rfl) ?_
          refine LS.nil ?_
          first | refine W.condD rfl (fun hc5 => ?_) (fun hc5 => ?_) | refine W.cond rfl (fun hc5 => ?_) (fun hc5 => ?_)
          ·
            refine W.seqR ?_
            refine LS.vv rfl rfl (by decide) (Val.move rfl) ?_
            refine LS.vv rfl rfl (by decide) (Val.move rfl) ?_
            refine LS.vv rfl rfl (by decide) (Val.move rfl) ?_
            refine LS.vv rfl rfl (by decide) (Val.move rfl) ?_
            have hpk : pw k = false := by simpa using ‹(!pw k) = true›
            have hcm := cntTo_mono (show k + 1 ≤ n by omega)
            rw [cntTo_succ, hpk] at hcm
            simp only [Bool.false_eq_true, if_false] at hcm
            refine LS.vv rfl rfl (by decide) (Val.index1 Try.underlying23 elem4 rfl rfl (by omega) hr (bv_lt (by omega))) ?_
            refine LS.m rfl (Step.load rfl rfl (by decide) flat4 rfl (hr.below hB) (bv_at (by omega)) ?_)
            refine LS.vv rfl rfl (by decide) (Val.index1 Try.underlying23 elem4 rfl rfl (by omega) hO.rd (bv_lt (by rw [fillTo_len]; omega))) ?_
            refine LS.m rfl (Step.store (B := w0.heap.size) rfl rfl flat4 elem4 rfl rfl rfl (hO) (by omega) hB.size ?_)
            rintro w4 hO4 hg4 hbl4 hsz4
            have hO2 := hO4
            replace hB := hB.trans hbl4
            refine LS.nil ?_
            refine W.reg ?_
            refine LS.vv rfl rfl (by decide) (Val.move rfl) ?_
            first | refine LS.vv rfl rfl (by decide) (Val.addN (j := 1) rfl rfl (by omega)) ?_ | refine LS.vv rfl rfl (by decide) (Val.add64 rfl rfl (by omega)) ?_
            refine LS.vv rfl rfl (by decide) (Val.assign rfl) ?_
            refine LS.nil ?_
            refine inBlk_normal ?_
            refine thenP_normal ?_
            refine W.reg ?_
            first | refine LS.vv rfl rfl (by decide) (Val.addN (j := 1) rfl rfl (by omega)) ?_ | refine LS.vv rfl rfl (by decide) (Val.add64 rfl rfl (by omega)) ?_
            refine LS.vv rfl rfl (by decide) (Val.move rfl) ?_
            refine LS.nil ?_
            refine thenP_normal ?_
            refine ⟨k + 1, ?_, ?_, ⟨⟨by omega, ?_⟩, hB⟩, by omega⟩
            · refine Sub.cons' rfl ?_ (Sub.cons rfl (Sub.nil _))
              rw [cntTo_succ]
              first | (simp only [hpk, Bool.false_eq_true, if_false]; done) | (rw [if_pos (show pw k = true by simpa using ‹(!pw k) = false›)])
            · repeat (first | exact Sub.nil _ | refine Sub.cons rfl ?_)
            · rw [fillTo_succ]
              first | (rw [if_neg (show ¬ pw k = true by rw [hpk]; decide), bv, List.map_set]; exact hO2) | (rw [if_pos (show pw k = true by simpa using ‹(!pw k) = false›)]; exact hO)
          ·
            refine W.skip ?_
            refine inBlk_normal ?_
            refine thenP_normal ?_
            refine W.reg ?_
            first | refine LS.vv rfl rfl (by decide) (Val.addN (j := 1) rfl rfl (by omega)) ?_ | refine LS.vv rfl rfl (by decide) (Val.add64 rfl rfl (by omega)) ?_
            refine LS.vv rfl rfl (by decide) (Val.move rfl) ?_
            refine LS.nil ?_
            refine thenP_normal ?_
            refine ⟨k + 1, ?_, ?_, ⟨⟨by omega, ?_⟩, hB⟩, by omega⟩
            · refine Sub.cons' rfl ?_ (Sub.cons rfl (Sub.nil _))
              rw [cntTo_succ]
              first | (simp only [hpk, Bool.false_eq_true, if_false]; done) | (rw [if_pos (show pw k = true by simpa using ‹(!pw k) = false›)])
            · repeat (first | exact Sub.nil _ | refine Sub.cons rfl ?_)
            · rw [fillTo_succ]
              first | (rw [if_neg (show ¬ pw k = true by rw [hpk]; decide), bv, List.map_set]; exact hO2) | (rw [if_pos (show pw k = true by simpa using ‹(!pw k) = false›)]; exact hO)
        ·
          have hkn : k = n := by omega
          rw [hkn] at hO
          refine W.exit ?_
          refine thenP_exit ?_
          refine thenP_exit ?_
          refine inBlk_exit ?_
          refine thenP_normal ?_
          refine W.seqR ?_
          refine LS.vv rfl rfl (by decide) (Val.move rfl) ?_
          refine LS.m rfl (Step.call body48 rfl rfl (by decide) rfl (CallsV.mono (pointer_any _ _ _ n _ hO.rd (fillTo_len _ _ _) (by omega)) ?_))
          rintro _ w5 ⟨rfl, hb5⟩
          replace hB := hB.trans (hb5.mono hB.size)
          replace hO := hO.below hb5
          have hpl : pt (fillTo n d n) < 256 := by (unfold pt; rw [fillTo_len]; exact ptTo_le (by omega))
          refine LS.vv rfl rfl (by decide) (Val.assign rfl) ?_
          refine LS.nil ?_
          refine W.seq ?_
          refine W.seqR ?_
          refine LS.vv rfl rfl (by decide) (Val.move rfl) ?_
          refine LS.vv rfl rfl (by decide) (Val.cast (v := .int .i64 ((0 : Nat) : Int)) (Val.move rfl) rfl) ?_
          refine LS.nil ?_
          refine W.block ?_
          refine W.loop (α := Nat) (fun q => [(51, .int .i64 (q : Int))]) [(7, _), (10, _), (50, _)] (fun q w => (q ≤ m ∧ Own w w0.heap.size 4 PL n n (bv (setTo (pt (fillTo n d n)) (fillTo n d n) q))) ∧ Below w0.heap.size w0 w) (fun q => m - q) (0) (Sub.cons rfl (Sub.nil _)) (Sub.cons rfl (Sub.cons rfl (Sub.cons rfl (Sub.nil _)))) ?_ ?_
          · exact ⟨⟨Nat.zero_le _, hO⟩, hB⟩
          rintro q w6 ⟨⟨hq, hO⟩, hB⟩
          simp only [List.cons_append, List.nil_append]
          refine W.seqR ?_
          refine LS.vv rfl rfl (by decide) (Val.lss rfl rfl) ?_
          refine LS.nil ?_
          refine W.seq ?_
          first | refine W.condD rfl (fun hc6 => ?_) (fun hc6 => ?_) | refine W.cond rfl (fun hc6 => ?_) (fun hc6 => ?_)
          ·
            refine W.skip ?_
            refine thenP_normal ?_
            refine W.seq ?_
            refine W.block ?_
            refine W.seqR ?_
            refine LS.vv rfl rfl (by decide) (Val.move rfl) ?_
            refine LS.vv rfl rfl (by decide) (Val.assign rfl) ?_
            refine LS.nil ?_
            refine W.regD (S := fun w => Below w0.heap.size w0 w) [(0, true), (1, true), (2, true), (3, true), (4, true), (5, true), (6, true), (7, true), (8, true), (9, true), (10, false)] mixed (by kernel_rfl) hB.drew ?_
            replace hB := hB.drew
            replace hO := hO.drew
            refine DX.vv rfl rfl rfl (by decide) (Val.move rfl) ?_
            refine DX.vv rfl rfl rfl (by decide) (Val.move rfl) ?_
            have hpk : 2 ^ q < 2 ^ m := Nat.pow_lt_pow_right (by omega) (by omega)
            have hq0 := Nat.two_pow_pos q
            have hshq : (1 : Nat) <<< q = 2 ^ q := by rw [Nat.shiftLeft_eq, Nat.one_mul]
            have hsr : pt (fillTo n d n) >>> q ≤ pt (fillTo n d n) := Nat.shiftRight_le _ _
            refine DX.vv rfl rfl rfl (by decide) (Val.cast (v := .int .i64 ((2 ^ q : Nat) : Int)) (Val.shl64 (i := 1) rfl rfl (by omega) (by omega)) (by exact pow_cast q)) ?_
            first | refine DX.vv rfl rfl rfl (by decide) (Val.subN (j := 1) rfl rfl (by omega) (by omega)) ?_ | refine DX.vv rfl rfl rfl (by decide) (Val.sub64 rfl rfl (by omega)) ?_
            refine DX.vv rfl rfl rfl (by decide) (Val.move rfl) ?_
            refine DX.vv rfl rfl rfl (by decide) (Val.move rfl) ?_
            refine DX.vv rfl rfl rfl (by decide) (Val.shr rfl rfl (by simp only [IntKind.bits]; omega)) ?_
            refine DX.vv rfl rfl rfl (by decide) (Val.and64 (j := 1) rfl rfl (by omega) (by omega)) ?_
            refine DX.vv rfl rfl rfl (by decide) (Val.cast (v := .bool ((pt (fillTo n d n)).testBit q)) (Val.eql rfl rfl) (by exact congrArg Value.bool (bit_eq _ q))) ?_
            refine DX.vv rfl rfl rfl (by decide) (Val.index1 Try.underlying23 elem4 rfl rfl (by omega) hO.rd (bv_lt (by rw [setTo_len, fillTo_len]; omega))) ?_
            refine DX.m rfl rfl (Step.store (B := w0.heap.size) rfl rfl flat4 elem4 rfl rfl rfl (hO) (by omega) hB.size ?_)
            rintro w7 hO7 hg7 hbl7 hsz7
            have hO2 := hO7
            replace hB := hB.trans hbl7
            refine ⟨hB, ?_⟩
            refine DX.nil ?_
            refine inBlk_normal ?_
            refine thenP_normal ?_
            refine W.reg ?_
            first | refine LS.vv rfl rfl (by decide) (Val.addN (j := 1) rfl rfl (by omega)) ?_ | refine LS.vv rfl rfl (by decide) (Val.add64 rfl rfl (by omega)) ?_
            refine LS.vv rfl rfl (by decide) (Val.move rfl) ?_
            refine LS.nil ?_
            refine thenP_normal ?_
            refine ⟨q + 1, ?_, ?_, ⟨⟨by omega, ?_⟩, hB⟩, by omega⟩
            · exact Sub.cons rfl (Sub.nil _)
            · repeat (first | exact Sub.nil _ | refine Sub.cons rfl ?_)
            · rw [setTo_succ, bv, List.map_set]; exact hO2
          ·
            refine W.exit ?_
            refine thenP_exit ?_
            refine thenP_exit ?_
            refine inBlk_exit ?_
            refine thenP_normal ?_
            refine W.seqR ?_
            refine LS.vv rfl rfl (by decide) (Val.move rfl) ?_
            refine LS.vv rfl rfl (by decide) (Val.assign rfl) ?_
            refine LS.vv rfl rfl (by decide) (Val.cast (v := .int .i64 ((0 : Nat) : Int)) (Val.assign rfl) rfl) ?_
            refine LS.nil ?_
            refine W.ret ?_
            refine ret2 (by first | exact .inl rfl | exact .inr rfl) rfl rfl ?_
            first | (exfalso; omega) | (obtain rfl : q = m := (by omega); refine ⟨_, _, rfl, ?_, hB⟩; unfold wordOf; rw [hN]; exact hO)

end Go.Proofs.Ytbbmgcmibgdkiaa
