/-
  The walk of ball.Ball; the statement BallSize.
-/
import Derived.Test.YtclobhnclogaoaaBallS
namespace Go.Proofs.Ytclobhnclogaoaa
open Go Go.RowKit V
set_option linter.unusedVariables false

def flt (a r k : Nat) : List Nat := (List.range k).filter fun w => decide (popc (w ^^^ a) ≤ r)
theorem flt_pos {a r k : Nat} (h : popc (k ^^^ a) ≤ r) : flt a r (k + 1) = flt a r k ++ [k] := by simp [flt, List.range_succ, List.filter_append, h]
theorem flt_neg {a r k : Nat} (h : ¬ popc (k ^^^ a) ≤ r) : flt a r (k + 1) = flt a r k := by simp [flt, List.range_succ, List.filter_append]; omega
theorem flt_len (a r k : Nat) : (flt a r k).length ≤ k := by have := List.length_filter_le (fun w => decide (popc (w ^^^ a) ≤ r)) (List.range k); rw [List.length_range] at this; exact this
theorem flt_ball {n a r : Nat} (ha : a < 2 ^ n) : (flt a r (2 ^ n)).length = ballN n r := by rw [← ball_any_centre ha, flt, ← List.countP_eq_length_filter]

theorem ball_any (n r : Int) (a : Nat) (w0 : World) (ha : a < 4294967296) :
    CallsV Try.prog 25 #[.int .i64 n, .int .u32 (a : Int), .int .i64 r] w0 (fun v w => ∃ (p : Option Addr) (l c e : Nat), v = .tuple #[.slice p l c, .int .i64 (e : Int)] ∧ (e = 0 ↔ OkW n [a] ∧ 0 ≤ r ∧ r ≤ n) ∧ (e = 0 → l = ballN n.toNat r.toNat) ∧ Below w0.heap.size w0 w) := by
  refine enter2 Try.func25 rfl Try.ntmps25 (by simp) rfl ?_
  have hB := Below.refl w0.heap.size w0
  simp only [argLoc, Nat.zero_add, Nat.reduceAdd]
  refine W.seqR ?_
  refine LS.vv rfl rfl (by decide) (Val.assign rfl) ?_
  refine LS.vv rfl rfl (by decide) (Val.cast (v := .int .i64 ((0 : Nat) : Int)) (Val.assign rfl) rfl) ?_
  refine LS.nil ?_
  refine W.seq ?_
  refine W.seqR ?_
  refine LS.vv rfl rfl (by decide) (Val.move rfl) ?_
  refine LS.vv rfl rfl (by decide) (Val.move rfl) ?_
  refine LS.m rfl (Step.lit (B := w0.heap.size) rfl rfl (by decide) Try.underlying44 elem27 rfl rfl (by omega) (by simp [Value.oneCell']) hB.size ?_)
  rintro w1 hO1 hg1 hbl1 hsz1
  replace hB := hB.trans (hbl1.mono hB.size)
  refine LS.m rfl (Step.call body36 rfl rfl (by decide) rfl (CallsV.mono (ballCheck_any n [a] _ _ _ hO1.rd (by simp) (by simp; omega)) ?_))
  rintro _ w2 ⟨e, rfl, he, hb2⟩
  replace hB := hB.trans (hb2.mono hB.size)
  refine LS.vv rfl rfl (by decide) (Val.assign rfl) ?_
  refine LS.nil ?_
  refine W.seqR ?_
  refine LS.vv rfl rfl (by decide) (Val.move rfl) ?_
  refine LS.vv rfl rfl (by decide) (Val.neq rfl rfl) ?_
  refine LS.nil ?_
  first | refine W.condD rfl (fun hc1 => ?_) (fun hc1 => ?_) | refine W.cond rfl (fun hc1 => ?_) (fun hc1 => ?_)
  ·
    refine W.seqR ?_
    refine LS.vv rfl rfl (by decide) (Val.move rfl) ?_
    refine LS.vv rfl rfl (by decide) (Val.assign rfl) ?_
    refine LS.vv rfl rfl (by decide) (Val.assign rfl) ?_
    refine LS.nil ?_
    refine W.ret ?_
    refine thenP_ret ?_
    refine ret2 (by first | exact .inl rfl | exact .inr rfl) rfl rfl ?_
    first | (refine ⟨none, 0, 0, e, rfl, ⟨fun h => by omega, fun h => he.2 h.1⟩, fun h => by omega, hB⟩) | (refine ⟨none, 0, 0, 4, rfl, ⟨fun h => by omega, fun h => by (exfalso; omega)⟩, fun h => by omega, hB⟩) | (obtain rfl : k = 1 <<< m := (by omega); exact ⟨_, _, _, 0, rfl, ⟨fun _ => ⟨he.1 (by omega), by omega, by omega⟩, fun _ => rfl⟩, fun _ => by (rw [hpe]; exact flt_ball ham), hB⟩)
  ·
    refine W.skip ?_
    refine thenP_normal ?_
    refine W.seq ?_
    refine W.seqR ?_
    refine LS.vv rfl rfl (by decide) (Val.move rfl) ?_
    refine LS.vv rfl rfl (by decide) (Val.lss rfl rfl) ?_
    refine LS.vv rfl rfl (by decide) (Val.move rfl) ?_
    refine LS.split 2 rfl (fun hg2 => ?_) (fun hg2 => ?_)
    ·
      first | (have hg2p := of_decide_eq_true hg2) | skip
      refine LS.s rfl rfl rfl hg2 (by decide) ?_
      refine LS.s rfl rfl rfl hg2 (by decide) ?_
      refine LS.s rfl rfl rfl hg2 (by decide) ?_
      refine LS.vv rfl rfl (by decide) (Val.pickT rfl hg2 rfl) ?_
      refine LS.nil ?_
      refine W.condT rfl ?_
      refine W.seqR ?_
      refine LS.vv rfl rfl (by decide) (Val.assign rfl) ?_
      refine LS.vv rfl rfl (by decide) (Val.cast (v := .int .i64 ((4 : Nat) : Int)) (Val.assign rfl) rfl) ?_
      refine LS.nil ?_
      refine W.ret ?_
      refine thenP_ret ?_
      refine ret2 (by first | exact .inl rfl | exact .inr rfl) rfl rfl ?_
      first | (refine ⟨none, 0, 0, e, rfl, ⟨fun h => by omega, fun h => he.2 h.1⟩, fun h => by omega, hB⟩) | (refine ⟨none, 0, 0, 4, rfl, ⟨fun h => by omega, fun h => by (exfalso; omega)⟩, fun h => by omega, hB⟩) | (obtain rfl : k = 1 <<< m := (by omega); exact ⟨_, _, _, 0, rfl, ⟨fun _ => ⟨he.1 (by omega), by omega, by omega⟩, fun _ => rfl⟩, fun _ => by (rw [hpe]; exact flt_ball ham), hB⟩)
    ·
      first | (have hg2p := of_decide_eq_false hg2) | skip
      refine LS.vg rfl rfl rfl hg2 (by decide) (Val.move rfl) ?_
      refine LS.vg rfl rfl rfl hg2 (by decide) (Val.move rfl) ?_
      refine LS.vg rfl rfl rfl hg2 (by decide) (Val.gtr rfl rfl) ?_
      refine LS.vv rfl rfl (by decide) (Val.pickF rfl hg2 rfl) ?_
      refine LS.nil ?_
      first | refine W.condD rfl (fun hc3 => ?_) (fun hc3 => ?_) | refine W.cond rfl (fun hc3 => ?_) (fun hc3 => ?_)
      ·
        refine W.seqR ?_
        refine LS.vv rfl rfl (by decide) (Val.assign rfl) ?_
        refine LS.vv rfl rfl (by decide) (Val.cast (v := .int .i64 ((4 : Nat) : Int)) (Val.assign rfl) rfl) ?_
        refine LS.nil ?_
        refine W.ret ?_
        refine thenP_ret ?_
        refine ret2 (by first | exact .inl rfl | exact .inr rfl) rfl rfl ?_
        first | (refine ⟨none, 0, 0, e, rfl, ⟨fun h => by omega, fun h => he.2 h.1⟩, fun h => by omega, hB⟩) | (refine ⟨none, 0, 0, 4, rfl, ⟨fun h => by omega, fun h => by (exfalso; omega)⟩, fun h => by omega, hB⟩) | (obtain rfl : k = 1 <<< m := (by omega); exact ⟨_, _, _, 0, rfl, ⟨fun _ => ⟨he.1 (by omega), by omega, by omega⟩, fun _ => rfl⟩, fun _ => by (rw [hpe]; exact flt_ball ham), hB⟩)
      ·
        obtain ⟨m, rfl⟩ := Int.eq_ofNat_of_zero_le (show 0 ≤ n by have := (he.1 (by omega)).1; omega)
        obtain ⟨q, rfl⟩ := Int.eq_ofNat_of_zero_le (show 0 ≤ r by omega)
        have hm12 : m ≤ 12 := by have := (he.1 (by omega)).2.1; omega
        have ham : a < 2 ^ m := by have := (he.1 (by omega)).2.2 a (by simp); simpa using this
        have hpw : (1 : Nat) <<< m ≤ 8192 := by (rw [Nat.shiftLeft_eq, Nat.one_mul]; exact Nat.pow_le_pow_right (n := 2) (j := 13) (by decide) (by omega))
        have hpe : (1 : Nat) <<< m = 2 ^ m := by rw [Nat.shiftLeft_eq, Nat.one_mul]
        refine W.skip ?_
        refine thenP_normal ?_
        refine W.seqR ?_
        refine LS.vv rfl rfl (by decide) (Val.assign rfl) ?_
        refine LS.nil ?_
        refine W.seq ?_
        refine W.seqR ?_
        refine LS.vv rfl rfl (by decide) (Val.move rfl) ?_
        refine LS.vv rfl rfl (by decide) (Val.shlU32 (i := 1) rfl rfl (by omega) (by omega)) ?_
        refine LS.vv rfl rfl (by decide) (Val.cast (v := .int .u32 ((0 : Nat) : Int)) (Val.move rfl) rfl) ?_
        refine LS.nil ?_
        refine W.block ?_
        refine W.loop (α := Nat × Option Addr × Nat) (fun g => [(9, .slice g.2.1 (flt a q g.1).length g.2.2), (27, .int .u32 (g.1 : Int))]) [(1, _), (2, _), (26, _)] (fun g w => (g.1 ≤ 1 <<< m ∧ Own w w0.heap.size 27 g.2.1 (flt a q g.1).length g.2.2 (uv (flt a q g.1))) ∧ Below w0.heap.size w0 w) (fun g => 1 <<< m - g.1) ((0, none, 0)) (Sub.cons rfl (Sub.cons rfl (Sub.nil _))) (Sub.cons rfl (Sub.cons rfl (Sub.cons rfl (Sub.nil _)))) ?_ ?_
        · exact ⟨⟨Nat.zero_le _, Own.nil _ _ _⟩, hB⟩
        rintro ⟨k, p1, c1⟩ w3 ⟨⟨hk, hO⟩, hB⟩
        simp only [List.cons_append, List.nil_append]
        simp only at hk hO
        have hfl := flt_len a q k
        refine W.seqR ?_
        refine LS.vv rfl rfl (by decide) (Val.lss rfl rfl) ?_
        refine LS.nil ?_
        refine W.seq ?_
        first | refine W.condD rfl (fun hc4 => ?_) (fun hc4 => ?_) | refine W.cond rfl (fun hc4 => ?_) (fun hc4 => ?_)
        ·
          have hxo : k ^^^ a < 2 ^ 32 := Nat.xor_lt_two_pow (by omega) (by omega)
          refine W.skip ?_
          refine thenP_normal ?_
          refine W.seq ?_
          refine W.block ?_
          refine W.seqR ?_
          refine LS.vv rfl rfl (by decide) (Val.move rfl) ?_
          refine LS.vv rfl rfl (by decide) (Val.assign rfl) ?_
          refine LS.nil ?_
          refine W.seqR ?_
          refine LS.vv rfl rfl (by decide) (Val.move rfl) ?_
          refine LS.vv rfl rfl (by decide) (Val.move rfl) ?_
          refine LS.vv rfl rfl (by decide) (Val.xorU32 rfl rfl (by omega) (by omega)) ?_
          refine LS.m rfl (Step.call body32 rfl rfl (by decide) rfl (CallsV.mono (ones32_any _ _ hxo) ?_))
          rintro _ w4 ⟨rfl, hb4⟩
          replace hB := hB.trans (hb4.mono hB.size)
          replace hO := hO.below hb4
          refine LS.vv rfl rfl (by decide) (Val.move rfl) ?_
          refine LS.vv rfl rfl (by decide) (Val.leq rfl rfl) ?_
          refine LS.nil ?_
          first | refine W.condD rfl (fun hc5 => ?_) (fun hc5 => ?_) | refine W.cond rfl (fun hc5 => ?_) (fun hc5 => ?_)
          ·
            refine W.reg ?_
            refine LS.vv rfl rfl (by decide) (Val.move rfl) ?_
            refine LS.vv rfl rfl (by decide) (Val.move rfl) ?_
            refine LS.m rfl (Step.lit (B := w0.heap.size) rfl rfl (by decide) Try.underlying44 elem27 rfl rfl (by omega) (by simp [Value.oneCell']) hB.size ?_)
            rintro w5 hO5 hg5 hbl5 hsz5
            replace hB := hB.trans (hbl5.mono hB.size)
            replace hO := hO.below hbl5
            refine LS.m rfl (Step.append (B := w0.heap.size) rfl rfl (by decide) Try.underlying44 elem27 rfl rfl rfl rfl (hO) (hO5.rd) (rfl) ((by simp [Value.oneCell'])) (by omega) (by omega) hB.size ?_)
            rintro p6 c6 w6 hO6 hg6 hbl6
            replace hB := hB.trans hbl6
            refine LS.vv rfl rfl (by decide) (Val.assign rfl) ?_
            refine LS.nil ?_
            refine inBlk_normal ?_
            refine thenP_normal ?_
            refine W.reg ?_
            first | refine LS.vv rfl rfl (by decide) (Val.addNU32 (j := 1) rfl rfl (by omega)) ?_ | refine LS.vv rfl rfl (by decide) (Val.addU32 rfl rfl (by omega)) ?_
            refine LS.vv rfl rfl (by decide) (Val.move rfl) ?_
            refine LS.nil ?_
            refine thenP_normal ?_
            first
              | (have hfp := flt_pos (show popc (k ^^^ a) ≤ q by omega)
                 refine ⟨(k + 1, p6, c6), ?_, ?_, ⟨⟨by simp only; omega, ?_⟩, hB⟩, by simp only; omega⟩
                 · exact Sub.cons' rfl (by simp only [hfp, List.length_append]; rfl) (Sub.cons rfl (Sub.nil _))
                 · repeat (first | exact Sub.nil _ | refine Sub.cons rfl ?_)
                 · simp only [hfp, uv, List.map_append, List.length_append]; first | exact hO6 | exact hO7 | exact hO6 | exact hO8)
              | (have hfp := flt_neg (show ¬ popc (k ^^^ a) ≤ q by omega)
                 refine ⟨(k + 1, p1, c1), ?_, ?_, ⟨⟨by simp only; omega, ?_⟩, hB⟩, by simp only; omega⟩
                 · exact Sub.cons' rfl (by simp only [hfp]) (Sub.cons rfl (Sub.nil _))
                 · repeat (first | exact Sub.nil _ | refine Sub.cons rfl ?_)
                 · simp only [hfp]; exact hO)
          ·
            refine W.skip ?_
            refine inBlk_normal ?_
            refine thenP_normal ?_
            refine W.reg ?_
            first | refine LS.vv rfl rfl (by decide) (Val.addNU32 (j := 1) rfl rfl (by omega)) ?_ | refine LS.vv rfl rfl (by decide) (Val.addU32 rfl rfl (by omega)) ?_
            refine LS.vv rfl rfl (by decide) (Val.move rfl) ?_
            refine LS.nil ?_
            refine thenP_normal ?_
            first
              | (have hfp := flt_pos (show popc (k ^^^ a) ≤ q by omega)
                 refine ⟨(k + 1, p6, c6), ?_, ?_, ⟨⟨by simp only; omega, ?_⟩, hB⟩, by simp only; omega⟩
                 · exact Sub.cons' rfl (by simp only [hfp, List.length_append]; rfl) (Sub.cons rfl (Sub.nil _))
                 · repeat (first | exact Sub.nil _ | refine Sub.cons rfl ?_)
                 · simp only [hfp, uv, List.map_append, List.length_append]; first | exact hO6 | exact hO7 | exact hO6 | exact hO8)
              | (have hfp := flt_neg (show ¬ popc (k ^^^ a) ≤ q by omega)
                 refine ⟨(k + 1, p1, c1), ?_, ?_, ⟨⟨by simp only; omega, ?_⟩, hB⟩, by simp only; omega⟩
                 · exact Sub.cons' rfl (by simp only [hfp]) (Sub.cons rfl (Sub.nil _))
                 · repeat (first | exact Sub.nil _ | refine Sub.cons rfl ?_)
                 · simp only [hfp]; exact hO)
        ·
          refine W.exit ?_
          refine thenP_exit ?_
          refine thenP_exit ?_
          refine inBlk_exit ?_
          refine thenP_normal ?_
          refine W.seqR ?_
          refine LS.vv rfl rfl (by decide) (Val.move rfl) ?_
          refine LS.vv rfl rfl (by decide) (Val.assign rfl) ?_
          refine LS.vv rfl rfl (by decide) (Val.cast (v := .int .i64 ((0 : Nat) : Int)) (Val.assign rfl) rfl) ?_
          refine LS.nil ?_
          refine W.ret ?_
          refine ret2 (by first | exact .inl rfl | exact .inr rfl) rfl rfl ?_
          first | (refine ⟨none, 0, 0, e, rfl, ⟨fun h => by omega, fun h => he.2 h.1⟩, fun h => by omega, hB⟩) | (refine ⟨none, 0, 0, 4, rfl, ⟨fun h => by omega, fun h => by (exfalso; omega)⟩, fun h => by omega, hB⟩) | (obtain rfl : k = 1 <<< m := (by omega); exact ⟨_, _, _, 0, rfl, ⟨fun _ => ⟨he.1 (by omega), by omega, by omega⟩, fun _ => rfl⟩, fun _ => by (rw [hpe]; exact flt_ball ham), hB⟩)

theorem ballSize_any (n : Int) (a : Nat) (r : Int) (w0 : World) (ha : a < 4294967296) :
    CallsV Try.prog 7 #[.int .i64 n, .int .u32 (a : Int), .int .i64 r] w0 (fun v w => v = .bool true ∧ Below w0.heap.size w0 w) := by
  refine enter1 Try.func7 rfl Try.ntmps7 (by simp) rfl ?_
  have hB := Below.refl w0.heap.size w0
  simp only [argLoc, Nat.zero_add, Nat.reduceAdd]
  refine W.seqR ?_
  refine LS.vv rfl rfl (by decide) (Val.assign rfl) ?_
  refine LS.nil ?_
  refine W.seqR ?_
  refine LS.vv rfl rfl (by decide) (Val.move rfl) ?_
  refine LS.vv rfl rfl (by decide) (Val.move rfl) ?_
  refine LS.vv rfl rfl (by decide) (Val.move rfl) ?_
  refine LS.m rfl (Step.call body25 rfl rfl (by decide) rfl (CallsV.mono (ball_any n r a _ ha) ?_))
  rintro _ w1 ⟨p1, l, c1, e, rfl, he, hl, hb1⟩
  replace hB := hB.trans (hb1.mono hB.size)
  refine LS.vv rfl rfl (by decide) (Val.move rfl) ?_
  refine LS.vv rfl rfl (by decide) (Val.extract rfl rfl) ?_
  refine LS.vv rfl rfl (by decide) (Val.extract rfl rfl) ?_
  refine LS.vv rfl rfl (by decide) (Val.assign rfl) ?_
  refine LS.vv rfl rfl (by decide) (Val.assign rfl) ?_
  refine LS.nil ?_
  refine W.seqR ?_
  refine LS.vv rfl rfl (by decide) (Val.move rfl) ?_
  refine LS.vv rfl rfl (by decide) (Val.move rfl) ?_
  refine LS.m rfl (Step.call body26 rfl rfl (by decide) rfl (CallsV.mono (bsize_any n r _) ?_))
  rintro _ w2 ⟨M, f, rfl, hf, hM, hb2⟩
  replace hB := hB.trans (hb2.mono hB.size)
  refine LS.vv rfl rfl (by decide) (Val.move rfl) ?_
  refine LS.vv rfl rfl (by decide) (Val.extract rfl rfl) ?_
  refine LS.vv rfl rfl (by decide) (Val.extract rfl rfl) ?_
  refine LS.vv rfl rfl (by decide) (Val.assign rfl) ?_
  refine LS.vv rfl rfl (by decide) (Val.assign rfl) ?_
  refine LS.nil ?_
  refine W.seq ?_
  refine W.seqR ?_
  refine LS.vv rfl rfl (by decide) (Val.move rfl) ?_
  refine LS.vv rfl rfl (by decide) (Val.move rfl) ?_
  refine LS.m rfl (Step.lit (B := w0.heap.size) rfl rfl (by decide) Try.underlying44 elem27 rfl rfl (by omega) (by simp [Value.oneCell']) hB.size ?_)
  rintro w3 hO3 hg3 hbl3 hsz3
  replace hB := hB.trans (hbl3.mono hB.size)
  refine LS.m rfl (Step.call body17 rfl rfl (by decide) rfl (CallsV.mono (below_any n [a] _ _ _ hO3.rd (by simp) (by simp; omega)) ?_))
  rintro _ w4 ⟨b, rfl, hbb, hb4⟩
  replace hB := hB.trans (hb4.mono hB.size)
  refine LS.vv rfl rfl (by decide) (Val.not rfl) ?_
  refine LS.vv rfl rfl (by decide) (Val.move rfl) ?_
  refine LS.split 5 rfl (fun hg1 => ?_) (fun hg1 => ?_)
  ·
    first | (have hg1p := of_decide_eq_true hg1) | skip
    refine LS.s rfl rfl rfl hg1 (by decide) ?_
    refine LS.s rfl rfl rfl hg1 (by decide) ?_
    refine LS.vv rfl rfl (by decide) (Val.pickT rfl hg1 rfl) ?_
    refine LS.vv rfl rfl (by decide) (Val.move rfl) ?_
    refine LS.s rfl rfl rfl rfl (by decide) ?_
    refine LS.s rfl rfl rfl rfl (by decide) ?_
    refine LS.s rfl rfl rfl rfl (by decide) ?_
    refine LS.vv rfl rfl (by decide) (Val.pickT rfl rfl rfl) ?_
    refine LS.nil ?_
    refine W.condT rfl ?_
    refine W.seqR ?_
    refine LS.vv rfl rfl (by decide) (Val.move rfl) ?_
    refine LS.vv rfl rfl (by decide) (Val.cast (v := .bool true) (Val.neq rfl rfl) (by refine congrArg Value.bool (decide_eq_true ?_); intro h0; obtain ⟨k1, k2⟩ := he.1 (by omega); first | (have := hbb.2 k1; simp_all; done) | omega)) ?_
    refine LS.vv rfl rfl (by decide) (Val.assign rfl) ?_
    refine LS.nil ?_
    refine W.ret ?_
    refine thenP_ret ?_
    refine ret1 (by first | exact .inl rfl | exact .inr rfl) rfl ?_
    first | exact ⟨rfl, hB⟩ | (exfalso; omega)
  ·
    first | (have hg1p := of_decide_eq_false hg1) | skip
    refine LS.vg rfl rfl rfl hg1 (by decide) (Val.move rfl) ?_
    refine LS.vg rfl rfl rfl hg1 (by decide) (Val.lss rfl rfl) ?_
    refine LS.vv rfl rfl (by decide) (Val.pickF rfl hg1 rfl) ?_
    refine LS.vv rfl rfl (by decide) (Val.move rfl) ?_
    refine LS.split 9 rfl (fun hg2 => ?_) (fun hg2 => ?_)
    ·
      first | (have hg2p := of_decide_eq_true hg2) | skip
      refine LS.s rfl rfl rfl hg2 (by decide) ?_
      refine LS.s rfl rfl rfl hg2 (by decide) ?_
      refine LS.s rfl rfl rfl hg2 (by decide) ?_
      refine LS.vv rfl rfl (by decide) (Val.pickT rfl hg2 rfl) ?_
      refine LS.nil ?_
      refine W.condT rfl ?_
      refine W.seqR ?_
      refine LS.vv rfl rfl (by decide) (Val.move rfl) ?_
      refine LS.vv rfl rfl (by decide) (Val.cast (v := .bool true) (Val.neq rfl rfl) (by refine congrArg Value.bool (decide_eq_true ?_); intro h0; obtain ⟨k1, k2⟩ := he.1 (by omega); first | (have := hbb.2 k1; simp_all; done) | omega)) ?_
      refine LS.vv rfl rfl (by decide) (Val.assign rfl) ?_
      refine LS.nil ?_
      refine W.ret ?_
      refine thenP_ret ?_
      refine ret1 (by first | exact .inl rfl | exact .inr rfl) rfl ?_
      first | exact ⟨rfl, hB⟩ | (exfalso; omega)
    ·
      first | (have hg2p := of_decide_eq_false hg2) | skip
      refine LS.vg rfl rfl rfl hg2 (by decide) (Val.move rfl) ?_
      refine LS.vg rfl rfl rfl hg2 (by decide) (Val.move rfl) ?_
      refine LS.vg rfl rfl rfl hg2 (by decide) (Val.gtr rfl rfl) ?_
      refine LS.vv rfl rfl (by decide) (Val.pickF rfl hg2 rfl) ?_
      refine LS.nil ?_
      first | refine W.condD rfl (fun hc3 => ?_) (fun hc3 => ?_) | refine W.cond rfl (fun hc3 => ?_) (fun hc3 => ?_)
      ·
        refine W.seqR ?_
        refine LS.vv rfl rfl (by decide) (Val.move rfl) ?_
        refine LS.vv rfl rfl (by decide) (Val.cast (v := .bool true) (Val.neq rfl rfl) (by refine congrArg Value.bool (decide_eq_true ?_); intro h0; obtain ⟨k1, k2⟩ := he.1 (by omega); first | (have := hbb.2 k1; simp_all; done) | omega)) ?_
        refine LS.vv rfl rfl (by decide) (Val.assign rfl) ?_
        refine LS.nil ?_
        refine W.ret ?_
        refine thenP_ret ?_
        refine ret1 (by first | exact .inl rfl | exact .inr rfl) rfl ?_
        first | exact ⟨rfl, hB⟩ | (exfalso; omega)
      ·
        have hbt := hbb.1 (by simp_all)
        have k1 : e = 0 := he.2 ⟨hbt, by omega, by omega⟩
        have k2 : f = 0 := hf.2 ⟨hbt.1, hbt.2.1, by omega, by omega⟩
        have k3 := hl k1
        have k4 := hM k2
        have hbt1 := hbt.1
        have hbt2 := hbt.2.1
        obtain ⟨m, rfl⟩ := Int.eq_ofNat_of_zero_le hbt1
        obtain ⟨q, rfl⟩ := Int.eq_ofNat_of_zero_le (show 0 ≤ r by omega)
        simp only [Int.toNat_natCast] at k3 k4
        have hps := ballN_pos m q
        refine W.skip ?_
        refine thenP_normal ?_
        refine W.seqR ?_
        refine LS.vv rfl rfl (by decide) (Val.move rfl) ?_
        refine LS.vv rfl rfl (by decide) (Val.cast (v := .bool true) (Val.eql rfl rfl) (by simp; omega)) ?_
        refine LS.vv rfl rfl (by decide) (Val.move rfl) ?_
        refine LS.vg rfl rfl rfl rfl (by decide) (Val.move rfl) ?_
        refine LS.vg rfl rfl rfl rfl (by decide) (Val.cast (v := .bool true) (Val.eql rfl rfl) (by simp; omega)) ?_
        refine LS.vv rfl rfl (by decide) (Val.pickT rfl rfl rfl) ?_
        refine LS.vv rfl rfl (by decide) (Val.move rfl) ?_
        refine LS.vg rfl rfl rfl rfl (by decide) (Val.move rfl) ?_
        refine LS.vg rfl rfl rfl rfl (by decide) (Val.len Try.underlying44 rfl) ?_
        refine LS.vg rfl rfl rfl rfl (by decide) (Val.move rfl) ?_
        refine LS.vg rfl rfl rfl rfl (by decide) (Val.cast (v := .bool true) (Val.eql rfl rfl) (by simp; omega)) ?_
        refine LS.vv rfl rfl (by decide) (Val.pickT rfl rfl rfl) ?_
        refine LS.vv rfl rfl (by decide) (Val.move rfl) ?_
        refine LS.vg rfl rfl rfl rfl (by decide) (Val.move rfl) ?_
        refine LS.vg rfl rfl rfl rfl (by decide) (Val.cast (v := .bool true) (Val.geq rfl rfl) (by simp; omega)) ?_
        refine LS.vv rfl rfl (by decide) (Val.pickT rfl rfl rfl) ?_
        refine LS.vv rfl rfl (by decide) (Val.move rfl) ?_
        refine LS.vg rfl rfl rfl rfl (by decide) (Val.move rfl) ?_
        refine LS.vg rfl rfl rfl rfl (by decide) (Val.move rfl) ?_
        refine LS.vg rfl rfl rfl rfl (by decide) (Val.lss rfl rfl) ?_
        refine LS.vg rfl rfl rfl rfl (by decide) (Val.move rfl) ?_
        refine LS.split 20 rfl (fun hg4 => ?_) (fun hg4 => ?_)
        ·
          first | (have hg4p := of_decide_eq_true hg4) | skip
          refine LS.s rfl rfl rfl hg4 (by decide) ?_
          refine LS.s rfl rfl rfl hg4 (by decide) ?_
          refine LS.s rfl rfl rfl hg4 (by decide) ?_
          refine LS.s rfl rfl rfl hg4 (by decide) ?_
          refine LS.s rfl rfl rfl hg4 (by decide) ?_
          refine LS.vg rfl rfl rfl rfl (by decide) (Val.pickT rfl hg4 rfl) ?_
          refine LS.vv rfl rfl (by decide) (Val.pickT rfl rfl rfl) ?_
          refine LS.vv rfl rfl (by decide) (Val.move rfl) ?_
          refine LS.vg rfl rfl rfl rfl (by decide) (Val.move rfl) ?_
          refine LS.vg rfl rfl rfl rfl (by decide) (Val.gtr rfl rfl) ?_
          refine LS.vg rfl rfl rfl rfl (by decide) (Val.move rfl) ?_
          refine LS.split 31 rfl (fun hg5 => ?_) (fun hg5 => ?_)
          ·
            first | (have hg5p := of_decide_eq_true hg5) | skip
            refine LS.s rfl rfl rfl hg5 (by decide) ?_
            refine LS.s rfl rfl rfl hg5 (by decide) ?_
            refine LS.vg rfl rfl rfl rfl (by decide) (Val.pickT rfl hg5 rfl) ?_
            refine LS.vv rfl rfl (by decide) (Val.pickT rfl rfl rfl) ?_
            refine LS.vv rfl rfl (by decide) (Val.assign rfl) ?_
            refine LS.nil ?_
            refine W.ret ?_
            refine ret1 (by first | exact .inl rfl | exact .inr rfl) rfl ?_
            first | exact ⟨rfl, hB⟩ | (exfalso; omega)
          ·
            first | (have hg5p := of_decide_eq_false hg5) | skip
            refine LS.vg rfl rfl rfl hg5 (by decide) (Val.move rfl) ?_
            have hM1 : M = 1 := by (have hx := hM k2; rw [show ((q : Nat) : Int).toNat = 0 by omega, show ((m : Nat) : Int).toNat = m from rfl, ballN_zero_r m (by omega)] at hx; exact hx)
            refine LS.vg rfl rfl rfl hg5 (by decide) (Val.cast (v := .bool true) (Val.eql rfl rfl) (by simp; omega)) ?_
            refine LS.vg rfl rfl rfl rfl (by decide) (Val.pickF rfl hg5 rfl) ?_
            refine LS.vv rfl rfl (by decide) (Val.pickT rfl rfl rfl) ?_
            refine LS.vv rfl rfl (by decide) (Val.assign rfl) ?_
            refine LS.nil ?_
            refine W.ret ?_
            refine ret1 (by first | exact .inl rfl | exact .inr rfl) rfl ?_
            first | exact ⟨rfl, hB⟩ | (exfalso; omega)
        ·
          first | (have hg4p := of_decide_eq_false hg4) | skip
          refine LS.vg rfl rfl rfl hg4 (by decide) (Val.move rfl) ?_
          refine LS.vg rfl rfl rfl hg4 (by decide) (Val.move rfl) ?_
          refine LS.vg rfl rfl rfl hg4 (by decide) (Val.conv rfl Try.underlying3 Try.underlying47 (IntWalk.u64_in _ (by omega))) ?_
          have hpw : (1 : Nat) <<< m ≤ 8192 := by (rw [Nat.shiftLeft_eq, Nat.one_mul]; exact Nat.pow_le_pow_right (n := 2) (j := 13) (by decide) (by omega))
          refine LS.vg rfl rfl rfl hg4 (by decide) (Val.shl64 (i := 1) rfl rfl (by omega) (by omega)) ?_
          have hqm : q = m := by omega
          have hal := ballN_all (Nat.le_refl m)
          have hpe : (1 : Nat) <<< m = 2 ^ m := by rw [Nat.shiftLeft_eq, Nat.one_mul]
          rw [hqm, hal, ← hpe] at k4
          refine LS.vg rfl rfl rfl hg4 (by decide) (Val.cast (v := .bool true) (Val.eql rfl rfl) (by exact congrArg Value.bool (decide_eq_true (congrArg Int.ofNat k4)))) ?_
          refine LS.vg rfl rfl rfl rfl (by decide) (Val.pickF rfl hg4 rfl) ?_
          refine LS.vv rfl rfl (by decide) (Val.pickT rfl rfl rfl) ?_
          refine LS.vv rfl rfl (by decide) (Val.move rfl) ?_
          refine LS.vg rfl rfl rfl rfl (by decide) (Val.move rfl) ?_
          refine LS.vg rfl rfl rfl rfl (by decide) (Val.gtr rfl rfl) ?_
          refine LS.vg rfl rfl rfl rfl (by decide) (Val.move rfl) ?_
          refine LS.split 31 rfl (fun hg6 => ?_) (fun hg6 => ?_)
          ·
            first | (have hg6p := of_decide_eq_true hg6) | skip
            refine LS.s rfl rfl rfl hg6 (by decide) ?_
            refine LS.s rfl rfl rfl hg6 (by decide) ?_
            refine LS.vg rfl rfl rfl rfl (by decide) (Val.pickT rfl hg6 rfl) ?_
            refine LS.vv rfl rfl (by decide) (Val.pickT rfl rfl rfl) ?_
            refine LS.vv rfl rfl (by decide) (Val.assign rfl) ?_
            refine LS.nil ?_
            refine W.ret ?_
            refine ret1 (by first | exact .inl rfl | exact .inr rfl) rfl ?_
            first | exact ⟨rfl, hB⟩ | (exfalso; omega)
          ·
            first | (have hg6p := of_decide_eq_false hg6) | skip
            refine LS.vg rfl rfl rfl hg6 (by decide) (Val.move rfl) ?_
            have hM1 : M = 1 := by (have hx := hM k2; rw [show ((q : Nat) : Int).toNat = 0 by omega, show ((m : Nat) : Int).toNat = m from rfl, ballN_zero_r m (by omega)] at hx; exact hx)
            refine LS.vg rfl rfl rfl hg6 (by decide) (Val.cast (v := .bool true) (Val.eql rfl rfl) (by simp; omega)) ?_
            refine LS.vg rfl rfl rfl rfl (by decide) (Val.pickF rfl hg6 rfl) ?_
            refine LS.vv rfl rfl (by decide) (Val.pickT rfl rfl rfl) ?_
            refine LS.vv rfl rfl (by decide) (Val.assign rfl) ?_
            refine LS.nil ?_
            refine W.ret ?_
            refine ret1 (by first | exact .inl rfl | exact .inr rfl) rfl ?_
            first | exact ⟨rfl, hB⟩ | (exfalso; omega)

end Go.Proofs.Ytclobhnclogaoaa
