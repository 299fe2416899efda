/-
  The walks of gray.Code, gray.Place and the statement GrayOne.
-/
import Derived.Test.YtpogedmkmplckaaWords
import Derived.Test.YtpogedmkmplckaaGrayPlain
namespace Go.Proofs.Ytpogedmkmplckaa
open Go Go.RowKit V
theorem code_any (n : Int) (i : Nat) (w0 : World) (hi : i < 4294967296) :
    CallsV Try.prog 18 #[.int .i64 n, .int .u32 (i : Int)] w0 (fun v w => ∃ r e : Nat, v = .tuple #[.int .u32 (r : Int), .int .i64 (e : Int)] ∧ (e = 0 ↔ OkW n [i]) ∧ (e = 0 → r = gcode i) ∧ r < 4294967296 ∧ Below w0.heap.size w0 w) := by
  refine enter2 Try.func18 rfl Try.ntmps18 (by simp) rfl ?_
  have hB := Below.refl w0.heap.size w0
  simp only [argLoc, Nat.zero_add]
  have hs : i >>> 1 < 2 ^ 32 := by rw [Nat.shiftRight_eq_div_pow]; omega
  have hg : gcode i < 2 ^ 32 := gcode_lt (by omega)
  refine W.seqR ?_
  refine LS.vv rfl rfl (by decide) (Val.cast (v := .int .u32 ((0 : Nat) : Int)) (Val.assign rfl) rfl) ?_
  refine LS.vv rfl rfl (by decide) (Val.cast (v := .int .i64 ((0 : Nat) : Int)) (Val.assign rfl) rfl) ?_
  refine LS.nil ?_
  refine W.seq ?_
  refine W.seqR ?_
  refine LS.vv rfl rfl (by decide) (Val.move rfl) ?_
  refine LS.vv rfl rfl (by decide) (Val.move rfl) ?_
  refine LS.m rfl (Step.lit (B := w0.heap.size) rfl rfl (by decide) Try.underlying29 elem37 rfl rfl (by omega) (by simp [Value.oneCell']) hB.size ?_)
  rintro w1 hO1 hg1 hbl1 hsz1
  replace hB := hB.trans (hbl1.mono hB.size)
  refine LS.m rfl (Step.call body36 rfl rfl (by decide) rfl (CallsV.mono (ballCheck_any n [i] _ _ _ hO1.rd (by simp) (by simpa using hi)) ?_))
  rintro _ w2 ⟨e, rfl, he, hb2⟩
  replace hB := hB.trans (hb2.mono hB.size)
  refine LS.vv rfl rfl (by decide) (Val.assign rfl) ?_
  refine LS.nil ?_
  refine W.seqR ?_
  refine LS.vv rfl rfl (by decide) (Val.move rfl) ?_
  refine LS.vv rfl rfl (by decide) (Val.neq rfl rfl) ?_
  refine LS.nil ?_
  first | refine W.condD rfl (fun hc1 => ?_) (fun hc1 => ?_) | refine W.cond rfl (fun hc1 => ?_) (fun hc1 => ?_)
  ·
    refine W.seqR ?_
    refine LS.vv rfl rfl (by decide) (Val.move rfl) ?_
    refine LS.vv rfl rfl (by decide) (Val.cast (v := .int .u32 ((0 : Nat) : Int)) (Val.assign rfl) rfl) ?_
    refine LS.vv rfl rfl (by decide) (Val.assign rfl) ?_
    refine LS.nil ?_
    refine W.ret ?_
    refine thenP_ret ?_
    refine ret2 (by first | exact .inl rfl | exact .inr rfl) rfl rfl ?_
    exact ⟨0, e, rfl, he, fun h => by omega, by omega, hB⟩
  ·
    refine W.skip ?_
    refine thenP_normal ?_
    refine W.seqR ?_
    refine LS.vv rfl rfl (by decide) (Val.move rfl) ?_
    refine LS.vv rfl rfl (by decide) (Val.move rfl) ?_
    refine LS.vv rfl rfl (by decide) (Val.shr (j := 1) rfl rfl (by simp only [IntKind.bits]; omega)) ?_
    refine LS.vv rfl rfl (by decide) (Val.xorU32 rfl rfl (by omega) (by omega)) ?_
    refine LS.vv rfl rfl (by decide) (Val.assign rfl) ?_
    refine LS.vv rfl rfl (by decide) (Val.cast (v := .int .i64 ((0 : Nat) : Int)) (Val.assign rfl) rfl) ?_
    refine LS.nil ?_
    refine W.ret ?_
    refine ret2 (by first | exact .inl rfl | exact .inr rfl) rfl rfl ?_
    obtain rfl : e = 0 := by omega
    exact ⟨gcode i, 0, rfl, he, fun _ => rfl, by omega, hB⟩

theorem place_any (n : Int) (x : Nat) (w0 : World) (hx : x < 4294967296) :
    CallsV Try.prog 20 #[.int .i64 n, .int .u32 (x : Int)] w0 (fun v w => ∃ r e : Nat, v = .tuple #[.int .u32 (r : Int), .int .i64 (e : Int)] ∧ (e = 0 ↔ OkW n [x]) ∧ (e = 0 → r = plTo x 32) ∧ Below w0.heap.size w0 w) := by
  refine enter2 Try.func20 rfl Try.ntmps20 (by simp) rfl ?_
  have hB := Below.refl w0.heap.size w0
  simp only [argLoc, Nat.zero_add]
  refine W.seqR ?_
  refine LS.vv rfl rfl (by decide) (Val.cast (v := .int .u32 ((0 : Nat) : Int)) (Val.assign rfl) rfl) ?_
  refine LS.vv rfl rfl (by decide) (Val.cast (v := .int .i64 ((0 : Nat) : Int)) (Val.assign rfl) rfl) ?_
  refine LS.nil ?_
  refine W.seq ?_
  refine W.seqR ?_
  refine LS.vv rfl rfl (by decide) (Val.move rfl) ?_
  refine LS.vv rfl rfl (by decide) (Val.move rfl) ?_
  refine LS.m rfl (Step.lit (B := w0.heap.size) rfl rfl (by decide) Try.underlying29 elem37 rfl rfl (by omega) (by simp [Value.oneCell']) hB.size ?_)
  rintro w1 hO1 hg1 hbl1 hsz1
  replace hB := hB.trans (hbl1.mono hB.size)
  refine LS.m rfl (Step.call body36 rfl rfl (by decide) rfl (CallsV.mono (ballCheck_any n [x] _ _ _ hO1.rd (by simp) (by simpa using hx)) ?_))
  rintro _ w2 ⟨e, rfl, he, hb2⟩
  replace hB := hB.trans (hb2.mono hB.size)
  refine LS.vv rfl rfl (by decide) (Val.assign rfl) ?_
  refine LS.nil ?_
  refine W.seqR ?_
  refine LS.vv rfl rfl (by decide) (Val.move rfl) ?_
  refine LS.vv rfl rfl (by decide) (Val.neq rfl rfl) ?_
  refine LS.nil ?_
  first | refine W.condD rfl (fun hc1 => ?_) (fun hc1 => ?_) | refine W.cond rfl (fun hc1 => ?_) (fun hc1 => ?_)
  ·
    refine W.seqR ?_
    refine LS.vv rfl rfl (by decide) (Val.move rfl) ?_
    refine LS.vv rfl rfl (by decide) (Val.cast (v := .int .u32 ((0 : Nat) : Int)) (Val.assign rfl) rfl) ?_
    refine LS.vv rfl rfl (by decide) (Val.assign rfl) ?_
    refine LS.nil ?_
    refine W.ret ?_
    refine thenP_ret ?_
    refine ret2 (by first | exact .inl rfl | exact .inr rfl) rfl rfl ?_
    exact ⟨0, e, rfl, he, fun h => by omega, hB⟩
  ·
    refine W.skip ?_
    refine thenP_normal ?_
    refine W.seqR ?_
    refine LS.vv rfl rfl (by decide) (Val.cast (v := .int .u32 ((0 : Nat) : Int)) (Val.assign rfl) rfl) ?_
    refine LS.nil ?_
    refine W.seq ?_
    refine W.block ?_
    refine W.loop (α := Nat) (fun k => [(1, .int .u32 ((x >>> k : Nat) : Int)), (7, .int .u32 (plTo x k : Int))]) [] (fun k w => k ≤ 32 ∧ Below w0.heap.size w0 w) (fun k => x >>> k) (0) (Sub.cons rfl (Sub.cons rfl (Sub.nil _))) (Sub.nil _) ?_ ?_
    · exact ⟨Nat.zero_le _, hB⟩
    rintro k w3 ⟨hk, hB⟩
    simp only [List.cons_append, List.nil_append]
    have hp := plTo_lt x k hx
    have hlt : x >>> k < 4294967296 := Nat.lt_of_le_of_lt (by rw [Nat.shiftRight_eq_div_pow]; exact Nat.div_le_self _ _) hx
    refine W.seq ?_
    refine W.seqR ?_
    refine LS.vv rfl rfl (by decide) (Val.move rfl) ?_
    refine LS.vv rfl rfl (by decide) (Val.gtr rfl rfl) ?_
    refine LS.nil ?_
    first | refine W.condD rfl (fun hc2 => ?_) (fun hc2 => ?_) | refine W.cond rfl (fun hc2 => ?_) (fun hc2 => ?_)
    ·
      refine W.skip ?_
      refine thenP_normal ?_
      refine W.seq ?_
      refine W.block ?_
      refine W.reg ?_
      refine LS.vv rfl rfl (by decide) (Val.move rfl) ?_
      refine LS.vv rfl rfl (by decide) (Val.move rfl) ?_
      refine LS.vv rfl rfl (by decide) (Val.xorU32 rfl rfl (by omega) (by omega)) ?_
      refine LS.vv rfl rfl (by decide) (Val.assign rfl) ?_
      refine LS.nil ?_
      refine inBlk_normal ?_
      refine thenP_normal ?_
      refine W.reg ?_
      refine LS.vv rfl rfl (by decide) (Val.move rfl) ?_
      refine LS.vv rfl rfl (by decide) (Val.shr (j := 1) rfl rfl (by simp only [IntKind.bits]; omega)) ?_
      refine LS.vv rfl rfl (by decide) (Val.assign rfl) ?_
      refine LS.nil ?_
      refine thenP_normal ?_
      have hpos : 0 < x >>> k := by omega
      have hk2 : k ≠ 32 := by rintro rfl; rw [shr_zero.2 (by omega)] at hpos; omega
      refine ⟨k + 1, ?_, ?_, ⟨by omega, hB⟩, shr_succ_lt hpos⟩
      · exact Sub.cons rfl (Sub.cons rfl (Sub.nil _))
      · exact Sub.nil _
    ·
      refine W.exit ?_
      refine thenP_exit ?_
      refine thenP_exit ?_
      refine inBlk_exit ?_
      refine thenP_normal ?_
      refine W.seqR ?_
      refine LS.vv rfl rfl (by decide) (Val.move rfl) ?_
      refine LS.vv rfl rfl (by decide) (Val.assign rfl) ?_
      refine LS.vv rfl rfl (by decide) (Val.cast (v := .int .i64 ((0 : Nat) : Int)) (Val.assign rfl) rfl) ?_
      refine LS.nil ?_
      refine W.ret ?_
      refine ret2 (by first | exact .inl rfl | exact .inr rfl) rfl rfl ?_
      obtain rfl : e = 0 := by omega
      refine ⟨plTo x k, 0, rfl, he, fun _ => ?_, hB⟩
      exact (plTo_stable (by generalize x >>> k = y at *; omega) hk).symm

theorem grayOne_any (n : Int) (i : Nat) (w0 : World) (hi : i < 4294967296) :
    CallsV Try.prog 6 #[.int .i64 n, .int .u32 (i : Int)] w0 (fun v w => v = .bool true ∧ Below w0.heap.size w0 w) := by
  refine enter1 Try.func6 rfl Try.ntmps6 (by simp) rfl ?_
  have hB := Below.refl w0.heap.size w0
  simp only [argLoc, Nat.zero_add]
  refine W.seqR ?_
  refine LS.vv rfl rfl (by decide) (Val.assign rfl) ?_
  refine LS.nil ?_
  refine W.seqR ?_
  refine LS.vv rfl rfl (by decide) (Val.move rfl) ?_
  refine LS.vv rfl rfl (by decide) (Val.move rfl) ?_
  refine LS.m rfl (Step.call body18 rfl rfl (by decide) rfl (CallsV.mono (code_any n i _ hi) ?_))
  rintro _ w1 ⟨r1, e1, rfl, he1, hr1, hl1, hb1⟩
  replace hB := hB.trans (hb1.mono hB.size)
  refine LS.vv rfl rfl (by decide) (Val.move rfl) ?_
  refine LS.vv rfl rfl (by decide) (Val.extract rfl rfl) ?_
  refine LS.vv rfl rfl (by decide) (Val.extract rfl rfl) ?_
  refine LS.vv rfl rfl (by decide) (Val.assign rfl) ?_
  refine LS.vv rfl rfl (by decide) (Val.assign rfl) ?_
  refine LS.nil ?_
  refine W.seq ?_
  refine W.seqR ?_
  refine LS.vv rfl rfl (by decide) (Val.move rfl) ?_
  refine LS.vv rfl rfl (by decide) (Val.move rfl) ?_
  refine LS.m rfl (Step.lit (B := w0.heap.size) rfl rfl (by decide) Try.underlying29 elem37 rfl rfl (by omega) (by simp [Value.oneCell']) hB.size ?_)
  rintro w2 hO2 hg2 hbl2 hsz2
  replace hB := hB.trans (hbl2.mono hB.size)
  refine LS.m rfl (Step.call body19 rfl rfl (by decide) rfl (CallsV.mono (below_any n [i] _ _ _ hO2.rd (by simp) (by simpa using hi)) ?_))
  rintro _ w3 ⟨b1, rfl, hb1, hb3⟩
  replace hB := hB.trans (hb3.mono hB.size)
  refine LS.vv rfl rfl (by decide) (Val.not rfl) ?_
  refine LS.nil ?_
  first | refine W.condD rfl (fun hc1 => ?_) (fun hc1 => ?_) | refine W.cond rfl (fun hc1 => ?_) (fun hc1 => ?_)
  ·
    have hbf : b1 = false := by simpa using hc1
    have hno : ¬ OkW n [i] := fun h => by rw [hb1.2 h] at hbf; cases hbf
    have h1 : e1 ≠ 0 := fun h => hno (he1.1 h)
    refine W.seqR ?_
    refine LS.vv rfl rfl (by decide) (Val.move rfl) ?_
    refine LS.vv rfl rfl (by decide) (Val.neq rfl rfl) ?_
    refine LS.vv rfl rfl (by decide) (Val.assign rfl) ?_
    refine LS.nil ?_
    refine W.ret ?_
    refine thenP_ret ?_
    refine ret1 (by first | exact .inl rfl | exact .inr rfl) rfl ?_
    refine ⟨congrArg Value.bool (decide_eq_true ?_), hB⟩
    omega
  ·
    have hbt : b1 = true := by simpa using hc1
    have hok := hb1.1 hbt
    have h1 := he1.2 hok
    have h1r := hr1 h1
    obtain ⟨m, rfl⟩ := Int.eq_ofNat_of_zero_le hok.1
    have hm : m ≤ 12 := by have := hok.2.1; omega
    have him : i < 2 ^ m := by have := hok.2.2 i (by simp); rwa [Int.toNat_natCast] at this
    have hgl := gcode_lt him
    have hok2 : OkW (m : Int) [r1] := ⟨hok.1, hok.2.1, by rw [h1r]; simpa using hgl⟩
    have h12 : 2 ^ m ≤ 2 ^ 12 := Nat.pow_le_pow_right (by omega) hm
    have hsh : 1 <<< m = 2 ^ m := Nat.one_shiftLeft m
    have hpp := Nat.two_pow_pos m
    have hml : (i + 1) % (1 <<< m) < 1 <<< m := Nat.mod_lt _ (by omega)
    refine W.skip ?_
    refine thenP_normal ?_
    refine W.seqR ?_
    refine LS.vv rfl rfl (by decide) (Val.move rfl) ?_
    refine LS.vv rfl rfl (by decide) (Val.move rfl) ?_
    refine LS.m rfl (Step.call body20 rfl rfl (by decide) rfl (CallsV.mono (place_any _ r1 _ hl1) ?_))
    rintro _ w4 ⟨r2, e2, rfl, he2, hr2, hb4⟩
    replace hB := hB.trans (hb4.mono hB.size)
    refine LS.vv rfl rfl (by decide) (Val.move rfl) ?_
    refine LS.vv rfl rfl (by decide) (Val.extract rfl rfl) ?_
    refine LS.vv rfl rfl (by decide) (Val.extract rfl rfl) ?_
    refine LS.vv rfl rfl (by decide) (Val.assign rfl) ?_
    refine LS.vv rfl rfl (by decide) (Val.assign rfl) ?_
    refine LS.nil ?_
    refine W.seq ?_
    refine W.seqR ?_
    refine LS.vv rfl rfl (by decide) (Val.move rfl) ?_
    refine LS.vv rfl rfl (by decide) (Val.neq rfl rfl) ?_
    refine LS.vv rfl rfl (by decide) (Val.move rfl) ?_
    refine LS.split 2 rfl (fun hg2 => ?_) (fun hg2 => ?_)
    ·
      first | (have hg2p := of_decide_eq_true hg2) | skip
      refine LS.s rfl rfl rfl hg2 (by decide) ?_
      refine LS.s rfl rfl rfl hg2 (by decide) ?_
      refine LS.vv rfl rfl (by decide) (Val.pickT rfl hg2 rfl) ?_
      refine LS.vv rfl rfl (by decide) (Val.move rfl) ?_
      refine LS.s rfl rfl rfl rfl (by decide) ?_
      refine LS.s rfl rfl rfl rfl (by decide) ?_
      refine LS.s rfl rfl rfl rfl (by decide) ?_
      refine LS.vv rfl rfl (by decide) (Val.pickT rfl rfl rfl) ?_
      refine LS.vv rfl rfl (by decide) (Val.move rfl) ?_
      refine LS.s rfl rfl rfl rfl (by decide) ?_
      refine LS.s rfl rfl rfl rfl (by decide) ?_
      refine LS.s rfl rfl rfl rfl (by decide) ?_
      refine LS.s rfl rfl rfl rfl (by decide) ?_
      refine LS.s rfl rfl rfl rfl (by decide) ?_
      refine LS.vv rfl rfl (by decide) (Val.pickT rfl rfl rfl) ?_
      refine LS.nil ?_
      refine W.condT rfl ?_
      refine W.seqR ?_
      refine LS.vv rfl rfl (by decide) (Val.assign rfl) ?_
      refine LS.nil ?_
      refine W.ret ?_
      refine thenP_ret ?_
      refine ret1 (by first | exact .inl rfl | exact .inr rfl) rfl ?_
      exfalso; omega
    ·
      first | (have hg2p := of_decide_eq_false hg2) | skip
      refine LS.vg rfl rfl rfl hg2 (by decide) (Val.move rfl) ?_
      refine LS.vg rfl rfl rfl hg2 (by decide) (Val.neq rfl rfl) ?_
      refine LS.vv rfl rfl (by decide) (Val.pickF rfl hg2 rfl) ?_
      refine LS.vv rfl rfl (by decide) (Val.move rfl) ?_
      refine LS.split 6 rfl (fun hg3 => ?_) (fun hg3 => ?_)
      ·
        first | (have hg3p := of_decide_eq_true hg3) | skip
        refine LS.s rfl rfl rfl hg3 (by decide) ?_
        refine LS.s rfl rfl rfl hg3 (by decide) ?_
        refine LS.s rfl rfl rfl hg3 (by decide) ?_
        refine LS.vv rfl rfl (by decide) (Val.pickT rfl hg3 rfl) ?_
        refine LS.vv rfl rfl (by decide) (Val.move rfl) ?_
        refine LS.s rfl rfl rfl rfl (by decide) ?_
        refine LS.s rfl rfl rfl rfl (by decide) ?_
        refine LS.s rfl rfl rfl rfl (by decide) ?_
        refine LS.s rfl rfl rfl rfl (by decide) ?_
        refine LS.s rfl rfl rfl rfl (by decide) ?_
        refine LS.vv rfl rfl (by decide) (Val.pickT rfl rfl rfl) ?_
        refine LS.nil ?_
        refine W.condT rfl ?_
        refine W.seqR ?_
        refine LS.vv rfl rfl (by decide) (Val.assign rfl) ?_
        refine LS.nil ?_
        refine W.ret ?_
        refine thenP_ret ?_
        refine ret1 (by first | exact .inl rfl | exact .inr rfl) rfl ?_
        exfalso; have := he2.2 hok2; omega
      ·
        first | (have hg3p := of_decide_eq_false hg3) | skip
        refine LS.vg rfl rfl rfl hg3 (by decide) (Val.move rfl) ?_
        refine LS.vg rfl rfl rfl hg3 (by decide) (Val.move rfl) ?_
        refine LS.vg rfl rfl rfl hg3 (by decide) (Val.neq rfl rfl) ?_
        refine LS.vv rfl rfl (by decide) (Val.pickF rfl hg3 rfl) ?_
        refine LS.vv rfl rfl (by decide) (Val.move rfl) ?_
        refine LS.split 11 rfl (fun hg4 => ?_) (fun hg4 => ?_)
        ·
          first | (have hg4p := of_decide_eq_true hg4) | skip
          refine LS.s rfl rfl rfl hg4 (by decide) ?_
          refine LS.s rfl rfl rfl hg4 (by decide) ?_
          refine LS.s rfl rfl rfl hg4 (by decide) ?_
          refine LS.s rfl rfl rfl hg4 (by decide) ?_
          refine LS.s rfl rfl rfl hg4 (by decide) ?_
          refine LS.vv rfl rfl (by decide) (Val.pickT rfl hg4 rfl) ?_
          refine LS.nil ?_
          refine W.condT rfl ?_
          refine W.seqR ?_
          refine LS.vv rfl rfl (by decide) (Val.assign rfl) ?_
          refine LS.nil ?_
          refine W.ret ?_
          refine thenP_ret ?_
          refine ret1 (by first | exact .inl rfl | exact .inr rfl) rfl ?_
          exfalso
          have := hr2 (he2.2 hok2)
          rw [h1r, gray_back hm him] at this
          omega
        ·
          first | (have hg4p := of_decide_eq_false hg4) | skip
          refine LS.vg rfl rfl rfl hg4 (by decide) (Val.move rfl) ?_
          refine LS.vg rfl rfl rfl hg4 (by decide) (Val.move rfl) ?_
          refine LS.mg rfl rfl hg4 (Step.lit (B := w0.heap.size) rfl rfl (by decide) Try.underlying29 elem37 rfl rfl (by omega) (by simp [Value.oneCell']) hB.size ?_)
          rintro w5 hO5 hg5 hbl5 hsz5
          replace hB := hB.trans (hbl5.mono hB.size)
          refine LS.mg rfl rfl hg4 (Step.call body19 rfl rfl (by decide) rfl (CallsV.mono (below_any _ [r1] _ _ _ hO5.rd (by simp) (by simpa using hl1)) ?_))
          rintro _ w6 ⟨b2, rfl, hb2, hb6⟩
          replace hB := hB.trans (hb6.mono hB.size)
          refine LS.vg rfl rfl rfl hg4 (by decide) (Val.not rfl) ?_
          refine LS.vv rfl rfl (by decide) (Val.pickF rfl hg4 rfl) ?_
          refine LS.nil ?_
          first | refine W.condD rfl (fun hc5 => ?_) (fun hc5 => ?_) | refine W.cond rfl (fun hc5 => ?_) (fun hc5 => ?_)
          ·
            refine W.seqR ?_
            refine LS.vv rfl rfl (by decide) (Val.assign rfl) ?_
            refine LS.nil ?_
            refine W.ret ?_
            refine thenP_ret ?_
            refine ret1 (by first | exact .inl rfl | exact .inr rfl) rfl ?_
            exfalso
            have := hb2.2 hok2
            simp [this] at *
          ·
            refine W.skip ?_
            refine thenP_normal ?_
            refine W.seqR ?_
            refine LS.vv rfl rfl (by decide) (Val.move rfl) ?_
            refine LS.vv rfl rfl (by decide) (Val.move rfl) ?_
            first | refine LS.vv rfl rfl (by decide) (Val.addNU32 (j := 1) rfl rfl (by omega)) ?_ | refine LS.vv rfl rfl (by decide) (Val.addU32 rfl rfl (by omega)) ?_
            refine LS.vv rfl rfl (by decide) (Val.move rfl) ?_
            refine LS.vv rfl rfl (by decide) (Val.conv rfl Try.underlying3 Try.underlying33 (IntWalk.u64_in _ (by omega))) ?_
            refine LS.vv rfl rfl (by decide) (Val.shlU32 (i := 1) rfl rfl (by omega) (by omega)) ?_
            refine LS.vv rfl rfl (by decide) (Val.remN rfl rfl (by omega)) ?_
            refine LS.m rfl (Step.call body18 rfl rfl (by decide) rfl (CallsV.mono (code_any _ ((i + 1) % (1 <<< m)) _ (by omega)) ?_))
            rintro _ w7 ⟨r3, e3, rfl, he3, hr3, hl3, hb7⟩
            replace hB := hB.trans (hb7.mono hB.size)
            refine LS.vv rfl rfl (by decide) (Val.move rfl) ?_
            refine LS.vv rfl rfl (by decide) (Val.extract rfl rfl) ?_
            refine LS.vv rfl rfl (by decide) (Val.extract rfl rfl) ?_
            refine LS.vv rfl rfl (by decide) (Val.assign rfl) ?_
            refine LS.vv rfl rfl (by decide) (Val.assign rfl) ?_
            refine LS.nil ?_
            refine W.seqR ?_
            refine LS.vv rfl rfl (by decide) (Val.move rfl) ?_
            refine LS.vv rfl rfl (by decide) (Val.eql rfl rfl) ?_
            refine LS.vv rfl rfl (by decide) (Val.move rfl) ?_
            refine LS.split 2 rfl (fun hg6 => ?_) (fun hg6 => ?_)
            ·
              first | (have hg6p := of_decide_eq_true hg6) | skip
              refine LS.vg rfl rfl rfl hg6 (by decide) (Val.move rfl) ?_
              refine LS.vg rfl rfl rfl hg6 (by decide) (Val.eql rfl rfl) ?_
              refine LS.vg rfl rfl rfl hg6 (by decide) (Val.move rfl) ?_
              refine LS.split 5 rfl (fun hg7 => ?_) (fun hg7 => ?_)
              ·
                first | (have hg7p := of_decide_eq_true hg7) | skip
                refine LS.s rfl rfl rfl hg7 (by decide) ?_
                refine LS.s rfl rfl rfl hg7 (by decide) ?_
                refine LS.s rfl rfl rfl hg7 (by decide) ?_
                refine LS.s rfl rfl rfl hg7 (by decide) ?_
                refine LS.vg rfl rfl rfl hg6 (by decide) (Val.pickT rfl hg7 rfl) ?_
                refine LS.vv rfl rfl (by decide) (Val.pickT rfl hg6 rfl) ?_
                refine LS.vv rfl rfl (by decide) (Val.assign rfl) ?_
                refine LS.nil ?_
                refine W.ret ?_
                refine ret1 (by first | exact .inl rfl | exact .inr rfl) rfl ?_
                exact ⟨rfl, hB⟩
              ·
                first | (have hg7p := of_decide_eq_false hg7) | skip
                refine LS.vg rfl rfl rfl hg7 (by decide) (Val.move rfl) ?_
                refine LS.vg rfl rfl rfl hg7 (by decide) (Val.move rfl) ?_
                refine LS.mg rfl rfl hg7 (Step.call body21 rfl rfl (by decide) rfl (CallsV.mono (apart_any r1 r3 _ hl1 hl3) ?_))
                rintro _ w8 ⟨rfl, hb8⟩
                replace hB := hB.trans (hb8.mono hB.size)
                refine LS.vg rfl rfl rfl hg7 (by decide) (Val.eql rfl rfl) ?_
                refine LS.vg rfl rfl rfl hg6 (by decide) (Val.pickF rfl hg7 rfl) ?_
                refine LS.vv rfl rfl (by decide) (Val.pickT rfl hg6 rfl) ?_
                refine LS.vv rfl rfl (by decide) (Val.assign rfl) ?_
                refine LS.nil ?_
                refine W.ret ?_
                refine ret1 (by first | exact .inl rfl | exact .inr rfl) rfl ?_
                have h3 := hr3 (he3.2 ⟨hok.1, hok.2.1, by simpa [hsh] using hml⟩)
                have hone := gray_one hm (by omega) him
                rw [h1r, h3, hsh, hone]
                exact ⟨rfl, hB⟩
            ·
              first | (have hg6p := of_decide_eq_false hg6) | skip
              refine LS.s rfl rfl rfl hg6 (by decide) ?_
              refine LS.s rfl rfl rfl hg6 (by decide) ?_
              refine LS.s rfl rfl rfl hg6 (by decide) ?_
              refine LS.skipU rfl rfl rfl (by decide) ?_
              refine LS.skipU rfl rfl rfl (by decide) ?_
              refine LS.skipU rfl rfl rfl (by decide) ?_
              refine LS.skipU rfl rfl rfl (by decide) ?_
              refine LS.s rfl rfl rfl hg6 (by decide) ?_
              refine LS.vv rfl rfl (by decide) (Val.pickF rfl hg6 rfl) ?_
              refine LS.vv rfl rfl (by decide) (Val.assign rfl) ?_
              refine LS.nil ?_
              refine W.ret ?_
              refine ret1 (by first | exact .inl rfl | exact .inr rfl) rfl ?_
              exfalso
              have h3 : e3 = 0 := he3.2 ⟨hok.1, hok.2.1, by simpa [hsh] using hml⟩
              exact absurd ‹decide ((e3 : Int) = 0) = false› (by simp [h3])

end Go.Proofs.Ytpogedmkmplckaa
