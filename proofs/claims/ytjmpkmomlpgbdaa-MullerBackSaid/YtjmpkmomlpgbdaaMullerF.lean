/-
  The statement MullerFar.
-/
import Derived.Test.YtjmpkmomlpgbdaaMuller2
import Derived.Test.YtjmpkmomlpgbdaaRefsB
namespace Go.Proofs.Ytjmpkmomlpgbdaa
open Go Go.RowKit V
set_option linter.unusedVariables false
set_option linter.unusedSimpArgs false

theorem boolsEqN (xs ys : List Bool) (p q : Option Addr) (c d m n : Nat) (w0 : World) (hr1 : Rd w0 p (bv xs)) (hr2 : Rd w0 q (bv ys)) (hm : xs.length = m) (hn : ys.length = n) (hl1 : m ≤ 9223372036854775807) :
    CallsV Try.prog 10 #[.slice p m c, .slice q n d] w0 (fun v w => v = .bool (decide (xs = ys)) ∧ Below w0.heap.size w0 w) := by
  subst hm; subst hn
  exact boolsEq_any xs ys p q c d w0 hr1 hr2 hl1
theorem differN (a b : List Bool) (p q : Option Addr) (c d N m n : Nat) (w0 : World) (hr1 : Rd w0 p (bv a)) (hr2 : Rd w0 q (bv b)) (ha : a.length = m) (hb : b.length = n) (hmn : m = n) (hl : n ≤ 1000) :
    CallsV Try.prog 11 #[.slice p m c, .slice q n d] w0 (fun v w => v = .int .i64 (cnt (fun i => xor (gb a i) (gb b i)) n : Int) ∧ Below w0.heap.size w0 w) := by
  subst hmn
  exact differ_any a b p q c d _ w0 hr1 hr2 ha hb hl
theorem gb_ne {a b : List Bool} (h : a.length = b.length) (hne : a ≠ b) : ∃ i, i < a.length ∧ gb a i ≠ gb b i := Classical.byContradiction fun hno => hne (gb_eq_of h fun j hj => Classical.byContradiction fun hn => hno ⟨j, hj, hn⟩)
theorem far_words {M R : Nat} {a b : List Bool} (hM : M ≤ 4) (hR : R ≤ M) (ha : a.length = (prods R M).length) (hb : b.length = (prods R M).length) (hne : a ≠ b) : 2 ^ (M - R) ≤ cnt (fun i => xor (gb (mword R M a) i) (gb (mword R M b) i)) (2 ^ M) := by
  obtain ⟨i, hi, hg⟩ := gb_ne (ha.trans hb.symm) hne
  refine Nat.le_trans (muller_far (a := gb a) (b := gb b) (by omega) (prodsP (by omega) hR) ⟨i, by omega, hg⟩) (Nat.le_of_eq ?_)
  refine cnt_congr _ fun x hx => ?_
  rw [mword, mword, cw_gb hx, cw_gb hx]

theorem mullerFar_any (r m : Int) (a b : List Bool) (p q : Option Addr) (c d na nb : Nat) (w0 : World) (hr1 : Rd w0 p (bv a)) (hr2 : Rd w0 q (bv b)) (hna : a.length = na) (hnb : b.length = nb) (hla : na ≤ 9223372036854775807) (hlb : nb ≤ 9223372036854775807) :
    CallsV Try.prog 3 #[.int .i64 r, .int .i64 m, .slice p na c, .slice q nb d] w0 (fun v w => v = .bool true ∧ Below w0.heap.size w0 w) := by
  refine enter1 Try.func3 rfl Try.ntmps3 (by simp) rfl ?_
  have hB := Below.refl w0.heap.size w0
  simp only [argLoc, Nat.zero_add, Nat.reduceAdd]
  have hM := Mem.nil w0 w0.heap.size
  refine W.seqR ?_
  refine LS.vv rfl rfl (by decide) (Val.assign rfl) ?_
  refine LS.nil ?_
  refine W.seqR ?_
  refine LS.vv rfl rfl (by decide) (Val.move rfl) ?_
  refine LS.vv rfl rfl (by decide) (Val.move rfl) ?_
  refine LS.vv rfl rfl (by decide) (Val.move rfl) ?_
  refine LS.m rfl (Step.call body9 rfl rfl (by decide) rfl (CallsV.mono (Put_any r m a _ _ _ _ (hr1.below hB) hna (by omega)) ?_))
  rintro _ w1 ⟨px, cx, Xx, ex, rfl, hOx, hex, hxx, hzx, hb1⟩
  replace hM := hM.below hb1
  replace hB := hB.trans (hb1.mono hB.size)
  refine LS.vv rfl rfl (by decide) (Val.move rfl) ?_
  refine LS.vv rfl rfl (by decide) (Val.extract rfl rfl) ?_
  refine LS.vv rfl rfl (by decide) (Val.extract rfl rfl) ?_
  refine LS.vv rfl rfl (by decide) (Val.assign rfl) ?_
  refine LS.vv rfl rfl (by decide) (Val.assign rfl) ?_
  refine LS.nil ?_
  refine W.seqR ?_
  refine LS.vv rfl rfl (by decide) (Val.move rfl) ?_
  refine LS.vv rfl rfl (by decide) (Val.move rfl) ?_
  refine LS.vv rfl rfl (by decide) (Val.move rfl) ?_
  refine LS.m rfl (Step.call body9 rfl rfl (by decide) rfl (CallsV.mono (Put_any r m b _ _ _ _ (hr2.below hB) hnb (by omega)) ?_))
  rintro _ w2 ⟨py, cy, Xy, ey, rfl, hOy, hey, hxy, hzy, hb2⟩
  replace hOx := hOx.below hb2
  replace hM := hM.below hb2
  replace hB := hB.trans (hb2.mono hB.size)
  refine LS.vv rfl rfl (by decide) (Val.move rfl) ?_
  refine LS.vv rfl rfl (by decide) (Val.extract rfl rfl) ?_
  refine LS.vv rfl rfl (by decide) (Val.extract rfl rfl) ?_
  refine LS.vv rfl rfl (by decide) (Val.assign rfl) ?_
  refine LS.vv rfl rfl (by decide) (Val.assign rfl) ?_
  refine LS.nil ?_
  refine W.seq ?_
  refine W.seqR ?_
  refine LS.vv rfl rfl (by decide) (Val.move rfl) ?_
  refine LS.vv rfl rfl (by decide) (Val.lss rfl rfl) ?_
  refine LS.vv rfl rfl (by decide) (Val.move rfl) ?_
  refine LS.split 2 rfl (fun hg1 => ?_) (fun hg1 => ?_)
  ·
    first | (have hg1p := of_decide_eq_true hg1) | skip
    refine LS.s rfl rfl rfl hg1 (by decide) ?_
    refine LS.s rfl rfl rfl hg1 (by decide) ?_
    refine LS.vv rfl rfl (by decide) (Val.pickT rfl hg1 rfl) ?_
    refine LS.vv rfl rfl (by decide) (Val.move rfl) ?_
    refine LS.s rfl rfl rfl rfl (by decide) ?_
    refine LS.s rfl rfl rfl rfl (by decide) ?_
    refine LS.vv rfl rfl (by decide) (Val.pickT rfl rfl rfl) ?_
    refine LS.vv rfl rfl (by decide) (Val.move rfl) ?_
    refine LS.s rfl rfl rfl rfl (by decide) ?_
    refine LS.s rfl rfl rfl rfl (by decide) ?_
    refine LS.s rfl rfl rfl rfl (by decide) ?_
    refine LS.vv rfl rfl (by decide) (Val.pickT rfl rfl rfl) ?_
    refine LS.nil ?_
    refine W.condT rfl ?_
    refine W.seqR ?_
    refine LS.vv rfl rfl (by decide) (Val.move rfl) ?_
    refine LS.vv rfl rfl (by decide) (Val.cast (v := .bool true) (Val.neq rfl rfl) (by refine congrArg Value.bool (decide_eq_true ?_); omega)) ?_
    refine LS.vv rfl rfl (by decide) (Val.move rfl) ?_
    refine LS.vg rfl rfl rfl rfl (by decide) (Val.move rfl) ?_
    refine LS.vg rfl rfl rfl rfl (by decide) (Val.cast (v := .bool true) (Val.neq rfl rfl) (by refine congrArg Value.bool (decide_eq_true ?_); omega)) ?_
    refine LS.vv rfl rfl (by decide) (Val.pickT rfl rfl rfl) ?_
    refine LS.vv rfl rfl (by decide) (Val.assign rfl) ?_
    refine LS.nil ?_
    refine W.ret ?_
    refine thenP_ret ?_
    refine ret1 (by first | exact .inl rfl | exact .inr rfl) rfl ?_
    first | exact ⟨rfl, hB⟩ | contradiction | (exfalso; omega)
  ·
    first | (have hg1p := of_decide_eq_false hg1) | skip
    refine LS.vg rfl rfl rfl hg1 (by decide) (Val.move rfl) ?_
    refine LS.vg rfl rfl rfl hg1 (by decide) (Val.gtr rfl rfl) ?_
    refine LS.vv rfl rfl (by decide) (Val.pickF rfl hg1 rfl) ?_
    refine LS.vv rfl rfl (by decide) (Val.move rfl) ?_
    refine LS.split 6 rfl (fun hg2 => ?_) (fun hg2 => ?_)
    ·
      first | (have hg2p := of_decide_eq_true hg2) | skip
      refine LS.s rfl rfl rfl hg2 (by decide) ?_
      refine LS.s rfl rfl rfl hg2 (by decide) ?_
      refine LS.vv rfl rfl (by decide) (Val.pickT rfl hg2 rfl) ?_
      refine LS.vv rfl rfl (by decide) (Val.move rfl) ?_
      refine LS.s rfl rfl rfl rfl (by decide) ?_
      refine LS.s rfl rfl rfl rfl (by decide) ?_
      refine LS.s rfl rfl rfl rfl (by decide) ?_
      refine LS.vv rfl rfl (by decide) (Val.pickT rfl rfl rfl) ?_
      refine LS.nil ?_
      refine W.condT rfl ?_
      refine W.seqR ?_
      refine LS.vv rfl rfl (by decide) (Val.move rfl) ?_
      refine LS.vv rfl rfl (by decide) (Val.cast (v := .bool true) (Val.neq rfl rfl) (by refine congrArg Value.bool (decide_eq_true ?_); omega)) ?_
      refine LS.vv rfl rfl (by decide) (Val.move rfl) ?_
      refine LS.vg rfl rfl rfl rfl (by decide) (Val.move rfl) ?_
      refine LS.vg rfl rfl rfl rfl (by decide) (Val.cast (v := .bool true) (Val.neq rfl rfl) (by refine congrArg Value.bool (decide_eq_true ?_); omega)) ?_
      refine LS.vv rfl rfl (by decide) (Val.pickT rfl rfl rfl) ?_
      refine LS.vv rfl rfl (by decide) (Val.assign rfl) ?_
      refine LS.nil ?_
      refine W.ret ?_
      refine thenP_ret ?_
      refine ret1 (by first | exact .inl rfl | exact .inr rfl) rfl ?_
      first | exact ⟨rfl, hB⟩ | contradiction | (exfalso; omega)
    ·
      first | (have hg2p := of_decide_eq_false hg2) | skip
      refine LS.vg rfl rfl rfl hg2 (by decide) (Val.move rfl) ?_
      refine LS.vg rfl rfl rfl hg2 (by decide) (Val.lss rfl rfl) ?_
      refine LS.vv rfl rfl (by decide) (Val.pickF rfl hg2 rfl) ?_
      refine LS.vv rfl rfl (by decide) (Val.move rfl) ?_
      refine LS.split 10 rfl (fun hg3 => ?_) (fun hg3 => ?_)
      ·
        first | (have hg3p := of_decide_eq_true hg3) | skip
        refine LS.s rfl rfl rfl hg3 (by decide) ?_
        refine LS.s rfl rfl rfl hg3 (by decide) ?_
        refine LS.s rfl rfl rfl hg3 (by decide) ?_
        refine LS.vv rfl rfl (by decide) (Val.pickT rfl hg3 rfl) ?_
        refine LS.nil ?_
        refine W.condT rfl ?_
        refine W.seqR ?_
        refine LS.vv rfl rfl (by decide) (Val.move rfl) ?_
        refine LS.vv rfl rfl (by decide) (Val.cast (v := .bool true) (Val.neq rfl rfl) (by refine congrArg Value.bool (decide_eq_true ?_); omega)) ?_
        refine LS.vv rfl rfl (by decide) (Val.move rfl) ?_
        refine LS.vg rfl rfl rfl rfl (by decide) (Val.move rfl) ?_
        refine LS.vg rfl rfl rfl rfl (by decide) (Val.cast (v := .bool true) (Val.neq rfl rfl) (by refine congrArg Value.bool (decide_eq_true ?_); omega)) ?_
        refine LS.vv rfl rfl (by decide) (Val.pickT rfl rfl rfl) ?_
        refine LS.vv rfl rfl (by decide) (Val.assign rfl) ?_
        refine LS.nil ?_
        refine W.ret ?_
        refine thenP_ret ?_
        refine ret1 (by first | exact .inl rfl | exact .inr rfl) rfl ?_
        first | exact ⟨rfl, hB⟩ | contradiction | (exfalso; omega)
      ·
        first | (have hg3p := of_decide_eq_false hg3) | skip
        refine LS.vg rfl rfl rfl hg3 (by decide) (Val.move rfl) ?_
        refine LS.vg rfl rfl rfl hg3 (by decide) (Val.move rfl) ?_
        refine LS.vg rfl rfl rfl hg3 (by decide) (Val.gtr rfl rfl) ?_
        refine LS.vv rfl rfl (by decide) (Val.pickF rfl hg3 rfl) ?_
        refine LS.nil ?_
        first | refine W.condD rfl (fun hc4 => ?_) (fun hc4 => ?_) | refine W.cond rfl (fun hc4 => ?_) (fun hc4 => ?_)
        ·
          refine W.seqR ?_
          refine LS.vv rfl rfl (by decide) (Val.move rfl) ?_
          refine LS.vv rfl rfl (by decide) (Val.cast (v := .bool true) (Val.neq rfl rfl) (by refine congrArg Value.bool (decide_eq_true ?_); omega)) ?_
          refine LS.vv rfl rfl (by decide) (Val.move rfl) ?_
          refine LS.vg rfl rfl rfl rfl (by decide) (Val.move rfl) ?_
          refine LS.vg rfl rfl rfl rfl (by decide) (Val.cast (v := .bool true) (Val.neq rfl rfl) (by refine congrArg Value.bool (decide_eq_true ?_); omega)) ?_
          refine LS.vv rfl rfl (by decide) (Val.pickT rfl rfl rfl) ?_
          refine LS.vv rfl rfl (by decide) (Val.assign rfl) ?_
          refine LS.nil ?_
          refine W.ret ?_
          refine thenP_ret ?_
          refine ret1 (by first | exact .inl rfl | exact .inr rfl) rfl ?_
          first | exact ⟨rfl, hB⟩ | contradiction | (exfalso; omega)
        ·
          refine W.skip ?_
          refine thenP_normal ?_
          refine W.seq ?_
          refine W.seqR ?_
          refine LS.vv rfl rfl (by decide) (Val.move rfl) ?_
          refine LS.vv rfl rfl (by decide) (Val.neq rfl rfl) ?_
          refine LS.vv rfl rfl (by decide) (Val.move rfl) ?_
          refine LS.split 2 rfl (fun hg5 => ?_) (fun hg5 => ?_)
          ·
            first | (have hg5p := of_decide_eq_true hg5) | skip
            refine LS.s rfl rfl rfl hg5 (by decide) ?_
            refine LS.s rfl rfl rfl hg5 (by decide) ?_
            refine LS.vv rfl rfl (by decide) (Val.pickT rfl hg5 rfl) ?_
            refine LS.nil ?_
            refine W.condT rfl ?_
            refine W.seqR ?_
            refine LS.vv rfl rfl (by decide) (Val.move rfl) ?_
            refine LS.vv rfl rfl (by decide) (Val.eql rfl rfl) ?_
            refine LS.vv rfl rfl (by decide) (Val.move rfl) ?_
            refine LS.split 2 rfl (fun hg6 => ?_) (fun hg6 => ?_)
            ·
              first | (have hg6p := of_decide_eq_true hg6) | skip
              refine LS.s rfl rfl rfl hg6 (by decide) ?_
              refine LS.s rfl rfl rfl hg6 (by decide) ?_
              refine LS.s rfl rfl rfl hg6 (by decide) ?_
              refine LS.vv rfl rfl (by decide) (Val.pickT rfl hg6 rfl) ?_
              refine LS.vv rfl rfl (by decide) (Val.assign rfl) ?_
              refine LS.nil ?_
              refine W.ret ?_
              refine thenP_ret ?_
              refine ret1 (by first | exact .inl rfl | exact .inr rfl) rfl ?_
              first | exact ⟨rfl, hB⟩ | contradiction | (exfalso; omega)
            ·
              first | (have hg6p := of_decide_eq_false hg6) | skip
              refine LS.vg rfl rfl rfl hg6 (by decide) (Val.move rfl) ?_
              refine LS.vg rfl rfl rfl hg6 (by decide) (Val.len Try.underlying22 rfl) ?_
              obtain rfl := hzx (by omega)
              refine LS.vg rfl rfl rfl hg6 (by decide) (Val.cast (v := .bool true) (Val.eql rfl rfl) (by rfl)) ?_
              refine LS.vv rfl rfl (by decide) (Val.pickF rfl hg6 rfl) ?_
              refine LS.vv rfl rfl (by decide) (Val.assign rfl) ?_
              refine LS.nil ?_
              refine W.ret ?_
              refine thenP_ret ?_
              refine ret1 (by first | exact .inl rfl | exact .inr rfl) rfl ?_
              first | exact ⟨rfl, hB⟩ | contradiction | (exfalso; omega)
          ·
            first | (have hg5p := of_decide_eq_false hg5) | skip
            refine LS.vg rfl rfl rfl hg5 (by decide) (Val.move rfl) ?_
            refine LS.vg rfl rfl rfl hg5 (by decide) (Val.neq rfl rfl) ?_
            refine LS.vv rfl rfl (by decide) (Val.pickF rfl hg5 rfl) ?_
            refine LS.nil ?_
            first | refine W.condD rfl (fun hc7 => ?_) (fun hc7 => ?_) | refine W.cond rfl (fun hc7 => ?_) (fun hc7 => ?_)
            ·
              refine W.seqR ?_
              refine LS.vv rfl rfl (by decide) (Val.move rfl) ?_
              refine LS.vv rfl rfl (by decide) (Val.eql rfl rfl) ?_
              refine LS.vv rfl rfl (by decide) (Val.move rfl) ?_
              refine LS.split 2 rfl (fun hg8 => ?_) (fun hg8 => ?_)
              ·
                first | (have hg8p := of_decide_eq_true hg8) | skip
                refine LS.s rfl rfl rfl hg8 (by decide) ?_
                refine LS.s rfl rfl rfl hg8 (by decide) ?_
                refine LS.s rfl rfl rfl hg8 (by decide) ?_
                refine LS.vv rfl rfl (by decide) (Val.pickT rfl hg8 rfl) ?_
                refine LS.vv rfl rfl (by decide) (Val.assign rfl) ?_
                refine LS.nil ?_
                refine W.ret ?_
                refine thenP_ret ?_
                refine ret1 (by first | exact .inl rfl | exact .inr rfl) rfl ?_
                first | exact ⟨rfl, hB⟩ | contradiction | (exfalso; omega)
              ·
                first | (have hg8p := of_decide_eq_false hg8) | skip
                refine LS.vg rfl rfl rfl hg8 (by decide) (Val.move rfl) ?_
                refine LS.vg rfl rfl rfl hg8 (by decide) (Val.len Try.underlying22 rfl) ?_
                obtain rfl := hzx (by omega)
                refine LS.vg rfl rfl rfl hg8 (by decide) (Val.cast (v := .bool true) (Val.eql rfl rfl) (by rfl)) ?_
                refine LS.vv rfl rfl (by decide) (Val.pickF rfl hg8 rfl) ?_
                refine LS.vv rfl rfl (by decide) (Val.assign rfl) ?_
                refine LS.nil ?_
                refine W.ret ?_
                refine thenP_ret ?_
                refine ret1 (by first | exact .inl rfl | exact .inr rfl) rfl ?_
                first | exact ⟨rfl, hB⟩ | contradiction | (exfalso; omega)
            ·
              have hea := hex.1 (by omega)
              have hey := hey.1 (by omega)
              obtain rfl := hxx (by omega)
              obtain rfl := hxy (by omega)
              obtain ⟨R, rfl⟩ := Int.eq_ofNat_of_zero_le hea.1.1
              obtain ⟨M, rfl⟩ := Int.eq_ofNat_of_zero_le (show 0 ≤ m by omega)
              simp only [Int.toNat_natCast] at *
              obtain ⟨hp1, hp2⟩ := pow_le16 (m := M) (by omega)
              have hwa : (mword R M a).length = 2 ^ M := cw_len _ _
              have hwb : (mword R M b).length = 2 ^ M := cw_len _ _
              have hRx := hOx.rd
              have hRy := hOy.rd
              have hmr : 1 <<< (M - R) ≤ 16 := by rw [Nat.one_shiftLeft]; exact Nat.pow_le_pow_right (n := 2) (by omega) (show M - R ≤ 4 by omega)
              refine W.skip ?_
              refine thenP_normal ?_
              refine W.seq ?_
              refine W.seqR ?_
              refine LS.vv rfl rfl (by decide) (Val.move rfl) ?_
              refine LS.vv rfl rfl (by decide) (Val.len Try.underlying22 rfl) ?_
              refine LS.vv rfl rfl (by decide) (Val.move rfl) ?_
              refine LS.vv rfl rfl (by decide) (Val.conv rfl Try.underlying3 Try.underlying26 (IntWalk.u64_in _ (by omega))) ?_
              refine LS.vv rfl rfl (by decide) (Val.cast (v := .int .i64 ((2 ^ M : Nat) : Int)) (Val.shl64 (i := 1) rfl rfl (by omega) (by omega)) (by rw [hp1])) ?_
              refine LS.vv rfl rfl (by decide) (Val.cast (v := .bool false) (Val.neq rfl rfl) (by refine congrArg Value.bool (decide_eq_false ?_); omega)) ?_
              refine LS.vv rfl rfl (by decide) (Val.move rfl) ?_
              refine LS.vg rfl rfl rfl rfl (by decide) (Val.move rfl) ?_
              refine LS.vg rfl rfl rfl rfl (by decide) (Val.len Try.underlying22 rfl) ?_
              refine LS.vg rfl rfl rfl rfl (by decide) (Val.move rfl) ?_
              refine LS.vg rfl rfl rfl rfl (by decide) (Val.len Try.underlying22 rfl) ?_
              refine LS.vg rfl rfl rfl rfl (by decide) (Val.cast (v := .bool false) (Val.neq rfl rfl) (by refine congrArg Value.bool (decide_eq_false ?_); omega)) ?_
              refine LS.vv rfl rfl (by decide) (Val.pickF rfl rfl rfl) ?_
              refine LS.nil ?_
              refine W.condF rfl ?_
              refine W.skip ?_
              refine thenP_normal ?_
              refine W.seqR ?_
              refine LS.vv rfl rfl (by decide) (Val.move rfl) ?_
              refine LS.vv rfl rfl (by decide) (Val.move rfl) ?_
              refine LS.m rfl (Step.call body10 rfl rfl (by decide) rfl (CallsV.mono (boolsEqN a b _ _ _ _ _ _ _ (hr1.below hB) (hr2.below hB) hna hnb (by omega)) ?_))
              rintro _ w3 ⟨rfl, hb3⟩
              replace hM := hM.below hb3
              replace hB := hB.trans (hb3.mono hB.size)
              replace hRx := hRx.below hb3
              replace hRy := hRy.below hb3
              refine LS.vv rfl rfl (by decide) (Val.move rfl) ?_
              refine LS.split 3 rfl (fun hg9 => ?_) (fun hg9 => ?_)
              ·
                first | (have hg9p := of_decide_eq_true hg9) | skip
                refine LS.vg rfl rfl rfl hg9 (by decide) (Val.move rfl) ?_
                refine LS.vg rfl rfl rfl hg9 (by decide) (Val.move rfl) ?_
                have hab : a = b := of_decide_eq_true (by assumption : decide (a = b) = true)
                refine LS.mg rfl rfl hg9 (Step.call body10 rfl rfl (by decide) rfl (CallsV.mono (boolsEqN (mword R M a) (mword R M b) _ _ _ _ _ _ _ hRx hRy rfl rfl (by omega)) ?_))
                rintro _ w4 ⟨rfl, hb4⟩
                replace hM := hM.below hb4
                replace hB := hB.trans (hb4.mono hB.size)
                rw [show decide (mword R M a = mword R M b) = true from decide_eq_true (by rw [hab])]
                refine LS.vv rfl rfl (by decide) (Val.pickT rfl hg9 rfl) ?_
                refine LS.vv rfl rfl (by decide) (Val.move rfl) ?_
                refine LS.s rfl rfl rfl rfl (by decide) ?_
                refine LS.s rfl rfl rfl rfl (by decide) ?_
                refine LS.s rfl rfl rfl rfl (by decide) ?_
                refine LS.s rfl rfl rfl rfl (by decide) ?_
                refine LS.s rfl rfl rfl rfl (by decide) ?_
                refine LS.skipU rfl rfl rfl (by decide) ?_
                refine LS.skipU rfl rfl rfl (by decide) ?_
                refine LS.skipU rfl rfl rfl (by decide) ?_
                refine LS.skipU rfl rfl rfl (by decide) ?_
                refine LS.skipU rfl rfl rfl (by decide) ?_
                refine LS.skipU rfl rfl rfl (by decide) ?_
                refine LS.skipU rfl rfl rfl (by decide) ?_
                refine LS.skipU rfl rfl rfl (by decide) ?_
                refine LS.skipU rfl rfl rfl (by decide) ?_
                refine LS.s rfl rfl rfl rfl (by decide) ?_
                refine LS.vv rfl rfl (by decide) (Val.pickT rfl rfl rfl) ?_
                refine LS.vv rfl rfl (by decide) (Val.assign rfl) ?_
                refine LS.nil ?_
                refine W.ret ?_
                refine ret1 (by first | exact .inl rfl | exact .inr rfl) rfl ?_
                first | exact ⟨rfl, hB⟩ | contradiction | (exfalso; omega)
              ·
                first | (have hg9p := of_decide_eq_false hg9) | skip
                refine LS.s rfl rfl rfl hg9 (by decide) ?_
                refine LS.s rfl rfl rfl hg9 (by decide) ?_
                refine LS.s rfl rfl rfl hg9 (by decide) ?_
                refine LS.vv rfl rfl (by decide) (Val.pickF rfl hg9 rfl) ?_
                refine LS.vv rfl rfl (by decide) (Val.move rfl) ?_
                refine LS.vg rfl rfl rfl rfl (by decide) (Val.move rfl) ?_
                refine LS.vg rfl rfl rfl rfl (by decide) (Val.move rfl) ?_
                have hab : a ≠ b := of_decide_eq_false (by assumption : decide (a = b) = false)
                refine LS.mg rfl rfl rfl (Step.call body10 rfl rfl (by decide) rfl (CallsV.mono (boolsEqN a b _ _ _ _ _ _ _ (hr1.below hB) (hr2.below hB) hna hnb (by omega)) ?_))
                rintro _ w5 ⟨rfl, hb5⟩
                replace hM := hM.below hb5
                replace hB := hB.trans (hb5.mono hB.size)
                rw [show decide (a = b) = false from decide_eq_false hab]
                replace hRx := hRx.below hb5
                replace hRy := hRy.below hb5
                refine LS.vg rfl rfl rfl rfl (by decide) (Val.cast (v := .bool true) (Val.not rfl) (by rfl)) ?_
                refine LS.vg rfl rfl rfl rfl (by decide) (Val.move rfl) ?_
                refine LS.vg rfl rfl rfl rfl (by decide) (Val.move rfl) ?_
                refine LS.vg rfl rfl rfl rfl (by decide) (Val.move rfl) ?_
                refine LS.mg rfl rfl rfl (Step.call body11 rfl rfl (by decide) rfl (CallsV.mono (differN (mword R M a) (mword R M b) _ _ _ _ 0 _ _ _ hRx hRy rfl rfl (hwa.trans hwb.symm) (by omega)) ?_))
                rintro _ w6 ⟨rfl, hb6⟩
                replace hM := hM.below hb6
                replace hB := hB.trans (hb6.mono hB.size)
                rw [hwb]
                have hfar := far_words (M := M) (R := R) (by omega) (by omega) (hna.trans hea.2) (hnb.trans hey.2) hab
                refine LS.vg rfl rfl rfl rfl (by decide) (Val.move rfl) ?_
                refine LS.vg rfl rfl rfl rfl (by decide) (Val.move rfl) ?_
                refine LS.vg rfl rfl rfl rfl (by decide) (Val.subN rfl rfl (by omega) (by omega)) ?_
                refine LS.vg rfl rfl rfl rfl (by decide) (Val.conv rfl Try.underlying3 Try.underlying26 (IntWalk.u64_in _ (by omega))) ?_
                refine LS.vg rfl rfl rfl rfl (by decide) (Val.cast (v := .int .i64 ((2 ^ (M - R) : Nat) : Int)) (Val.shl64 (i := 1) rfl rfl (by omega) (by omega)) (by rw [Nat.one_shiftLeft])) ?_
                refine LS.vg rfl rfl rfl rfl (by decide) (Val.cast (v := .bool true) (Val.geq rfl rfl) (by refine congrArg Value.bool (decide_eq_true ?_); omega)) ?_
                refine LS.vg rfl rfl rfl rfl (by decide) (Val.pickT rfl rfl rfl) ?_
                refine LS.vv rfl rfl (by decide) (Val.pickF rfl rfl rfl) ?_
                refine LS.vv rfl rfl (by decide) (Val.assign rfl) ?_
                refine LS.nil ?_
                refine W.ret ?_
                refine ret1 (by first | exact .inl rfl | exact .inr rfl) rfl ?_
                first | exact ⟨rfl, hB⟩ | contradiction | (exfalso; omega)

end Go.Proofs.Ytjmpkmomlpgbdaa
