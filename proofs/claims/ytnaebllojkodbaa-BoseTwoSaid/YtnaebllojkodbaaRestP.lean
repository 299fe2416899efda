/-
  The walk of rest.Put.
-/
import Derived.Test.YtnaebllojkodbaaRest
import Derived.Test.YtnaebllojkodbaaLib
import Derived.Test.YtnaebllojkodbaaRefs
namespace Go.Proofs.Ytnaebllojkodbaa
open Go Go.RowKit V
set_option linter.unusedVariables false

theorem rest_len (g : Nat) (bs : List Bool) (p : Option Addr) (c : Nat) (n : Nat) (w0 : World) (hr : Rd w0 p (bv bs)) (hg : OkG g) (hn : bs.length = n) (hl : n ≤ 100000) :
    CallsV Try.prog 56 #[.int .u32 (g : Int), .slice p n c] w0 (fun v w => v = .int .u32 (restOf g (bitLen g - 1) bs : Int) ∧ Below w0.heap.size w0 w) := by
  subst hn; exact rest_any g bs p c w0 hr hg hl
def degTo (g : Nat) : Nat → Nat := iter (fun i n => if g.testBit i = true then i else n) 0
theorem degTo_succ (g k : Nat) : degTo g (k + 1) = if g.testBit k = true then k else degTo g k := rfl
theorem degTo_le (g : Nat) : ∀ k, degTo g k ≤ k
  | 0 => Nat.le_refl _
  | k + 1 => by have := degTo_le g k; rw [degTo_succ]; split <;> omega
theorem degTo_deg {g d : Nat} (hg : Deg g d) : ∀ k, degTo g (d + 1 + k) = d
  | 0 => by rw [Nat.add_zero, degTo_succ, if_pos hg.bit]
  | k + 1 => by
    rw [← Nat.add_assoc, degTo_succ, if_neg, degTo_deg hg k]
    rw [Nat.testBit_lt_two_pow (Nat.lt_of_lt_of_le hg.hi (Nat.pow_le_pow_right (by omega) (by omega)))]
    decide

theorem Put_any (g : Nat) (bs : List Bool) (p : Option Addr) (c : Nat) (w0 : World) (hr : Rd w0 p (bv bs)) (hg : g < 4294967296) :
    CallsV Try.prog 42 #[.int .u32 (g : Int), .slice p bs.length c] w0 (fun v w => ∃ (p2 : Option Addr) (c2 : Nat) (L : List Bool) (e : Nat), v = .tuple #[.slice p2 L.length c2, .int .i64 (e : Int)] ∧ Own w w0.heap.size 4 p2 L.length c2 (bv L) ∧ (e = 0 ↔ OkG g ∧ bs.length ≤ 64 ∧ bs.length + (bitLen g - 1) ≤ 64) ∧ (e = 0 → L = putOf g (bitLen g - 1) bs) ∧ (e ≠ 0 → L = []) ∧ Below w0.heap.size w0 w) := by
  refine enter2 Try.func42 rfl Try.ntmps42 (by simp) rfl ?_
  have hB := Below.refl w0.heap.size w0
  simp only [argLoc, Nat.zero_add]
  have hwb := Nat.le_refl w0.heap.size
  refine W.seqR ?_
  refine LS.vv rfl rfl (by decide) (Val.assign rfl) ?_
  refine LS.vv rfl rfl (by decide) (Val.cast (v := .int .i64 ((0 : Nat) : Int)) (Val.assign rfl) rfl) ?_
  refine LS.nil ?_
  refine W.seq ?_
  refine W.seqR ?_
  refine LS.vv rfl rfl (by decide) (Val.move rfl) ?_
  refine LS.vv rfl rfl (by decide) (Val.move rfl) ?_
  refine LS.vv rfl rfl (by decide) (Val.len Try.underlying35 rfl) ?_
  refine LS.m rfl (Step.call body54 rfl rfl (by decide) rfl (CallsV.mono (rwrong_any g bs.length _ hg) ?_))
  rintro _ w1 ⟨e, rfl, he, hb1⟩
  replace hB := hB.trans (hb1.mono hB.size)
  refine LS.vv rfl rfl (by decide) (Val.assign rfl) ?_
  refine LS.nil ?_
  refine W.seqR ?_
  refine LS.vv rfl rfl (by decide) (Val.move rfl) ?_
  refine LS.vv rfl rfl (by decide) (Val.neq rfl rfl) ?_
  refine LS.nil ?_
  first | refine W.condD rfl (fun hc1 => ?_) (fun hc1 => ?_) | refine W.cond rfl (fun hc1 => ?_) (fun hc1 => ?_)
  ·
    refine W.seqR ?_
    refine LS.vv rfl rfl (by decide) (Val.move rfl) ?_
    refine LS.vv rfl rfl (by decide) (Val.assign rfl) ?_
    refine LS.vv rfl rfl (by decide) (Val.assign rfl) ?_
    refine LS.nil ?_
    refine W.ret ?_
    refine thenP_ret ?_
    refine ret2 (by first | exact .inl rfl | exact .inr rfl) rfl rfl ?_
    first | (refine ⟨none, 0, [], e, rfl, Own.nil _ _ _, ⟨fun h => by omega, fun h => he.2 ⟨h.1, h.2.1⟩⟩, fun h => by omega, fun _ => rfl, hB⟩) | (refine ⟨none, 0, [], 1, rfl, Own.nil _ _ _, ⟨fun h => by omega, fun h => by (exfalso; have := h.2.2; omega)⟩, fun h => by omega, fun _ => rfl, hB⟩) | (have hpl := putOf_len g (bitLen g - 1) bs; refine ⟨p7, c7, putOf g (bitLen g - 1) bs, 0, by rw [hpl], by rw [hpl]; exact Own.base hOf hgs2, ⟨fun _ => ⟨hG, h64, by omega⟩, fun _ => rfl⟩, fun _ => rfl, fun h => absurd rfl h, hB⟩)
  ·
    have hok := he.1 (by omega)
    have hG := hok.1
    have h64 := hok.2
    have hd := hG.deg
    have hd1 := hd.pos
    have hd2 := hd.le
    have hp16 : 2 ^ (bitLen g - 1) ≤ 65536 := Nat.pow_le_pow_right (n := 2) (j := 16) (by omega) hd2
    refine W.skip ?_
    refine thenP_normal ?_
    refine W.seqR ?_
    refine LS.vv rfl rfl (by decide) (Val.move rfl) ?_
    refine LS.m rfl (Step.call body55 rfl rfl (by decide) rfl (CallsV.mono (degree_any g _ hG) ?_))
    rintro _ w2 ⟨rfl, hb2⟩
    replace hB := hB.trans (hb2.mono hB.size)
    refine LS.vv rfl rfl (by decide) (Val.assign rfl) ?_
    refine LS.nil ?_
    refine W.seq ?_
    refine W.seqR ?_
    refine LS.vv rfl rfl (by decide) (Val.move rfl) ?_
    refine LS.vv rfl rfl (by decide) (Val.len Try.underlying35 rfl) ?_
    refine LS.vv rfl rfl (by decide) (Val.move rfl) ?_
    first | refine LS.vv rfl rfl (by decide) (Val.addN rfl rfl (by omega)) ?_ | refine LS.vv rfl rfl (by decide) (Val.add64 rfl rfl (by omega)) ?_
    refine LS.vv rfl rfl (by decide) (Val.gtr rfl rfl) ?_
    refine LS.nil ?_
    first | refine W.condD rfl (fun hc2 => ?_) (fun hc2 => ?_) | refine W.cond rfl (fun hc2 => ?_) (fun hc2 => ?_)
    ·
      refine W.seqR ?_
      refine LS.vv rfl rfl (by decide) (Val.assign rfl) ?_
      refine LS.vv rfl rfl (by decide) (Val.cast (v := .int .i64 ((1 : Nat) : Int)) (Val.assign rfl) rfl) ?_
      refine LS.nil ?_
      refine W.ret ?_
      refine thenP_ret ?_
      refine ret2 (by first | exact .inl rfl | exact .inr rfl) rfl rfl ?_
      first | (refine ⟨none, 0, [], e, rfl, Own.nil _ _ _, ⟨fun h => by omega, fun h => he.2 ⟨h.1, h.2.1⟩⟩, fun h => by omega, fun _ => rfl, hB⟩) | (refine ⟨none, 0, [], 1, rfl, Own.nil _ _ _, ⟨fun h => by omega, fun h => by (exfalso; have := h.2.2; omega)⟩, fun h => by omega, fun _ => rfl, hB⟩) | (have hpl := putOf_len g (bitLen g - 1) bs; refine ⟨p7, c7, putOf g (bitLen g - 1) bs, 0, by rw [hpl], by rw [hpl]; exact Own.base hOf hgs2, ⟨fun _ => ⟨hG, h64, by omega⟩, fun _ => rfl⟩, fun _ => rfl, fun h => absurd rfl h, hB⟩)
    ·
      refine W.skip ?_
      refine thenP_normal ?_
      refine W.seqR ?_
      refine LS.vv rfl rfl (by decide) (Val.move rfl) ?_
      refine LS.vv rfl rfl (by decide) (Val.move rfl) ?_
      refine LS.vv rfl rfl (by decide) (Val.move rfl) ?_
      refine LS.m rfl (Step.make (B := w0.heap.size) rfl rfl (by decide) Try.underlying35 elem4 rfl rfl rfl (by omega) (by omega) hB.size ?_)
      rintro w3 hO3 hg3 hbl3
      replace hB := hB.trans (hbl3.mono hB.size)
      have hOm := hO3
      refine LS.m rfl (Step.lit (B := w0.heap.size) rfl rfl (by decide) Try.underlying87 elem35 rfl rfl (by omega) (by simp [Value.oneCell']) hB.size ?_)
      rintro w4 hO4 hg4 hbl4 hsz4
      replace hB := hB.trans (hbl4.mono hB.size)
      have hOl := hO4
      replace hOm := hOm.below hbl4
      have hgs1 := hB.size
      refine LS.m rfl (Step.call body57 rfl rfl (by decide) rfl (CallsV.mono (concat2_bool bs (zeros (bitLen g - 1)) _ _ _ _ _ _ _ _ _ hOl.rd (hr.below hB) (by (have := hOm.rd; simpa [zeros, bv] using this)) rfl (by simp [zeros]) (by omega)) ?_))
      rintro _ w5 ⟨p5, c5, rfl, hOc, hb5⟩
      replace hB := hB.trans (hb5.mono hB.size)
      have hcl : (bs ++ zeros (bitLen g - 1)).length = bs.length + (bitLen g - 1) := by simp [zeros]
      refine LS.m rfl (Step.call body56 rfl rfl (by decide) rfl (CallsV.mono (rest_len g (bs ++ zeros (bitLen g - 1)) _ _ _ _ hOc.rd hG hcl (by omega)) ?_))
      rintro _ w6 ⟨rfl, hb6⟩
      replace hB := hB.trans (hb6.mono hB.size)
      have hrl := restOf_lt hd (bs ++ zeros (bitLen g - 1))
      refine LS.vv rfl rfl (by decide) (Val.assign rfl) ?_
      refine LS.nil ?_
      refine W.seqR ?_
      refine LS.vv rfl rfl (by decide) (Val.move rfl) ?_
      refine LS.vv rfl rfl (by decide) (Val.move rfl) ?_
      refine LS.vv rfl rfl (by decide) (Val.conv rfl Try.underlying32 Try.underlying3 (IntWalk.i64_in _ (by omega))) ?_
      refine LS.vv rfl rfl (by decide) (Val.move rfl) ?_
      refine LS.m rfl (Step.call body58 rfl rfl (by decide) rfl (CallsV.mono (digits_any (restOf g (bitLen g - 1) (bs ++ zeros (bitLen g - 1))) (bitLen g - 1) _ (by omega) (by omega)) ?_))
      rintro _ w7 ⟨p6, c6, rfl, hOd, hb7⟩
      replace hB := hB.trans (hb7.mono hB.size)
      refine LS.m rfl (Step.lit (B := w0.heap.size) rfl rfl (by decide) Try.underlying87 elem35 rfl rfl (by omega) (by simp [Value.oneCell']) hB.size ?_)
      rintro w8 hO8 hg8 hbl8 hsz8
      replace hB := hB.trans (hbl8.mono hB.size)
      have hOl2 := hO8
      replace hOd := hOd.below hbl8
      have hgs2 := hB.size
      refine LS.m rfl (Step.call body57 rfl rfl (by decide) rfl (CallsV.mono (concat2_bool bs _ _ _ _ _ _ _ _ _ _ hOl2.rd (hr.below hB) hOd.rd rfl (digs_len _ _ _) (by omega)) ?_))
      rintro _ w9 ⟨p7, c7, rfl, hOf, hb9⟩
      replace hB := hB.trans (hb9.mono hB.size)
      refine LS.vv rfl rfl (by decide) (Val.assign rfl) ?_
      refine LS.vv rfl rfl (by decide) (Val.cast (v := .int .i64 ((0 : Nat) : Int)) (Val.assign rfl) rfl) ?_
      refine LS.nil ?_
      refine W.ret ?_
      refine ret2 (by first | exact .inl rfl | exact .inr rfl) rfl rfl ?_
      first | (refine ⟨none, 0, [], e, rfl, Own.nil _ _ _, ⟨fun h => by omega, fun h => he.2 ⟨h.1, h.2.1⟩⟩, fun h => by omega, fun _ => rfl, hB⟩) | (refine ⟨none, 0, [], 1, rfl, Own.nil _ _ _, ⟨fun h => by omega, fun h => by (exfalso; have := h.2.2; omega)⟩, fun h => by omega, fun _ => rfl, hB⟩) | (have hpl := putOf_len g (bitLen g - 1) bs; refine ⟨p7, c7, putOf g (bitLen g - 1) bs, 0, by rw [hpl], by rw [hpl]; exact Own.base hOf hgs2, ⟨fun _ => ⟨hG, h64, by omega⟩, fun _ => rfl⟩, fun _ => rfl, fun h => absurd rfl h, hB⟩)

end Go.Proofs.Ytnaebllojkodbaa
