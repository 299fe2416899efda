/-
  The walk of even.Put.
-/
import Derived.Test.YtpogedmkmplckaaEven
import Derived.Test.YtpogedmkmplckaaVmem5
namespace Go.Proofs.Ytpogedmkmplckaa
open Go Go.RowKit V
set_option linter.unusedVariables false

theorem Put_any (d : List Bool) (p : Option Addr) (c : Nat) (m : Nat) (w0 : World) (hr : Rd w0 p (bv d)) (hm : d.length = m) :
    CallsV Try.prog 29 #[.slice p m c] w0 (fun v w => ∃ (p2 : Option Addr) (c2 : Nat) (L : List Bool) (n e : Nat), v = .tuple #[.slice p2 L.length c2, .int .i64 (e : Int)] ∧ Own w w0.heap.size 4 p2 L.length c2 (bv L) ∧ (e = 0 ↔ d.length ≤ 12 ∧ d.length % 2 = 0) ∧ (e = 0 → L = putE d n ∧ n ≤ d.length ∧ moreOf (turnB d n) = 0 ∧ ∀ j, j < n → moreOf (turnB d j) ≠ 0) ∧ (e ≠ 0 → L = []) ∧ Below w0.heap.size w0 w) := by
  refine enter2 Try.func29 rfl Try.ntmps29 (by simp) rfl ?_
  have hB := Below.refl w0.heap.size w0
  simp only [argLoc]
  subst hm
  refine W.seqR ?_
  refine LS.vv rfl rfl (by decide) (Val.assign rfl) ?_
  refine LS.vv rfl rfl (by decide) (Val.cast (v := .int .i64 ((0 : Nat) : Int)) (Val.assign rfl) rfl) ?_
  refine LS.nil ?_
  refine W.seqR ?_
  refine LS.vv rfl rfl (by decide) (Val.move rfl) ?_
  refine LS.m rfl (Step.call body28 rfl rfl (by decide) rfl (CallsV.mono (Turn_any d _ _ _ _ (hr.below hB) rfl) ?_))
  rintro _ w1 ⟨p1, c1, L, n, e, rfl, hO, he, hL, hL0, hb1⟩
  replace hB := hB.trans (hb1.mono hB.size)
  refine LS.vv rfl rfl (by decide) (Val.move rfl) ?_
  refine LS.vv rfl rfl (by decide) (Val.extract rfl rfl) ?_
  refine LS.vv rfl rfl (by decide) (Val.extract rfl rfl) ?_
  refine LS.vv rfl rfl (by decide) (Val.extract rfl rfl) ?_
  refine LS.vv rfl rfl (by decide) (Val.assign rfl) ?_
  refine LS.vv rfl rfl (by decide) (Val.assign rfl) ?_
  refine LS.vv rfl rfl (by decide) (Val.assign rfl) ?_
  refine LS.nil ?_
  refine W.seq ?_
  refine W.seqR ?_
  refine LS.vv rfl rfl (by decide) (Val.move rfl) ?_
  refine LS.vv rfl rfl (by decide) (Val.neq rfl rfl) ?_
  refine LS.nil ?_
  first | refine W.condD rfl (fun hc1 => ?_) (fun hc1 => ?_) | refine W.cond rfl (fun hc1 => ?_) (fun hc1 => ?_)
  ·
    refine W.seqR ?_
    refine LS.vv rfl rfl (by decide) (Val.move rfl) ?_
    refine LS.vv rfl rfl (by decide) (Val.assign rfl) ?_
    refine LS.vv rfl rfl (by decide) (Val.assign rfl) ?_
    refine LS.nil ?_
    refine W.ret ?_
    refine thenP_ret ?_
    refine ret2 (by first | exact .inl rfl | exact .inr rfl) rfl rfl ?_
    exact ⟨none, 0, [], 0, e, rfl, Own.nil _ _ _, he, fun h => by omega, fun _ => rfl, hB⟩
  ·
    refine W.skip ?_
    refine thenP_normal ?_
    refine W.seq ?_
    refine W.seqR ?_
    refine LS.vv rfl rfl (by decide) (Val.move rfl) ?_
    have hE : e = 0 := by omega
    obtain ⟨rfl, hnl, hn0, hnm⟩ := hL hE
    obtain ⟨hd12, hd2⟩ := he.1 hE
    have htl := turnB_len d n
    have hbs := hB.size
    refine LS.m rfl (Step.call body49 rfl rfl (by decide) rfl (CallsV.mono (digits_any n 4 _ (by omega) (by omega)) ?_))
    rintro _ w2 ⟨p3, c3, rfl, hOd, hb2⟩
    replace hB := hB.trans (hb2.mono hB.size)
    have hob := fun b h => (hO.block (b := b) (off := 0) (s := none) h).2
    have hne0 : ∀ b b2, p1 = some ⟨b, 0, none⟩ → p3 = some ⟨b2, 0, none⟩ → b ≠ b2 := fun b b2 h1 h2 => by (have h3 := hob b h1; have h4 := (hOd.block h2).1; omega)
    replace hOd := hOd.base hbs
    replace hO := hO.below hb2
    have hgl := digs_len n 4 4
    refine LS.vv rfl rfl (by decide) (Val.len Try.underlying22 rfl) ?_
    refine LS.vv rfl rfl (by decide) (Val.cast (v := .int .i64 ((0 : Nat) : Int)) (Val.move rfl) rfl) ?_
    refine LS.nil ?_
    refine W.block ?_
    refine W.loop (α := Nat × Option Addr × Nat) (fun g => [(4, .slice g.2.1 (d.length + 2 * g.1) g.2.2), (21, .int .i64 (g.1 : Int))]) [(19, _), (20, _)] (fun g w => (g.1 ≤ 4 ∧ Own w w0.heap.size 4 g.2.1 (d.length + 2 * g.1) g.2.2 (bv (pairOn (turnB d n) (digs n 4 4) g.1)) ∧ Own w w0.heap.size 4 p3 4 c3 (bv (digs n 4 4)) ∧ ∀ b b2, g.2.1 = some ⟨b, 0, none⟩ → p3 = some ⟨b2, 0, none⟩ → b ≠ b2) ∧ Below w0.heap.size w0 w) (fun g => 4 - g.1) ((0, p1, c1)) (Sub.cons' rfl (by rw [turnB_len]; rfl) (Sub.cons rfl (Sub.nil _))) (Sub.cons rfl (Sub.cons rfl (Sub.nil _))) ?_ ?_
    · exact ⟨⟨Nat.zero_le _, (by rw [turnB_len] at hO; exact hO), hOd, hne0⟩, hB⟩
    rintro ⟨k, p4, c4⟩ w3 ⟨⟨hk, hO, hOd, hne⟩, hB⟩
    simp only [List.cons_append, List.nil_append]
    simp only at hk hO hne
    refine W.seqR ?_
    refine LS.vv rfl rfl (by decide) (Val.lss rfl rfl) ?_
    refine LS.nil ?_
    refine W.seq ?_
    first | refine W.condD rfl (fun hc2 => ?_) (fun hc2 => ?_) | refine W.cond rfl (fun hc2 => ?_) (fun hc2 => ?_)
    ·
      refine W.skip ?_
      refine thenP_normal ?_
      refine W.seq ?_
      refine W.block ?_
      refine W.seqR ?_
      refine LS.vv rfl rfl (by decide) (Val.index1 Try.underlying22 elem4 rfl rfl (by omega) hOd.rd (bv_lt (by omega))) ?_
      refine LS.m rfl (Step.load rfl rfl (by decide) flat4 rfl hOd.rd (bv_at (by omega)) ?_)
      refine LS.vv rfl rfl (by decide) (Val.assign rfl) ?_
      refine LS.nil ?_
      refine W.reg ?_
      refine LS.vv rfl rfl (by decide) (Val.move rfl) ?_
      refine LS.vv rfl rfl (by decide) (Val.move rfl) ?_
      refine LS.vv rfl rfl (by decide) (Val.move rfl) ?_
      refine LS.vv rfl rfl (by decide) (Val.not rfl) ?_
      refine LS.m rfl (Step.lit (B := w0.heap.size) rfl rfl (by decide) Try.underlying22 elem4 rfl rfl (by omega) (by simp [Value.oneCell']) hB.size ?_)
      rintro w4 hO4 hg4 hbl4 hsz4
      replace hB := hB.trans (hbl4.mono hB.size)
      have hOl := hO4
      replace hO := hO.below hbl4
      replace hOd := hOd.below hbl4
      have hdb := fun b h => (hOd.block (b := b) (off := 0) (s := none) h).2
      refine LS.m rfl (Step.append2 (B := w0.heap.size) rfl rfl (by decide) Try.underlying22 elem4 rfl rfl rfl rfl (hO) (hOl.rd) (rfl) ((by simp [Value.oneCell'])) (by omega) (by omega) hB.size ?_)
      rintro p5 c5 w5 hO5 hg5 hbl5 hbk5
      replace hB := hB.trans hbl5
      replace hOd := hOd.apart hg5 (fun b b2 h1 h2 => (hne b2 b h2 h1).symm) hO
      have hO2 := hO5
      have hne2 : ∀ b b2, p5 = some ⟨b, 0, none⟩ → p3 = some ⟨b2, 0, none⟩ → b ≠ b2 := fun b b2 h1 h2 => by
        rcases hbk5 b h1 with h3 | h3
        · exact hne b b2 h3 h2
        · have h4 := hdb b2 h2; omega
      refine LS.vv rfl rfl (by decide) (Val.assign rfl) ?_
      refine LS.nil ?_
      refine inBlk_normal ?_
      refine thenP_normal ?_
      refine W.reg ?_
      first | refine LS.vv rfl rfl (by decide) (Val.addN (j := 1) rfl rfl (by omega)) ?_ | refine LS.vv rfl rfl (by decide) (Val.add64 rfl rfl (by omega)) ?_
      refine LS.vv rfl rfl (by decide) (Val.move rfl) ?_
      refine LS.nil ?_
      refine thenP_normal ?_
      refine ⟨(k + 1, p5, c5), ?_, ?_, ⟨⟨by simp only; omega, ?_, hOd, hne2⟩, hB⟩, by simp only; omega⟩
      · exact Sub.cons' rfl rfl (Sub.cons rfl (Sub.nil _))
      · repeat (first | exact Sub.nil _ | refine Sub.cons rfl ?_)
      · simp only [pairOn_succ, bv, List.map_append]; exact hO2
    ·
      refine W.exit ?_
      refine thenP_exit ?_
      refine thenP_exit ?_
      refine inBlk_exit ?_
      refine thenP_normal ?_
      refine W.seqR ?_
      refine LS.vv rfl rfl (by decide) (Val.move rfl) ?_
      refine LS.vv rfl rfl (by decide) (Val.assign rfl) ?_
      refine LS.vv rfl rfl (by decide) (Val.cast (v := .int .i64 ((0 : Nat) : Int)) (Val.assign rfl) rfl) ?_
      refine LS.nil ?_
      refine W.ret ?_
      refine ret2 (by first | exact .inl rfl | exact .inr rfl) rfl rfl ?_
      have hk4 : k = 4 := by omega
      subst hk4
      have hpl := putE_len d n
      refine ⟨p4, c4, putE d n, n, 0, by first | (rw [hpl]; done) | (rw [hpl]; rfl), by rw [hpl]; exact hO, ⟨fun _ => ⟨hd12, hd2⟩, fun _ => rfl⟩, fun _ => ⟨rfl, hnl, hn0, hnm⟩, fun h => absurd rfl h, hB⟩

end Go.Proofs.Ytpogedmkmplckaa
