/-
  The walks of stuff.Bare; the statement StuffBack.
-/
import Derived.Test.YtpogedmkmplckaaStuff
import Derived.Test.YtpogedmkmplckaaRefs
namespace Go.Proofs.Ytpogedmkmplckaa
open Go Go.RowKit V
set_option linter.unusedVariables false

theorem bare_any (d : List Bool) (p : Option Addr) (c : Nat) (w0 : World) (hr : Rd w0 p (bv d)) (hl : d.length ≤ 64) :
    CallsV Try.prog 41 #[.slice p d.length c] w0 (fun v w => ∃ (p2 : Option Addr) (c2 : Nat) (L : List Bool) (ok : Bool), v = .tuple #[.slice p2 L.length c2, .bool ok] ∧ Own w w0.heap.size 4 p2 L.length c2 (bv L) ∧ L.length ≤ 64 ∧ (ok = true → bareL 0 d = some L) ∧ (ok = false → bareL 0 d = none) ∧ Below w0.heap.size w0 w) := by
  refine enter2 Try.func41 rfl Try.ntmps41 (by simp) rfl ?_
  have hB := Below.refl w0.heap.size w0
  simp only [argLoc]
  refine W.seqR ?_
  refine LS.vv rfl rfl (by decide) (Val.assign rfl) ?_
  refine LS.vv rfl rfl (by decide) (Val.assign rfl) ?_
  refine LS.nil ?_
  refine W.seqR ?_
  refine LS.vv rfl rfl (by decide) (Val.assign rfl) ?_
  refine LS.nil ?_
  refine W.seqR ?_
  refine LS.vv rfl rfl (by decide) (Val.cast (v := .int .i64 ((0 : Nat) : Int)) (Val.assign rfl) rfl) ?_
  refine LS.nil ?_
  refine W.seq ?_
  refine W.seqR ?_
  refine LS.vv rfl rfl (by decide) (Val.move rfl) ?_
  refine LS.vv rfl rfl (by decide) (Val.len Try.underlying22 rfl) ?_
  refine LS.vv rfl rfl (by decide) (Val.cast (v := .int .i64 ((0 : Nat) : Int)) (Val.move rfl) rfl) ?_
  refine LS.nil ?_
  refine W.block ?_
  refine W.loop (α := Nat × List Bool × Nat × Option Addr × Nat) (fun g => [(4, .slice g.2.2.2.1 g.2.1.length g.2.2.2.2), (5, .int .i64 (g.2.2.1 : Int)), (10, .int .i64 (g.1 : Int))]) [(8, _), (9, _)] (fun g w => (g.1 ≤ d.length ∧ g.2.1.length ≤ g.1 ∧ g.2.2.1 ≤ 5 ∧ bareL 0 d = (bareL g.2.2.1 (d.drop g.1)).map (g.2.1 ++ ·) ∧ Own w w0.heap.size 4 g.2.2.2.1 g.2.1.length g.2.2.2.2 (bv g.2.1)) ∧ Below w0.heap.size w0 w) (fun g => d.length - g.1) ((0, [], 0, none, 0)) (Sub.cons rfl (Sub.cons rfl (Sub.cons rfl (Sub.nil _)))) (Sub.cons rfl (Sub.cons rfl (Sub.nil _))) ?_ ?_
  · exact ⟨⟨Nat.zero_le _, Nat.le_refl _, by simp, by simp, Own.nil _ _ _⟩, hB⟩
  rintro ⟨k, ou, q, p1, c1⟩ w1 ⟨⟨hk, hol, hq, hst, hO⟩, hB⟩
  simp only [List.cons_append, List.nil_append]
  simp only at hk hol hq hst hO
  refine W.seqR ?_
  refine LS.vv rfl rfl (by decide) (Val.lss rfl rfl) ?_
  refine LS.nil ?_
  refine W.seq ?_
  first | refine W.condD rfl (fun hc1 => ?_) (fun hc1 => ?_) | refine W.cond rfl (fun hc1 => ?_) (fun hc1 => ?_)
  ·
    refine W.skip ?_
    refine thenP_normal ?_
    refine W.seq ?_
    refine W.block ?_
    refine W.seqR ?_
    refine LS.vv rfl rfl (by decide) (Val.index1 Try.underlying22 elem4 rfl rfl (by omega) hr (bv_lt (by omega))) ?_
    refine LS.m rfl (Step.load rfl rfl (by decide) flat4 rfl (hr.below hB) (bv_at (by omega)) ?_)
    refine LS.vv rfl rfl (by decide) (Val.assign rfl) ?_
    refine LS.nil ?_
    refine W.seq ?_
    refine W.seqR ?_
    refine LS.vv rfl rfl (by decide) (Val.move rfl) ?_
    refine LS.vv rfl rfl (by decide) (Val.eql rfl rfl) ?_
    refine LS.nil ?_
    first | refine W.condD rfl (fun hc2 => ?_) (fun hc2 => ?_) | refine W.cond rfl (fun hc2 => ?_) (fun hc2 => ?_)
    ·
      refine W.seq ?_
      refine W.seqR ?_
      refine LS.vv rfl rfl (by decide) (Val.move rfl) ?_
      refine LS.nil ?_
      first | refine W.condD rfl (fun hc3 => ?_) (fun hc3 => ?_) | refine W.cond rfl (fun hc3 => ?_) (fun hc3 => ?_)
      ·
        refine W.seqR ?_
        refine LS.vv rfl rfl (by decide) (Val.assign rfl) ?_
        refine LS.vv rfl rfl (by decide) (Val.assign rfl) ?_
        refine LS.nil ?_
        refine W.ret ?_
        refine thenP_ret ?_
        refine thenP_ret ?_
        refine inBlk_ret ?_
        refine thenP_ret ?_
        refine thenP_ret ?_
        refine inBlk_ret ?_
        refine thenP_ret ?_
        refine ret2 (by first | exact .inl rfl | exact .inr rfl) rfl rfl ?_
        first
          | (have hq5 : q = 5 := by omega
             rw [drop_gb (show k < d.length by omega), bareL, if_pos hq5, if_pos ‹gb d k = true›] at hst
             exact ⟨none, 0, [], false, rfl, Own.nil _ _ _, by simp, fun h => (by cases h), fun _ => (by simpa using hst), hB⟩)
          | (have hkk : k = d.length := by omega
             rw [hkk, List.drop_length, bareL] at hst
             refine ⟨_, _, ou, _, rfl, hO, by omega, fun h => ?_, fun h => ?_, hB⟩
             · have hx := of_decide_eq_true h
               rw [if_pos (by omega)] at hst; simpa using hst
             · have hx := of_decide_eq_false h
               rw [if_neg (by omega)] at hst; simpa using hst)
      ·
        refine W.skip ?_
        refine thenP_normal ?_
        refine W.seqR ?_
        refine LS.vv rfl rfl (by decide) (Val.cast (v := .int .i64 ((0 : Nat) : Int)) (Val.assign rfl) rfl) ?_
        refine LS.nil ?_
        refine W.exit ?_
        refine thenP_exit ?_
        refine inBlk_exit ?_
        refine thenP_normal ?_
        refine W.reg ?_
        first | refine LS.vv rfl rfl (by decide) (Val.addN (j := 1) rfl rfl (by omega)) ?_ | refine LS.vv rfl rfl (by decide) (Val.add64 rfl rfl (by omega)) ?_
        refine LS.vv rfl rfl (by decide) (Val.move rfl) ?_
        refine LS.nil ?_
        refine thenP_normal ?_
        rw [drop_gb (show k < d.length by omega), bareL] at hst
        have hnx : nxt q (gb d k) = if gb d k = true then q + 1 else 0 := rfl
        first
          | (have hq5 : q = 5 := by omega
             rw [if_pos hq5, if_neg (by rw [‹gb d k = false›]; decide)] at hst
             refine ⟨(k + 1, ou, 0, p1, c1), ?_, ?_, ⟨⟨by simp only; omega, by simp; omega, by simp only; omega, ?_, ?_⟩, hB⟩, by simp only; omega⟩
             · exact Sub.cons' rfl (by simp) (Sub.cons rfl (Sub.cons rfl (Sub.nil _)))
             · repeat (first | exact Sub.nil _ | refine Sub.cons rfl ?_)
             · exact hst
             · exact hO
          )
          | (have hq5 : ¬ q = 5 := by omega
             have hgt : gb d k = true := by simpa using ‹(!gb d k) = false›
             rw [if_neg hq5, hnx, if_pos hgt] at hst
             refine ⟨(k + 1, ou ++ [gb d k], q + 1, pa, ca), ?_, ?_, ⟨⟨by simp only; omega, by simp; omega, by simp only; omega, ?_, ?_⟩, hB⟩, by simp only; omega⟩
             · exact Sub.cons' rfl (by simp) (Sub.cons rfl (Sub.cons rfl (Sub.nil _)))
             · repeat (first | exact Sub.nil _ | refine Sub.cons rfl ?_)
             · simp only; rw [hst, Option.map_map]; congr 1; funext z; simp
             · simp only [bv, List.map_append, List.length_append]; exact hO
          )
          | (have hq5 : ¬ q = 5 := by omega
             have hgt : gb d k = false := by simpa using ‹(!gb d k) = true›
             rw [if_neg hq5, hnx, if_neg (by rw [hgt]; decide)] at hst
             refine ⟨(k + 1, ou ++ [gb d k], 0, pa, ca), ?_, ?_, ⟨⟨by simp only; omega, by simp; omega, by simp only; omega, ?_, ?_⟩, hB⟩, by simp only; omega⟩
             · exact Sub.cons' rfl (by simp) (Sub.cons rfl (Sub.cons rfl (Sub.nil _)))
             · repeat (first | exact Sub.nil _ | refine Sub.cons rfl ?_)
             · simp only; rw [hst, Option.map_map]; congr 1; funext z; simp
             · simp only [bv, List.map_append, List.length_append]; exact hO
          )
    ·
      refine W.skip ?_
      refine thenP_normal ?_
      refine W.seqR ?_
      refine LS.vv rfl rfl (by decide) (Val.move rfl) ?_
      refine LS.vv rfl rfl (by decide) (Val.move rfl) ?_
      refine LS.m rfl (Step.lit (B := w0.heap.size) rfl rfl (by decide) Try.underlying22 elem4 rfl rfl (by omega) (by simp [Value.oneCell']) hB.size ?_)
      rintro w2 hO2 hg2 hbl2 hsz2
      replace hB := hB.trans (hbl2.mono hB.size)
      replace hO := hO.below hbl2
      refine LS.m rfl (Step.append (B := w0.heap.size) rfl rfl (by decide) Try.underlying22 elem4 rfl rfl rfl rfl (hO) (hO2.rd) (rfl) ((by simp [Value.oneCell'])) (by omega) (by omega) hB.size ?_)
      rintro p3 c3 w3 hO3 hg3 hbl3
      replace hB := hB.trans hbl3
      have hO := hO3
      generalize p3 = pa at *
      generalize c3 = ca at *
      refine LS.vv rfl rfl (by decide) (Val.assign rfl) ?_
      refine LS.nil ?_
      refine W.seqR ?_
      refine LS.vv rfl rfl (by decide) (Val.move rfl) ?_
      first | refine LS.vv rfl rfl (by decide) (Val.addN (j := 1) rfl rfl (by omega)) ?_ | refine LS.vv rfl rfl (by decide) (Val.add64 rfl rfl (by omega)) ?_
      refine LS.vv rfl rfl (by decide) (Val.assign rfl) ?_
      refine LS.nil ?_
      refine W.seqR ?_
      refine LS.vv rfl rfl (by decide) (Val.move rfl) ?_
      refine LS.vv rfl rfl (by decide) (Val.not rfl) ?_
      refine LS.nil ?_
      first | refine W.condD rfl (fun hc4 => ?_) (fun hc4 => ?_) | refine W.cond rfl (fun hc4 => ?_) (fun hc4 => ?_)
      ·
        refine W.reg ?_
        refine LS.vv rfl rfl (by decide) (Val.cast (v := .int .i64 ((0 : Nat) : Int)) (Val.assign rfl) rfl) ?_
        refine LS.nil ?_
        refine inBlk_normal ?_
        refine thenP_normal ?_
        refine W.reg ?_
        first | refine LS.vv rfl rfl (by decide) (Val.addN (j := 1) rfl rfl (by omega)) ?_ | refine LS.vv rfl rfl (by decide) (Val.add64 rfl rfl (by omega)) ?_
        refine LS.vv rfl rfl (by decide) (Val.move rfl) ?_
        refine LS.nil ?_
        refine thenP_normal ?_
        rw [drop_gb (show k < d.length by omega), bareL] at hst
        have hnx : nxt q (gb d k) = if gb d k = true then q + 1 else 0 := rfl
        first
          | (have hq5 : q = 5 := by omega
             rw [if_pos hq5, if_neg (by rw [‹gb d k = false›]; decide)] at hst
             refine ⟨(k + 1, ou, 0, p1, c1), ?_, ?_, ⟨⟨by simp only; omega, by simp; omega, by simp only; omega, ?_, ?_⟩, hB⟩, by simp only; omega⟩
             · exact Sub.cons' rfl (by simp) (Sub.cons rfl (Sub.cons rfl (Sub.nil _)))
             · repeat (first | exact Sub.nil _ | refine Sub.cons rfl ?_)
             · exact hst
             · exact hO
          )
          | (have hq5 : ¬ q = 5 := by omega
             have hgt : gb d k = true := by simpa using ‹(!gb d k) = false›
             rw [if_neg hq5, hnx, if_pos hgt] at hst
             refine ⟨(k + 1, ou ++ [gb d k], q + 1, pa, ca), ?_, ?_, ⟨⟨by simp only; omega, by simp; omega, by simp only; omega, ?_, ?_⟩, hB⟩, by simp only; omega⟩
             · exact Sub.cons' rfl (by simp) (Sub.cons rfl (Sub.cons rfl (Sub.nil _)))
             · repeat (first | exact Sub.nil _ | refine Sub.cons rfl ?_)
             · simp only; rw [hst, Option.map_map]; congr 1; funext z; simp
             · simp only [bv, List.map_append, List.length_append]; exact hO
          )
          | (have hq5 : ¬ q = 5 := by omega
             have hgt : gb d k = false := by simpa using ‹(!gb d k) = true›
             rw [if_neg hq5, hnx, if_neg (by rw [hgt]; decide)] at hst
             refine ⟨(k + 1, ou ++ [gb d k], 0, pa, ca), ?_, ?_, ⟨⟨by simp only; omega, by simp; omega, by simp only; omega, ?_, ?_⟩, hB⟩, by simp only; omega⟩
             · exact Sub.cons' rfl (by simp) (Sub.cons rfl (Sub.cons rfl (Sub.nil _)))
             · repeat (first | exact Sub.nil _ | refine Sub.cons rfl ?_)
             · simp only; rw [hst, Option.map_map]; congr 1; funext z; simp
             · simp only [bv, List.map_append, List.length_append]; exact hO
          )
      ·
        refine W.skip ?_
        refine inBlk_normal ?_
        refine thenP_normal ?_
        refine W.reg ?_
        first | refine LS.vv rfl rfl (by decide) (Val.addN (j := 1) rfl rfl (by omega)) ?_ | refine LS.vv rfl rfl (by decide) (Val.add64 rfl rfl (by omega)) ?_
        refine LS.vv rfl rfl (by decide) (Val.move rfl) ?_
        refine LS.nil ?_
        refine thenP_normal ?_
        rw [drop_gb (show k < d.length by omega), bareL] at hst
        have hnx : nxt q (gb d k) = if gb d k = true then q + 1 else 0 := rfl
        first
          | (have hq5 : q = 5 := by omega
             rw [if_pos hq5, if_neg (by rw [‹gb d k = false›]; decide)] at hst
             refine ⟨(k + 1, ou, 0, p1, c1), ?_, ?_, ⟨⟨by simp only; omega, by simp; omega, by simp only; omega, ?_, ?_⟩, hB⟩, by simp only; omega⟩
             · exact Sub.cons' rfl (by simp) (Sub.cons rfl (Sub.cons rfl (Sub.nil _)))
             · repeat (first | exact Sub.nil _ | refine Sub.cons rfl ?_)
             · exact hst
             · exact hO
          )
          | (have hq5 : ¬ q = 5 := by omega
             have hgt : gb d k = true := by simpa using ‹(!gb d k) = false›
             rw [if_neg hq5, hnx, if_pos hgt] at hst
             refine ⟨(k + 1, ou ++ [gb d k], q + 1, pa, ca), ?_, ?_, ⟨⟨by simp only; omega, by simp; omega, by simp only; omega, ?_, ?_⟩, hB⟩, by simp only; omega⟩
             · exact Sub.cons' rfl (by simp) (Sub.cons rfl (Sub.cons rfl (Sub.nil _)))
             · repeat (first | exact Sub.nil _ | refine Sub.cons rfl ?_)
             · simp only; rw [hst, Option.map_map]; congr 1; funext z; simp
             · simp only [bv, List.map_append, List.length_append]; exact hO
          )
          | (have hq5 : ¬ q = 5 := by omega
             have hgt : gb d k = false := by simpa using ‹(!gb d k) = true›
             rw [if_neg hq5, hnx, if_neg (by rw [hgt]; decide)] at hst
             refine ⟨(k + 1, ou ++ [gb d k], 0, pa, ca), ?_, ?_, ⟨⟨by simp only; omega, by simp; omega, by simp only; omega, ?_, ?_⟩, hB⟩, by simp only; omega⟩
             · exact Sub.cons' rfl (by simp) (Sub.cons rfl (Sub.cons rfl (Sub.nil _)))
             · repeat (first | exact Sub.nil _ | refine Sub.cons rfl ?_)
             · simp only; rw [hst, Option.map_map]; congr 1; funext z; simp
             · simp only [bv, List.map_append, List.length_append]; exact hO
          )
  ·
    refine W.exit ?_
    refine thenP_exit ?_
    refine thenP_exit ?_
    refine inBlk_exit ?_
    refine thenP_normal ?_
    refine W.seqR ?_
    refine LS.vv rfl rfl (by decide) (Val.move rfl) ?_
    refine LS.vv rfl rfl (by decide) (Val.move rfl) ?_
    refine LS.vv rfl rfl (by decide) (Val.lss rfl rfl) ?_
    refine LS.vv rfl rfl (by decide) (Val.assign rfl) ?_
    refine LS.vv rfl rfl (by decide) (Val.assign rfl) ?_
    refine LS.nil ?_
    refine W.ret ?_
    refine ret2 (by first | exact .inl rfl | exact .inr rfl) rfl rfl ?_
    first
      | (have hq5 : q = 5 := by omega
         rw [drop_gb (show k < d.length by omega), bareL, if_pos hq5, if_pos ‹gb d k = true›] at hst
         exact ⟨none, 0, [], false, rfl, Own.nil _ _ _, by simp, fun h => (by cases h), fun _ => (by simpa using hst), hB⟩)
      | (have hkk : k = d.length := by omega
         rw [hkk, List.drop_length, bareL] at hst
         refine ⟨_, _, ou, _, rfl, hO, by omega, fun h => ?_, fun h => ?_, hB⟩
         · have hx := of_decide_eq_true h
           rw [if_pos (by omega)] at hst; simpa using hst
         · have hx := of_decide_eq_false h
           rw [if_neg (by omega)] at hst; simpa using hst)

theorem Stuff_any (d : List Bool) (p : Option Addr) (c : Nat) (n : Nat) (w0 : World) (hr : Rd w0 p (bv d)) (hn : d.length = n) :
    CallsV Try.prog 23 #[.slice p n c] w0 (fun v w => ∃ (p2 : Option Addr) (c2 : Nat) (L : List Bool) (e : Nat), v = .tuple #[.slice p2 L.length c2, .int .i64 (e : Int)] ∧ Own w w0.heap.size 4 p2 L.length c2 (bv L) ∧ (e = 0 ↔ d.length ≤ 64) ∧ (e = 0 → L = stuffL 0 d ∧ L.length ≤ 128) ∧ Below w0.heap.size w0 w) := by
  refine enter2 Try.func23 rfl Try.ntmps23 (by simp) rfl ?_
  have hB := Below.refl w0.heap.size w0
  simp only [argLoc]
  subst hn
  have hbs := hB.size
  refine W.seqR ?_
  refine LS.vv rfl rfl (by decide) (Val.assign rfl) ?_
  refine LS.vv rfl rfl (by decide) (Val.cast (v := .int .i64 ((0 : Nat) : Int)) (Val.assign rfl) rfl) ?_
  refine LS.nil ?_
  refine W.seq ?_
  refine W.seqR ?_
  refine LS.vv rfl rfl (by decide) (Val.move rfl) ?_
  refine LS.vv rfl rfl (by decide) (Val.len Try.underlying22 rfl) ?_
  refine LS.vv rfl rfl (by decide) (Val.gtr rfl rfl) ?_
  refine LS.nil ?_
  first | refine W.condD rfl (fun hc1 => ?_) (fun hc1 => ?_) | refine W.cond rfl (fun hc1 => ?_) (fun hc1 => ?_)
  ·
    refine W.seqR ?_
    refine LS.vv rfl rfl (by decide) (Val.assign rfl) ?_
    refine LS.vv rfl rfl (by decide) (Val.cast (v := .int .i64 ((1 : Nat) : Int)) (Val.assign rfl) rfl) ?_
    refine LS.nil ?_
    refine W.ret ?_
    refine thenP_ret ?_
    refine ret2 (by first | exact .inl rfl | exact .inr rfl) rfl rfl ?_
    first | exact ⟨none, 0, [], 1, rfl, Own.nil _ _ _, by omega, fun h => by omega, hB⟩ | exact ⟨p5, c5, _, 0, rfl, hO.base hbs, ⟨fun _ => by omega, fun _ => rfl⟩, fun _ => ⟨rfl, hl2⟩, hB⟩
  ·
    refine W.skip ?_
    refine thenP_normal ?_
    refine W.seqR ?_
    refine LS.vv rfl rfl (by decide) (Val.move rfl) ?_
    refine LS.m rfl (Step.call body40 rfl rfl (by decide) rfl (CallsV.mono (stuff_any d _ _ _ (hr.below hB) (by omega)) ?_))
    rintro _ w1 ⟨p5, c5, rfl, hO, hl2, hb1⟩
    replace hB := hB.trans (hb1.mono hB.size)
    refine LS.vv rfl rfl (by decide) (Val.assign rfl) ?_
    refine LS.vv rfl rfl (by decide) (Val.cast (v := .int .i64 ((0 : Nat) : Int)) (Val.assign rfl) rfl) ?_
    refine LS.nil ?_
    refine W.ret ?_
    refine ret2 (by first | exact .inl rfl | exact .inr rfl) rfl rfl ?_
    first | exact ⟨none, 0, [], 1, rfl, Own.nil _ _ _, by omega, fun h => by omega, hB⟩ | exact ⟨p5, c5, _, 0, rfl, hO.base hbs, ⟨fun _ => by omega, fun _ => rfl⟩, fun _ => ⟨rfl, hl2⟩, hB⟩

theorem Bare_any (d : List Bool) (p : Option Addr) (c : Nat) (n : Nat) (w0 : World) (hr : Rd w0 p (bv d)) (hn : d.length = n) :
    CallsV Try.prog 24 #[.slice p n c] w0 (fun v w => ∃ (p2 : Option Addr) (c2 : Nat) (L : List Bool) (e : Nat), v = .tuple #[.slice p2 L.length c2, .int .i64 (e : Int)] ∧ Own w w0.heap.size 4 p2 L.length c2 (bv L) ∧ L.length ≤ 64 ∧ (e = 0 → d.length ≤ 64 ∧ bareL 0 d = some L) ∧ (e ≠ 0 → L = [] ∧ (64 < d.length ∨ bareL 0 d = none)) ∧ Below w0.heap.size w0 w) := by
  refine enter2 Try.func24 rfl Try.ntmps24 (by simp) rfl ?_
  have hB := Below.refl w0.heap.size w0
  simp only [argLoc]
  subst hn
  have hbs := hB.size
  refine W.seqR ?_
  refine LS.vv rfl rfl (by decide) (Val.assign rfl) ?_
  refine LS.vv rfl rfl (by decide) (Val.cast (v := .int .i64 ((0 : Nat) : Int)) (Val.assign rfl) rfl) ?_
  refine LS.nil ?_
  refine W.seq ?_
  refine W.seqR ?_
  refine LS.vv rfl rfl (by decide) (Val.move rfl) ?_
  refine LS.vv rfl rfl (by decide) (Val.len Try.underlying22 rfl) ?_
  refine LS.vv rfl rfl (by decide) (Val.gtr rfl rfl) ?_
  refine LS.nil ?_
  first | refine W.condD rfl (fun hc1 => ?_) (fun hc1 => ?_) | refine W.cond rfl (fun hc1 => ?_) (fun hc1 => ?_)
  ·
    refine W.seqR ?_
    refine LS.vv rfl rfl (by decide) (Val.assign rfl) ?_
    refine LS.vv rfl rfl (by decide) (Val.cast (v := .int .i64 ((1 : Nat) : Int)) (Val.assign rfl) rfl) ?_
    refine LS.nil ?_
    refine W.ret ?_
    refine thenP_ret ?_
    refine ret2 (by first | exact .inl rfl | exact .inr rfl) rfl rfl ?_
    first | exact ⟨none, 0, [], 1, rfl, Own.nil _ _ _, by simp, fun h => by omega, fun _ => ⟨rfl, .inl (by omega)⟩, hB⟩ | exact ⟨none, 0, [], 3, rfl, Own.nil _ _ _, by simp, fun h => by omega, fun _ => ⟨rfl, .inr (hno (by simpa using ‹(!ok) = true›))⟩, hB⟩ | exact ⟨p5, c5, L, 0, rfl, hO.base hbs, hl2, fun _ => ⟨by omega, hy (by simpa using ‹(!ok) = false›)⟩, fun h => absurd rfl h, hB⟩
  ·
    refine W.skip ?_
    refine thenP_normal ?_
    refine W.seqR ?_
    refine LS.vv rfl rfl (by decide) (Val.move rfl) ?_
    refine LS.m rfl (Step.call body41 rfl rfl (by decide) rfl (CallsV.mono (bare_any d _ _ _ (hr.below hB) (by omega)) ?_))
    rintro _ w1 ⟨p5, c5, L, ok, rfl, hO, hl2, hy, hno, hb1⟩
    replace hB := hB.trans (hb1.mono hB.size)
    refine LS.vv rfl rfl (by decide) (Val.move rfl) ?_
    refine LS.vv rfl rfl (by decide) (Val.extract rfl rfl) ?_
    refine LS.vv rfl rfl (by decide) (Val.extract rfl rfl) ?_
    refine LS.vv rfl rfl (by decide) (Val.assign rfl) ?_
    refine LS.vv rfl rfl (by decide) (Val.assign rfl) ?_
    refine LS.nil ?_
    refine W.seq ?_
    refine W.seqR ?_
    refine LS.vv rfl rfl (by decide) (Val.move rfl) ?_
    refine LS.vv rfl rfl (by decide) (Val.not rfl) ?_
    refine LS.nil ?_
    first | refine W.condD rfl (fun hc2 => ?_) (fun hc2 => ?_) | refine W.cond rfl (fun hc2 => ?_) (fun hc2 => ?_)
    ·
      refine W.seqR ?_
      refine LS.vv rfl rfl (by decide) (Val.assign rfl) ?_
      refine LS.vv rfl rfl (by decide) (Val.cast (v := .int .i64 ((3 : Nat) : Int)) (Val.assign rfl) rfl) ?_
      refine LS.nil ?_
      refine W.ret ?_
      refine thenP_ret ?_
      refine ret2 (by first | exact .inl rfl | exact .inr rfl) rfl rfl ?_
      first | exact ⟨none, 0, [], 1, rfl, Own.nil _ _ _, by simp, fun h => by omega, fun _ => ⟨rfl, .inl (by omega)⟩, hB⟩ | exact ⟨none, 0, [], 3, rfl, Own.nil _ _ _, by simp, fun h => by omega, fun _ => ⟨rfl, .inr (hno (by simpa using ‹(!ok) = true›))⟩, hB⟩ | exact ⟨p5, c5, L, 0, rfl, hO.base hbs, hl2, fun _ => ⟨by omega, hy (by simpa using ‹(!ok) = false›)⟩, fun h => absurd rfl h, hB⟩
    ·
      refine W.skip ?_
      refine thenP_normal ?_
      refine W.seqR ?_
      refine LS.vv rfl rfl (by decide) (Val.move rfl) ?_
      refine LS.vv rfl rfl (by decide) (Val.assign rfl) ?_
      refine LS.vv rfl rfl (by decide) (Val.cast (v := .int .i64 ((0 : Nat) : Int)) (Val.assign rfl) rfl) ?_
      refine LS.nil ?_
      refine W.ret ?_
      refine ret2 (by first | exact .inl rfl | exact .inr rfl) rfl rfl ?_
      first | exact ⟨none, 0, [], 1, rfl, Own.nil _ _ _, by simp, fun h => by omega, fun _ => ⟨rfl, .inl (by omega)⟩, hB⟩ | exact ⟨none, 0, [], 3, rfl, Own.nil _ _ _, by simp, fun h => by omega, fun _ => ⟨rfl, .inr (hno (by simpa using ‹(!ok) = true›))⟩, hB⟩ | exact ⟨p5, c5, L, 0, rfl, hO.base hbs, hl2, fun _ => ⟨by omega, hy (by simpa using ‹(!ok) = false›)⟩, fun h => absurd rfl h, hB⟩

theorem stuffBack_any (d : List Bool) (p : Option Addr) (c : Nat) (w0 : World) (hr : Rd w0 p (bv d)) :
    CallsV Try.prog 8 #[.slice p d.length c] w0 (fun v w => v = .bool true ∧ Below w0.heap.size w0 w) := by
  refine enter1 Try.func8 rfl Try.ntmps8 (by simp) rfl ?_
  have hB := Below.refl w0.heap.size w0
  simp only [argLoc]
  refine W.seqR ?_
  refine LS.vv rfl rfl (by decide) (Val.assign rfl) ?_
  refine LS.nil ?_
  refine W.seqR ?_
  refine LS.vv rfl rfl (by decide) (Val.move rfl) ?_
  refine LS.m rfl (Step.call body23 rfl rfl (by decide) rfl (CallsV.mono (Stuff_any d _ _ _ _ (hr.below hB) rfl) ?_))
  rintro _ w1 ⟨p1, c1, m, e, rfl, hOm, he, hm, hb1⟩
  replace hB := hB.trans (hb1.mono hB.size)
  refine LS.vv rfl rfl (by decide) (Val.move rfl) ?_
  refine LS.vv rfl rfl (by decide) (Val.extract rfl rfl) ?_
  refine LS.vv rfl rfl (by decide) (Val.extract rfl rfl) ?_
  refine LS.vv rfl rfl (by decide) (Val.assign rfl) ?_
  refine LS.vv rfl rfl (by decide) (Val.assign rfl) ?_
  refine LS.nil ?_
  refine W.seqR ?_
  refine LS.vv rfl rfl (by decide) (Val.move rfl) ?_
  have hbs0 := hB.size
  refine LS.m rfl (Step.call body24 rfl rfl (by decide) rfl (CallsV.mono (Bare_any d _ _ _ _ (hr.below hB) rfl) ?_))
  rintro _ w2 ⟨p2, c2, D, f, rfl, hOd, hDl, hf, hf0, hb2⟩
  replace hB := hB.trans (hb2.mono hB.size)
  replace hOd := hOd.base hbs0
  replace hOm := hOm.below hb2
  refine LS.vv rfl rfl (by decide) (Val.move rfl) ?_
  refine LS.vv rfl rfl (by decide) (Val.extract rfl rfl) ?_
  refine LS.vv rfl rfl (by decide) (Val.extract rfl rfl) ?_
  refine LS.vv rfl rfl (by decide) (Val.assign rfl) ?_
  refine LS.vv rfl rfl (by decide) (Val.assign rfl) ?_
  refine LS.nil ?_
  refine W.seq ?_
  refine W.seqR ?_
  refine LS.vv rfl rfl (by decide) (Val.move rfl) ?_
  refine LS.vv rfl rfl (by decide) (Val.len Try.underlying22 rfl) ?_
  refine LS.vv rfl rfl (by decide) (Val.gtr rfl rfl) ?_
  refine LS.nil ?_
  first | refine W.condD rfl (fun hc1 => ?_) (fun hc1 => ?_) | refine W.cond rfl (fun hc1 => ?_) (fun hc1 => ?_)
  ·
    refine W.seqR ?_
    refine LS.vv rfl rfl (by decide) (Val.move rfl) ?_
    refine LS.vv rfl rfl (by decide) (Val.cast (v := .bool true) (Val.neq rfl rfl) (by refine congrArg Value.bool (decide_eq_true ?_); omega)) ?_
    refine LS.vv rfl rfl (by decide) (Val.move rfl) ?_
    refine LS.vg rfl rfl rfl rfl (by decide) (Val.move rfl) ?_
    have hf64 : f = 0 → d.length ≤ 64 := fun h => (hf h).1
    refine LS.vg rfl rfl rfl rfl (by decide) (Val.cast (v := .bool true) (Val.neq rfl rfl) (by refine congrArg Value.bool (decide_eq_true ?_); omega)) ?_
    refine LS.vv rfl rfl (by decide) (Val.pickT rfl rfl rfl) ?_
    refine LS.vv rfl rfl (by decide) (Val.assign rfl) ?_
    refine LS.nil ?_
    refine W.ret ?_
    refine thenP_ret ?_
    refine ret1 (by first | exact .inl rfl | exact .inr rfl) rfl ?_
    first | exact ⟨rfl, hB⟩ | contradiction | (exfalso; omega)
  ·
    refine W.skip ?_
    refine thenP_normal ?_
    refine W.seq ?_
    refine W.seqR ?_
    refine LS.vv rfl rfl (by decide) (Val.move rfl) ?_
    have hE : e = 0 := he.2 (by omega)
    obtain ⟨rfl, hml⟩ := hm hE
    have hruns := stuff_runs d 0 (by omega)
    refine LS.vv rfl rfl (by decide) (Val.cast (v := .bool false) (Val.neq rfl rfl) (by simp; omega)) ?_
    refine LS.nil ?_
    refine W.condF rfl ?_
    refine W.skip ?_
    refine thenP_normal ?_
    refine W.seqR ?_
    refine LS.vv rfl rfl (by decide) (Val.cast (v := .int .i64 ((0 : Nat) : Int)) (Val.assign rfl) rfl) ?_
    refine LS.nil ?_
    refine W.seq ?_
    refine W.seqR ?_
    refine LS.vv rfl rfl (by decide) (Val.move rfl) ?_
    refine LS.vv rfl rfl (by decide) (Val.len Try.underlying22 rfl) ?_
    refine LS.vv rfl rfl (by decide) (Val.cast (v := .int .i64 ((0 : Nat) : Int)) (Val.move rfl) rfl) ?_
    refine LS.nil ?_
    refine W.block ?_
    refine W.loop (α := Nat) (fun k => [(7, .int .i64 (runAt (stuffL 0 d) k : Int)), (36, .int .i64 (k : Int))]) [(0, _), (3, _), (5, _), (6, _), (34, _), (35, _)] (fun k w => (k ≤ (stuffL 0 d).length ∧ Own w w0.heap.size 4 p1 (stuffL 0 d).length c1 (bv (stuffL 0 d)) ∧ Own w w0.heap.size 4 p2 D.length c2 (bv D)) ∧ Below w0.heap.size w0 w) (fun k => (stuffL 0 d).length - k) (0) (Sub.cons rfl (Sub.cons rfl (Sub.nil _))) (Sub.cons rfl (Sub.cons rfl (Sub.cons rfl (Sub.cons rfl (Sub.cons rfl (Sub.cons rfl (Sub.nil _))))))) ?_ ?_
    · exact ⟨⟨Nat.zero_le _, hOm, hOd⟩, hB⟩
    rintro k w3 ⟨⟨hk, hOm, hOd⟩, hB⟩
    simp only [List.cons_append, List.nil_append]
    have hrk0 := runs_le (runs_at k hk hruns)
    refine W.seqR ?_
    refine LS.vv rfl rfl (by decide) (Val.lss rfl rfl) ?_
    refine LS.nil ?_
    refine W.seq ?_
    first | refine W.condD rfl (fun hc2 => ?_) (fun hc2 => ?_) | refine W.cond rfl (fun hc2 => ?_) (fun hc2 => ?_)
    ·
      refine W.skip ?_
      refine thenP_normal ?_
      refine W.seq ?_
      refine W.block ?_
      refine W.seqR ?_
      refine LS.vv rfl rfl (by decide) (Val.index1 Try.underlying22 elem4 rfl rfl (by omega) hOm.rd (bv_lt (by omega))) ?_
      refine LS.m rfl (Step.load rfl rfl (by decide) flat4 rfl hOm.rd (bv_at (by omega)) ?_)
      refine LS.vv rfl rfl (by decide) (Val.assign rfl) ?_
      refine LS.nil ?_
      refine W.seqR ?_
      refine LS.vv rfl rfl (by decide) (Val.move rfl) ?_
      first | refine LS.vv rfl rfl (by decide) (Val.addN (j := 1) rfl rfl (by omega)) ?_ | refine LS.vv rfl rfl (by decide) (Val.add64 rfl rfl (by omega)) ?_
      refine LS.vv rfl rfl (by decide) (Val.assign rfl) ?_
      refine LS.nil ?_
      refine W.seq ?_
      refine W.seqR ?_
      refine LS.vv rfl rfl (by decide) (Val.move rfl) ?_
      refine LS.vv rfl rfl (by decide) (Val.not rfl) ?_
      refine LS.nil ?_
      first | refine W.condD rfl (fun hc3 => ?_) (fun hc3 => ?_) | refine W.cond rfl (fun hc3 => ?_) (fun hc3 => ?_)
      ·
        refine W.reg ?_
        refine LS.vv rfl rfl (by decide) (Val.cast (v := .int .i64 ((0 : Nat) : Int)) (Val.assign rfl) rfl) ?_
        refine LS.nil ?_
        refine thenP_normal ?_
        refine W.seqR ?_
        refine LS.vv rfl rfl (by decide) (Val.move rfl) ?_
        have hrk := runs_le (runs_at (k + 1) (by omega) hruns)
        rw [runAt_succ, nxt] at hrk
        refine LS.vv rfl rfl (by decide) (Val.cast (v := .bool false) (Val.gtr rfl rfl) (by first | (rw [if_pos (show gb (stuffL 0 d) k = true by simpa using ‹(!gb (stuffL 0 d) k) = false›)] at hrk; simp; omega) | (simp; done))) ?_
        refine LS.nil ?_
        refine W.condF rfl ?_
        refine W.skip ?_
        refine inBlk_normal ?_
        refine thenP_normal ?_
        refine W.reg ?_
        first | refine LS.vv rfl rfl (by decide) (Val.addN (j := 1) rfl rfl (by omega)) ?_ | refine LS.vv rfl rfl (by decide) (Val.add64 rfl rfl (by omega)) ?_
        refine LS.vv rfl rfl (by decide) (Val.move rfl) ?_
        refine LS.nil ?_
        refine thenP_normal ?_
        have hrs := runAt_succ (stuffL 0 d) k
        rw [nxt] at hrs
        refine ⟨k + 1, ?_, ?_, ⟨⟨by omega, hOm, hOd⟩, hB⟩, by omega⟩
        · first | exact Sub.cons' rfl (by rw [hrs, if_pos (show gb (stuffL 0 d) k = true by simpa using ‹(!gb (stuffL 0 d) k) = false›)]) (Sub.cons rfl (Sub.nil _)) | exact Sub.cons' rfl (by rw [hrs, if_neg (show ¬ gb (stuffL 0 d) k = true by simpa using ‹(!gb (stuffL 0 d) k) = true›)]) (Sub.cons rfl (Sub.nil _))
        · repeat (first | exact Sub.nil _ | refine Sub.cons rfl ?_)
      ·
        refine W.skip ?_
        refine thenP_normal ?_
        refine W.seqR ?_
        refine LS.vv rfl rfl (by decide) (Val.move rfl) ?_
        have hrk := runs_le (runs_at (k + 1) (by omega) hruns)
        rw [runAt_succ, nxt] at hrk
        refine LS.vv rfl rfl (by decide) (Val.cast (v := .bool false) (Val.gtr rfl rfl) (by first | (rw [if_pos (show gb (stuffL 0 d) k = true by simpa using ‹(!gb (stuffL 0 d) k) = false›)] at hrk; simp; omega) | (simp; done))) ?_
        refine LS.nil ?_
        refine W.condF rfl ?_
        refine W.skip ?_
        refine inBlk_normal ?_
        refine thenP_normal ?_
        refine W.reg ?_
        first | refine LS.vv rfl rfl (by decide) (Val.addN (j := 1) rfl rfl (by omega)) ?_ | refine LS.vv rfl rfl (by decide) (Val.add64 rfl rfl (by omega)) ?_
        refine LS.vv rfl rfl (by decide) (Val.move rfl) ?_
        refine LS.nil ?_
        refine thenP_normal ?_
        have hrs := runAt_succ (stuffL 0 d) k
        rw [nxt] at hrs
        refine ⟨k + 1, ?_, ?_, ⟨⟨by omega, hOm, hOd⟩, hB⟩, by omega⟩
        · first | exact Sub.cons' rfl (by rw [hrs, if_pos (show gb (stuffL 0 d) k = true by simpa using ‹(!gb (stuffL 0 d) k) = false›)]) (Sub.cons rfl (Sub.nil _)) | exact Sub.cons' rfl (by rw [hrs, if_neg (show ¬ gb (stuffL 0 d) k = true by simpa using ‹(!gb (stuffL 0 d) k) = true›)]) (Sub.cons rfl (Sub.nil _))
        · repeat (first | exact Sub.nil _ | refine Sub.cons rfl ?_)
    ·
      refine W.exit ?_
      refine thenP_exit ?_
      refine thenP_exit ?_
      refine inBlk_exit ?_
      refine thenP_normal ?_
      refine W.seqR ?_
      refine LS.vv rfl rfl (by decide) (Val.move rfl) ?_
      refine LS.m rfl (Step.call body24 rfl rfl (by decide) rfl (CallsV.mono (Bare_any (stuffL 0 d) _ _ _ _ hOm.rd rfl) ?_))
      rintro _ w4 ⟨p3, c3, bk, g, rfl, hOb, hbl9, hg, hg0, hb4⟩
      replace hB := hB.trans (hb4.mono hB.size)
      replace hOd := hOd.below hb4
      replace hOm := hOm.below hb4
      have hbs := bare_stuff d 0 (by omega)
      have hgg : (stuffL 0 d).length ≤ 64 → g = 0 := fun h => Classical.byContradiction fun hn => by
        rcases (hg0 hn).2 with h1 | h1
        · omega
        · rw [hbs] at h1; cases h1
      have hbk : g = 0 → bk = d := fun h => by (have hx := (hg h).2; rw [hbs] at hx; cases hx; rfl)
      refine LS.vv rfl rfl (by decide) (Val.move rfl) ?_
      refine LS.vv rfl rfl (by decide) (Val.extract rfl rfl) ?_
      refine LS.vv rfl rfl (by decide) (Val.extract rfl rfl) ?_
      refine LS.vv rfl rfl (by decide) (Val.assign rfl) ?_
      refine LS.vv rfl rfl (by decide) (Val.assign rfl) ?_
      refine LS.nil ?_
      refine W.seq ?_
      refine W.seqR ?_
      refine LS.vv rfl rfl (by decide) (Val.move rfl) ?_
      refine LS.vv rfl rfl (by decide) (Val.len Try.underlying22 rfl) ?_
      refine LS.vv rfl rfl (by decide) (Val.leq rfl rfl) ?_
      refine LS.vv rfl rfl (by decide) (Val.move rfl) ?_
      refine LS.split 3 rfl (fun hg4 => ?_) (fun hg4 => ?_)
      ·
        first | (have hg4p := of_decide_eq_true hg4) | skip
        refine LS.vg rfl rfl rfl hg4 (by decide) (Val.move rfl) ?_
        have hlen64 := of_decide_eq_true ‹decide (((stuffL 0 d).length : Int) ≤ _) = true›
        have hG : g = 0 := hgg (by omega)
        have hbk2 := hbk hG
        subst hbk2
        refine LS.vg rfl rfl rfl hg4 (by decide) (Val.cast (v := .bool false) (Val.neq rfl rfl) (by simp; omega)) ?_
        refine LS.vg rfl rfl rfl hg4 (by decide) (Val.move rfl) ?_
        refine LS.vg rfl rfl rfl rfl (by decide) (Val.move rfl) ?_
        refine LS.vg rfl rfl rfl rfl (by decide) (Val.move rfl) ?_
        refine LS.mg rfl rfl rfl (Step.call body13 rfl rfl (by decide) rfl (CallsV.mono (boolsEq_any bk bk _ _ _ _ _ hOb.rd (hr.below hB) (by omega)) ?_))
        rintro _ w5 ⟨rfl, hb5⟩
        replace hB := hB.trans (hb5.mono hB.size)
        rw [show decide (bk = bk) = true from decide_eq_true rfl]
        replace hOd := hOd.below hb5
        refine LS.vg rfl rfl rfl rfl (by decide) (Val.cast (v := .bool false) (Val.not rfl) (by rfl)) ?_
        refine LS.vg rfl rfl rfl hg4 (by decide) (Val.pickF rfl rfl rfl) ?_
        refine LS.vv rfl rfl (by decide) (Val.pickT rfl hg4 rfl) ?_
        refine LS.nil ?_
        refine W.condF rfl ?_
        refine W.skip ?_
        refine thenP_normal ?_
        refine W.seq ?_
        refine W.seqR ?_
        refine LS.vv rfl rfl (by decide) (Val.move rfl) ?_
        refine LS.vv rfl rfl (by decide) (Val.neq rfl rfl) ?_
        refine LS.nil ?_
        first | refine W.condD rfl (fun hc5 => ?_) (fun hc5 => ?_) | refine W.cond rfl (fun hc5 => ?_) (fun hc5 => ?_)
        ·
          refine W.seqR ?_
          refine LS.vv rfl rfl (by decide) (Val.move rfl) ?_
          refine LS.vv rfl rfl (by decide) (Val.len Try.underlying22 rfl) ?_
          obtain rfl := (hf0 (by omega)).1
          refine LS.vv rfl rfl (by decide) (Val.cast (v := .bool true) (Val.eql rfl rfl) (by rfl)) ?_
          refine LS.vv rfl rfl (by decide) (Val.assign rfl) ?_
          refine LS.nil ?_
          refine W.ret ?_
          refine thenP_ret ?_
          refine ret1 (by first | exact .inl rfl | exact .inr rfl) rfl ?_
          first | exact ⟨rfl, hB⟩ | contradiction | (exfalso; omega)
        ·
          refine W.skip ?_
          refine thenP_normal ?_
          refine W.seqR ?_
          refine LS.vv rfl rfl (by decide) (Val.move rfl) ?_
          obtain ⟨hd64, hbd⟩ := hf (by omega)
          have hsb := stuff_bare _ _ _ 0 (Nat.le_refl _) (by omega) hbd
          refine LS.m rfl (Step.call body23 rfl rfl (by decide) rfl (CallsV.mono (Stuff_any D _ _ _ _ hOd.rd rfl) ?_))
          rintro _ w6 ⟨p4, c4, ag, h2, rfl, hOa, hh2, hag, hb6⟩
          replace hB := hB.trans (hb6.mono hB.size)
          have hH : h2 = 0 := hh2.2 hDl
          have hag2 := (hag hH).1
          rw [hsb] at hag2
          subst hag2
          refine LS.vv rfl rfl (by decide) (Val.move rfl) ?_
          refine LS.vv rfl rfl (by decide) (Val.extract rfl rfl) ?_
          refine LS.vv rfl rfl (by decide) (Val.extract rfl rfl) ?_
          refine LS.vv rfl rfl (by decide) (Val.assign rfl) ?_
          refine LS.vv rfl rfl (by decide) (Val.assign rfl) ?_
          refine LS.nil ?_
          refine W.seqR ?_
          refine LS.vv rfl rfl (by decide) (Val.move rfl) ?_
          refine LS.vv rfl rfl (by decide) (Val.cast (v := .bool true) (Val.eql rfl rfl) (by simp; omega)) ?_
          refine LS.vv rfl rfl (by decide) (Val.move rfl) ?_
          refine LS.vg rfl rfl rfl rfl (by decide) (Val.move rfl) ?_
          refine LS.vg rfl rfl rfl rfl (by decide) (Val.move rfl) ?_
          refine LS.mg rfl rfl rfl (Step.call body13 rfl rfl (by decide) rfl (CallsV.mono (boolsEq_any ag ag _ _ _ _ _ hOa.rd (hr.below hB) (by omega)) ?_))
          rintro _ w7 ⟨rfl, hb7⟩
          replace hB := hB.trans (hb7.mono hB.size)
          rw [show decide (ag = ag) = true from decide_eq_true rfl]
          refine LS.vv rfl rfl (by decide) (Val.pickT rfl rfl rfl) ?_
          refine LS.vv rfl rfl (by decide) (Val.assign rfl) ?_
          refine LS.nil ?_
          refine W.ret ?_
          refine ret1 (by first | exact .inl rfl | exact .inr rfl) rfl ?_
          first | exact ⟨rfl, hB⟩ | contradiction | (exfalso; omega)
      ·
        first | (have hg4p := of_decide_eq_false hg4) | skip
        refine LS.s rfl rfl rfl hg4 (by decide) ?_
        refine LS.s rfl rfl rfl hg4 (by decide) ?_
        refine LS.s rfl rfl rfl hg4 (by decide) ?_
        refine LS.skipU rfl rfl rfl (by decide) ?_
        refine LS.skipU rfl rfl rfl (by decide) ?_
        refine LS.skipU rfl rfl rfl (by decide) ?_
        refine LS.skipU rfl rfl rfl (by decide) ?_
        refine LS.s rfl rfl rfl hg4 (by decide) ?_
        refine LS.vv rfl rfl (by decide) (Val.pickF rfl hg4 rfl) ?_
        refine LS.nil ?_
        refine W.condF rfl ?_
        refine W.skip ?_
        refine thenP_normal ?_
        refine W.seq ?_
        refine W.seqR ?_
        refine LS.vv rfl rfl (by decide) (Val.move rfl) ?_
        refine LS.vv rfl rfl (by decide) (Val.neq rfl rfl) ?_
        refine LS.nil ?_
        first | refine W.condD rfl (fun hc6 => ?_) (fun hc6 => ?_) | refine W.cond rfl (fun hc6 => ?_) (fun hc6 => ?_)
        ·
          refine W.seqR ?_
          refine LS.vv rfl rfl (by decide) (Val.move rfl) ?_
          refine LS.vv rfl rfl (by decide) (Val.len Try.underlying22 rfl) ?_
          obtain rfl := (hf0 (by omega)).1
          refine LS.vv rfl rfl (by decide) (Val.cast (v := .bool true) (Val.eql rfl rfl) (by rfl)) ?_
          refine LS.vv rfl rfl (by decide) (Val.assign rfl) ?_
          refine LS.nil ?_
          refine W.ret ?_
          refine thenP_ret ?_
          refine ret1 (by first | exact .inl rfl | exact .inr rfl) rfl ?_
          first | exact ⟨rfl, hB⟩ | contradiction | (exfalso; omega)
        ·
          refine W.skip ?_
          refine thenP_normal ?_
          refine W.seqR ?_
          refine LS.vv rfl rfl (by decide) (Val.move rfl) ?_
          obtain ⟨hd64, hbd⟩ := hf (by omega)
          have hsb := stuff_bare _ _ _ 0 (Nat.le_refl _) (by omega) hbd
          refine LS.m rfl (Step.call body23 rfl rfl (by decide) rfl (CallsV.mono (Stuff_any D _ _ _ _ hOd.rd rfl) ?_))
          rintro _ w8 ⟨p4, c4, ag, h2, rfl, hOa, hh2, hag, hb8⟩
          replace hB := hB.trans (hb8.mono hB.size)
          have hH : h2 = 0 := hh2.2 hDl
          have hag2 := (hag hH).1
          rw [hsb] at hag2
          subst hag2
          refine LS.vv rfl rfl (by decide) (Val.move rfl) ?_
          refine LS.vv rfl rfl (by decide) (Val.extract rfl rfl) ?_
          refine LS.vv rfl rfl (by decide) (Val.extract rfl rfl) ?_
          refine LS.vv rfl rfl (by decide) (Val.assign rfl) ?_
          refine LS.vv rfl rfl (by decide) (Val.assign rfl) ?_
          refine LS.nil ?_
          refine W.seqR ?_
          refine LS.vv rfl rfl (by decide) (Val.move rfl) ?_
          refine LS.vv rfl rfl (by decide) (Val.cast (v := .bool true) (Val.eql rfl rfl) (by simp; omega)) ?_
          refine LS.vv rfl rfl (by decide) (Val.move rfl) ?_
          refine LS.vg rfl rfl rfl rfl (by decide) (Val.move rfl) ?_
          refine LS.vg rfl rfl rfl rfl (by decide) (Val.move rfl) ?_
          refine LS.mg rfl rfl rfl (Step.call body13 rfl rfl (by decide) rfl (CallsV.mono (boolsEq_any ag ag _ _ _ _ _ hOa.rd (hr.below hB) (by omega)) ?_))
          rintro _ w9 ⟨rfl, hb9⟩
          replace hB := hB.trans (hb9.mono hB.size)
          rw [show decide (ag = ag) = true from decide_eq_true rfl]
          refine LS.vv rfl rfl (by decide) (Val.pickT rfl rfl rfl) ?_
          refine LS.vv rfl rfl (by decide) (Val.assign rfl) ?_
          refine LS.nil ?_
          refine W.ret ?_
          refine ret1 (by first | exact .inl rfl | exact .inr rfl) rfl ?_
          first | exact ⟨rfl, hB⟩ | contradiction | (exfalso; omega)

end Go.Proofs.Ytpogedmkmplckaa
