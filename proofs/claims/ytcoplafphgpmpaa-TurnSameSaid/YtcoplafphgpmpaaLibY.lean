/-
  Walks of the library: Clone, Grow, Concat.
-/
import Derived.Test.YtcoplafphgpmpaaVfacts2
import Derived.Test.YtcoplafphgpmpaaVmem4
import Derived.Test.YtcoplafphgpmpaaDigsPlain
namespace Go.Proofs.Ytcoplafphgpmpaa
open Go Go.RowKit V
set_option linter.unusedVariables false
set_option linter.unusedSimpArgs false

theorem growNil_u8 (m : Nat) (w0 : World) (hm : m ≤ 1000000) :
    CallsV Try.prog 52 #[.slice none 0 0, .int .i64 (m : Int)] w0 (fun v w => ∃ (p2 : Option Addr) (c2 : Nat), v = .slice p2 0 c2 ∧ Own w w0.heap.size 5 p2 0 c2 [] ∧ Below w0.heap.size w0 w) := by
  refine enter1 Try.func52 rfl Try.ntmps52 (by simp) rfl ?_
  have hB := Below.refl w0.heap.size w0
  simp only [argLoc, Nat.zero_add]
  refine W.seqR ?_
  refine LS.vv rfl rfl (by decide) (Val.assign rfl) ?_
  refine LS.nil ?_
  refine W.seq ?_
  refine W.seqR ?_
  refine LS.vv rfl rfl (by decide) (Val.move rfl) ?_
  refine LS.vv rfl rfl (by decide) (Val.lss rfl rfl) ?_
  refine LS.nil ?_
  first | refine W.condD rfl (fun hc1 => ?_) (fun hc1 => ?_) | refine W.cond rfl (fun hc1 => ?_) (fun hc1 => ?_)
  ·
    exfalso; omega
  ·
    refine W.skip ?_
    refine thenP_normal ?_
    refine W.seq ?_
    refine W.seqR ?_
    refine LS.vv rfl rfl (by decide) (Val.move rfl) ?_
    refine LS.vv rfl rfl (by decide) (Val.move rfl) ?_
    refine LS.vv rfl rfl (by decide) (Val.cap Try.underlying22 rfl) ?_
    refine LS.vv rfl rfl (by decide) (Val.move rfl) ?_
    refine LS.vv rfl rfl (by decide) (Val.len Try.underlying22 rfl) ?_
    refine LS.vv rfl rfl (by decide) (Val.subN rfl rfl (by omega) (by omega)) ?_
    refine LS.vv rfl rfl (by decide) (Val.subN (j := 0) rfl rfl (by omega) (by omega)) ?_
    refine LS.vv rfl rfl (by decide) (Val.assign rfl) ?_
    refine LS.nil ?_
    refine W.seqR ?_
    refine LS.vv rfl rfl (by decide) (Val.move rfl) ?_
    refine LS.vv rfl rfl (by decide) (Val.gtr rfl rfl) ?_
    refine LS.nil ?_
    first | refine W.condD rfl (fun hc2 => ?_) (fun hc2 => ?_) | refine W.cond rfl (fun hc2 => ?_) (fun hc2 => ?_)
    ·
      refine W.reg ?_
      refine LS.vv rfl rfl (by decide) (Val.move rfl) ?_
      refine LS.vv rfl rfl (by decide) (Val.move rfl) ?_
      refine LS.vv rfl rfl (by decide) (Val.cap Try.underlying22 rfl) ?_
      refine LS.vv rfl rfl (by decide) (Val.sliceTo (h := 0) Try.underlying22 elem5 rfl rfl (by omega)) ?_
      refine LS.vv rfl rfl (by decide) (Val.move rfl) ?_
      refine LS.m rfl (Step.growNil (B := w0.heap.size) rfl rfl (by decide) Try.underlying22 Try.underlying3 elem5 rfl rfl rfl (by omega) (by omega) (by omega) hB.size ?_)
      rintro w1 G1 hO1 hG1 hbl1
      replace hB := hB.trans (hbl1.mono hB.size)
      refine LS.vv rfl rfl (by decide) (Val.move rfl) ?_
      refine LS.vv rfl rfl (by decide) (Val.len Try.underlying22 rfl) ?_
      refine LS.vv rfl rfl (by decide) (Val.sliceTo (h := 0) Try.underlying22 elem5 rfl rfl (by omega)) ?_
      refine LS.vv rfl rfl (by decide) (Val.assign rfl) ?_
      refine LS.nil ?_
      refine thenP_normal ?_
      refine W.seqR ?_
      refine LS.vv rfl rfl (by decide) (Val.move rfl) ?_
      refine LS.vv rfl rfl (by decide) (Val.assign rfl) ?_
      refine LS.nil ?_
      refine W.ret ?_
      refine ret1 (by first | exact .inl rfl | exact .inr rfl) rfl ?_
      first | exact ⟨_, _, rfl, hO1, hB⟩ | exact ⟨none, 0, rfl, Own.nil _ _ _, hB⟩
    ·
      refine W.skip ?_
      refine thenP_normal ?_
      refine W.seqR ?_
      refine LS.vv rfl rfl (by decide) (Val.move rfl) ?_
      refine LS.vv rfl rfl (by decide) (Val.assign rfl) ?_
      refine LS.nil ?_
      refine W.ret ?_
      refine ret1 (by first | exact .inl rfl | exact .inr rfl) rfl ?_
      first | exact ⟨_, _, rfl, hO0, hB⟩ | exact ⟨none, 0, rfl, Own.nil _ _ _, hB⟩

abbrev Pc_u8 := Option Addr × Nat × List Nat
def sv_u8 (ls : List Pc_u8) : List Value := ls.map fun x => Value.slice x.1 x.2.2.length x.2.1
def ga_u8 (ls : List Pc_u8) (k : Nat) : Pc_u8 := ls.getD k (none, 0, [])
def cat_u8 (ls : List Pc_u8) : Nat → List Nat := iter (fun i l => l ++ (ga_u8 ls i).2.2) []
theorem cat_u8_succ (ls : List Pc_u8) (k : Nat) : cat_u8 ls (k + 1) = cat_u8 ls k ++ (ga_u8 ls k).2.2 := rfl
theorem cat_u8_mono (ls : List Pc_u8) {i : Nat} : ∀ {k : Nat}, i ≤ k → (cat_u8 ls i).length ≤ (cat_u8 ls k).length
  | 0, h => by obtain rfl : i = 0 := by omega
               exact Nat.le_refl _
  | k + 1, h => by
    by_cases e : i = k + 1
    · rw [e]; exact Nat.le_refl _
    · have := cat_u8_mono ls (i := i) (k := k) (by omega)
      rw [cat_u8_succ, List.length_append]; omega
theorem sv_u8_at {ls : List Pc_u8} {k : Nat} (h : k < ls.length) : (sv_u8 ls)[k]? = some (.slice (ga_u8 ls k).1 (ga_u8 ls k).2.2.length (ga_u8 ls k).2.1) := by simp [sv_u8, ga_u8, h]
theorem sv_u8_lt {ls : List Pc_u8} {k : Nat} (h : k < ls.length) : k < (sv_u8 ls).length := by simpa [sv_u8] using h

theorem concat_u8 (ls : List Pc_u8) (p : Option Addr) (c : Nat) (w0 : World) (hr : Rd w0 p (sv_u8 ls)) (hrs : ∀ k, k < ls.length → Rd w0 (ga_u8 ls k).1 (yv (ga_u8 ls k).2.2)) (hl : ls.length ≤ 1000000) (ht : (cat_u8 ls ls.length).length ≤ 1000000) :
    CallsV Try.prog 35 #[.slice p ls.length c] w0 (fun v w => ∃ (p2 : Option Addr) (c2 : Nat), v = .slice p2 (cat_u8 ls ls.length).length c2 ∧ Own w w0.heap.size 5 p2 (cat_u8 ls ls.length).length c2 (yv (cat_u8 ls ls.length)) ∧ Below w0.heap.size w0 w) := by
  refine enter1 Try.func35 rfl Try.ntmps35 (by simp) rfl ?_
  have hB := Below.refl w0.heap.size w0
  simp only [argLoc]
  refine W.seqR ?_
  refine LS.vv rfl rfl (by decide) (Val.assign rfl) ?_
  refine LS.nil ?_
  refine W.seqR ?_
  refine LS.vv rfl rfl (by decide) (Val.cast (v := .int .i64 ((0 : Nat) : Int)) (Val.assign rfl) rfl) ?_
  refine LS.nil ?_
  refine W.seq ?_
  refine W.seqR ?_
  refine LS.vv rfl rfl (by decide) (Val.move rfl) ?_
  refine LS.vv rfl rfl (by decide) (Val.len Try.underlying62 rfl) ?_
  refine LS.vv rfl rfl (by decide) (Val.cast (v := .int .i64 ((0 : Nat) : Int)) (Val.move rfl) rfl) ?_
  refine LS.nil ?_
  refine W.block ?_
  refine W.loop (α := Nat) (fun k => [(3, .int .i64 ((cat_u8 ls k).length : Int)), (11, .int .i64 (k : Int))]) [(0, _), (9, _), (10, _)] (fun k w => k ≤ ls.length ∧ Below w0.heap.size w0 w) (fun k => ls.length - k) (0) (Sub.cons rfl (Sub.cons rfl (Sub.nil _))) (Sub.cons rfl (Sub.cons rfl (Sub.cons rfl (Sub.nil _)))) ?_ ?_
  · exact ⟨Nat.zero_le _, hB⟩
  rintro k w1 ⟨hk, hB⟩
  simp only [List.cons_append, List.nil_append]
  have hm0 := cat_u8_mono ls hk
  refine W.seqR ?_
  refine LS.vv rfl rfl (by decide) (Val.lss rfl rfl) ?_
  refine LS.nil ?_
  refine W.seq ?_
  first | refine W.condD rfl (fun hc1 => ?_) (fun hc1 => ?_) | refine W.cond rfl (fun hc1 => ?_) (fun hc1 => ?_)
  ·
    have hm1 := cat_u8_mono ls (show k + 1 ≤ ls.length by omega)
    rw [cat_u8_succ, List.length_append] at hm1
    refine W.skip ?_
    refine thenP_normal ?_
    refine W.seq ?_
    refine W.block ?_
    refine W.seqR ?_
    refine LS.vv rfl rfl (by decide) (Val.index1 Try.underlying62 elem22 rfl rfl (by omega) hr (sv_u8_lt (by omega))) ?_
    refine LS.m rfl (Step.load rfl rfl (by decide) flat22 rfl (hr.below hB) (sv_u8_at (by omega)) ?_)
    refine LS.vv rfl rfl (by decide) (Val.assign rfl) ?_
    refine LS.nil ?_
    refine W.seqR ?_
    refine LS.vv rfl rfl (by decide) (Val.move rfl) ?_
    refine LS.vv rfl rfl (by decide) (Val.move rfl) ?_
    refine LS.vv rfl rfl (by decide) (Val.len Try.underlying22 rfl) ?_
    first | refine LS.vv rfl rfl (by decide) (Val.addN rfl rfl (by omega)) ?_ | refine LS.vv rfl rfl (by decide) (Val.add64 rfl rfl (by omega)) ?_
    refine LS.vv rfl rfl (by decide) (Val.assign rfl) ?_
    refine LS.nil ?_
    refine W.seqR ?_
    refine LS.vv rfl rfl (by decide) (Val.move rfl) ?_
    refine LS.vv rfl rfl (by decide) (Val.lss rfl rfl) ?_
    refine LS.nil ?_
    first | refine W.condD rfl (fun hc2 => ?_) (fun hc2 => ?_) | refine W.cond rfl (fun hc2 => ?_) (fun hc2 => ?_)
    ·
      exfalso; omega
    ·
      refine W.skip ?_
      refine inBlk_normal ?_
      refine thenP_normal ?_
      refine W.reg ?_
      first | refine LS.vv rfl rfl (by decide) (Val.addN (j := 1) rfl rfl (by omega)) ?_ | refine LS.vv rfl rfl (by decide) (Val.add64 rfl rfl (by omega)) ?_
      refine LS.vv rfl rfl (by decide) (Val.move rfl) ?_
      refine LS.nil ?_
      refine thenP_normal ?_
      refine ⟨k + 1, ?_, ?_, ⟨by omega, hB⟩, by omega⟩
      · exact Sub.cons' rfl (by rw [cat_u8_succ, List.length_append]) (Sub.cons rfl (Sub.nil _))
      · repeat (first | exact Sub.nil _ | refine Sub.cons rfl ?_)
  ·
    refine W.exit ?_
    refine thenP_exit ?_
    refine thenP_exit ?_
    refine inBlk_exit ?_
    refine thenP_normal ?_
    refine W.seqR ?_
    refine LS.vv rfl rfl (by decide) (Val.move rfl) ?_
    have hgb := hB.size
    refine LS.m rfl (Step.call body52 rfl rfl (by decide) rfl (CallsV.mono (growNil_u8 _ _ (by omega)) ?_))
    rintro _ w2 ⟨pg, cg, rfl, hOg, hb2⟩
    replace hB := hB.trans (hb2.mono hB.size)
    replace hOg := Own.base hOg hgb
    refine LS.vv rfl rfl (by decide) (Val.assign rfl) ?_
    refine LS.nil ?_
    refine W.seq ?_
    refine W.seqR ?_
    refine LS.vv rfl rfl (by decide) (Val.move rfl) ?_
    refine LS.vv rfl rfl (by decide) (Val.len Try.underlying62 rfl) ?_
    refine LS.vv rfl rfl (by decide) (Val.cast (v := .int .i64 ((0 : Nat) : Int)) (Val.move rfl) rfl) ?_
    refine LS.nil ?_
    refine W.block ?_
    refine W.loop (α := Nat × Option Addr × Nat) (fun g => [(6, .slice g.2.1 (cat_u8 ls g.1).length g.2.2), (27, .int .i64 (g.1 : Int))]) [(25, _), (26, _)] (fun g w => (g.1 ≤ ls.length ∧ Own w w0.heap.size 5 g.2.1 (cat_u8 ls g.1).length g.2.2 (yv (cat_u8 ls g.1))) ∧ Below w0.heap.size w0 w) (fun g => ls.length - g.1) ((0, pg, cg)) (Sub.cons rfl (Sub.cons rfl (Sub.nil _))) (Sub.cons rfl (Sub.cons rfl (Sub.nil _))) ?_ ?_
    · exact ⟨⟨Nat.zero_le _, hOg⟩, hB⟩
    rintro ⟨k2, p1, c1⟩ w3 ⟨⟨hk2, hO⟩, hB⟩
    simp only [List.cons_append, List.nil_append]
    simp only at hk2 hO
    have hm0 := cat_u8_mono ls hk2
    refine W.seqR ?_
    refine LS.vv rfl rfl (by decide) (Val.lss rfl rfl) ?_
    refine LS.nil ?_
    refine W.seq ?_
    first | refine W.condD rfl (fun hc3 => ?_) (fun hc3 => ?_) | refine W.cond rfl (fun hc3 => ?_) (fun hc3 => ?_)
    ·
      have hm1 := cat_u8_mono ls (show k2 + 1 ≤ ls.length by omega)
      rw [cat_u8_succ, List.length_append] at hm1
      refine W.skip ?_
      refine thenP_normal ?_
      refine W.seq ?_
      refine W.block ?_
      refine W.seqR ?_
      refine LS.vv rfl rfl (by decide) (Val.index1 Try.underlying62 elem22 rfl rfl (by omega) hr (sv_u8_lt (by omega))) ?_
      refine LS.m rfl (Step.load rfl rfl (by decide) flat22 rfl (hr.below hB) (sv_u8_at (by omega)) ?_)
      refine LS.vv rfl rfl (by decide) (Val.assign rfl) ?_
      refine LS.nil ?_
      refine W.reg ?_
      refine LS.vv rfl rfl (by decide) (Val.move rfl) ?_
      refine LS.vv rfl rfl (by decide) (Val.move rfl) ?_
      refine LS.m rfl (Step.append (B := w0.heap.size) rfl rfl (by decide) Try.underlying22 elem5 rfl rfl rfl rfl (hO) ((hrs k2 (by omega)).below hB) (by simp) (one_map _ (fun _ => rfl) _) (by omega) (by omega) hB.size ?_)
      rintro p4 c4 w4 hO4 hg4 hbl4
      replace hB := hB.trans hbl4
      refine LS.vv rfl rfl (by decide) (Val.assign rfl) ?_
      refine LS.nil ?_
      refine inBlk_normal ?_
      refine thenP_normal ?_
      refine W.reg ?_
      first | refine LS.vv rfl rfl (by decide) (Val.addN (j := 1) rfl rfl (by omega)) ?_ | refine LS.vv rfl rfl (by decide) (Val.add64 rfl rfl (by omega)) ?_
      refine LS.vv rfl rfl (by decide) (Val.move rfl) ?_
      refine LS.nil ?_
      refine thenP_normal ?_
      refine ⟨(k2 + 1, p4, c4), ?_, ?_, ⟨⟨by simp only; omega, ?_⟩, hB⟩, by simp only; omega⟩
      · exact Sub.cons' rfl (by simp only [cat_u8_succ, List.length_append]) (Sub.cons rfl (Sub.nil _))
      · repeat (first | exact Sub.nil _ | refine Sub.cons rfl ?_)
      · simp only [cat_u8_succ, yv, List.map_append, List.length_append]; exact hO4
    ·
      refine W.exit ?_
      refine thenP_exit ?_
      refine thenP_exit ?_
      refine inBlk_exit ?_
      refine thenP_normal ?_
      refine W.seqR ?_
      refine LS.vv rfl rfl (by decide) (Val.move rfl) ?_
      refine LS.vv rfl rfl (by decide) (Val.assign rfl) ?_
      refine LS.nil ?_
      refine W.ret ?_
      refine ret1 (by first | exact .inl rfl | exact .inr rfl) rfl ?_
      obtain rfl : k2 = ls.length := by omega
      exact ⟨_, _, rfl, hO, hB⟩

theorem concat2_u8 (xs ys : List Nat) (p q P : Option Addr) (c d C m n : Nat) (w0 : World) (hr : Rd w0 P [.slice p m c, .slice q n d]) (h1 : Rd w0 p (yv xs)) (h2 : Rd w0 q (yv ys)) (hm : xs.length = m) (hn : ys.length = n) (hl : m + n ≤ 1000000) :
    CallsV Try.prog 35 #[.slice P 2 C] w0 (fun v w => ∃ (p2 : Option Addr) (c2 : Nat), v = .slice p2 (m + n) c2 ∧ Own w w0.heap.size 5 p2 (m + n) c2 (yv (xs ++ ys)) ∧ Below w0.heap.size w0 w) := by
  subst hm; subst hn
  have hc : cat_u8 [(p, c, xs), (q, d, ys)] 2 = xs ++ ys := by simp [cat_u8, iter, ga_u8]
  have := concat_u8 [(p, c, xs), (q, d, ys)] P C w0 hr (fun k hk => by
    match k, hk with
    | 0, _ => exact h1
    | 1, _ => exact h2) (by simp) (by rw [show [(p, c, xs), (q, d, ys)].length = 2 from rfl, hc, List.length_append]; exact hl)
  refine this.mono ?_
  rintro v w ⟨p2, c2, rfl, hO, hB⟩
  rw [show [(p, c, xs), (q, d, ys)].length = 2 from rfl, hc, List.length_append] at hO
  rw [show [(p, c, xs), (q, d, ys)].length = 2 from rfl, hc, List.length_append]
  exact ⟨p2, c2, rfl, hO, hB⟩

end Go.Proofs.Ytcoplafphgpmpaa
