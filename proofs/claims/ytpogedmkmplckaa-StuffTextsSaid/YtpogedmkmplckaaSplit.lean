/-
  Texts between flags: stuff.Split.
-/
import Derived.Test.YtpogedmkmplckaaTexts
import Derived.Test.YtpogedmkmplckaaStuffPlain
namespace Go.Proofs.Ytpogedmkmplckaa
open Go Go.RowKit V
set_option linter.unusedVariables false
set_option linter.unusedSimpArgs false

theorem bare2_any (d : List Bool) (p : Option Addr) (c : Nat) (w0 : World) (hr : Rd w0 p (bv d)) (hl : d.length ≤ 1000) :
    CallsV Try.prog 41 #[.slice p d.length c] w0 (fun v w => ∃ (p2 : Option Addr) (c2 : Nat) (L : List Bool) (ok : Bool), v = .tuple #[.slice p2 L.length c2, .bool ok] ∧ Own w w0.heap.size 4 p2 L.length c2 (bv L) ∧ L.length ≤ 1000 ∧ (ok = true → bareL 0 d = some L) ∧ (ok = false → bareL 0 d = none) ∧ Below w0.heap.size w0 w) := by
  refine enter2 Try.func41 rfl Try.ntmps41 (by simp) rfl ?_
  have hB := Below.refl w0.heap.size w0
  simp only [argLoc]
  refine W.seqR ?_
  refine LS.vv rfl rfl (by decide) (Val.assign rfl) ?_
  refine LS.vv rfl rfl (by decide) (Val.assign rfl) ?_
  refine LS.nil ?_
  refine W.seqR ?_
  refine LS.vv rfl rfl (by decide) (Val.assign rfl) ?_
  refine LS.nil ?_
  refine W.seqR ?_
  refine LS.vv rfl rfl (by decide) (Val.cast (v := .int .i64 ((0 : Nat) : Int)) (Val.assign rfl) rfl) ?_
  refine LS.nil ?_
  refine W.seq ?_
  refine W.seqR ?_
  refine LS.vv rfl rfl (by decide) (Val.move rfl) ?_
  refine LS.vv rfl rfl (by decide) (Val.len Try.underlying22 rfl) ?_
  refine LS.vv rfl rfl (by decide) (Val.cast (v := .int .i64 ((0 : Nat) : Int)) (Val.move rfl) rfl) ?_
  refine LS.nil ?_
  refine W.block ?_
  refine W.loop (α := Nat × List Bool × Nat × Option Addr × Nat) (fun g => [(4, .slice g.2.2.2.1 g.2.1.length g.2.2.2.2), (5, .int .i64 (g.2.2.1 : Int)), (10, .int .i64 (g.1 : Int))]) [(8, _), (9, _)] (fun g w => (g.1 ≤ d.length ∧ g.2.1.length ≤ g.1 ∧ g.2.2.1 ≤ 5 ∧ bareL 0 d = (bareL g.2.2.1 (d.drop g.1)).map (g.2.1 ++ ·) ∧ Own w w0.heap.size 4 g.2.2.2.1 g.2.1.length g.2.2.2.2 (bv g.2.1)) ∧ Below w0.heap.size w0 w) (fun g => d.length - g.1) ((0, [], 0, none, 0)) (Sub.cons rfl (Sub.cons rfl (Sub.cons rfl (Sub.nil _)))) (Sub.cons rfl (Sub.cons rfl (Sub.nil _))) ?_ ?_
  · exact ⟨⟨Nat.zero_le _, Nat.le_refl _, by simp, by simp, Own.nil _ _ _⟩, hB⟩
  rintro ⟨k, ou, q, p1, c1⟩ w1 ⟨⟨hk, hol, hq, hst, hO⟩, hB⟩
  simp only [List.cons_append, List.nil_append]
  simp only at hk hol hq hst hO
  refine W.seqR ?_
  refine LS.vv rfl rfl (by decide) (Val.lss rfl rfl) ?_
  refine LS.nil ?_
  refine W.seq ?_
  first | refine W.condD rfl (fun hc1 => ?_) (fun hc1 => ?_) | refine W.cond rfl (fun hc1 => ?_) (fun hc1 => ?_)
  ·
    refine W.skip ?_
    refine thenP_normal ?_
    refine W.seq ?_
    refine W.block ?_
    refine W.seqR ?_
    refine LS.vv rfl rfl (by decide) (Val.index1 Try.underlying22 elem4 rfl rfl (by omega) hr (bv_lt (by omega))) ?_
    refine LS.m rfl (Step.load rfl rfl (by decide) flat4 rfl (hr.below hB) (bv_at (by omega)) ?_)
    refine LS.vv rfl rfl (by decide) (Val.assign rfl) ?_
    refine LS.nil ?_
    refine W.seq ?_
    refine W.seqR ?_
    refine LS.vv rfl rfl (by decide) (Val.move rfl) ?_
    refine LS.vv rfl rfl (by decide) (Val.eql rfl rfl) ?_
    refine LS.nil ?_
    first | refine W.condD rfl (fun hc2 => ?_) (fun hc2 => ?_) | refine W.cond rfl (fun hc2 => ?_) (fun hc2 => ?_)
    ·
      refine W.seq ?_
      refine W.seqR ?_
      refine LS.vv rfl rfl (by decide) (Val.move rfl) ?_
      refine LS.nil ?_
      first | refine W.condD rfl (fun hc3 => ?_) (fun hc3 => ?_) | refine W.cond rfl (fun hc3 => ?_) (fun hc3 => ?_)
      ·
        refine W.seqR ?_
        refine LS.vv rfl rfl (by decide) (Val.assign rfl) ?_
        refine LS.vv rfl rfl (by decide) (Val.assign rfl) ?_
        refine LS.nil ?_
        refine W.ret ?_
        refine thenP_ret ?_
        refine thenP_ret ?_
        refine inBlk_ret ?_
        refine thenP_ret ?_
        refine thenP_ret ?_
        refine inBlk_ret ?_
        refine thenP_ret ?_
        refine ret2 (by first | exact .inl rfl | exact .inr rfl) rfl rfl ?_
        first
          | (have hq5 : q = 5 := by omega
             rw [drop_gb (show k < d.length by omega), bareL, if_pos hq5, if_pos ‹gb d k = true›] at hst
             exact ⟨none, 0, [], false, rfl, Own.nil _ _ _, by simp, fun h => (by cases h), fun _ => (by simpa using hst), hB⟩)
          | (have hkk : k = d.length := by omega
             rw [hkk, List.drop_length, bareL] at hst
             refine ⟨_, _, ou, _, rfl, hO, by omega, fun h => ?_, fun h => ?_, hB⟩
             · have hx := of_decide_eq_true h
               rw [if_pos (by omega)] at hst; simpa using hst
             · have hx := of_decide_eq_false h
               rw [if_neg (by omega)] at hst; simpa using hst)
      ·
        refine W.skip ?_
        refine thenP_normal ?_
        refine W.seqR ?_
        refine LS.vv rfl rfl (by decide) (Val.cast (v := .int .i64 ((0 : Nat) : Int)) (Val.assign rfl) rfl) ?_
        refine LS.nil ?_
        refine W.exit ?_
        refine thenP_exit ?_
        refine inBlk_exit ?_
        refine thenP_normal ?_
        refine W.reg ?_
        first | refine LS.vv rfl rfl (by decide) (Val.addN (j := 1) rfl rfl (by omega)) ?_ | refine LS.vv rfl rfl (by decide) (Val.add64 rfl rfl (by omega)) ?_
        refine LS.vv rfl rfl (by decide) (Val.move rfl) ?_
        refine LS.nil ?_
        refine thenP_normal ?_
        rw [drop_gb (show k < d.length by omega), bareL] at hst
        have hnx : nxt q (gb d k) = if gb d k = true then q + 1 else 0 := rfl
        first
          | (have hq5 : q = 5 := by omega
             rw [if_pos hq5, if_neg (by rw [‹gb d k = false›]; decide)] at hst
             refine ⟨(k + 1, ou, 0, p1, c1), ?_, ?_, ⟨⟨by simp only; omega, by simp; omega, by simp only; omega, ?_, ?_⟩, hB⟩, by simp only; omega⟩
             · exact Sub.cons' rfl (by simp) (Sub.cons rfl (Sub.cons rfl (Sub.nil _)))
             · repeat (first | exact Sub.nil _ | refine Sub.cons rfl ?_)
             · exact hst
             · exact hO
          )
          | (have hq5 : ¬ q = 5 := by omega
             have hgt : gb d k = true := by simpa using ‹(!gb d k) = false›
             rw [if_neg hq5, hnx, if_pos hgt] at hst
             refine ⟨(k + 1, ou ++ [gb d k], q + 1, pa, ca), ?_, ?_, ⟨⟨by simp only; omega, by simp; omega, by simp only; omega, ?_, ?_⟩, hB⟩, by simp only; omega⟩
             · exact Sub.cons' rfl (by simp) (Sub.cons rfl (Sub.cons rfl (Sub.nil _)))
             · repeat (first | exact Sub.nil _ | refine Sub.cons rfl ?_)
             · simp only; rw [hst, Option.map_map]; congr 1; funext z; simp
             · simp only [bv, List.map_append, List.length_append]; exact hO
          )
          | (have hq5 : ¬ q = 5 := by omega
             have hgt : gb d k = false := by simpa using ‹(!gb d k) = true›
             rw [if_neg hq5, hnx, if_neg (by rw [hgt]; decide)] at hst
             refine ⟨(k + 1, ou ++ [gb d k], 0, pa, ca), ?_, ?_, ⟨⟨by simp only; omega, by simp; omega, by simp only; omega, ?_, ?_⟩, hB⟩, by simp only; omega⟩
             · exact Sub.cons' rfl (by simp) (Sub.cons rfl (Sub.cons rfl (Sub.nil _)))
             · repeat (first | exact Sub.nil _ | refine Sub.cons rfl ?_)
             · simp only; rw [hst, Option.map_map]; congr 1; funext z; simp
             · simp only [bv, List.map_append, List.length_append]; exact hO
          )
    ·
      refine W.skip ?_
      refine thenP_normal ?_
      refine W.seqR ?_
      refine LS.vv rfl rfl (by decide) (Val.move rfl) ?_
      refine LS.vv rfl rfl (by decide) (Val.move rfl) ?_
      refine LS.m rfl (Step.lit (B := w0.heap.size) rfl rfl (by decide) Try.underlying22 elem4 rfl rfl (by omega) (by simp [Value.oneCell']) hB.size ?_)
      rintro w2 hO2 hg2 hbl2 hsz2
      replace hB := hB.trans (hbl2.mono hB.size)
      replace hO := hO.below hbl2
      refine LS.m rfl (Step.append (B := w0.heap.size) rfl rfl (by decide) Try.underlying22 elem4 rfl rfl rfl rfl (hO) (hO2.rd) (rfl) ((by simp [Value.oneCell'])) (by omega) (by omega) hB.size ?_)
      rintro p3 c3 w3 hO3 hg3 hbl3
      replace hB := hB.trans hbl3
      have hO := hO3
      generalize p3 = pa at *
      generalize c3 = ca at *
      refine LS.vv rfl rfl (by decide) (Val.assign rfl) ?_
      refine LS.nil ?_
      refine W.seqR ?_
      refine LS.vv rfl rfl (by decide) (Val.move rfl) ?_
      first | refine LS.vv rfl rfl (by decide) (Val.addN (j := 1) rfl rfl (by omega)) ?_ | refine LS.vv rfl rfl (by decide) (Val.add64 rfl rfl (by omega)) ?_
      refine LS.vv rfl rfl (by decide) (Val.assign rfl) ?_
      refine LS.nil ?_
      refine W.seqR ?_
      refine LS.vv rfl rfl (by decide) (Val.move rfl) ?_
      refine LS.vv rfl rfl (by decide) (Val.not rfl) ?_
      refine LS.nil ?_
      first | refine W.condD rfl (fun hc4 => ?_) (fun hc4 => ?_) | refine W.cond rfl (fun hc4 => ?_) (fun hc4 => ?_)
      ·
        refine W.reg ?_
        refine LS.vv rfl rfl (by decide) (Val.cast (v := .int .i64 ((0 : Nat) : Int)) (Val.assign rfl) rfl) ?_
        refine LS.nil ?_
        refine inBlk_normal ?_
        refine thenP_normal ?_
        refine W.reg ?_
        first | refine LS.vv rfl rfl (by decide) (Val.addN (j := 1) rfl rfl (by omega)) ?_ | refine LS.vv rfl rfl (by decide) (Val.add64 rfl rfl (by omega)) ?_
        refine LS.vv rfl rfl (by decide) (Val.move rfl) ?_
        refine LS.nil ?_
        refine thenP_normal ?_
        rw [drop_gb (show k < d.length by omega), bareL] at hst
        have hnx : nxt q (gb d k) = if gb d k = true then q + 1 else 0 := rfl
        first
          | (have hq5 : q = 5 := by omega
             rw [if_pos hq5, if_neg (by rw [‹gb d k = false›]; decide)] at hst
             refine ⟨(k + 1, ou, 0, p1, c1), ?_, ?_, ⟨⟨by simp only; omega, by simp; omega, by simp only; omega, ?_, ?_⟩, hB⟩, by simp only; omega⟩
             · exact Sub.cons' rfl (by simp) (Sub.cons rfl (Sub.cons rfl (Sub.nil _)))
             · repeat (first | exact Sub.nil _ | refine Sub.cons rfl ?_)
             · exact hst
             · exact hO
          )
          | (have hq5 : ¬ q = 5 := by omega
             have hgt : gb d k = true := by simpa using ‹(!gb d k) = false›
             rw [if_neg hq5, hnx, if_pos hgt] at hst
             refine ⟨(k + 1, ou ++ [gb d k], q + 1, pa, ca), ?_, ?_, ⟨⟨by simp only; omega, by simp; omega, by simp only; omega, ?_, ?_⟩, hB⟩, by simp only; omega⟩
             · exact Sub.cons' rfl (by simp) (Sub.cons rfl (Sub.cons rfl (Sub.nil _)))
             · repeat (first | exact Sub.nil _ | refine Sub.cons rfl ?_)
             · simp only; rw [hst, Option.map_map]; congr 1; funext z; simp
             · simp only [bv, List.map_append, List.length_append]; exact hO
          )
          | (have hq5 : ¬ q = 5 := by omega
             have hgt : gb d k = false := by simpa using ‹(!gb d k) = true›
             rw [if_neg hq5, hnx, if_neg (by rw [hgt]; decide)] at hst
             refine ⟨(k + 1, ou ++ [gb d k], 0, pa, ca), ?_, ?_, ⟨⟨by simp only; omega, by simp; omega, by simp only; omega, ?_, ?_⟩, hB⟩, by simp only; omega⟩
             · exact Sub.cons' rfl (by simp) (Sub.cons rfl (Sub.cons rfl (Sub.nil _)))
             · repeat (first | exact Sub.nil _ | refine Sub.cons rfl ?_)
             · simp only; rw [hst, Option.map_map]; congr 1; funext z; simp
             · simp only [bv, List.map_append, List.length_append]; exact hO
          )
      ·
        refine W.skip ?_
        refine inBlk_normal ?_
        refine thenP_normal ?_
        refine W.reg ?_
        first | refine LS.vv rfl rfl (by decide) (Val.addN (j := 1) rfl rfl (by omega)) ?_ | refine LS.vv rfl rfl (by decide) (Val.add64 rfl rfl (by omega)) ?_
        refine LS.vv rfl rfl (by decide) (Val.move rfl) ?_
        refine LS.nil ?_
        refine thenP_normal ?_
        rw [drop_gb (show k < d.length by omega), bareL] at hst
        have hnx : nxt q (gb d k) = if gb d k = true then q + 1 else 0 := rfl
        first
          | (have hq5 : q = 5 := by omega
             rw [if_pos hq5, if_neg (by rw [‹gb d k = false›]; decide)] at hst
             refine ⟨(k + 1, ou, 0, p1, c1), ?_, ?_, ⟨⟨by simp only; omega, by simp; omega, by simp only; omega, ?_, ?_⟩, hB⟩, by simp only; omega⟩
             · exact Sub.cons' rfl (by simp) (Sub.cons rfl (Sub.cons rfl (Sub.nil _)))
             · repeat (first | exact Sub.nil _ | refine Sub.cons rfl ?_)
             · exact hst
             · exact hO
          )
          | (have hq5 : ¬ q = 5 := by omega
             have hgt : gb d k = true := by simpa using ‹(!gb d k) = false›
             rw [if_neg hq5, hnx, if_pos hgt] at hst
             refine ⟨(k + 1, ou ++ [gb d k], q + 1, pa, ca), ?_, ?_, ⟨⟨by simp only; omega, by simp; omega, by simp only; omega, ?_, ?_⟩, hB⟩, by simp only; omega⟩
             · exact Sub.cons' rfl (by simp) (Sub.cons rfl (Sub.cons rfl (Sub.nil _)))
             · repeat (first | exact Sub.nil _ | refine Sub.cons rfl ?_)
             · simp only; rw [hst, Option.map_map]; congr 1; funext z; simp
             · simp only [bv, List.map_append, List.length_append]; exact hO
          )
          | (have hq5 : ¬ q = 5 := by omega
             have hgt : gb d k = false := by simpa using ‹(!gb d k) = true›
             rw [if_neg hq5, hnx, if_neg (by rw [hgt]; decide)] at hst
             refine ⟨(k + 1, ou ++ [gb d k], 0, pa, ca), ?_, ?_, ⟨⟨by simp only; omega, by simp; omega, by simp only; omega, ?_, ?_⟩, hB⟩, by simp only; omega⟩
             · exact Sub.cons' rfl (by simp) (Sub.cons rfl (Sub.cons rfl (Sub.nil _)))
             · repeat (first | exact Sub.nil _ | refine Sub.cons rfl ?_)
             · simp only; rw [hst, Option.map_map]; congr 1; funext z; simp
             · simp only [bv, List.map_append, List.length_append]; exact hO
          )
  ·
    refine W.exit ?_
    refine thenP_exit ?_
    refine thenP_exit ?_
    refine inBlk_exit ?_
    refine thenP_normal ?_
    refine W.seqR ?_
    refine LS.vv rfl rfl (by decide) (Val.move rfl) ?_
    refine LS.vv rfl rfl (by decide) (Val.move rfl) ?_
    refine LS.vv rfl rfl (by decide) (Val.lss rfl rfl) ?_
    refine LS.vv rfl rfl (by decide) (Val.assign rfl) ?_
    refine LS.vv rfl rfl (by decide) (Val.assign rfl) ?_
    refine LS.nil ?_
    refine W.ret ?_
    refine ret2 (by first | exact .inl rfl | exact .inr rfl) rfl rfl ?_
    first
      | (have hq5 : q = 5 := by omega
         rw [drop_gb (show k < d.length by omega), bareL, if_pos hq5, if_pos ‹gb d k = true›] at hst
         exact ⟨none, 0, [], false, rfl, Own.nil _ _ _, by simp, fun h => (by cases h), fun _ => (by simpa using hst), hB⟩)
      | (have hkk : k = d.length := by omega
         rw [hkk, List.drop_length, bareL] at hst
         refine ⟨_, _, ou, _, rfl, hO, by omega, fun h => ?_, fun h => ?_, hB⟩
         · have hx := of_decide_eq_true h
           rw [if_pos (by omega)] at hst; simpa using hst
         · have hx := of_decide_eq_false h
           rw [if_neg (by omega)] at hst; simpa using hst)

theorem bareN (d : List Bool) (p : Option Addr) (c n : Nat) (w0 : World) (hr : Rd w0 p (bv d)) (hn : d.length = n) (hl : n ≤ 1000) : CallsV Try.prog 41 #[.slice p n c] w0 (fun v w => ∃ (p2 : Option Addr) (c2 : Nat) (L : List Bool) (ok : Bool), v = .tuple #[.slice p2 L.length c2, .bool ok] ∧ Own w w0.heap.size 4 p2 L.length c2 (bv L) ∧ L.length ≤ 1000 ∧ (ok = true → bareL 0 d = some L) ∧ (ok = false → bareL 0 d = none) ∧ Below w0.heap.size w0 w) := by
  subst hn
  exact bare2_any d p c w0 hr hl

def codesW (C : List Wd) : List (List Bool) := C.map (·.l)
theorem codesW_len (C : List Wd) : (codesW C).length = C.length := by simp [codesW]
theorem codesW_app (C : List Wd) (x : Wd) : codesW (C ++ [x]) = codesW C ++ [x.l] := by simp [codesW]

theorem split_any (l : List Bool) (p : Option Addr) (c m : Nat) (w0 : World) (hr : Rd w0 p (bv l)) (hm : l.length = m) (hc : m ≤ c) :
    CallsV Try.prog 26 #[.slice p m c] w0 (fun v w => ∃ (p2 : Option Addr) (c2 : Nat) (C : List Wd) (e : Nat), v = .tuple #[.slice p2 C.length c2, .int .i64 (e : Int)] ∧ Mem w w0.heap.size (⟨22, p2, C.length, c2, wv C⟩ :: tb 4 C) ∧ (e = 0 → framesL (codesW C) = l ∧ C.length ≤ 8 ∧ (∀ t ∈ codesW C, t.length ≤ 64) ∧ m ≤ 1000) ∧ (e ≠ 0 → C = []) ∧ (m ≤ 1000 → ∀ T : List (List Bool), T.length ≤ 8 → (∀ t ∈ T, t.length ≤ 64) → framesL T = l → e = 0 ∧ codesW C = T) ∧ Below w0.heap.size w0 w) := by
  refine enter2 Try.func26 rfl Try.ntmps26 (by simp) rfl ?_
  have hB := Below.refl w0.heap.size w0
  simp only [argLoc]
  have hM := Mem.nil w0 w0.heap.size
  subst hm
  refine W.seqR ?_
  refine LS.vv rfl rfl (by decide) (Val.assign rfl) ?_
  refine LS.vv rfl rfl (by decide) (Val.cast (v := .int .i64 ((0 : Nat) : Int)) (Val.assign rfl) rfl) ?_
  refine LS.nil ?_
  refine W.seq ?_
  refine W.seqR ?_
  refine LS.vv rfl rfl (by decide) (Val.move rfl) ?_
  refine LS.vv rfl rfl (by decide) (Val.len Try.underlying22 rfl) ?_
  refine LS.vv rfl rfl (by decide) (Val.gtr rfl rfl) ?_
  refine LS.nil ?_
  first | refine W.condD rfl (fun hc1 => ?_) (fun hc1 => ?_) | refine W.cond rfl (fun hc1 => ?_) (fun hc1 => ?_)
  ·
    refine W.seqR ?_
    refine LS.vv rfl rfl (by decide) (Val.assign rfl) ?_
    refine LS.vv rfl rfl (by decide) (Val.cast (v := .int .i64 ((1 : Nat) : Int)) (Val.assign rfl) rfl) ?_
    refine LS.nil ?_
    refine W.ret ?_
    refine thenP_ret ?_
    refine ret2 (by first | exact .inl rfl | exact .inr rfl) rfl rfl ?_
    first
      | (refine ⟨none, 0, [], 1, rfl, (Mem.nil _ _).addNil 22, fun h => by exfalso; omega, fun _ => rfl, fun h1 T h2 h3 h4 => ?_, hB⟩
         exfalso; omega)
      | (refine ⟨none, 0, [], 3, rfl, (Mem.nil _ _).addNil 22, fun h => by exfalso; omega, fun _ => rfl, fun h1 T h2 h3 h4 => ?_, hB⟩
         have hb : beg l = true := by rw [← h4]; exact beg_flag [] (partL T)
         exfalso; simp_all; done)
      | (refine ⟨none, 0, [], 3, rfl, (Mem.nil _ _).addNil 22, fun h => by exfalso; omega, fun _ => rfl, fun h1 T h2 h3 h4 => ?_, hB⟩
         exfalso
         obtain ⟨T2, hT2, hr2⟩ := hI.only (hpre T h4) h4
         cases T2 with
         | nil => have h0 : rest.length = 0 := by rw [hr2]; rfl
                  omega
         | cons t T3 =>
           obtain ⟨n2, hn2, hb2⟩ := SpI.flag hr2
           have hbn : beg (rest.drop n) = true := by first | (exfalso; have := hnb n2 (by omega); rw [hb2] at this; cases this) | (simpa using (by assumption : (!beg (rest.drop n)) = false))
           have hb9 := (of_decide_eq_true hbn).1
           rw [List.length_drop] at hb9
           obtain ⟨q1, _, q3, _⟩ := SpI.next hr2 hbn hnb
           have ht := h3 t (by rw [hT2]; simp)
           cases ok
           · rw [hok2 rfl] at q3; cases q3
           · rw [hok1 rfl] at q3; cases q3; first | omega | simp_all)
      | (refine ⟨none, 0, [], 3, rfl, (Mem.nil _ _).addNil 22, fun h => by exfalso; omega, fun _ => rfl, fun h1 T h2 h3 h4 => ?_, hB⟩
         exfalso
         obtain ⟨T2, hT2, hr2⟩ := hI.only (hpre T h4) h4
         have := congrArg List.length hT2
         rw [List.length_append, codesW_len] at this
         omega)
      | (obtain rfl : rest = [] := List.eq_nil_of_length_eq_zero (by omega)
         refine ⟨po, co, C, 0, rfl, hM, fun _ => ⟨by have := hI.all; rwa [List.append_nil] at this, by omega, hsh, by omega⟩, fun h => absurd rfl h, fun _ T _ _ h4 => ⟨rfl, ?_⟩, hB⟩
         obtain ⟨T2, hT2, hr2⟩ := hI.only (hpre T h4) h4
         cases T2 with
         | nil => rw [hT2, List.append_nil]
         | cons t T3 => have := congrArg List.length hr2; simp [partL, flagL] at this)
  ·
    refine W.skip ?_
    refine thenP_normal ?_
    refine W.seq ?_
    refine W.seqR ?_
    refine LS.vv rfl rfl (by decide) (Val.move rfl) ?_
    refine LS.m rfl (Step.call body46 rfl rfl (by decide) rfl (CallsV.mono (begins_any l _ _ _ _ (hr.below hB) rfl hc) ?_))
    rintro _ w1 ⟨rfl, hb1⟩
    replace hM := hM.below hb1
    replace hB := hB.trans (hb1.mono hB.size)
    refine LS.vv rfl rfl (by decide) (Val.not rfl) ?_
    refine LS.nil ?_
    first | refine W.condD rfl (fun hc2 => ?_) (fun hc2 => ?_) | refine W.cond rfl (fun hc2 => ?_) (fun hc2 => ?_)
    ·
      refine W.seqR ?_
      refine LS.vv rfl rfl (by decide) (Val.assign rfl) ?_
      refine LS.vv rfl rfl (by decide) (Val.cast (v := .int .i64 ((3 : Nat) : Int)) (Val.assign rfl) rfl) ?_
      refine LS.nil ?_
      refine W.ret ?_
      refine thenP_ret ?_
      refine ret2 (by first | exact .inl rfl | exact .inr rfl) rfl rfl ?_
      first
        | (refine ⟨none, 0, [], 1, rfl, (Mem.nil _ _).addNil 22, fun h => by exfalso; omega, fun _ => rfl, fun h1 T h2 h3 h4 => ?_, hB⟩
           exfalso; omega)
        | (refine ⟨none, 0, [], 3, rfl, (Mem.nil _ _).addNil 22, fun h => by exfalso; omega, fun _ => rfl, fun h1 T h2 h3 h4 => ?_, hB⟩
           have hb : beg l = true := by rw [← h4]; exact beg_flag [] (partL T)
           exfalso; simp_all; done)
        | (refine ⟨none, 0, [], 3, rfl, (Mem.nil _ _).addNil 22, fun h => by exfalso; omega, fun _ => rfl, fun h1 T h2 h3 h4 => ?_, hB⟩
           exfalso
           obtain ⟨T2, hT2, hr2⟩ := hI.only (hpre T h4) h4
           cases T2 with
           | nil => have h0 : rest.length = 0 := by rw [hr2]; rfl
                    omega
           | cons t T3 =>
             obtain ⟨n2, hn2, hb2⟩ := SpI.flag hr2
             have hbn : beg (rest.drop n) = true := by first | (exfalso; have := hnb n2 (by omega); rw [hb2] at this; cases this) | (simpa using (by assumption : (!beg (rest.drop n)) = false))
             have hb9 := (of_decide_eq_true hbn).1
             rw [List.length_drop] at hb9
             obtain ⟨q1, _, q3, _⟩ := SpI.next hr2 hbn hnb
             have ht := h3 t (by rw [hT2]; simp)
             cases ok
             · rw [hok2 rfl] at q3; cases q3
             · rw [hok1 rfl] at q3; cases q3; first | omega | simp_all)
        | (refine ⟨none, 0, [], 3, rfl, (Mem.nil _ _).addNil 22, fun h => by exfalso; omega, fun _ => rfl, fun h1 T h2 h3 h4 => ?_, hB⟩
           exfalso
           obtain ⟨T2, hT2, hr2⟩ := hI.only (hpre T h4) h4
           have := congrArg List.length hT2
           rw [List.length_append, codesW_len] at this
           omega)
        | (obtain rfl : rest = [] := List.eq_nil_of_length_eq_zero (by omega)
           refine ⟨po, co, C, 0, rfl, hM, fun _ => ⟨by have := hI.all; rwa [List.append_nil] at this, by omega, hsh, by omega⟩, fun h => absurd rfl h, fun _ T _ _ h4 => ⟨rfl, ?_⟩, hB⟩
           obtain ⟨T2, hT2, hr2⟩ := hI.only (hpre T h4) h4
           cases T2 with
           | nil => rw [hT2, List.append_nil]
           | cons t T3 => have := congrArg List.length hr2; simp [partL, flagL] at this)
    ·
      have hbl : beg l = true := by simpa using ‹(!beg l) = false›
      have hl8 : 8 ≤ l.length := (of_decide_eq_true hbl).1
      refine W.skip ?_
      refine thenP_normal ?_
      refine W.seqR ?_
      refine LS.vv rfl rfl (by decide) (Val.assign rfl) ?_
      refine LS.nil ?_
      refine W.seq ?_
      refine W.seqR ?_
      refine LS.vv rfl rfl (by decide) (Val.move rfl) ?_
      refine LS.vv rfl rfl (by decide) (Val.sliceFrom (l := 8) Try.underlying22 elem4 rfl rfl (by omega) (by omega)) ?_
      refine LS.vv rfl rfl (by decide) (Val.assign rfl) ?_
      refine LS.nil ?_
      refine W.block ?_
      replace hM := hM.addNil 22
      refine W.loop (α := List Wd × Option Addr × Nat × Option Addr × Nat × List Bool) (fun g => [(0, .slice g.2.2.2.1 g.2.2.2.2.2.length g.2.2.2.2.1), (4, .slice g.2.1 g.1.length g.2.2.1)]) [] (fun g w => (SpI l (codesW g.1) g.2.2.2.2.2 ∧ Rd w0 g.2.2.2.1 (bv g.2.2.2.2.2) ∧ g.2.2.2.2.2.length ≤ g.2.2.2.2.1 ∧ g.1.length * 8 + g.2.2.2.2.2.length ≤ 1000 ∧ (∀ t ∈ codesW g.1, t.length ≤ 64) ∧ ∀ T, framesL T = l → ∃ T2, T = codesW g.1 ++ T2) ∧ Mem w w0.heap.size (⟨22, g.2.1, g.1.length, g.2.2.1, wv g.1⟩ :: (tb 4 g.1)) ∧ Below w0.heap.size w0 w) (fun g => g.2.2.2.2.2.length) (([], none, 0, cutAt p c 8, c - 8, l.drop 8)) (Sub.cons' rfl (by simp only [List.length_drop]) (Sub.cons rfl (Sub.nil _))) (Sub.nil _) ?_ ?_
      · exact ⟨⟨SpI.start hbl, hr.cut_bv hc, by simp only [List.length_drop]; omega, by simp only [List.length_drop, List.length_nil]; omega, fun t h => by simp [codesW] at h, fun T _ => ⟨T, rfl⟩⟩, hM, hB⟩
      rintro ⟨C, po, co, pb, cb, rest⟩ w2 ⟨⟨hI, hrr, hrc, hlen, hsh, hpre⟩, hM, hB⟩
      try simp only at hM
      simp only [List.cons_append, List.nil_append]
      simp only at hI hrr hrc hlen hsh hpre
      refine W.seq ?_
      refine W.seqR ?_
      refine LS.vv rfl rfl (by decide) (Val.move rfl) ?_
      refine LS.vv rfl rfl (by decide) (Val.len Try.underlying22 rfl) ?_
      refine LS.vv rfl rfl (by decide) (Val.gtr rfl rfl) ?_
      refine LS.nil ?_
      first | refine W.condD rfl (fun hc3 => ?_) (fun hc3 => ?_) | refine W.cond rfl (fun hc3 => ?_) (fun hc3 => ?_)
      ·
        refine W.skip ?_
        refine thenP_normal ?_
        refine W.block ?_
        refine W.seqR ?_
        refine LS.vv rfl rfl (by decide) (Val.cast (v := .int .i64 ((0 : Nat) : Int)) (Val.assign rfl) rfl) ?_
        refine LS.nil ?_
        refine W.seq ?_
        refine W.block ?_
        refine W.loop (α := Nat) (fun n => [(5, .int .i64 (n : Int))]) [(0, _), (4, _)] (fun n w => (n ≤ rest.length ∧ ∀ k, k < n → beg (rest.drop k) = false) ∧ Mem w w0.heap.size (⟨22, po, C.length, co, wv C⟩ :: (tb 4 C)) ∧ Below w0.heap.size w0 w) (fun n => rest.length - n) (0) (Sub.cons rfl (Sub.nil _)) (Sub.cons rfl (Sub.cons rfl (Sub.nil _))) ?_ ?_
        · exact ⟨⟨Nat.zero_le _, fun k h => absurd h (by omega)⟩, hM, hB⟩
        rintro n w3 ⟨⟨hn, hnb⟩, hM, hB⟩
        try simp only at hM
        simp only [List.cons_append, List.nil_append]
        refine W.seq ?_
        refine W.seqR ?_
        refine LS.vv rfl rfl (by decide) (Val.move rfl) ?_
        refine LS.vv rfl rfl (by decide) (Val.move rfl) ?_
        refine LS.vv rfl rfl (by decide) (Val.len Try.underlying22 rfl) ?_
        refine LS.vv rfl rfl (by decide) (Val.lss rfl rfl) ?_
        refine LS.vv rfl rfl (by decide) (Val.move rfl) ?_
        refine LS.split 4 rfl (fun hg4 => ?_) (fun hg4 => ?_)
        ·
          first | (have hg4p := of_decide_eq_true hg4) | skip
          refine LS.vg rfl rfl rfl hg4 (by decide) (Val.move rfl) ?_
          refine LS.vg rfl rfl rfl hg4 (by decide) (Val.move rfl) ?_
          refine LS.vg rfl rfl rfl hg4 (by decide) (Val.sliceFrom Try.underlying22 elem4 rfl rfl (by omega) (by omega)) ?_
          refine LS.mg rfl rfl hg4 (Step.call body46 rfl rfl (by decide) rfl (CallsV.mono (begins_any (rest.drop n) _ _ _ _ ((hrr.below hB).cut_bv hrc) (by rw [List.length_drop]) (by omega)) ?_))
          rintro _ w4 ⟨rfl, hb4⟩
          replace hM := hM.below hb4
          replace hB := hB.trans (hb4.mono hB.size)
          refine LS.vg rfl rfl rfl hg4 (by decide) (Val.not rfl) ?_
          refine LS.vv rfl rfl (by decide) (Val.pickT rfl hg4 rfl) ?_
          refine LS.nil ?_
          first | refine W.condD rfl (fun hc5 => ?_) (fun hc5 => ?_) | refine W.cond rfl (fun hc5 => ?_) (fun hc5 => ?_)
          ·
            refine W.skip ?_
            refine thenP_normal ?_
            refine W.block ?_
            refine W.reg ?_
            refine LS.vv rfl rfl (by decide) (Val.move rfl) ?_
            first | refine LS.vv rfl rfl (by decide) (Val.addN (j := 1) rfl rfl (by omega)) ?_ | refine LS.vv rfl rfl (by decide) (Val.add64 rfl rfl (by omega)) ?_
            refine LS.vv rfl rfl (by decide) (Val.assign rfl) ?_
            refine LS.nil ?_
            refine inBlk_normal ?_
            refine thenP_normal ?_
            refine ⟨n + 1, ?_, ?_, ⟨⟨by omega, fun k hk => ?_⟩, hM, hB⟩, by omega⟩
            · exact (Sub.cons rfl (Sub.nil _))
            · repeat (first | exact Sub.nil _ | refine Sub.cons rfl ?_)
            · by_cases e : k = n
              · subst e; simp_all
              · exact hnb k (by omega)
          ·
            refine W.exit ?_
            refine thenP_exit ?_
            refine thenP_exit ?_
            refine inBlk_exit ?_
            refine thenP_normal ?_
            refine W.seqR ?_
            refine LS.vv rfl rfl (by decide) (Val.move rfl) ?_
            refine LS.vv rfl rfl (by decide) (Val.move rfl) ?_
            refine LS.vv rfl rfl (by decide) (Val.sliceTo Try.underlying22 elem4 rfl rfl (by omega)) ?_
            have hnl : (rest.take n).length = n := by rw [List.length_take]; omega
            refine LS.m rfl (Step.call body41 rfl rfl (by decide) rfl (CallsV.mono (bareN (rest.take n) _ _ _ _ ((hrr.below hB).take_bv) hnl (by omega)) ?_))
            rintro _ w5 ⟨p5, c5, L, ok, rfl, hOt, hL1, hok1, hok2, hb5⟩
            replace hM := hM.add hB.size hb5 hOt
            replace hB := hB.trans (hb5.mono hB.size)
            refine LS.vv rfl rfl (by decide) (Val.move rfl) ?_
            refine LS.vv rfl rfl (by decide) (Val.extract rfl rfl) ?_
            refine LS.vv rfl rfl (by decide) (Val.extract rfl rfl) ?_
            refine LS.vv rfl rfl (by decide) (Val.assign rfl) ?_
            refine LS.vv rfl rfl (by decide) (Val.assign rfl) ?_
            refine LS.nil ?_
            refine W.seq ?_
            refine W.seqR ?_
            refine LS.vv rfl rfl (by decide) (Val.move rfl) ?_
            refine LS.vv rfl rfl (by decide) (Val.move rfl) ?_
            refine LS.vv rfl rfl (by decide) (Val.len Try.underlying22 rfl) ?_
            refine LS.vv rfl rfl (by decide) (Val.eql rfl rfl) ?_
            refine LS.vv rfl rfl (by decide) (Val.move rfl) ?_
            refine LS.split 4 rfl (fun hg6 => ?_) (fun hg6 => ?_)
            ·
              first | (have hg6p := of_decide_eq_true hg6) | skip
              refine LS.s rfl rfl rfl hg6 (by decide) ?_
              refine LS.s rfl rfl rfl hg6 (by decide) ?_
              refine LS.vv rfl rfl (by decide) (Val.pickT rfl hg6 rfl) ?_
              refine LS.vv rfl rfl (by decide) (Val.move rfl) ?_
              refine LS.s rfl rfl rfl rfl (by decide) ?_
              refine LS.s rfl rfl rfl rfl (by decide) ?_
              refine LS.s rfl rfl rfl rfl (by decide) ?_
              refine LS.vv rfl rfl (by decide) (Val.pickT rfl rfl rfl) ?_
              refine LS.nil ?_
              refine W.condT rfl ?_
              refine W.seqR ?_
              refine LS.vv rfl rfl (by decide) (Val.assign rfl) ?_
              refine LS.vv rfl rfl (by decide) (Val.cast (v := .int .i64 ((3 : Nat) : Int)) (Val.assign rfl) rfl) ?_
              refine LS.nil ?_
              refine W.ret ?_
              refine thenP_ret ?_
              refine inBlk_ret ?_
              refine thenP_ret ?_
              refine inBlk_ret ?_
              refine thenP_ret ?_
              refine ret2 (by first | exact .inl rfl | exact .inr rfl) rfl rfl ?_
              first
                | (refine ⟨none, 0, [], 1, rfl, (Mem.nil _ _).addNil 22, fun h => by exfalso; omega, fun _ => rfl, fun h1 T h2 h3 h4 => ?_, hB⟩
                   exfalso; omega)
                | (refine ⟨none, 0, [], 3, rfl, (Mem.nil _ _).addNil 22, fun h => by exfalso; omega, fun _ => rfl, fun h1 T h2 h3 h4 => ?_, hB⟩
                   have hb : beg l = true := by rw [← h4]; exact beg_flag [] (partL T)
                   exfalso; simp_all; done)
                | (refine ⟨none, 0, [], 3, rfl, (Mem.nil _ _).addNil 22, fun h => by exfalso; omega, fun _ => rfl, fun h1 T h2 h3 h4 => ?_, hB⟩
                   exfalso
                   obtain ⟨T2, hT2, hr2⟩ := hI.only (hpre T h4) h4
                   cases T2 with
                   | nil => have h0 : rest.length = 0 := by rw [hr2]; rfl
                            omega
                   | cons t T3 =>
                     obtain ⟨n2, hn2, hb2⟩ := SpI.flag hr2
                     have hbn : beg (rest.drop n) = true := by first | (exfalso; have := hnb n2 (by omega); rw [hb2] at this; cases this) | (simpa using (by assumption : (!beg (rest.drop n)) = false))
                     have hb9 := (of_decide_eq_true hbn).1
                     rw [List.length_drop] at hb9
                     obtain ⟨q1, _, q3, _⟩ := SpI.next hr2 hbn hnb
                     have ht := h3 t (by rw [hT2]; simp)
                     cases ok
                     · rw [hok2 rfl] at q3; cases q3
                     · rw [hok1 rfl] at q3; cases q3; first | omega | simp_all)
                | (refine ⟨none, 0, [], 3, rfl, (Mem.nil _ _).addNil 22, fun h => by exfalso; omega, fun _ => rfl, fun h1 T h2 h3 h4 => ?_, hB⟩
                   exfalso
                   obtain ⟨T2, hT2, hr2⟩ := hI.only (hpre T h4) h4
                   have := congrArg List.length hT2
                   rw [List.length_append, codesW_len] at this
                   omega)
                | (obtain rfl : rest = [] := List.eq_nil_of_length_eq_zero (by omega)
                   refine ⟨po, co, C, 0, rfl, hM, fun _ => ⟨by have := hI.all; rwa [List.append_nil] at this, by omega, hsh, by omega⟩, fun h => absurd rfl h, fun _ T _ _ h4 => ⟨rfl, ?_⟩, hB⟩
                   obtain ⟨T2, hT2, hr2⟩ := hI.only (hpre T h4) h4
                   cases T2 with
                   | nil => rw [hT2, List.append_nil]
                   | cons t T3 => have := congrArg List.length hr2; simp [partL, flagL] at this)
            ·
              first | (have hg6p := of_decide_eq_false hg6) | skip
              refine LS.vg rfl rfl rfl hg6 (by decide) (Val.move rfl) ?_
              refine LS.vg rfl rfl rfl hg6 (by decide) (Val.not rfl) ?_
              refine LS.vv rfl rfl (by decide) (Val.pickF rfl hg6 rfl) ?_
              refine LS.vv rfl rfl (by decide) (Val.move rfl) ?_
              refine LS.split 8 rfl (fun hg7 => ?_) (fun hg7 => ?_)
              ·
                first | (have hg7p := of_decide_eq_true hg7) | skip
                refine LS.s rfl rfl rfl hg7 (by decide) ?_
                refine LS.s rfl rfl rfl hg7 (by decide) ?_
                refine LS.s rfl rfl rfl hg7 (by decide) ?_
                refine LS.vv rfl rfl (by decide) (Val.pickT rfl hg7 rfl) ?_
                refine LS.nil ?_
                refine W.condT rfl ?_
                refine W.seqR ?_
                refine LS.vv rfl rfl (by decide) (Val.assign rfl) ?_
                refine LS.vv rfl rfl (by decide) (Val.cast (v := .int .i64 ((3 : Nat) : Int)) (Val.assign rfl) rfl) ?_
                refine LS.nil ?_
                refine W.ret ?_
                refine thenP_ret ?_
                refine inBlk_ret ?_
                refine thenP_ret ?_
                refine inBlk_ret ?_
                refine thenP_ret ?_
                refine ret2 (by first | exact .inl rfl | exact .inr rfl) rfl rfl ?_
                first
                  | (refine ⟨none, 0, [], 1, rfl, (Mem.nil _ _).addNil 22, fun h => by exfalso; omega, fun _ => rfl, fun h1 T h2 h3 h4 => ?_, hB⟩
                     exfalso; omega)
                  | (refine ⟨none, 0, [], 3, rfl, (Mem.nil _ _).addNil 22, fun h => by exfalso; omega, fun _ => rfl, fun h1 T h2 h3 h4 => ?_, hB⟩
                     have hb : beg l = true := by rw [← h4]; exact beg_flag [] (partL T)
                     exfalso; simp_all; done)
                  | (refine ⟨none, 0, [], 3, rfl, (Mem.nil _ _).addNil 22, fun h => by exfalso; omega, fun _ => rfl, fun h1 T h2 h3 h4 => ?_, hB⟩
                     exfalso
                     obtain ⟨T2, hT2, hr2⟩ := hI.only (hpre T h4) h4
                     cases T2 with
                     | nil => have h0 : rest.length = 0 := by rw [hr2]; rfl
                              omega
                     | cons t T3 =>
                       obtain ⟨n2, hn2, hb2⟩ := SpI.flag hr2
                       have hbn : beg (rest.drop n) = true := by first | (exfalso; have := hnb n2 (by omega); rw [hb2] at this; cases this) | (simpa using (by assumption : (!beg (rest.drop n)) = false))
                       have hb9 := (of_decide_eq_true hbn).1
                       rw [List.length_drop] at hb9
                       obtain ⟨q1, _, q3, _⟩ := SpI.next hr2 hbn hnb
                       have ht := h3 t (by rw [hT2]; simp)
                       cases ok
                       · rw [hok2 rfl] at q3; cases q3
                       · rw [hok1 rfl] at q3; cases q3; first | omega | simp_all)
                  | (refine ⟨none, 0, [], 3, rfl, (Mem.nil _ _).addNil 22, fun h => by exfalso; omega, fun _ => rfl, fun h1 T h2 h3 h4 => ?_, hB⟩
                     exfalso
                     obtain ⟨T2, hT2, hr2⟩ := hI.only (hpre T h4) h4
                     have := congrArg List.length hT2
                     rw [List.length_append, codesW_len] at this
                     omega)
                  | (obtain rfl : rest = [] := List.eq_nil_of_length_eq_zero (by omega)
                     refine ⟨po, co, C, 0, rfl, hM, fun _ => ⟨by have := hI.all; rwa [List.append_nil] at this, by omega, hsh, by omega⟩, fun h => absurd rfl h, fun _ T _ _ h4 => ⟨rfl, ?_⟩, hB⟩
                     obtain ⟨T2, hT2, hr2⟩ := hI.only (hpre T h4) h4
                     cases T2 with
                     | nil => rw [hT2, List.append_nil]
                     | cons t T3 => have := congrArg List.length hr2; simp [partL, flagL] at this)
              ·
                first | (have hg7p := of_decide_eq_false hg7) | skip
                refine LS.vg rfl rfl rfl hg7 (by decide) (Val.move rfl) ?_
                refine LS.vg rfl rfl rfl hg7 (by decide) (Val.len Try.underlying22 rfl) ?_
                refine LS.vg rfl rfl rfl hg7 (by decide) (Val.gtr rfl rfl) ?_
                refine LS.vv rfl rfl (by decide) (Val.pickF rfl hg7 rfl) ?_
                refine LS.nil ?_
                first | refine W.condD rfl (fun hc8 => ?_) (fun hc8 => ?_) | refine W.cond rfl (fun hc8 => ?_) (fun hc8 => ?_)
                ·
                  refine W.seqR ?_
                  refine LS.vv rfl rfl (by decide) (Val.assign rfl) ?_
                  refine LS.vv rfl rfl (by decide) (Val.cast (v := .int .i64 ((3 : Nat) : Int)) (Val.assign rfl) rfl) ?_
                  refine LS.nil ?_
                  refine W.ret ?_
                  refine thenP_ret ?_
                  refine inBlk_ret ?_
                  refine thenP_ret ?_
                  refine inBlk_ret ?_
                  refine thenP_ret ?_
                  refine ret2 (by first | exact .inl rfl | exact .inr rfl) rfl rfl ?_
                  first
                    | (refine ⟨none, 0, [], 1, rfl, (Mem.nil _ _).addNil 22, fun h => by exfalso; omega, fun _ => rfl, fun h1 T h2 h3 h4 => ?_, hB⟩
                       exfalso; omega)
                    | (refine ⟨none, 0, [], 3, rfl, (Mem.nil _ _).addNil 22, fun h => by exfalso; omega, fun _ => rfl, fun h1 T h2 h3 h4 => ?_, hB⟩
                       have hb : beg l = true := by rw [← h4]; exact beg_flag [] (partL T)
                       exfalso; simp_all; done)
                    | (refine ⟨none, 0, [], 3, rfl, (Mem.nil _ _).addNil 22, fun h => by exfalso; omega, fun _ => rfl, fun h1 T h2 h3 h4 => ?_, hB⟩
                       exfalso
                       obtain ⟨T2, hT2, hr2⟩ := hI.only (hpre T h4) h4
                       cases T2 with
                       | nil => have h0 : rest.length = 0 := by rw [hr2]; rfl
                                omega
                       | cons t T3 =>
                         obtain ⟨n2, hn2, hb2⟩ := SpI.flag hr2
                         have hbn : beg (rest.drop n) = true := by first | (exfalso; have := hnb n2 (by omega); rw [hb2] at this; cases this) | (simpa using (by assumption : (!beg (rest.drop n)) = false))
                         have hb9 := (of_decide_eq_true hbn).1
                         rw [List.length_drop] at hb9
                         obtain ⟨q1, _, q3, _⟩ := SpI.next hr2 hbn hnb
                         have ht := h3 t (by rw [hT2]; simp)
                         cases ok
                         · rw [hok2 rfl] at q3; cases q3
                         · rw [hok1 rfl] at q3; cases q3; first | omega | simp_all)
                    | (refine ⟨none, 0, [], 3, rfl, (Mem.nil _ _).addNil 22, fun h => by exfalso; omega, fun _ => rfl, fun h1 T h2 h3 h4 => ?_, hB⟩
                       exfalso
                       obtain ⟨T2, hT2, hr2⟩ := hI.only (hpre T h4) h4
                       have := congrArg List.length hT2
                       rw [List.length_append, codesW_len] at this
                       omega)
                    | (obtain rfl : rest = [] := List.eq_nil_of_length_eq_zero (by omega)
                       refine ⟨po, co, C, 0, rfl, hM, fun _ => ⟨by have := hI.all; rwa [List.append_nil] at this, by omega, hsh, by omega⟩, fun h => absurd rfl h, fun _ T _ _ h4 => ⟨rfl, ?_⟩, hB⟩
                       obtain ⟨T2, hT2, hr2⟩ := hI.only (hpre T h4) h4
                       cases T2 with
                       | nil => rw [hT2, List.append_nil]
                       | cons t T3 => have := congrArg List.length hr2; simp [partL, flagL] at this)
                ·
                  have hbn : beg (rest.drop n) = true := by first | (exfalso; omega) | (simpa using (by assumption : (!beg (rest.drop n)) = false))
                  have hb8 : n + 8 ≤ rest.length := by { have := (of_decide_eq_true hbn).1; rw [List.length_drop] at this; omega }
                  have hokt : ok = true := by { cases ok; simp_all; rfl }
                  refine W.skip ?_
                  refine thenP_normal ?_
                  refine W.seqR ?_
                  refine LS.vv rfl rfl (by decide) (Val.move rfl) ?_
                  refine LS.vv rfl rfl (by decide) (Val.move rfl) ?_
                  refine LS.m rfl (Step.lit rfl rfl (by decide) Try.underlying46 elem22 rfl rfl (by omega) (by simp [Value.oneCell']) (Nat.le_refl _) ?_)
                  rintro w6 hO6 hg6 hbl6 hsz6
                  replace hM := hM.add hB.size hbl6 hO6
                  replace hB := hB.trans (hbl6.mono hB.size)
                  generalize w5.heap.size = gg6 at *
                  refine LS.m rfl (Step.append2 (B := w0.heap.size) rfl rfl (by decide) Try.underlying46 elem22 rfl rfl rfl rfl (hM.o2) (hM.o0.rd) (by first | rfl | (simp; done) | (simp; omega)) (by first | exact one_map _ (fun _ => rfl) _ | simp [Value.oneCell']) (by omega) (by omega) hB.size ?_)
                  rintro p7 c7 w7 hO7 hg7 hbl7 hbk7
                  replace hM := hM.s2 hg7 hO7 hbk7
                  replace hM := hM.tail
                  try simp only [wv_app1, wv_app, wv_set, wv_rep, wv_one, wv_cons, wv_take, wv_drop, List.nil_append] at hM
                  replace hB := hB.trans hbl7
                  refine LS.vv rfl rfl (by decide) (Val.assign rfl) ?_
                  refine LS.nil ?_
                  refine W.reg ?_
                  refine LS.vv rfl rfl (by decide) (Val.move rfl) ?_
                  refine LS.vv rfl rfl (by decide) (Val.move rfl) ?_
                  first | refine LS.vv rfl rfl (by decide) (Val.addN (j := 8) rfl rfl (by omega)) ?_ | refine LS.vv rfl rfl (by decide) (Val.add64 rfl rfl (by omega)) ?_
                  refine LS.vv rfl rfl (by decide) (Val.sliceFrom Try.underlying22 elem4 rfl rfl (by omega) (by omega)) ?_
                  refine LS.vv rfl rfl (by decide) (Val.assign rfl) ?_
                  refine LS.nil ?_
                  refine inBlk_normal ?_
                  refine thenP_normal ?_
                  refine ⟨(C ++ [⟨p5, c5, L⟩], p7, c7, cutAt pb cb (n + 8), cb - (n + 8), rest.drop (n + 8)), ?_, ?_, ⟨⟨by rw [codesW_app]; exact hI.step hbn (hok1 hokt), hrr.cut_bv hrc, by simp only [List.length_drop]; omega, by simp only [List.length_drop, List.length_append, List.length_cons, List.length_nil]; omega, fun t ht => ?_, fun T hT => ?_⟩, ?_, hB⟩, by simp only [List.length_drop]; omega⟩
                  · exact Sub.cons' rfl (by simp only [List.length_drop]) (Sub.cons' rfl (by simp only [List.length_append, List.length_cons, List.length_nil]) (Sub.nil _))
                  · repeat (first | exact Sub.nil _ | refine Sub.cons rfl ?_)
                  · simp only [codesW_app] at ht
                    rcases List.mem_append.1 ht with h | h
                    · exact hsh t h
                    · rw [List.mem_singleton] at h; subst h; omega
                  · obtain ⟨T2, hT2, hr2⟩ := hI.only (hpre T hT) hT
                    cases T2 with
                    | nil => rw [hr2] at hnl; exfalso; simp [hr2, partL] at hb8
                    | cons t T3 =>
                      obtain ⟨_, _, h3, _⟩ := SpI.next hr2 hbn hnb
                      rw [hok1 hokt] at h3
                      cases h3
                      exact ⟨T3, by simp only [codesW_app]; rw [hT2]; simp⟩
                  · simp only [List.length_append, List.length_cons, List.length_nil]; rw [← wv_app1, tb_app1]; exact hM.last1
        ·
          first | (have hg4p := of_decide_eq_false hg4) | skip
          refine LS.s rfl rfl rfl hg4 (by decide) ?_
          refine LS.s rfl rfl rfl hg4 (by decide) ?_
          refine LS.s rfl rfl rfl hg4 (by decide) ?_
          refine LS.s rfl rfl rfl hg4 (by decide) ?_
          refine LS.s rfl rfl rfl hg4 (by decide) ?_
          refine LS.vv rfl rfl (by decide) (Val.pickF rfl hg4 rfl) ?_
          refine LS.nil ?_
          refine W.condF rfl ?_
          refine W.exit ?_
          refine thenP_exit ?_
          refine thenP_exit ?_
          refine inBlk_exit ?_
          refine thenP_normal ?_
          refine W.seqR ?_
          refine LS.vv rfl rfl (by decide) (Val.move rfl) ?_
          refine LS.vv rfl rfl (by decide) (Val.move rfl) ?_
          refine LS.vv rfl rfl (by decide) (Val.sliceTo Try.underlying22 elem4 rfl rfl (by omega)) ?_
          have hnl : (rest.take n).length = n := by rw [List.length_take]; omega
          refine LS.m rfl (Step.call body41 rfl rfl (by decide) rfl (CallsV.mono (bareN (rest.take n) _ _ _ _ ((hrr.below hB).take_bv) hnl (by omega)) ?_))
          rintro _ w8 ⟨p5, c5, L, ok, rfl, hOt, hL1, hok1, hok2, hb8⟩
          replace hM := hM.add hB.size hb8 hOt
          replace hB := hB.trans (hb8.mono hB.size)
          refine LS.vv rfl rfl (by decide) (Val.move rfl) ?_
          refine LS.vv rfl rfl (by decide) (Val.extract rfl rfl) ?_
          refine LS.vv rfl rfl (by decide) (Val.extract rfl rfl) ?_
          refine LS.vv rfl rfl (by decide) (Val.assign rfl) ?_
          refine LS.vv rfl rfl (by decide) (Val.assign rfl) ?_
          refine LS.nil ?_
          refine W.seq ?_
          refine W.seqR ?_
          refine LS.vv rfl rfl (by decide) (Val.move rfl) ?_
          refine LS.vv rfl rfl (by decide) (Val.move rfl) ?_
          refine LS.vv rfl rfl (by decide) (Val.len Try.underlying22 rfl) ?_
          refine LS.vv rfl rfl (by decide) (Val.eql rfl rfl) ?_
          refine LS.vv rfl rfl (by decide) (Val.move rfl) ?_
          refine LS.split 4 rfl (fun hg9 => ?_) (fun hg9 => ?_)
          ·
            first | (have hg9p := of_decide_eq_true hg9) | skip
            refine LS.s rfl rfl rfl hg9 (by decide) ?_
            refine LS.s rfl rfl rfl hg9 (by decide) ?_
            refine LS.vv rfl rfl (by decide) (Val.pickT rfl hg9 rfl) ?_
            refine LS.vv rfl rfl (by decide) (Val.move rfl) ?_
            refine LS.s rfl rfl rfl rfl (by decide) ?_
            refine LS.s rfl rfl rfl rfl (by decide) ?_
            refine LS.s rfl rfl rfl rfl (by decide) ?_
            refine LS.vv rfl rfl (by decide) (Val.pickT rfl rfl rfl) ?_
            refine LS.nil ?_
            refine W.condT rfl ?_
            refine W.seqR ?_
            refine LS.vv rfl rfl (by decide) (Val.assign rfl) ?_
            refine LS.vv rfl rfl (by decide) (Val.cast (v := .int .i64 ((3 : Nat) : Int)) (Val.assign rfl) rfl) ?_
            refine LS.nil ?_
            refine W.ret ?_
            refine thenP_ret ?_
            refine inBlk_ret ?_
            refine thenP_ret ?_
            refine inBlk_ret ?_
            refine thenP_ret ?_
            refine ret2 (by first | exact .inl rfl | exact .inr rfl) rfl rfl ?_
            first
              | (refine ⟨none, 0, [], 1, rfl, (Mem.nil _ _).addNil 22, fun h => by exfalso; omega, fun _ => rfl, fun h1 T h2 h3 h4 => ?_, hB⟩
                 exfalso; omega)
              | (refine ⟨none, 0, [], 3, rfl, (Mem.nil _ _).addNil 22, fun h => by exfalso; omega, fun _ => rfl, fun h1 T h2 h3 h4 => ?_, hB⟩
                 have hb : beg l = true := by rw [← h4]; exact beg_flag [] (partL T)
                 exfalso; simp_all; done)
              | (refine ⟨none, 0, [], 3, rfl, (Mem.nil _ _).addNil 22, fun h => by exfalso; omega, fun _ => rfl, fun h1 T h2 h3 h4 => ?_, hB⟩
                 exfalso
                 obtain ⟨T2, hT2, hr2⟩ := hI.only (hpre T h4) h4
                 cases T2 with
                 | nil => have h0 : rest.length = 0 := by rw [hr2]; rfl
                          omega
                 | cons t T3 =>
                   obtain ⟨n2, hn2, hb2⟩ := SpI.flag hr2
                   have hbn : beg (rest.drop n) = true := by first | (exfalso; have := hnb n2 (by omega); rw [hb2] at this; cases this) | (simpa using (by assumption : (!beg (rest.drop n)) = false))
                   have hb9 := (of_decide_eq_true hbn).1
                   rw [List.length_drop] at hb9
                   obtain ⟨q1, _, q3, _⟩ := SpI.next hr2 hbn hnb
                   have ht := h3 t (by rw [hT2]; simp)
                   cases ok
                   · rw [hok2 rfl] at q3; cases q3
                   · rw [hok1 rfl] at q3; cases q3; first | omega | simp_all)
              | (refine ⟨none, 0, [], 3, rfl, (Mem.nil _ _).addNil 22, fun h => by exfalso; omega, fun _ => rfl, fun h1 T h2 h3 h4 => ?_, hB⟩
                 exfalso
                 obtain ⟨T2, hT2, hr2⟩ := hI.only (hpre T h4) h4
                 have := congrArg List.length hT2
                 rw [List.length_append, codesW_len] at this
                 omega)
              | (obtain rfl : rest = [] := List.eq_nil_of_length_eq_zero (by omega)
                 refine ⟨po, co, C, 0, rfl, hM, fun _ => ⟨by have := hI.all; rwa [List.append_nil] at this, by omega, hsh, by omega⟩, fun h => absurd rfl h, fun _ T _ _ h4 => ⟨rfl, ?_⟩, hB⟩
                 obtain ⟨T2, hT2, hr2⟩ := hI.only (hpre T h4) h4
                 cases T2 with
                 | nil => rw [hT2, List.append_nil]
                 | cons t T3 => have := congrArg List.length hr2; simp [partL, flagL] at this)
          ·
            first | (have hg9p := of_decide_eq_false hg9) | skip
            refine LS.vg rfl rfl rfl hg9 (by decide) (Val.move rfl) ?_
            refine LS.vg rfl rfl rfl hg9 (by decide) (Val.not rfl) ?_
            refine LS.vv rfl rfl (by decide) (Val.pickF rfl hg9 rfl) ?_
            refine LS.vv rfl rfl (by decide) (Val.move rfl) ?_
            refine LS.split 8 rfl (fun hg10 => ?_) (fun hg10 => ?_)
            ·
              first | (have hg10p := of_decide_eq_true hg10) | skip
              refine LS.s rfl rfl rfl hg10 (by decide) ?_
              refine LS.s rfl rfl rfl hg10 (by decide) ?_
              refine LS.s rfl rfl rfl hg10 (by decide) ?_
              refine LS.vv rfl rfl (by decide) (Val.pickT rfl hg10 rfl) ?_
              refine LS.nil ?_
              refine W.condT rfl ?_
              refine W.seqR ?_
              refine LS.vv rfl rfl (by decide) (Val.assign rfl) ?_
              refine LS.vv rfl rfl (by decide) (Val.cast (v := .int .i64 ((3 : Nat) : Int)) (Val.assign rfl) rfl) ?_
              refine LS.nil ?_
              refine W.ret ?_
              refine thenP_ret ?_
              refine inBlk_ret ?_
              refine thenP_ret ?_
              refine inBlk_ret ?_
              refine thenP_ret ?_
              refine ret2 (by first | exact .inl rfl | exact .inr rfl) rfl rfl ?_
              first
                | (refine ⟨none, 0, [], 1, rfl, (Mem.nil _ _).addNil 22, fun h => by exfalso; omega, fun _ => rfl, fun h1 T h2 h3 h4 => ?_, hB⟩
                   exfalso; omega)
                | (refine ⟨none, 0, [], 3, rfl, (Mem.nil _ _).addNil 22, fun h => by exfalso; omega, fun _ => rfl, fun h1 T h2 h3 h4 => ?_, hB⟩
                   have hb : beg l = true := by rw [← h4]; exact beg_flag [] (partL T)
                   exfalso; simp_all; done)
                | (refine ⟨none, 0, [], 3, rfl, (Mem.nil _ _).addNil 22, fun h => by exfalso; omega, fun _ => rfl, fun h1 T h2 h3 h4 => ?_, hB⟩
                   exfalso
                   obtain ⟨T2, hT2, hr2⟩ := hI.only (hpre T h4) h4
                   cases T2 with
                   | nil => have h0 : rest.length = 0 := by rw [hr2]; rfl
                            omega
                   | cons t T3 =>
                     obtain ⟨n2, hn2, hb2⟩ := SpI.flag hr2
                     have hbn : beg (rest.drop n) = true := by first | (exfalso; have := hnb n2 (by omega); rw [hb2] at this; cases this) | (simpa using (by assumption : (!beg (rest.drop n)) = false))
                     have hb9 := (of_decide_eq_true hbn).1
                     rw [List.length_drop] at hb9
                     obtain ⟨q1, _, q3, _⟩ := SpI.next hr2 hbn hnb
                     have ht := h3 t (by rw [hT2]; simp)
                     cases ok
                     · rw [hok2 rfl] at q3; cases q3
                     · rw [hok1 rfl] at q3; cases q3; first | omega | simp_all)
                | (refine ⟨none, 0, [], 3, rfl, (Mem.nil _ _).addNil 22, fun h => by exfalso; omega, fun _ => rfl, fun h1 T h2 h3 h4 => ?_, hB⟩
                   exfalso
                   obtain ⟨T2, hT2, hr2⟩ := hI.only (hpre T h4) h4
                   have := congrArg List.length hT2
                   rw [List.length_append, codesW_len] at this
                   omega)
                | (obtain rfl : rest = [] := List.eq_nil_of_length_eq_zero (by omega)
                   refine ⟨po, co, C, 0, rfl, hM, fun _ => ⟨by have := hI.all; rwa [List.append_nil] at this, by omega, hsh, by omega⟩, fun h => absurd rfl h, fun _ T _ _ h4 => ⟨rfl, ?_⟩, hB⟩
                   obtain ⟨T2, hT2, hr2⟩ := hI.only (hpre T h4) h4
                   cases T2 with
                   | nil => rw [hT2, List.append_nil]
                   | cons t T3 => have := congrArg List.length hr2; simp [partL, flagL] at this)
            ·
              first | (have hg10p := of_decide_eq_false hg10) | skip
              refine LS.vg rfl rfl rfl hg10 (by decide) (Val.move rfl) ?_
              refine LS.vg rfl rfl rfl hg10 (by decide) (Val.len Try.underlying22 rfl) ?_
              refine LS.vg rfl rfl rfl hg10 (by decide) (Val.gtr rfl rfl) ?_
              refine LS.vv rfl rfl (by decide) (Val.pickF rfl hg10 rfl) ?_
              refine LS.nil ?_
              first | refine W.condD rfl (fun hc11 => ?_) (fun hc11 => ?_) | refine W.cond rfl (fun hc11 => ?_) (fun hc11 => ?_)
              ·
                refine W.seqR ?_
                refine LS.vv rfl rfl (by decide) (Val.assign rfl) ?_
                refine LS.vv rfl rfl (by decide) (Val.cast (v := .int .i64 ((3 : Nat) : Int)) (Val.assign rfl) rfl) ?_
                refine LS.nil ?_
                refine W.ret ?_
                refine thenP_ret ?_
                refine inBlk_ret ?_
                refine thenP_ret ?_
                refine inBlk_ret ?_
                refine thenP_ret ?_
                refine ret2 (by first | exact .inl rfl | exact .inr rfl) rfl rfl ?_
                first
                  | (refine ⟨none, 0, [], 1, rfl, (Mem.nil _ _).addNil 22, fun h => by exfalso; omega, fun _ => rfl, fun h1 T h2 h3 h4 => ?_, hB⟩
                     exfalso; omega)
                  | (refine ⟨none, 0, [], 3, rfl, (Mem.nil _ _).addNil 22, fun h => by exfalso; omega, fun _ => rfl, fun h1 T h2 h3 h4 => ?_, hB⟩
                     have hb : beg l = true := by rw [← h4]; exact beg_flag [] (partL T)
                     exfalso; simp_all; done)
                  | (refine ⟨none, 0, [], 3, rfl, (Mem.nil _ _).addNil 22, fun h => by exfalso; omega, fun _ => rfl, fun h1 T h2 h3 h4 => ?_, hB⟩
                     exfalso
                     obtain ⟨T2, hT2, hr2⟩ := hI.only (hpre T h4) h4
                     cases T2 with
                     | nil => have h0 : rest.length = 0 := by rw [hr2]; rfl
                              omega
                     | cons t T3 =>
                       obtain ⟨n2, hn2, hb2⟩ := SpI.flag hr2
                       have hbn : beg (rest.drop n) = true := by first | (exfalso; have := hnb n2 (by omega); rw [hb2] at this; cases this) | (simpa using (by assumption : (!beg (rest.drop n)) = false))
                       have hb9 := (of_decide_eq_true hbn).1
                       rw [List.length_drop] at hb9
                       obtain ⟨q1, _, q3, _⟩ := SpI.next hr2 hbn hnb
                       have ht := h3 t (by rw [hT2]; simp)
                       cases ok
                       · rw [hok2 rfl] at q3; cases q3
                       · rw [hok1 rfl] at q3; cases q3; first | omega | simp_all)
                  | (refine ⟨none, 0, [], 3, rfl, (Mem.nil _ _).addNil 22, fun h => by exfalso; omega, fun _ => rfl, fun h1 T h2 h3 h4 => ?_, hB⟩
                     exfalso
                     obtain ⟨T2, hT2, hr2⟩ := hI.only (hpre T h4) h4
                     have := congrArg List.length hT2
                     rw [List.length_append, codesW_len] at this
                     omega)
                  | (obtain rfl : rest = [] := List.eq_nil_of_length_eq_zero (by omega)
                     refine ⟨po, co, C, 0, rfl, hM, fun _ => ⟨by have := hI.all; rwa [List.append_nil] at this, by omega, hsh, by omega⟩, fun h => absurd rfl h, fun _ T _ _ h4 => ⟨rfl, ?_⟩, hB⟩
                     obtain ⟨T2, hT2, hr2⟩ := hI.only (hpre T h4) h4
                     cases T2 with
                     | nil => rw [hT2, List.append_nil]
                     | cons t T3 => have := congrArg List.length hr2; simp [partL, flagL] at this)
              ·
                have hbn : beg (rest.drop n) = true := by first | (exfalso; omega) | (simpa using (by assumption : (!beg (rest.drop n)) = false))
                have hb8 : n + 8 ≤ rest.length := by { have := (of_decide_eq_true hbn).1; rw [List.length_drop] at this; omega }
                have hokt : ok = true := by { cases ok; simp_all; rfl }
                refine W.skip ?_
                refine thenP_normal ?_
                refine W.seqR ?_
                refine LS.vv rfl rfl (by decide) (Val.move rfl) ?_
                refine LS.vv rfl rfl (by decide) (Val.move rfl) ?_
                refine LS.m rfl (Step.lit rfl rfl (by decide) Try.underlying46 elem22 rfl rfl (by omega) (by simp [Value.oneCell']) (Nat.le_refl _) ?_)
                rintro w9 hO9 hg9 hbl9 hsz9
                replace hM := hM.add hB.size hbl9 hO9
                replace hB := hB.trans (hbl9.mono hB.size)
                generalize w8.heap.size = gg9 at *
                refine LS.m rfl (Step.append2 (B := w0.heap.size) rfl rfl (by decide) Try.underlying46 elem22 rfl rfl rfl rfl (hM.o2) (hM.o0.rd) (by first | rfl | (simp; done) | (simp; omega)) (by first | exact one_map _ (fun _ => rfl) _ | simp [Value.oneCell']) (by omega) (by omega) hB.size ?_)
                rintro p10 c10 w10 hO10 hg10 hbl10 hbk10
                replace hM := hM.s2 hg10 hO10 hbk10
                replace hM := hM.tail
                try simp only [wv_app1, wv_app, wv_set, wv_rep, wv_one, wv_cons, wv_take, wv_drop, List.nil_append] at hM
                replace hB := hB.trans hbl10
                refine LS.vv rfl rfl (by decide) (Val.assign rfl) ?_
                refine LS.nil ?_
                refine W.reg ?_
                refine LS.vv rfl rfl (by decide) (Val.move rfl) ?_
                refine LS.vv rfl rfl (by decide) (Val.move rfl) ?_
                first | refine LS.vv rfl rfl (by decide) (Val.addN (j := 8) rfl rfl (by omega)) ?_ | refine LS.vv rfl rfl (by decide) (Val.add64 rfl rfl (by omega)) ?_
                refine LS.vv rfl rfl (by decide) (Val.sliceFrom Try.underlying22 elem4 rfl rfl (by omega) (by omega)) ?_
                refine LS.vv rfl rfl (by decide) (Val.assign rfl) ?_
                refine LS.nil ?_
                refine inBlk_normal ?_
                refine thenP_normal ?_
                refine ⟨(C ++ [⟨p5, c5, L⟩], p10, c10, cutAt pb cb (n + 8), cb - (n + 8), rest.drop (n + 8)), ?_, ?_, ⟨⟨by rw [codesW_app]; exact hI.step hbn (hok1 hokt), hrr.cut_bv hrc, by simp only [List.length_drop]; omega, by simp only [List.length_drop, List.length_append, List.length_cons, List.length_nil]; omega, fun t ht => ?_, fun T hT => ?_⟩, ?_, hB⟩, by simp only [List.length_drop]; omega⟩
                · exact Sub.cons' rfl (by simp only [List.length_drop]) (Sub.cons' rfl (by simp only [List.length_append, List.length_cons, List.length_nil]) (Sub.nil _))
                · repeat (first | exact Sub.nil _ | refine Sub.cons rfl ?_)
                · simp only [codesW_app] at ht
                  rcases List.mem_append.1 ht with h | h
                  · exact hsh t h
                  · rw [List.mem_singleton] at h; subst h; omega
                · obtain ⟨T2, hT2, hr2⟩ := hI.only (hpre T hT) hT
                  cases T2 with
                  | nil => rw [hr2] at hnl; exfalso; simp [hr2, partL] at hb8
                  | cons t T3 =>
                    obtain ⟨_, _, h3, _⟩ := SpI.next hr2 hbn hnb
                    rw [hok1 hokt] at h3
                    cases h3
                    exact ⟨T3, by simp only [codesW_app]; rw [hT2]; simp⟩
                · simp only [List.length_append, List.length_cons, List.length_nil]; rw [← wv_app1, tb_app1]; exact hM.last1
      ·
        refine W.exit ?_
        refine thenP_exit ?_
        refine thenP_exit ?_
        refine inBlk_exit ?_
        refine thenP_normal ?_
        refine W.seq ?_
        refine W.seqR ?_
        refine LS.vv rfl rfl (by decide) (Val.move rfl) ?_
        refine LS.vv rfl rfl (by decide) (Val.len Try.underlying46 rfl) ?_
        refine LS.vv rfl rfl (by decide) (Val.gtr rfl rfl) ?_
        refine LS.nil ?_
        first | refine W.condD rfl (fun hc12 => ?_) (fun hc12 => ?_) | refine W.cond rfl (fun hc12 => ?_) (fun hc12 => ?_)
        ·
          refine W.seqR ?_
          refine LS.vv rfl rfl (by decide) (Val.assign rfl) ?_
          refine LS.vv rfl rfl (by decide) (Val.cast (v := .int .i64 ((3 : Nat) : Int)) (Val.assign rfl) rfl) ?_
          refine LS.nil ?_
          refine W.ret ?_
          refine thenP_ret ?_
          refine ret2 (by first | exact .inl rfl | exact .inr rfl) rfl rfl ?_
          first
            | (refine ⟨none, 0, [], 1, rfl, (Mem.nil _ _).addNil 22, fun h => by exfalso; omega, fun _ => rfl, fun h1 T h2 h3 h4 => ?_, hB⟩
               exfalso; omega)
            | (refine ⟨none, 0, [], 3, rfl, (Mem.nil _ _).addNil 22, fun h => by exfalso; omega, fun _ => rfl, fun h1 T h2 h3 h4 => ?_, hB⟩
               have hb : beg l = true := by rw [← h4]; exact beg_flag [] (partL T)
               exfalso; simp_all; done)
            | (refine ⟨none, 0, [], 3, rfl, (Mem.nil _ _).addNil 22, fun h => by exfalso; omega, fun _ => rfl, fun h1 T h2 h3 h4 => ?_, hB⟩
               exfalso
               obtain ⟨T2, hT2, hr2⟩ := hI.only (hpre T h4) h4
               cases T2 with
               | nil => have h0 : rest.length = 0 := by rw [hr2]; rfl
                        omega
               | cons t T3 =>
                 obtain ⟨n2, hn2, hb2⟩ := SpI.flag hr2
                 have hbn : beg (rest.drop n) = true := by first | (exfalso; have := hnb n2 (by omega); rw [hb2] at this; cases this) | (simpa using (by assumption : (!beg (rest.drop n)) = false))
                 have hb9 := (of_decide_eq_true hbn).1
                 rw [List.length_drop] at hb9
                 obtain ⟨q1, _, q3, _⟩ := SpI.next hr2 hbn hnb
                 have ht := h3 t (by rw [hT2]; simp)
                 cases ok
                 · rw [hok2 rfl] at q3; cases q3
                 · rw [hok1 rfl] at q3; cases q3; first | omega | simp_all)
            | (refine ⟨none, 0, [], 3, rfl, (Mem.nil _ _).addNil 22, fun h => by exfalso; omega, fun _ => rfl, fun h1 T h2 h3 h4 => ?_, hB⟩
               exfalso
               obtain ⟨T2, hT2, hr2⟩ := hI.only (hpre T h4) h4
               have := congrArg List.length hT2
               rw [List.length_append, codesW_len] at this
               omega)
            | (obtain rfl : rest = [] := List.eq_nil_of_length_eq_zero (by omega)
               refine ⟨po, co, C, 0, rfl, hM, fun _ => ⟨by have := hI.all; rwa [List.append_nil] at this, by omega, hsh, by omega⟩, fun h => absurd rfl h, fun _ T _ _ h4 => ⟨rfl, ?_⟩, hB⟩
               obtain ⟨T2, hT2, hr2⟩ := hI.only (hpre T h4) h4
               cases T2 with
               | nil => rw [hT2, List.append_nil]
               | cons t T3 => have := congrArg List.length hr2; simp [partL, flagL] at this)
        ·
          refine W.skip ?_
          refine thenP_normal ?_
          refine W.seqR ?_
          refine LS.vv rfl rfl (by decide) (Val.move rfl) ?_
          refine LS.vv rfl rfl (by decide) (Val.assign rfl) ?_
          refine LS.vv rfl rfl (by decide) (Val.cast (v := .int .i64 ((0 : Nat) : Int)) (Val.assign rfl) rfl) ?_
          refine LS.nil ?_
          refine W.ret ?_
          refine ret2 (by first | exact .inl rfl | exact .inr rfl) rfl rfl ?_
          first
            | (refine ⟨none, 0, [], 1, rfl, (Mem.nil _ _).addNil 22, fun h => by exfalso; omega, fun _ => rfl, fun h1 T h2 h3 h4 => ?_, hB⟩
               exfalso; omega)
            | (refine ⟨none, 0, [], 3, rfl, (Mem.nil _ _).addNil 22, fun h => by exfalso; omega, fun _ => rfl, fun h1 T h2 h3 h4 => ?_, hB⟩
               have hb : beg l = true := by rw [← h4]; exact beg_flag [] (partL T)
               exfalso; simp_all; done)
            | (refine ⟨none, 0, [], 3, rfl, (Mem.nil _ _).addNil 22, fun h => by exfalso; omega, fun _ => rfl, fun h1 T h2 h3 h4 => ?_, hB⟩
               exfalso
               obtain ⟨T2, hT2, hr2⟩ := hI.only (hpre T h4) h4
               cases T2 with
               | nil => have h0 : rest.length = 0 := by rw [hr2]; rfl
                        omega
               | cons t T3 =>
                 obtain ⟨n2, hn2, hb2⟩ := SpI.flag hr2
                 have hbn : beg (rest.drop n) = true := by first | (exfalso; have := hnb n2 (by omega); rw [hb2] at this; cases this) | (simpa using (by assumption : (!beg (rest.drop n)) = false))
                 have hb9 := (of_decide_eq_true hbn).1
                 rw [List.length_drop] at hb9
                 obtain ⟨q1, _, q3, _⟩ := SpI.next hr2 hbn hnb
                 have ht := h3 t (by rw [hT2]; simp)
                 cases ok
                 · rw [hok2 rfl] at q3; cases q3
                 · rw [hok1 rfl] at q3; cases q3; first | omega | simp_all)
            | (refine ⟨none, 0, [], 3, rfl, (Mem.nil _ _).addNil 22, fun h => by exfalso; omega, fun _ => rfl, fun h1 T h2 h3 h4 => ?_, hB⟩
               exfalso
               obtain ⟨T2, hT2, hr2⟩ := hI.only (hpre T h4) h4
               have := congrArg List.length hT2
               rw [List.length_append, codesW_len] at this
               omega)
            | (obtain rfl : rest = [] := List.eq_nil_of_length_eq_zero (by omega)
               refine ⟨po, co, C, 0, rfl, hM, fun _ => ⟨by have := hI.all; rwa [List.append_nil] at this, by omega, hsh, by omega⟩, fun h => absurd rfl h, fun _ T _ _ h4 => ⟨rfl, ?_⟩, hB⟩
               obtain ⟨T2, hT2, hr2⟩ := hI.only (hpre T h4) h4
               cases T2 with
               | nil => rw [hT2, List.append_nil]
               | cons t T3 => have := congrArg List.length hr2; simp [partL, flagL] at this)

end Go.Proofs.Ytpogedmkmplckaa
