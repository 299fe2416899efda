/-
  The walk of book.Near.
-/
import Derived.Test.YtclobhnclogaoaaBook
import Derived.Test.YtclobhnclogaoaaVfacts2
namespace Go.Proofs.Ytclobhnclogaoaa
open Go Go.RowKit V
set_option linter.unusedVariables false

theorem apart_fn (a x : Nat) (g : Nat) (w0 : World) (ha : a < 4294967296) (hx : x < 4294967296) (hr : Rd w0 (some ⟨g, 0, none⟩) [.int .u32 (x : Int)]) :
    CallsV Try.prog 41 #[.int .u32 (a : Int), .pointer (some ⟨g, 0, none⟩)] w0 (fun v w => v = .int .i64 (popc (a ^^^ x) : Int) ∧ Below w0.heap.size w0 w) := by
  refine enter1 Try.func41 rfl Try.ntmps41 (by simp) rfl ?_
  have hB := Below.refl w0.heap.size w0
  simp only [argLoc]
  have hxx : a ^^^ x < 2 ^ 32 := Nat.xor_lt_two_pow (by omega) (by omega)
  refine W.seqR ?_
  refine LS.vv rfl rfl (by decide) (Val.cast (v := .int .i64 ((0 : Nat) : Int)) (Val.assign rfl) rfl) ?_
  refine LS.nil ?_
  refine W.seqR ?_
  refine LS.vv rfl rfl (by decide) (Val.move rfl) ?_
  refine LS.m rfl (Step.loadBox rfl rfl (by decide) flat27 rfl (hr.below hB) ?_)
  refine LS.vv rfl rfl (by decide) (Val.xorU32 rfl rfl (by omega) (by omega)) ?_
  refine LS.m rfl (Step.call body32 rfl rfl (by decide) rfl (CallsV.mono (ones32_any _ _ hxx) ?_))
  rintro _ w1 ⟨rfl, hb1⟩
  replace hB := hB.trans (hb1.mono hB.size)
  refine LS.vv rfl rfl (by decide) (Val.assign rfl) ?_
  refine LS.nil ?_
  refine W.ret ?_
  refine ret1 (by first | exact .inl rfl | exact .inr rfl) rfl ?_
  exact ⟨rfl, hB⟩

theorem near_any (n : Int) (ws : List Nat) (p : Option Addr) (c : Nat) (x : Nat) (w0 : World) (hr : Rd w0 p (uv ws)) (hc : ws.length ≤ c) (hl : ws.length ≤ 9223372036854775807) (hw : ∀ x ∈ ws, x < 4294967296) (hx : x < 4294967296) :
    CallsV Try.prog 30 #[.int .i64 n, .slice p ws.length c, .int .u32 (x : Int)] w0 (fun v w => ∃ i f e : Nat, v = .tuple #[.int .i64 (i : Int), .int .i64 (f : Int), .int .i64 (e : Int)] ∧ (e = 0 ↔ OkB n ws ∧ x < 2 ^ n.toNat ∧ 1 ≤ ws.length) ∧ (e = 0 → i < ws.length ∧ f = popc (gn ws i ^^^ x) ∧ (∀ j, j < ws.length → popc (gn ws i ^^^ x) ≤ popc (gn ws j ^^^ x)) ∧ ∀ j, j < i → popc (gn ws i ^^^ x) < popc (gn ws j ^^^ x)) ∧ Below w0.heap.size w0 w) := by
  refine enter3 Try.func30 rfl Try.ntmps30 (by simp) rfl ?_
  have hB := Below.refl w0.heap.size w0
  simp only [argLoc, Nat.zero_add, Nat.reduceAdd]
  have hlt : ∀ j, j < ws.length → gn ws j < 4294967296 := fun j hj => by rw [gn_lt hj]; exact hw _ (List.getElem_mem hj)
  refine W.seqR ?_
  refine LS.m rfl (Step.box (B := w0.heap.size) rfl rfl (by decide) rfl rfl hB.size ?_)
  rintro w1 hO1 hg1 hbl1 hsz1
  replace hB := hB.trans (hbl1.mono hB.size)
  refine LS.vv rfl rfl (by decide) (Val.cast (v := .int .i64 ((0 : Nat) : Int)) (Val.assign rfl) rfl) ?_
  refine LS.vv rfl rfl (by decide) (Val.cast (v := .int .i64 ((0 : Nat) : Int)) (Val.assign rfl) rfl) ?_
  refine LS.vv rfl rfl (by decide) (Val.cast (v := .int .i64 ((0 : Nat) : Int)) (Val.assign rfl) rfl) ?_
  refine LS.nil ?_
  refine W.seq ?_
  refine W.seqR ?_
  refine LS.vv rfl rfl (by decide) (Val.move rfl) ?_
  refine LS.vv rfl rfl (by decide) (Val.move rfl) ?_
  refine LS.m rfl (Step.call body37 rfl rfl (by decide) rfl (CallsV.mono (bookCheck_any n ws _ _ _ (hr.below hB) hc hl hw) ?_))
  rintro _ w2 ⟨e, rfl, he, hb2⟩
  replace hB := hB.trans (hb2.mono hB.size)
  replace hO1 := hO1.below hb2
  refine LS.vv rfl rfl (by decide) (Val.assign rfl) ?_
  refine LS.nil ?_
  refine W.seqR ?_
  refine LS.vv rfl rfl (by decide) (Val.move rfl) ?_
  refine LS.vv rfl rfl (by decide) (Val.neq rfl rfl) ?_
  refine LS.nil ?_
  first | refine W.condD rfl (fun hc1 => ?_) (fun hc1 => ?_) | refine W.cond rfl (fun hc1 => ?_) (fun hc1 => ?_)
  ·
    refine W.seqR ?_
    refine LS.vv rfl rfl (by decide) (Val.move rfl) ?_
    refine LS.vv rfl rfl (by decide) (Val.cast (v := .int .i64 ((0 : Nat) : Int)) (Val.assign rfl) rfl) ?_
    refine LS.vv rfl rfl (by decide) (Val.cast (v := .int .i64 ((0 : Nat) : Int)) (Val.assign rfl) rfl) ?_
    refine LS.vv rfl rfl (by decide) (Val.assign rfl) ?_
    refine LS.nil ?_
    refine W.ret ?_
    refine thenP_ret ?_
    refine ret3 (by first | exact .inl rfl | exact .inr rfl) rfl rfl rfl ?_
    first | exact ⟨0, 0, e, rfl, ⟨fun h => by omega, fun h => he.2 h.1⟩, fun h => by omega, hB⟩ | (refine ⟨0, 0, 4, rfl, ⟨fun h => by omega, fun h => ?_⟩, fun h => by omega, hB⟩; exfalso; have := h.2.1; rw [Int.toNat_natCast] at this; exact not_lt_of_shr ‹_› this) | (refine ⟨0, 0, 5, rfl, ⟨fun h => by omega, fun h => by (exfalso; omega)⟩, fun h => by omega, hB⟩) | exact ⟨i, _, 0, rfl, ⟨fun _ => ⟨hok, lt_of_shr ‹_›, by omega⟩, fun _ => rfl⟩, fun _ => ⟨hi, rfl, fun j hj => hmin j (by omega), hfst⟩, hB⟩
  ·
    have hok := he.1 (by omega)
    have hn1 := hok.1
    have hn2 := hok.2.1
    have h64 := hok.2.2.1
    obtain ⟨m, rfl⟩ := Int.eq_ofNat_of_zero_le hn1
    refine W.skip ?_
    refine thenP_normal ?_
    refine W.seq ?_
    refine W.seqR ?_
    refine LS.m rfl (Step.loadBox rfl rfl (by decide) flat27 rfl (hO1.rd) ?_)
    refine LS.vv rfl rfl (by decide) (Val.move rfl) ?_
    refine LS.vv rfl rfl (by decide) (Val.shr rfl rfl (by simp only [IntKind.bits]; omega)) ?_
    refine LS.vv rfl rfl (by decide) (Val.neq rfl rfl) ?_
    refine LS.nil ?_
    first | refine W.condD rfl (fun hc2 => ?_) (fun hc2 => ?_) | refine W.cond rfl (fun hc2 => ?_) (fun hc2 => ?_)
    ·
      refine W.seqR ?_
      refine LS.vv rfl rfl (by decide) (Val.cast (v := .int .i64 ((0 : Nat) : Int)) (Val.assign rfl) rfl) ?_
      refine LS.vv rfl rfl (by decide) (Val.cast (v := .int .i64 ((0 : Nat) : Int)) (Val.assign rfl) rfl) ?_
      refine LS.vv rfl rfl (by decide) (Val.cast (v := .int .i64 ((4 : Nat) : Int)) (Val.assign rfl) rfl) ?_
      refine LS.nil ?_
      refine W.ret ?_
      refine thenP_ret ?_
      refine ret3 (by first | exact .inl rfl | exact .inr rfl) rfl rfl rfl ?_
      first | exact ⟨0, 0, e, rfl, ⟨fun h => by omega, fun h => he.2 h.1⟩, fun h => by omega, hB⟩ | (refine ⟨0, 0, 4, rfl, ⟨fun h => by omega, fun h => ?_⟩, fun h => by omega, hB⟩; exfalso; have := h.2.1; rw [Int.toNat_natCast] at this; exact not_lt_of_shr ‹_› this) | (refine ⟨0, 0, 5, rfl, ⟨fun h => by omega, fun h => by (exfalso; omega)⟩, fun h => by omega, hB⟩) | exact ⟨i, _, 0, rfl, ⟨fun _ => ⟨hok, lt_of_shr ‹_›, by omega⟩, fun _ => rfl⟩, fun _ => ⟨hi, rfl, fun j hj => hmin j (by omega), hfst⟩, hB⟩
    ·
      refine W.skip ?_
      refine thenP_normal ?_
      refine W.seq ?_
      refine W.seqR ?_
      refine LS.vv rfl rfl (by decide) (Val.move rfl) ?_
      refine LS.vv rfl rfl (by decide) (Val.len Try.underlying44 rfl) ?_
      refine LS.vv rfl rfl (by decide) (Val.eql rfl rfl) ?_
      refine LS.nil ?_
      first | refine W.condD rfl (fun hc3 => ?_) (fun hc3 => ?_) | refine W.cond rfl (fun hc3 => ?_) (fun hc3 => ?_)
      ·
        refine W.seqR ?_
        refine LS.vv rfl rfl (by decide) (Val.cast (v := .int .i64 ((0 : Nat) : Int)) (Val.assign rfl) rfl) ?_
        refine LS.vv rfl rfl (by decide) (Val.cast (v := .int .i64 ((0 : Nat) : Int)) (Val.assign rfl) rfl) ?_
        refine LS.vv rfl rfl (by decide) (Val.cast (v := .int .i64 ((5 : Nat) : Int)) (Val.assign rfl) rfl) ?_
        refine LS.nil ?_
        refine W.ret ?_
        refine thenP_ret ?_
        refine ret3 (by first | exact .inl rfl | exact .inr rfl) rfl rfl rfl ?_
        first | exact ⟨0, 0, e, rfl, ⟨fun h => by omega, fun h => he.2 h.1⟩, fun h => by omega, hB⟩ | (refine ⟨0, 0, 4, rfl, ⟨fun h => by omega, fun h => ?_⟩, fun h => by omega, hB⟩; exfalso; have := h.2.1; rw [Int.toNat_natCast] at this; exact not_lt_of_shr ‹_› this) | (refine ⟨0, 0, 5, rfl, ⟨fun h => by omega, fun h => by (exfalso; omega)⟩, fun h => by omega, hB⟩) | exact ⟨i, _, 0, rfl, ⟨fun _ => ⟨hok, lt_of_shr ‹_›, by omega⟩, fun _ => rfl⟩, fun _ => ⟨hi, rfl, fun j hj => hmin j (by omega), hfst⟩, hB⟩
      ·
        refine W.skip ?_
        refine thenP_normal ?_
        refine W.seqR ?_
        refine LS.vv rfl rfl (by decide) (Val.makeFunc rfl) ?_
        refine LS.vv rfl rfl (by decide) (Val.assign rfl) ?_
        refine LS.nil ?_
        refine W.seqR ?_
        refine LS.vv rfl rfl (by decide) (Val.cast (v := .int .i64 ((0 : Nat) : Int)) (Val.assign rfl) rfl) ?_
        refine LS.nil ?_
        refine W.seq ?_
        refine W.seqR ?_
        refine LS.vv rfl rfl (by decide) (Val.move rfl) ?_
        refine LS.vv rfl rfl (by decide) (Val.len Try.underlying44 rfl) ?_
        refine LS.vv rfl rfl (by decide) (Val.cast (v := .int .i64 ((0 : Nat) : Int)) (Val.move rfl) rfl) ?_
        refine LS.nil ?_
        refine W.block ?_
        refine W.loop (α := Nat × Nat) (fun g => [(11, .int .i64 (g.2 : Int)), (30, .int .i64 (g.1 : Int))]) [(1, _), (10, _), (28, _), (29, _)] (fun g w => (g.1 ≤ ws.length ∧ g.2 < ws.length ∧ (∀ j, j < g.1 → popc (gn ws g.2 ^^^ x) ≤ popc (gn ws j ^^^ x)) ∧ (∀ j, j < g.2 → popc (gn ws g.2 ^^^ x) < popc (gn ws j ^^^ x)) ∧ (g.2 ≤ g.1) ∧ Own w w0.heap.size 27 (some ⟨w0.heap.size, 0, none⟩) 1 1 [.int .u32 (x : Int)]) ∧ Below w0.heap.size w0 w) (fun g => ws.length - g.1) ((0, 0)) (Sub.cons rfl (Sub.cons rfl (Sub.nil _))) (Sub.cons rfl (Sub.cons rfl (Sub.cons rfl (Sub.cons rfl (Sub.nil _))))) ?_ ?_
        · exact ⟨⟨Nat.zero_le _, by simp only; omega, fun j hj => by simp only at hj; omega, fun j hj => by simp only at hj; omega, Nat.le_refl _, hO1⟩, hB⟩
        rintro ⟨k, i⟩ w3 ⟨⟨hk, hi, hmin, hfst, hik, hO1⟩, hB⟩
        simp only [List.cons_append, List.nil_append]
        simp only at hk hi hmin hfst hik
        refine W.seqR ?_
        refine LS.vv rfl rfl (by decide) (Val.lss rfl rfl) ?_
        refine LS.nil ?_
        refine W.seq ?_
        first | refine W.condD rfl (fun hc4 => ?_) (fun hc4 => ?_) | refine W.cond rfl (fun hc4 => ?_) (fun hc4 => ?_)
        ·
          refine W.skip ?_
          refine thenP_normal ?_
          refine W.seq ?_
          refine W.block ?_
          refine W.seqR ?_
          refine LS.vv rfl rfl (by decide) (Val.move rfl) ?_
          refine LS.vv rfl rfl (by decide) (Val.index1 Try.underlying44 elem27 rfl rfl (by omega) hr (uv_lt (by omega))) ?_
          refine LS.m rfl (Step.load rfl rfl (by decide) flat27 rfl (hr.below hB) (uv_at (by omega)) ?_)
          refine LS.vv rfl rfl (by decide) (Val.assign rfl) ?_
          refine LS.vv rfl rfl (by decide) (Val.assign rfl) ?_
          refine LS.nil ?_
          refine W.seqD (S := fun w => Below w0.heap.size w0 w) [(0, true), (1, true), (3, true), (4, true), (5, true), (6, true), (7, true), (2, false), (8, false), (9, true)] mixed (by kernel_rfl) hB.drew ?_
          replace hB := hB.drew
          replace hO1 := hO1.drew
          refine DX.vv rfl rfl rfl (by decide) (Val.move rfl) ?_
          refine DX.vv rfl rfl rfl (by decide) (Val.move rfl) ?_
          refine DX.vv rfl rfl rfl (by decide) (Val.move rfl) ?_
          refine DX.vv rfl rfl rfl (by decide) (Val.move rfl) ?_
          refine DX.vv rfl rfl rfl (by decide) (Val.move rfl) ?_
          refine DX.vv rfl rfl rfl (by decide) (Val.index1 Try.underlying44 elem27 rfl rfl (by omega) hr (uv_lt (by omega))) ?_
          refine DX.vv rfl rfl rfl (by decide) (Val.load flat27 rfl (fun _ h => hr.below h) (uv_at (by omega))) ?_
          refine DX.m rfl rfl (Step.callV body41 rfl rfl rfl (by decide) rfl (CallsV.mono (apart_fn (gn ws k) x _ _ (hlt _ (by omega)) hx hO1.rd) ?_))
          rintro _ w4 ⟨rfl, hb4⟩
          replace hB := hB.trans (hb4.mono hB.size)
          replace hO1 := hO1.below hb4
          refine ⟨hB, ?_⟩
          refine DX.m rfl rfl (Step.callV body41 rfl rfl rfl (by decide) rfl (CallsV.mono (apart_fn (gn ws i) x _ _ (hlt _ (by omega)) hx hO1.rd) ?_))
          rintro _ w5 ⟨rfl, hb5⟩
          replace hB := hB.trans (hb5.mono hB.size)
          replace hO1 := hO1.below hb5
          refine ⟨hB, ?_⟩
          refine DX.vv rfl rfl rfl (by decide) (Val.lss rfl rfl) ?_
          refine DX.nil ?_
          first | refine W.condD rfl (fun hc5 => ?_) (fun hc5 => ?_) | refine W.cond rfl (fun hc5 => ?_) (fun hc5 => ?_)
          ·
            refine W.reg ?_
            refine LS.vv rfl rfl (by decide) (Val.move rfl) ?_
            refine LS.vv rfl rfl (by decide) (Val.assign rfl) ?_
            refine LS.nil ?_
            refine inBlk_normal ?_
            refine thenP_normal ?_
            refine W.reg ?_
            first | refine LS.vv rfl rfl (by decide) (Val.addN (j := 1) rfl rfl (by omega)) ?_ | refine LS.vv rfl rfl (by decide) (Val.add64 rfl rfl (by omega)) ?_
            refine LS.vv rfl rfl (by decide) (Val.move rfl) ?_
            refine LS.nil ?_
            refine thenP_normal ?_
            first
              | (have hlt2 : popc (gn ws k ^^^ x) < popc (gn ws i ^^^ x) := by omega
                 refine ⟨(k + 1, k), ?_, ?_, ⟨⟨by simp only; omega, by simp only; omega, ?_, ?_, by simp only; omega, hO1⟩, hB⟩, by simp only; omega⟩
                 · exact Sub.cons rfl (Sub.cons rfl (Sub.nil _))
                 · repeat (first | exact Sub.nil _ | refine Sub.cons rfl ?_)
                 · intro j hj
                   simp only at hj ⊢
                   by_cases e : j = k
                   · subst e; exact Nat.le_refl _
                   · have := hmin j (by omega); omega
                 · intro j hj
                   simp only at hj ⊢
                   have := hmin j hj; omega)
              | (have hlt2 : popc (gn ws i ^^^ x) ≤ popc (gn ws k ^^^ x) := by omega
                 refine ⟨(k + 1, i), ?_, ?_, ⟨⟨by simp only; omega, by simp only; omega, ?_, hfst, by simp only; omega, hO1⟩, hB⟩, by simp only; omega⟩
                 · exact Sub.cons rfl (Sub.cons rfl (Sub.nil _))
                 · repeat (first | exact Sub.nil _ | refine Sub.cons rfl ?_)
                 · intro j hj
                   simp only at hj ⊢
                   by_cases e : j = k
                   · subst e; exact hlt2
                   · exact hmin j (by omega))
          ·
            refine W.skip ?_
            refine inBlk_normal ?_
            refine thenP_normal ?_
            refine W.reg ?_
            first | refine LS.vv rfl rfl (by decide) (Val.addN (j := 1) rfl rfl (by omega)) ?_ | refine LS.vv rfl rfl (by decide) (Val.add64 rfl rfl (by omega)) ?_
            refine LS.vv rfl rfl (by decide) (Val.move rfl) ?_
            refine LS.nil ?_
            refine thenP_normal ?_
            first
              | (have hlt2 : popc (gn ws k ^^^ x) < popc (gn ws i ^^^ x) := by omega
                 refine ⟨(k + 1, k), ?_, ?_, ⟨⟨by simp only; omega, by simp only; omega, ?_, ?_, by simp only; omega, hO1⟩, hB⟩, by simp only; omega⟩
                 · exact Sub.cons rfl (Sub.cons rfl (Sub.nil _))
                 · repeat (first | exact Sub.nil _ | refine Sub.cons rfl ?_)
                 · intro j hj
                   simp only at hj ⊢
                   by_cases e : j = k
                   · subst e; exact Nat.le_refl _
                   · have := hmin j (by omega); omega
                 · intro j hj
                   simp only at hj ⊢
                   have := hmin j hj; omega)
              | (have hlt2 : popc (gn ws i ^^^ x) ≤ popc (gn ws k ^^^ x) := by omega
                 refine ⟨(k + 1, i), ?_, ?_, ⟨⟨by simp only; omega, by simp only; omega, ?_, hfst, by simp only; omega, hO1⟩, hB⟩, by simp only; omega⟩
                 · exact Sub.cons rfl (Sub.cons rfl (Sub.nil _))
                 · repeat (first | exact Sub.nil _ | refine Sub.cons rfl ?_)
                 · intro j hj
                   simp only at hj ⊢
                   by_cases e : j = k
                   · subst e; exact hlt2
                   · exact hmin j (by omega))
        ·
          refine W.exit ?_
          refine thenP_exit ?_
          refine thenP_exit ?_
          refine inBlk_exit ?_
          refine thenP_normal ?_
          refine W.seqR ?_
          refine LS.vv rfl rfl (by decide) (Val.move rfl) ?_
          refine LS.vv rfl rfl (by decide) (Val.move rfl) ?_
          refine LS.vv rfl rfl (by decide) (Val.move rfl) ?_
          refine LS.vv rfl rfl (by decide) (Val.move rfl) ?_
          refine LS.vv rfl rfl (by decide) (Val.index1 Try.underlying44 elem27 rfl rfl (by omega) hr (uv_lt (by omega))) ?_
          refine LS.m rfl (Step.load rfl rfl (by decide) flat27 rfl (hr.below hB) (uv_at (by omega)) ?_)
          refine LS.m rfl (Step.callV body41 rfl rfl rfl (by decide) rfl (CallsV.mono (apart_fn (gn ws i) x _ _ (hlt _ (by omega)) hx hO1.rd) ?_))
          rintro _ w6 ⟨rfl, hb6⟩
          replace hB := hB.trans (hb6.mono hB.size)
          replace hO1 := hO1.below hb6
          refine LS.vv rfl rfl (by decide) (Val.assign rfl) ?_
          refine LS.vv rfl rfl (by decide) (Val.assign rfl) ?_
          refine LS.vv rfl rfl (by decide) (Val.cast (v := .int .i64 ((0 : Nat) : Int)) (Val.assign rfl) rfl) ?_
          refine LS.nil ?_
          refine W.ret ?_
          refine ret3 (by first | exact .inl rfl | exact .inr rfl) rfl rfl rfl ?_
          first | exact ⟨0, 0, e, rfl, ⟨fun h => by omega, fun h => he.2 h.1⟩, fun h => by omega, hB⟩ | (refine ⟨0, 0, 4, rfl, ⟨fun h => by omega, fun h => ?_⟩, fun h => by omega, hB⟩; exfalso; have := h.2.1; rw [Int.toNat_natCast] at this; exact not_lt_of_shr ‹_› this) | (refine ⟨0, 0, 5, rfl, ⟨fun h => by omega, fun h => by (exfalso; omega)⟩, fun h => by omega, hB⟩) | exact ⟨i, _, 0, rfl, ⟨fun _ => ⟨hok, lt_of_shr ‹_›, by omega⟩, fun _ => rfl⟩, fun _ => ⟨hi, rfl, fun j hj => hmin j (by omega), hfst⟩, hB⟩

end Go.Proofs.Ytclobhnclogaoaa
