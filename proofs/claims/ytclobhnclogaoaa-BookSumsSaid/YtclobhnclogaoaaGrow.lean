/-
  The walk of book.Grow.
-/
import Derived.Test.YtclobhnclogaoaaBook
import Derived.Test.YtclobhnclogaoaaLexPlain
import Derived.Test.YtclobhnclogaoaaVgrow
import Derived.Test.YtclobhnclogaoaaNear
namespace Go.Proofs.Ytclobhnclogaoaa
open Go Go.RowKit V
set_option linter.unusedVariables false

theorem least2_any (n : Int) (ws : List Nat) (p : Option Addr) (c : Nat) (D : Nat) (w0 : World) (hr : Rd w0 p (uv ws)) (hc : ws.length ≤ c) (hl : ws.length ≤ 9223372036854775807) (hw : ∀ x ∈ ws, x < 4294967296) (hDn : (D : Int) ≤ n + 1) (hD : ∀ i, i < ws.length → ∀ j, j < i → D ≤ popc (gn ws i ^^^ gn ws j)) :
    CallsV Try.prog 27 #[.int .i64 n, .slice p ws.length c] w0 (fun v w => ∃ d e : Nat, v = .tuple #[.int .i64 (d : Int), .int .i64 (e : Int)] ∧ (e = 0 ↔ OkB n ws ∧ 2 ≤ ws.length) ∧ (e = 0 → D ≤ d) ∧ Below w0.heap.size w0 w) := by
  refine enter2 Try.func27 rfl Try.ntmps27 (by simp) rfl ?_
  have hB := Below.refl w0.heap.size w0
  simp only [argLoc, Nat.zero_add]
  have hlt : ∀ j, j < ws.length → gn ws j < 4294967296 := fun j hj => by rw [gn_lt hj]; exact hw _ (List.getElem_mem hj)
  refine W.seqR ?_
  refine LS.vv rfl rfl (by decide) (Val.cast (v := .int .i64 ((0 : Nat) : Int)) (Val.assign rfl) rfl) ?_
  refine LS.vv rfl rfl (by decide) (Val.cast (v := .int .i64 ((0 : Nat) : Int)) (Val.assign rfl) rfl) ?_
  refine LS.nil ?_
  refine W.seq ?_
  refine W.seqR ?_
  refine LS.vv rfl rfl (by decide) (Val.move rfl) ?_
  refine LS.vv rfl rfl (by decide) (Val.move rfl) ?_
  refine LS.m rfl (Step.call body37 rfl rfl (by decide) rfl (CallsV.mono (bookCheck_any n ws _ _ _ (hr.below hB) hc hl hw) ?_))
  rintro _ w1 ⟨e, rfl, he, hb1⟩
  replace hB := hB.trans (hb1.mono hB.size)
  refine LS.vv rfl rfl (by decide) (Val.assign rfl) ?_
  refine LS.nil ?_
  refine W.seqR ?_
  refine LS.vv rfl rfl (by decide) (Val.move rfl) ?_
  refine LS.vv rfl rfl (by decide) (Val.neq rfl rfl) ?_
  refine LS.nil ?_
  first | refine W.condD rfl (fun hc1 => ?_) (fun hc1 => ?_) | refine W.cond rfl (fun hc1 => ?_) (fun hc1 => ?_)
  ·
    refine W.seqR ?_
    refine LS.vv rfl rfl (by decide) (Val.move rfl) ?_
    refine LS.vv rfl rfl (by decide) (Val.cast (v := .int .i64 ((0 : Nat) : Int)) (Val.assign rfl) rfl) ?_
    refine LS.vv rfl rfl (by decide) (Val.assign rfl) ?_
    refine LS.nil ?_
    refine W.ret ?_
    refine thenP_ret ?_
    refine ret2 (by first | exact .inl rfl | exact .inr rfl) rfl rfl ?_
    first | exact ⟨0, e, rfl, ⟨fun h => by omega, fun h => he.2 h.1⟩, fun h => by omega, hB⟩ | (refine ⟨0, 5, rfl, ⟨fun h => by omega, fun h => ?_⟩, fun h => by omega, hB⟩; have := h.2; omega) | (refine ⟨d, 0, rfl, ⟨fun _ => ⟨he.1 (by omega), by omega⟩, fun _ => rfl⟩, fun _ => hd, hB⟩)
  ·
    have hok := he.1 (by omega)
    obtain ⟨hn1, hn2, hn3, hlow, hdis⟩ := hok
    obtain ⟨m, rfl⟩ := Int.eq_ofNat_of_zero_le hn1
    simp only [Int.toNat_natCast] at *
    refine W.skip ?_
    refine thenP_normal ?_
    refine W.seqR ?_
    refine LS.vv rfl rfl (by decide) (Val.move rfl) ?_
    first | refine LS.vv rfl rfl (by decide) (Val.addN (j := 1) rfl rfl (by omega)) ?_ | refine LS.vv rfl rfl (by decide) (Val.add64 rfl rfl (by omega)) ?_
    refine LS.vv rfl rfl (by decide) (Val.assign rfl) ?_
    refine LS.nil ?_
    refine W.seq ?_
    refine W.seqR ?_
    refine LS.vv rfl rfl (by decide) (Val.move rfl) ?_
    refine LS.vv rfl rfl (by decide) (Val.len Try.underlying44 rfl) ?_
    refine LS.vv rfl rfl (by decide) (Val.cast (v := .int .i64 ((0 : Nat) : Int)) (Val.move rfl) rfl) ?_
    refine LS.nil ?_
    refine W.block ?_
    refine W.loop (α := Nat × Nat) (fun g => [(7, .int .i64 (g.2 : Int)), (22, .int .i64 (g.1 : Int))]) [(0, _), (1, _), (20, _), (21, _)] (fun g w => (g.1 ≤ ws.length ∧ 1 ≤ g.2 ∧ g.2 ≤ m + 1 ∧ (2 ≤ g.1 → g.2 ≤ m) ∧ (g.1 ≤ 1 → g.2 = m + 1) ∧ D ≤ g.2) ∧ Below w0.heap.size w0 w) (fun g => ws.length - g.1) ((0, m + 1)) (Sub.cons rfl (Sub.cons rfl (Sub.nil _))) (Sub.cons rfl (Sub.cons rfl (Sub.cons rfl (Sub.cons rfl (Sub.nil _))))) ?_ ?_
    · exact ⟨⟨Nat.zero_le _, by simp only; omega, Nat.le_refl _, fun h => by simp only at h; omega, fun _ => rfl, by simp only; omega⟩, hB⟩
    rintro ⟨k, d⟩ w2 ⟨⟨hk, hd1, hd2, hd3, hd4, hd⟩, hB⟩
    simp only [List.cons_append, List.nil_append]
    simp only at hk hd1 hd2 hd3 hd4 hd
    refine W.seqR ?_
    refine LS.vv rfl rfl (by decide) (Val.lss rfl rfl) ?_
    refine LS.nil ?_
    refine W.seq ?_
    first | refine W.condD rfl (fun hc2 => ?_) (fun hc2 => ?_) | refine W.cond rfl (fun hc2 => ?_) (fun hc2 => ?_)
    ·
      refine W.skip ?_
      refine thenP_normal ?_
      refine W.seq ?_
      refine W.block ?_
      refine W.seqR ?_
      refine LS.vv rfl rfl (by decide) (Val.move rfl) ?_
      refine LS.vv rfl rfl (by decide) (Val.index1 Try.underlying44 elem27 rfl rfl (by omega) hr (uv_lt (by omega))) ?_
      refine LS.m rfl (Step.load rfl rfl (by decide) flat27 rfl (hr.below hB) (uv_at (by omega)) ?_)
      refine LS.vv rfl rfl (by decide) (Val.assign rfl) ?_
      refine LS.vv rfl rfl (by decide) (Val.assign rfl) ?_
      refine LS.nil ?_
      refine W.seqR ?_
      refine LS.vv rfl rfl (by decide) (Val.move rfl) ?_
      refine LS.vv rfl rfl (by decide) (Val.move rfl) ?_
      refine LS.vv rfl rfl (by decide) (Val.sliceTo Try.underlying44 elem27 rfl rfl (by omega)) ?_
      refine LS.vv rfl rfl (by decide) (Val.len Try.underlying44 rfl) ?_
      refine LS.vv rfl rfl (by decide) (Val.cast (v := .int .i64 ((0 : Nat) : Int)) (Val.move rfl) rfl) ?_
      refine LS.nil ?_
      refine W.block ?_
      refine W.loop (α := Nat × Nat) (fun g => [(7, .int .i64 (g.2 : Int)), (31, .int .i64 (g.1 : Int))]) [(0, _), (1, _), (9, _), (20, _), (21, _), (22, _), (29, _), (30, _)] (fun g w => (g.1 ≤ k ∧ 1 ≤ g.2 ∧ g.2 ≤ d ∧ (1 ≤ g.1 → g.2 ≤ m) ∧ (g.1 = 0 → g.2 = d) ∧ D ≤ g.2) ∧ Below w0.heap.size w0 w) (fun g => k - g.1) ((0, d)) (Sub.cons rfl (Sub.cons rfl (Sub.nil _))) (Sub.cons rfl (Sub.cons rfl (Sub.cons rfl (Sub.cons rfl (Sub.cons rfl (Sub.cons rfl (Sub.cons rfl (Sub.cons rfl (Sub.nil _))))))))) ?_ ?_
      · exact ⟨⟨Nat.zero_le _, hd1, Nat.le_refl _, fun h => by simp only at h; omega, fun _ => rfl, hd⟩, hB⟩
      rintro ⟨q, d2⟩ w3 ⟨⟨hq, hd5, hdd, hd6, hd7, hrow⟩, hB⟩
      simp only [List.cons_append, List.nil_append]
      simp only at hq hd5 hdd hd6 hd7 hrow
      refine W.seqR ?_
      refine LS.vv rfl rfl (by decide) (Val.lss rfl rfl) ?_
      refine LS.nil ?_
      refine W.seq ?_
      first | refine W.condD rfl (fun hc3 => ?_) (fun hc3 => ?_) | refine W.cond rfl (fun hc3 => ?_) (fun hc3 => ?_)
      ·
        have hk1 := hlt k (by omega)
        have hq1 := hlt q (by omega)
        have hdk : gn ws q < 2 ^ m ∧ gn ws k < 2 ^ m := ⟨hlow q (by omega), hlow k (by omega)⟩
        have hx : gn ws k ^^^ gn ws q < 2 ^ 32 := Nat.xor_lt_two_pow (hlt k (by omega)) (hlt q (by omega))
        have hpc : popc (gn ws k ^^^ gn ws q) ≤ m := popc_le (Nat.xor_lt_two_pow hdk.2 hdk.1)
        have hp1 : popc (gn ws k ^^^ gn ws q) ≠ 0 := fun h => hdis k (by omega) q (by omega) ((popc_dist_zero (hlt k (by omega)) (hlt q (by omega))).1 h).symm
        have hDq := hD k (by omega) q (by omega)
        refine W.skip ?_
        refine thenP_normal ?_
        refine W.seq ?_
        refine W.block ?_
        refine W.seqR ?_
        refine LS.vv rfl rfl (by decide) (Val.index1 Try.underlying44 elem27 rfl rfl (by omega) hr (uv_lt (by omega))) ?_
        refine LS.m rfl (Step.load rfl rfl (by decide) flat27 rfl (hr.below hB) (uv_at (by omega)) ?_)
        refine LS.vv rfl rfl (by decide) (Val.assign rfl) ?_
        refine LS.nil ?_
        refine W.reg ?_
        refine LS.vv rfl rfl (by decide) (Val.move rfl) ?_
        refine LS.vv rfl rfl (by decide) (Val.move rfl) ?_
        refine LS.vv rfl rfl (by decide) (Val.move rfl) ?_
        refine LS.vv rfl rfl (by decide) (Val.xorU32 rfl rfl (by omega) (by omega)) ?_
        refine LS.m rfl (Step.call body32 rfl rfl (by decide) rfl (CallsV.mono (ones32_any _ _ hx) ?_))
        rintro _ w4 ⟨rfl, hb4⟩
        replace hB := hB.trans (hb4.mono hB.size)
        first | refine LS.vv rfl rfl (by decide) (Val.minN rfl rfl) ?_ | refine LS.vv rfl rfl (by decide) (Val.min rfl rfl) ?_
        refine LS.vv rfl rfl (by decide) (Val.assign rfl) ?_
        refine LS.nil ?_
        refine inBlk_normal ?_
        refine thenP_normal ?_
        refine W.reg ?_
        first | refine LS.vv rfl rfl (by decide) (Val.addN (j := 1) rfl rfl (by omega)) ?_ | refine LS.vv rfl rfl (by decide) (Val.add64 rfl rfl (by omega)) ?_
        refine LS.vv rfl rfl (by decide) (Val.move rfl) ?_
        refine LS.nil ?_
        refine thenP_normal ?_
        refine ⟨(q + 1, Min.min d2 (popc (gn ws k ^^^ gn ws q))), ?_, ?_, ⟨⟨by simp only; omega, by simp only; omega, by simp only; omega, by simp only; omega, by simp only; omega, by simp only; omega⟩, hB⟩, by simp only; omega⟩
        · exact Sub.cons rfl (Sub.cons rfl (Sub.nil _))
        · repeat (first | exact Sub.nil _ | refine Sub.cons rfl ?_)
      ·
        refine W.exit ?_
        refine thenP_exit ?_
        refine thenP_exit ?_
        refine inBlk_exit ?_
        refine inBlk_normal ?_
        refine thenP_normal ?_
        refine W.reg ?_
        first | refine LS.vv rfl rfl (by decide) (Val.addN (j := 1) rfl rfl (by omega)) ?_ | refine LS.vv rfl rfl (by decide) (Val.add64 rfl rfl (by omega)) ?_
        refine LS.vv rfl rfl (by decide) (Val.move rfl) ?_
        refine LS.nil ?_
        refine thenP_normal ?_
        refine ⟨(k + 1, d2), ?_, ?_, ⟨⟨by simp only; omega, by simp only; omega, by simp only; omega, by simp only; omega, by simp only; omega, hrow⟩, hB⟩, by simp only; omega⟩
        · exact Sub.cons rfl (Sub.cons rfl (Sub.nil _))
        · repeat (first | exact Sub.nil _ | refine Sub.cons rfl ?_)
    ·
      have hkl : k = ws.length := by omega
      refine W.exit ?_
      refine thenP_exit ?_
      refine thenP_exit ?_
      refine inBlk_exit ?_
      refine thenP_normal ?_
      refine W.seq ?_
      refine W.seqR ?_
      refine LS.vv rfl rfl (by decide) (Val.move rfl) ?_
      refine LS.vv rfl rfl (by decide) (Val.move rfl) ?_
      refine LS.vv rfl rfl (by decide) (Val.gtr rfl rfl) ?_
      refine LS.nil ?_
      first | refine W.condD rfl (fun hc4 => ?_) (fun hc4 => ?_) | refine W.cond rfl (fun hc4 => ?_) (fun hc4 => ?_)
      ·
        refine W.seqR ?_
        refine LS.vv rfl rfl (by decide) (Val.cast (v := .int .i64 ((0 : Nat) : Int)) (Val.assign rfl) rfl) ?_
        refine LS.vv rfl rfl (by decide) (Val.cast (v := .int .i64 ((5 : Nat) : Int)) (Val.assign rfl) rfl) ?_
        refine LS.nil ?_
        refine W.ret ?_
        refine thenP_ret ?_
        refine ret2 (by first | exact .inl rfl | exact .inr rfl) rfl rfl ?_
        first | exact ⟨0, e, rfl, ⟨fun h => by omega, fun h => he.2 h.1⟩, fun h => by omega, hB⟩ | (refine ⟨0, 5, rfl, ⟨fun h => by omega, fun h => ?_⟩, fun h => by omega, hB⟩; have := h.2; omega) | (refine ⟨d, 0, rfl, ⟨fun _ => ⟨he.1 (by omega), by omega⟩, fun _ => rfl⟩, fun _ => hd, hB⟩)
      ·
        refine W.skip ?_
        refine thenP_normal ?_
        refine W.seqR ?_
        refine LS.vv rfl rfl (by decide) (Val.move rfl) ?_
        refine LS.vv rfl rfl (by decide) (Val.assign rfl) ?_
        refine LS.vv rfl rfl (by decide) (Val.cast (v := .int .i64 ((0 : Nat) : Int)) (Val.assign rfl) rfl) ?_
        refine LS.nil ?_
        refine W.ret ?_
        refine ret2 (by first | exact .inl rfl | exact .inr rfl) rfl rfl ?_
        first | exact ⟨0, e, rfl, ⟨fun h => by omega, fun h => he.2 h.1⟩, fun h => by omega, hB⟩ | (refine ⟨0, 5, rfl, ⟨fun h => by omega, fun h => ?_⟩, fun h => by omega, hB⟩; have := h.2; omega) | (refine ⟨d, 0, rfl, ⟨fun _ => ⟨he.1 (by omega), by omega⟩, fun _ => rfl⟩, fun _ => hd, hB⟩)

theorem indexFunc_word (vals : List Value) (pr : Nat → Bool) (f : FuncId) (cap : Array Value) (p : Option Addr) (c : Nat) (w0 : World) (hbody : Body Try.prog f) (hr : Rd w0 p vals) (hb : vals.length ≤ 100000)
    (hf : ∀ i (h : i < vals.length) w, Below w0.heap.size w0 w → CallsV Try.prog f (#[vals[i]] ++ cap) w (fun v w2 => v = .bool (pr i) ∧ Below w.heap.size w w2)) :
    CallsV Try.prog 43 #[.slice p vals.length c, .func (.func f) #[] cap] w0 (fun v w => v = .int .i64 (fI pr vals.length) ∧ Below w0.heap.size w0 w) := by
  refine enter1 Try.func43 rfl Try.ntmps43 (by simp) rfl ?_
  have hB := Below.refl w0.heap.size w0
  simp only [argLoc, Nat.zero_add]
  refine W.seqR ?_
  refine LS.vv rfl rfl (by decide) (Val.cast (v := .int .i64 ((0 : Nat) : Int)) (Val.assign rfl) rfl) ?_
  refine LS.nil ?_
  refine W.seq ?_
  refine W.seqR ?_
  refine LS.vv rfl rfl (by decide) (Val.move rfl) ?_
  refine LS.vv rfl rfl (by decide) (Val.len Try.underlying44 rfl) ?_
  refine LS.vv rfl rfl (by decide) (Val.cast (v := .int .i64 ((0 : Nat) : Int)) (Val.move rfl) rfl) ?_
  refine LS.nil ?_
  refine W.block ?_
  refine W.loop (α := Nat) (fun k => [(8, .int .i64 (k : Int))]) [(0, _), (1, _), (7, _)] (fun k w => (k ≤ vals.length ∧ ∀ j, j < k → pr j = false) ∧ Below w0.heap.size w0 w) (fun k => vals.length - k) (0) (Sub.cons rfl (Sub.nil _)) (Sub.cons rfl (Sub.cons rfl (Sub.cons rfl (Sub.nil _)))) ?_ ?_
  · exact ⟨⟨Nat.zero_le _, by omega⟩, hB⟩
  rintro k w1 ⟨⟨hk, hall⟩, hB⟩
  simp only [List.cons_append, List.nil_append]
  refine W.seqR ?_
  refine LS.vv rfl rfl (by decide) (Val.lss rfl rfl) ?_
  refine LS.nil ?_
  refine W.seq ?_
  first | refine W.condD rfl (fun hc1 => ?_) (fun hc1 => ?_) | refine W.cond rfl (fun hc1 => ?_) (fun hc1 => ?_)
  ·
    refine W.skip ?_
    refine thenP_normal ?_
    refine W.seq ?_
    refine W.block ?_
    refine W.seqR ?_
    refine LS.vv rfl rfl (by decide) (Val.move rfl) ?_
    refine LS.vv rfl rfl (by decide) (Val.assign rfl) ?_
    refine LS.nil ?_
    refine W.seqR ?_
    refine LS.vv rfl rfl (by decide) (Val.move rfl) ?_
    refine LS.vv rfl rfl (by decide) (Val.move rfl) ?_
    refine LS.vv rfl rfl (by decide) (Val.move rfl) ?_
    have hkl : k < vals.length := by omega
    refine LS.vv rfl rfl (by decide) (Val.index1 Try.underlying44 elem27 rfl rfl (by omega) hr (id (by omega))) ?_
    refine LS.m rfl (Step.load rfl rfl (by decide) flat27 rfl (hr.below hB) (List.getElem?_eq_getElem hkl) ?_)
    refine LS.m rfl (Step.callV hbody rfl rfl rfl (by decide) rfl (CallsV.mono (hf k hkl _ hB) ?_))
    rintro _ w2 ⟨rfl, hb2⟩
    replace hB := hB.trans (hb2.mono hB.size)
    refine LS.nil ?_
    first | refine W.condD rfl (fun hc2 => ?_) (fun hc2 => ?_) | refine W.cond rfl (fun hc2 => ?_) (fun hc2 => ?_)
    ·
      refine W.seqR ?_
      refine LS.vv rfl rfl (by decide) (Val.move rfl) ?_
      refine LS.vv rfl rfl (by decide) (Val.assign rfl) ?_
      refine LS.nil ?_
      refine W.ret ?_
      refine inBlk_ret ?_
      refine thenP_ret ?_
      refine thenP_ret ?_
      refine inBlk_ret ?_
      refine thenP_ret ?_
      refine ret1 (by first | exact .inl rfl | exact .inr rfl) rfl ?_
      exact ⟨by rw [fI_some (show k < vals.length by omega) (by assumption) hall], hB⟩
    ·
      refine W.skip ?_
      refine inBlk_normal ?_
      refine thenP_normal ?_
      refine W.reg ?_
      first | refine LS.vv rfl rfl (by decide) (Val.addN (j := 1) rfl rfl (by omega)) ?_ | refine LS.vv rfl rfl (by decide) (Val.add64 rfl rfl (by omega)) ?_
      refine LS.vv rfl rfl (by decide) (Val.move rfl) ?_
      refine LS.nil ?_
      refine thenP_normal ?_
      refine ⟨k + 1, ?_, ?_, ⟨⟨by omega, ?_⟩, hB⟩, by omega⟩
      · exact Sub.cons rfl (Sub.nil _)
      · repeat (first | exact Sub.nil _ | refine Sub.cons rfl ?_)
      · intro j hj
        by_cases e : j = k
        · subst e; assumption
        · exact hall j (by omega)
  ·
    refine W.exit ?_
    refine thenP_exit ?_
    refine thenP_exit ?_
    refine inBlk_exit ?_
    refine thenP_normal ?_
    refine W.seqR ?_
    refine LS.vv rfl rfl (by decide) (Val.assign rfl) ?_
    refine LS.nil ?_
    refine W.ret ?_
    refine ret1 (by first | exact .inl rfl | exact .inr rfl) rfl ?_
    exact ⟨by rw [fI_none (fun j hj => hall j (by omega))], hB⟩

theorem containsFunc_word (vals : List Value) (pr : Nat → Bool) (f : FuncId) (cap : Array Value) (p : Option Addr) (c : Nat) (w0 : World) (hbody : Body Try.prog f) (hr : Rd w0 p vals) (hb : vals.length ≤ 100000)
    (hf : ∀ i (h : i < vals.length) w, Below w0.heap.size w0 w → CallsV Try.prog f (#[vals[i]] ++ cap) w (fun v w2 => v = .bool (pr i) ∧ Below w.heap.size w w2)) :
    CallsV Try.prog 39 #[.slice p vals.length c, .func (.func f) #[] cap] w0 (fun v w => v = .bool ((List.range vals.length).any pr) ∧ Below w0.heap.size w0 w) := by
  refine enter1 Try.func39 rfl Try.ntmps39 (by simp) rfl ?_
  have hB := Below.refl w0.heap.size w0
  simp only [argLoc, Nat.zero_add]
  refine W.seqR ?_
  refine LS.vv rfl rfl (by decide) (Val.assign rfl) ?_
  refine LS.nil ?_
  refine W.seqR ?_
  refine LS.vv rfl rfl (by decide) (Val.move rfl) ?_
  refine LS.vv rfl rfl (by decide) (Val.move rfl) ?_
  refine LS.m rfl (Step.call body43 rfl rfl (by decide) rfl (CallsV.mono (indexFunc_word vals pr f cap _ _ _ hbody (hr.below hB) hb (fun i h w hw => hf i h w (hB.trans (hw.mono hB.size)))) ?_))
  rintro _ w1 ⟨rfl, hb1⟩
  replace hB := hB.trans (hb1.mono hB.size)
  refine LS.vv rfl rfl (by decide) (Val.cast (Val.geq (j := 0) rfl rfl) (congrArg Value.bool (fI_any pr vals.length))) ?_
  refine LS.vv rfl rfl (by decide) (Val.assign rfl) ?_
  refine LS.nil ?_
  refine W.ret ?_
  refine ret1 (by first | exact .inl rfl | exact .inr rfl) rfl ?_
  exact ⟨rfl, hB⟩

theorem grow_fn (a x dd : Nat) (g1 g2 : Nat) (w0 : World) (ha : a < 4294967296) (hx : x < 4294967296) (hr1 : Rd w0 (some ⟨g1, 0, none⟩) [.int .u32 (x : Int)]) (hr2 : Rd w0 (some ⟨g2, 0, none⟩) [.int .i64 (dd : Int)]) :
    CallsV Try.prog 40 #[.int .u32 (a : Int), .pointer (some ⟨g1, 0, none⟩), .pointer (some ⟨g2, 0, none⟩)] w0 (fun v w => v = .bool (decide (popc (a ^^^ x) < dd)) ∧ Below w0.heap.size w0 w) := by
  refine enter1 Try.func40 rfl Try.ntmps40 (by simp) rfl ?_
  have hB := Below.refl w0.heap.size w0
  simp only [argLoc]
  have hxx : a ^^^ x < 2 ^ 32 := Nat.xor_lt_two_pow (by omega) (by omega)
  refine W.seqR ?_
  refine LS.vv rfl rfl (by decide) (Val.assign rfl) ?_
  refine LS.nil ?_
  refine W.seqD (S := fun w => Below w0.heap.size w0 w) [(0, true), (1, true), (2, true), (4, true), (3, false), (5, true), (6, true)] mixed (by kernel_rfl) hB.drew ?_
  replace hB := hB.drew
  refine DX.vv rfl rfl rfl (by decide) (Val.move rfl) ?_
  refine DX.vv rfl rfl rfl (by decide) (Val.loadBox flat27 rfl (fun _ h => hr1.below h)) ?_
  refine DX.vv rfl rfl rfl (by decide) (Val.xorU32 rfl rfl (by omega) (by omega)) ?_
  refine DX.vv rfl rfl rfl (by decide) (Val.loadBox flat3 rfl (fun _ h => hr2.below h)) ?_
  refine DX.m rfl rfl (Step.call body32 rfl rfl (by decide) rfl (CallsV.mono (ones32_any _ _ hxx) ?_))
  rintro _ w1 ⟨rfl, hb1⟩
  replace hB := hB.trans (hb1.mono hB.size)
  refine ⟨hB, ?_⟩
  refine DX.vv rfl rfl rfl (by decide) (Val.cast (v := .bool (decide (popc (a ^^^ x) < dd))) (Val.lss rfl rfl) (by refine congrArg Value.bool ?_; rw [decide_eq_decide]; omega)) ?_
  refine DX.vv rfl rfl rfl (by decide) (Val.assign rfl) ?_
  refine DX.nil ?_
  refine W.ret ?_
  refine ret1 (by first | exact .inl rfl | exact .inr rfl) rfl ?_
  exact ⟨rfl, hB⟩

theorem containsFunc_len (vals : List Value) (pr : Nat → Bool) (f : FuncId) (cap : Array Value) (p : Option Addr) (c n : Nat) (w0 : World) (hbody : Body Try.prog f) (hr : Rd w0 p vals) (hn : vals.length = n) (hb : n ≤ 100000)
    (hf : ∀ i (h : i < vals.length) w, Below w0.heap.size w0 w → CallsV Try.prog f (#[vals[i]] ++ cap) w (fun v w2 => v = .bool (pr i) ∧ Below w.heap.size w w2)) :
    CallsV Try.prog 39 #[.slice p n c, .func (.func f) #[] cap] w0 (fun v w => v = .bool ((List.range n).any pr) ∧ Below w0.heap.size w0 w) := by
  subst hn; exact containsFunc_word vals pr f cap p c w0 hbody hr hb hf
theorem nearAny_range (d w : Nat) (l : List Nat) : ((List.range l.length).any fun i => decide (popc (gn l i ^^^ w) < d)) = nearAny d w l := by
  rw [Bool.eq_iff_iff, nearAny_iff, List.any_eq_true]
  constructor
  · rintro ⟨i, hi, h⟩
    have hi := List.mem_range.1 hi
    exact ⟨gn l i, by rw [gn_lt hi]; exact List.getElem_mem hi, of_decide_eq_true h⟩
  · rintro ⟨a, ha, h⟩
    obtain ⟨i, hi, rfl⟩ := List.getElem_of_mem ha
    exact ⟨i, List.mem_range.2 hi, decide_eq_true (by rw [gn_lt hi]; exact h)⟩

theorem grow_any (n d : Int) (w0 : World) :
    CallsV Try.prog 29 #[.int .i64 n, .int .i64 d] w0 (fun v w => ∃ (p2 : Option Addr) (c2 : Nat) (L : List Nat) (e : Nat), v = .tuple #[.slice p2 L.length c2, .int .i64 (e : Int)] ∧ Own w w0.heap.size 27 p2 L.length c2 (uv L) ∧ (e = 0 → (0 ≤ n ∧ n ≤ 12 ∧ 1 ≤ d ∧ d ≤ n) ∧ L = growTo d.toNat (2 ^ n.toNat) ∧ L.length ≤ 64) ∧ (e ≠ 0 → L = []) ∧ (0 ≤ n ∧ n ≤ 12 ∧ 1 ≤ d ∧ d ≤ n → e = 0 ∨ e = 1) ∧ Below w0.heap.size w0 w) := by
  refine enter2 Try.func29 rfl Try.ntmps29 (by simp) rfl ?_
  have hB := Below.refl w0.heap.size w0
  simp only [argLoc, Nat.zero_add]
  have hM := Mem.nil w0 w0.heap.size
  refine W.seqR ?_
  refine LS.m rfl (Step.box rfl rfl (by decide) rfl rfl (Nat.le_refl _) ?_)
  rintro w1 hO1 hg1 hbl1 hsz1
  replace hM := hM.add hB.size hbl1 hO1
  replace hB := hB.trans (hbl1.mono hB.size)
  skip
  refine LS.vv rfl rfl (by decide) (Val.assign rfl) ?_
  refine LS.vv rfl rfl (by decide) (Val.cast (v := .int .i64 ((0 : Nat) : Int)) (Val.assign rfl) rfl) ?_
  refine LS.nil ?_
  refine W.seq ?_
  refine W.seqR ?_
  refine LS.vv rfl rfl (by decide) (Val.move rfl) ?_
  refine LS.m rfl (Step.call body36 rfl rfl (by decide) rfl (CallsV.mono (ballCheck_any n [] _ _ _ (Rd.nil _ _) (by simp) (by simp)) ?_))
  rintro _ w2 ⟨e, rfl, he, hb2⟩
  replace hM := hM.below hb2
  replace hB := hB.trans (hb2.mono hB.size)
  rw [okW_nil] at he
  refine LS.vv rfl rfl (by decide) (Val.assign rfl) ?_
  refine LS.nil ?_
  refine W.seqR ?_
  refine LS.vv rfl rfl (by decide) (Val.move rfl) ?_
  refine LS.vv rfl rfl (by decide) (Val.neq rfl rfl) ?_
  refine LS.nil ?_
  first | refine W.condD rfl (fun hc1 => ?_) (fun hc1 => ?_) | refine W.cond rfl (fun hc1 => ?_) (fun hc1 => ?_)
  ·
    refine W.seqR ?_
    refine LS.vv rfl rfl (by decide) (Val.move rfl) ?_
    refine LS.vv rfl rfl (by decide) (Val.assign rfl) ?_
    refine LS.vv rfl rfl (by decide) (Val.assign rfl) ?_
    refine LS.nil ?_
    refine W.ret ?_
    refine thenP_ret ?_
    refine ret2 (by first | exact .inl rfl | exact .inr rfl) rfl rfl ?_
    first | (refine ⟨none, 0, [], e, rfl, Own.nil _ _ _, fun h => by omega, fun _ => rfl, fun h => absurd (he.2 ⟨h.1, h.2.1⟩) (by omega), hB⟩; done) | (refine ⟨none, 0, [], 4, rfl, Own.nil _ _ _, fun h => by omega, fun _ => rfl, fun h => by omega, hB⟩; done) | (refine ⟨none, 0, [], 1, rfl, Own.nil _ _ _, fun h => by omega, fun _ => rfl, fun h => .inr rfl, hB⟩; done) | (have hkN : k = 2 ^ N := (by omega); subst hkN; exact ⟨p1, c1, _, 0, rfl, hM.o0, fun _ => ⟨by omega, rfl, h64⟩, fun h => absurd rfl h, fun _ => .inl rfl, hB⟩)
  ·
    obtain ⟨N, rfl⟩ := Int.eq_ofNat_of_zero_le (he.1 (by omega)).1
    have hN : N ≤ 12 := by have := he.1 (by omega); omega
    have hpw : 2 ^ N ≤ 2 ^ 12 := Nat.pow_le_pow_right (by omega) hN
    have hsl : 1 <<< N = 2 ^ N := by rw [Nat.shiftLeft_eq, Nat.one_mul]
    refine W.skip ?_
    refine thenP_normal ?_
    refine W.seq ?_
    refine W.seqR ?_
    refine LS.m rfl (Step.loadBox rfl rfl (by decide) flat3 rfl (hM.o0.rd) ?_)
    refine LS.vv rfl rfl (by decide) (Val.lss rfl rfl) ?_
    refine LS.vv rfl rfl (by decide) (Val.move rfl) ?_
    refine LS.split 2 rfl (fun hg2 => ?_) (fun hg2 => ?_)
    ·
      first | (have hg2p := of_decide_eq_true hg2) | skip
      refine LS.s rfl rfl rfl hg2 (by decide) ?_
      refine LS.s rfl rfl rfl hg2 (by decide) ?_
      refine LS.s rfl rfl rfl hg2 (by decide) ?_
      refine LS.vv rfl rfl (by decide) (Val.pickT rfl hg2 rfl) ?_
      refine LS.nil ?_
      refine W.condT rfl ?_
      refine W.seqR ?_
      refine LS.vv rfl rfl (by decide) (Val.assign rfl) ?_
      refine LS.vv rfl rfl (by decide) (Val.cast (v := .int .i64 ((4 : Nat) : Int)) (Val.assign rfl) rfl) ?_
      refine LS.nil ?_
      refine W.ret ?_
      refine thenP_ret ?_
      refine ret2 (by first | exact .inl rfl | exact .inr rfl) rfl rfl ?_
      first | (refine ⟨none, 0, [], e, rfl, Own.nil _ _ _, fun h => by omega, fun _ => rfl, fun h => absurd (he.2 ⟨h.1, h.2.1⟩) (by omega), hB⟩; done) | (refine ⟨none, 0, [], 4, rfl, Own.nil _ _ _, fun h => by omega, fun _ => rfl, fun h => by omega, hB⟩; done) | (refine ⟨none, 0, [], 1, rfl, Own.nil _ _ _, fun h => by omega, fun _ => rfl, fun h => .inr rfl, hB⟩; done) | (have hkN : k = 2 ^ N := (by omega); subst hkN; exact ⟨p1, c1, _, 0, rfl, hM.o0, fun _ => ⟨by omega, rfl, h64⟩, fun h => absurd rfl h, fun _ => .inl rfl, hB⟩)
    ·
      first | (have hg2p := of_decide_eq_false hg2) | skip
      refine LS.mg rfl rfl hg2 (Step.loadBox rfl rfl (by decide) flat3 rfl (hM.o0.rd) ?_)
      refine LS.vg rfl rfl rfl hg2 (by decide) (Val.move rfl) ?_
      refine LS.vg rfl rfl rfl hg2 (by decide) (Val.gtr rfl rfl) ?_
      refine LS.vv rfl rfl (by decide) (Val.pickF rfl hg2 rfl) ?_
      refine LS.nil ?_
      first | refine W.condD rfl (fun hc3 => ?_) (fun hc3 => ?_) | refine W.cond rfl (fun hc3 => ?_) (fun hc3 => ?_)
      ·
        refine W.seqR ?_
        refine LS.vv rfl rfl (by decide) (Val.assign rfl) ?_
        refine LS.vv rfl rfl (by decide) (Val.cast (v := .int .i64 ((4 : Nat) : Int)) (Val.assign rfl) rfl) ?_
        refine LS.nil ?_
        refine W.ret ?_
        refine thenP_ret ?_
        refine ret2 (by first | exact .inl rfl | exact .inr rfl) rfl rfl ?_
        first | (refine ⟨none, 0, [], e, rfl, Own.nil _ _ _, fun h => by omega, fun _ => rfl, fun h => absurd (he.2 ⟨h.1, h.2.1⟩) (by omega), hB⟩; done) | (refine ⟨none, 0, [], 4, rfl, Own.nil _ _ _, fun h => by omega, fun _ => rfl, fun h => by omega, hB⟩; done) | (refine ⟨none, 0, [], 1, rfl, Own.nil _ _ _, fun h => by omega, fun _ => rfl, fun h => .inr rfl, hB⟩; done) | (have hkN : k = 2 ^ N := (by omega); subst hkN; exact ⟨p1, c1, _, 0, rfl, hM.o0, fun _ => ⟨by omega, rfl, h64⟩, fun h => absurd rfl h, fun _ => .inl rfl, hB⟩)
      ·
        obtain ⟨dd, rfl⟩ := Int.eq_ofNat_of_zero_le (show 0 ≤ d by omega)
        have hdd : 1 ≤ dd ∧ dd ≤ N := by omega
        refine W.skip ?_
        refine thenP_normal ?_
        refine W.seqR ?_
        refine LS.vv rfl rfl (by decide) (Val.assign rfl) ?_
        refine LS.nil ?_
        refine W.seq ?_
        refine W.seqR ?_
        refine LS.vv rfl rfl (by decide) (Val.move rfl) ?_
        have hsl2 : 1 <<< N ≤ 4294967295 := shl_one_lt (by omega)
        refine LS.vv rfl rfl (by decide) (Val.cast (v := .int .u32 ((2 ^ N : Nat) : Int)) (Val.shlU32 (i := 1) rfl rfl (by omega) (by omega)) (by rw [hsl])) ?_
        refine LS.vv rfl rfl (by decide) (Val.cast (v := .int .u32 ((0 : Nat) : Int)) (Val.move rfl) rfl) ?_
        refine LS.nil ?_
        refine W.block ?_
        replace hM := hM.addNil 27
        refine W.loop (α := Nat × Option Addr × Nat) (fun g => [(7, .slice g.2.1 (growTo dd g.1).length g.2.2), (23, .int .u32 (g.1 : Int))]) [(3, _), (22, _)] (fun g w => (g.1 ≤ 2 ^ N ∧ (growTo dd g.1).length ≤ 64) ∧ Mem w w0.heap.size [⟨27, g.2.1, (growTo dd g.1).length, g.2.2, uv (growTo dd g.1)⟩, ⟨3, some ⟨w0.heap.size, 0, none⟩, 1, 1, [.int .i64 (dd : Int)]⟩] ∧ Below w0.heap.size w0 w) (fun g => 2 ^ N - g.1) ((0, none, 0)) (Sub.cons rfl (Sub.cons rfl (Sub.nil _))) (Sub.cons rfl (Sub.cons rfl (Sub.nil _))) ?_ ?_
        · exact ⟨⟨Nat.zero_le _, by show 0 ≤ 64; omega⟩, hM, hB⟩
        rintro ⟨k, p1, c1⟩ w3 ⟨⟨hk, h64⟩, hM, hB⟩
        try simp only at hM
        simp only [List.cons_append, List.nil_append]
        simp only at hk h64
        refine W.seqR ?_
        refine LS.vv rfl rfl (by decide) (Val.lss rfl rfl) ?_
        refine LS.nil ?_
        refine W.seq ?_
        first | refine W.condD rfl (fun hc4 => ?_) (fun hc4 => ?_) | refine W.cond rfl (fun hc4 => ?_) (fun hc4 => ?_)
        ·
          refine W.skip ?_
          refine thenP_normal ?_
          refine W.seq ?_
          refine W.block ?_
          refine W.seqR ?_
          refine LS.vv rfl rfl (by decide) (Val.move rfl) ?_
          refine LS.m rfl (Step.alloc rfl rfl (by decide) elem27 rfl (by decide) ?_)
          rintro w4 hO4 hg4 hbl4 hsz4
          replace hM := hM.add hB.size hbl4 hO4
          replace hB := hB.trans (hbl4.mono hB.size)
          generalize w3.heap.size = gg4 at *
          refine LS.m rfl (Step.storeBox (B := w0.heap.size) rfl rfl flat27 elem27 rfl rfl rfl (hM.o0) hB.size ?_)
          rintro w5 hO5 hg5 hbl5 hsz5
          replace hM := hM.s0 hg5 hO5 inl_block
          replace hB := hB.trans hbl5
          refine LS.nil ?_
          refine W.seq ?_
          refine W.seqR ?_
          refine LS.vv rfl rfl (by decide) (Val.move rfl) ?_
          refine LS.vv rfl rfl (by decide) (Val.makeFunc rfl) ?_
          have hgl := growTo_lt dd k
          have hga : ∀ i (h : i < (growTo dd k).length), gn (growTo dd k) i < 4294967296 := fun i h => by rw [gn_lt h]; have := hgl _ (List.getElem_mem h); omega
          refine LS.m rfl (Step.call body39 rfl rfl (by decide) rfl (CallsV.mono (containsFunc_len (uv (growTo dd k)) (fun i => decide (popc (gn (growTo dd k) i ^^^ k) < dd)) 40 _ _ _ _ _ body40 hM.o1.rd (by simp [uv]) (by omega) (fun i h w hw => by rw [show (uv (growTo dd k))[i] = .int .u32 (gn (growTo dd k) i : Int) from by simp [uv, gn, show i < (growTo dd k).length by simpa [uv] using h]]; exact grow_fn _ k dd _ _ _ (hga i (by simpa [uv] using h)) (by omega) (((hM.o0).below hw).rd) (((hM.o2).below hw).rd))) ?_))
          rintro _ w6 ⟨rfl, hb6⟩
          replace hM := hM.below hb6
          replace hB := hB.trans (hb6.mono hB.size)
          rw [nearAny_range]
          refine LS.nil ?_
          first | refine W.condD rfl (fun hc5 => ?_) (fun hc5 => ?_) | refine W.cond rfl (fun hc5 => ?_) (fun hc5 => ?_)
          ·
            have hgs : growTo dd (k + 1) = growTo dd k := by rw [growTo_succ, if_pos hc5]
            refine W.exit ?_
            refine thenP_exit ?_
            refine inBlk_exit ?_
            refine thenP_normal ?_
            refine W.reg ?_
            first | refine LS.vv rfl rfl (by decide) (Val.addNU32 (j := 1) rfl rfl (by omega)) ?_ | refine LS.vv rfl rfl (by decide) (Val.addU32 rfl rfl (by omega)) ?_
            refine LS.vv rfl rfl (by decide) (Val.move rfl) ?_
            refine LS.nil ?_
            refine thenP_normal ?_
            refine ⟨(k + 1, p1, c1), (Sub.cons' rfl (by simp only [hgs]) (Sub.cons rfl (Sub.nil _))), ?_, ⟨⟨by simp only; omega, by simp only [hgs]; omega⟩, ?_, hB⟩, by simp only; omega⟩
            · repeat (first | exact Sub.nil _ | refine Sub.cons rfl ?_)
            · simp only [hgs]; exact hM.tail
          ·
            have hgs : growTo dd (k + 1) = growTo dd k ++ [k] := by rw [growTo_succ, if_neg (by rw [hc5]; decide)]
            have hgsl : (growTo dd (k + 1)).length = (growTo dd k).length + 1 := by rw [hgs]; simp
            refine W.skip ?_
            refine thenP_normal ?_
            refine W.seqR ?_
            refine LS.vv rfl rfl (by decide) (Val.move rfl) ?_
            refine LS.m rfl (Step.loadBox rfl rfl (by decide) flat27 rfl (hM.o0.rd) ?_)
            refine LS.m rfl (Step.lit rfl rfl (by decide) Try.underlying44 elem27 rfl rfl (by omega) (by simp [Value.oneCell']) (Nat.le_refl _) ?_)
            rintro w7 hO7 hg7 hbl7 hsz7
            replace hM := hM.add hB.size hbl7 hO7
            try simp only [uv_app1, uv_app, uv_set, uv_rep, uv_one, uv_cons, uv_take, uv_drop, List.nil_append, Nat.zero_add] at hM
            replace hB := hB.trans (hbl7.mono hB.size)
            generalize w6.heap.size = gg7 at *
            refine LS.m rfl (Step.append2 (B := w0.heap.size) rfl rfl (by decide) Try.underlying44 elem27 rfl rfl rfl rfl (hM.o2) (hM.o0.rd) (by first | rfl | (simp; done) | (simp; omega)) (by first | exact one_map _ (fun _ => rfl) _ | simp [Value.oneCell']) (by omega) (by omega) hB.size ?_)
            rintro p8 c8 w8 hO8 hg8 hbl8 hbk8
            replace hM := hM.s2 hg8 hO8 hbk8
            replace hM := hM.tail
            try simp only [uv_app1, uv_app, uv_set, uv_rep, uv_one, uv_cons, uv_take, uv_drop, List.nil_append, Nat.zero_add] at hM
            replace hB := hB.trans hbl8
            refine LS.vv rfl rfl (by decide) (Val.assign rfl) ?_
            refine LS.nil ?_
            refine W.seqR ?_
            refine LS.vv rfl rfl (by decide) (Val.move rfl) ?_
            refine LS.vv rfl rfl (by decide) (Val.len Try.underlying44 rfl) ?_
            refine LS.vv rfl rfl (by decide) (Val.gtr rfl rfl) ?_
            refine LS.nil ?_
            first | refine W.condD rfl (fun hc6 => ?_) (fun hc6 => ?_) | refine W.cond rfl (fun hc6 => ?_) (fun hc6 => ?_)
            ·
              refine W.seqR ?_
              refine LS.vv rfl rfl (by decide) (Val.assign rfl) ?_
              refine LS.vv rfl rfl (by decide) (Val.cast (v := .int .i64 ((1 : Nat) : Int)) (Val.assign rfl) rfl) ?_
              refine LS.nil ?_
              refine W.ret ?_
              refine inBlk_ret ?_
              refine thenP_ret ?_
              refine thenP_ret ?_
              refine inBlk_ret ?_
              refine thenP_ret ?_
              refine ret2 (by first | exact .inl rfl | exact .inr rfl) rfl rfl ?_
              first | (refine ⟨none, 0, [], e, rfl, Own.nil _ _ _, fun h => by omega, fun _ => rfl, fun h => absurd (he.2 ⟨h.1, h.2.1⟩) (by omega), hB⟩; done) | (refine ⟨none, 0, [], 4, rfl, Own.nil _ _ _, fun h => by omega, fun _ => rfl, fun h => by omega, hB⟩; done) | (refine ⟨none, 0, [], 1, rfl, Own.nil _ _ _, fun h => by omega, fun _ => rfl, fun h => .inr rfl, hB⟩; done) | (have hkN : k = 2 ^ N := (by omega); subst hkN; exact ⟨p1, c1, _, 0, rfl, hM.o0, fun _ => ⟨by omega, rfl, h64⟩, fun h => absurd rfl h, fun _ => .inl rfl, hB⟩)
            ·
              refine W.skip ?_
              refine inBlk_normal ?_
              refine thenP_normal ?_
              refine W.reg ?_
              first | refine LS.vv rfl rfl (by decide) (Val.addNU32 (j := 1) rfl rfl (by omega)) ?_ | refine LS.vv rfl rfl (by decide) (Val.addU32 rfl rfl (by omega)) ?_
              refine LS.vv rfl rfl (by decide) (Val.move rfl) ?_
              refine LS.nil ?_
              refine thenP_normal ?_
              refine ⟨(k + 1, p8, c8), (Sub.cons' rfl (by simp only [hgsl]) (Sub.cons rfl (Sub.nil _))), ?_, ⟨⟨by simp only; omega, by simp only; omega⟩, ?_, hB⟩, by simp only; omega⟩
              · repeat (first | exact Sub.nil _ | refine Sub.cons rfl ?_)
              · simp only [hgs, List.length_append]; exact hM.tail
        ·
          refine W.exit ?_
          refine thenP_exit ?_
          refine thenP_exit ?_
          refine inBlk_exit ?_
          refine thenP_normal ?_
          refine W.seqR ?_
          refine LS.vv rfl rfl (by decide) (Val.move rfl) ?_
          refine LS.vv rfl rfl (by decide) (Val.assign rfl) ?_
          refine LS.vv rfl rfl (by decide) (Val.cast (v := .int .i64 ((0 : Nat) : Int)) (Val.assign rfl) rfl) ?_
          refine LS.nil ?_
          refine W.ret ?_
          refine ret2 (by first | exact .inl rfl | exact .inr rfl) rfl rfl ?_
          first | (refine ⟨none, 0, [], e, rfl, Own.nil _ _ _, fun h => by omega, fun _ => rfl, fun h => absurd (he.2 ⟨h.1, h.2.1⟩) (by omega), hB⟩; done) | (refine ⟨none, 0, [], 4, rfl, Own.nil _ _ _, fun h => by omega, fun _ => rfl, fun h => by omega, hB⟩; done) | (refine ⟨none, 0, [], 1, rfl, Own.nil _ _ _, fun h => by omega, fun _ => rfl, fun h => .inr rfl, hB⟩; done) | (have hkN : k = 2 ^ N := (by omega); subst hkN; exact ⟨p1, c1, _, 0, rfl, hM.o0, fun _ => ⟨by omega, rfl, h64⟩, fun h => absurd rfl h, fun _ => .inl rfl, hB⟩)

end Go.Proofs.Ytclobhnclogaoaa
