/-
  The statement SpanLeast.
-/
import Derived.Test.YtjmpkmomlpgbdaaSpanB
namespace Go.Proofs.Ytjmpkmomlpgbdaa
open Go Go.RowKit V
set_option linter.unusedVariables false
set_option linter.unusedSimpArgs false

theorem bookCheck_any (n : Int) (ws : List Nat) (p : Option Addr) (c : Nat) (w0 : World) (hr : Rd w0 p (uv ws)) (hc : ws.length ≤ c) (hl : ws.length ≤ 9223372036854775807) (hw : ∀ x ∈ ws, x < 4294967296) :
    CallsV Try.prog 40 #[.int .i64 n, .slice p ws.length c] w0 (fun v w => ∃ e : Nat, v = .int .i64 (e : Int) ∧ (e = 0 ↔ OkB n ws) ∧ Below w0.heap.size w0 w) := by
  refine enter1 Try.func40 rfl Try.ntmps40 (by simp) rfl ?_
  have hB := Below.refl w0.heap.size w0
  simp only [argLoc, Nat.zero_add]
  have hlt : ∀ j, j < ws.length → gn ws j < 4294967296 := fun j hj => by rw [gn_lt hj]; exact hw _ (List.getElem_mem hj)
  refine W.seqR ?_
  refine LS.vv rfl rfl (by decide) (Val.cast (v := .int .i64 ((0 : Nat) : Int)) (Val.assign rfl) rfl) ?_
  refine LS.nil ?_
  refine W.seq ?_
  refine W.seqR ?_
  refine LS.vv rfl rfl (by decide) (Val.move rfl) ?_
  refine LS.m rfl (Step.call body45 rfl rfl (by decide) rfl (CallsV.mono (ballCheck_any n [] _ _ _ (Rd.nil _ _) (by simp) (by simp)) ?_))
  rintro _ w1 ⟨e, rfl, he, hb1⟩
  replace hB := hB.trans (hb1.mono hB.size)
  refine LS.vv rfl rfl (by decide) (Val.neq rfl rfl) ?_
  refine LS.vv rfl rfl (by decide) (Val.move rfl) ?_
  refine LS.split 3 rfl (fun hg1 => ?_) (fun hg1 => ?_)
  ·
    first | (have hg1p := of_decide_eq_true hg1) | skip
    refine LS.s rfl rfl rfl hg1 (by decide) ?_
    refine LS.s rfl rfl rfl hg1 (by decide) ?_
    refine LS.s rfl rfl rfl hg1 (by decide) ?_
    refine LS.vv rfl rfl (by decide) (Val.pickT rfl hg1 rfl) ?_
    refine LS.nil ?_
    refine W.condT rfl ?_
    refine W.seqR ?_
    refine LS.vv rfl rfl (by decide) (Val.cast (v := .int .i64 ((1 : Nat) : Int)) (Val.assign rfl) rfl) ?_
    refine LS.nil ?_
    refine W.ret ?_
    refine thenP_ret ?_
    refine ret1 (by first | exact .inl rfl | exact .inr rfl) rfl ?_
    first | exact ⟨1, rfl, ⟨fun h => by omega, fun h => by (obtain ⟨h1, h2, h3, h4, h5⟩ := h; exfalso; omega)⟩, hB⟩ | (refine ⟨1, rfl, ⟨fun h => by omega, fun h => ?_⟩, hB⟩; obtain ⟨h1, h2, h3, h4, h5⟩ := h; exact absurd (he.2 ⟨h1, h2, by simp⟩) (by omega)) | (refine ⟨4, rfl, ⟨fun h => by omega, fun h => ?_⟩, hB⟩; have := h.2.2.2.1 k (by omega); rw [Int.toNat_natCast] at this; exfalso; first | exact not_lt_of_shr ‹_› this | exact not_lt_of_shl ‹_› this) | (refine ⟨3, rfl, ⟨fun h => by omega, fun h => ?_⟩, hB⟩; obtain ⟨j, hj, hj2⟩ := hdup; exact absurd hj2 (h.2.2.2.2 k (by omega) j hj)) | (obtain rfl : k = ws.length := (by omega); exact ⟨0, rfl, ⟨fun _ => ⟨by omega, by omega, by omega, fun j hj => by (rw [Int.toNat_natCast]; exact hlow j hj), hdis⟩, fun _ => rfl⟩, hB⟩)
  ·
    first | (have hg1p := of_decide_eq_false hg1) | skip
    refine LS.vg rfl rfl rfl hg1 (by decide) (Val.move rfl) ?_
    refine LS.vg rfl rfl rfl hg1 (by decide) (Val.len Try.underlying32 rfl) ?_
    refine LS.vg rfl rfl rfl hg1 (by decide) (Val.gtr rfl rfl) ?_
    refine LS.vv rfl rfl (by decide) (Val.pickF rfl hg1 rfl) ?_
    refine LS.nil ?_
    first | refine W.condD rfl (fun hc2 => ?_) (fun hc2 => ?_) | refine W.cond rfl (fun hc2 => ?_) (fun hc2 => ?_)
    ·
      refine W.seqR ?_
      refine LS.vv rfl rfl (by decide) (Val.cast (v := .int .i64 ((1 : Nat) : Int)) (Val.assign rfl) rfl) ?_
      refine LS.nil ?_
      refine W.ret ?_
      refine thenP_ret ?_
      refine ret1 (by first | exact .inl rfl | exact .inr rfl) rfl ?_
      first | exact ⟨1, rfl, ⟨fun h => by omega, fun h => by (obtain ⟨h1, h2, h3, h4, h5⟩ := h; exfalso; omega)⟩, hB⟩ | (refine ⟨1, rfl, ⟨fun h => by omega, fun h => ?_⟩, hB⟩; obtain ⟨h1, h2, h3, h4, h5⟩ := h; exact absurd (he.2 ⟨h1, h2, by simp⟩) (by omega)) | (refine ⟨4, rfl, ⟨fun h => by omega, fun h => ?_⟩, hB⟩; have := h.2.2.2.1 k (by omega); rw [Int.toNat_natCast] at this; exfalso; first | exact not_lt_of_shr ‹_› this | exact not_lt_of_shl ‹_› this) | (refine ⟨3, rfl, ⟨fun h => by omega, fun h => ?_⟩, hB⟩; obtain ⟨j, hj, hj2⟩ := hdup; exact absurd hj2 (h.2.2.2.2 k (by omega) j hj)) | (obtain rfl : k = ws.length := (by omega); exact ⟨0, rfl, ⟨fun _ => ⟨by omega, by omega, by omega, fun j hj => by (rw [Int.toNat_natCast]; exact hlow j hj), hdis⟩, fun _ => rfl⟩, hB⟩)
    ·
      have hn := he.1 (by omega)
      have hn1 := hn.1
      have hn2 := hn.2.1
      obtain ⟨m, rfl⟩ := Int.eq_ofNat_of_zero_le hn1
      refine W.skip ?_
      refine thenP_normal ?_
      refine W.seq ?_
      refine W.seqR ?_
      refine LS.vv rfl rfl (by decide) (Val.move rfl) ?_
      refine LS.vv rfl rfl (by decide) (Val.len Try.underlying32 rfl) ?_
      refine LS.vv rfl rfl (by decide) (Val.cast (v := .int .i64 ((0 : Nat) : Int)) (Val.move rfl) rfl) ?_
      refine LS.nil ?_
      refine W.block ?_
      refine W.loop (α := Nat) (fun k => [(17, .int .i64 (k : Int))]) [(0, _), (1, _), (15, _), (16, _)] (fun k w => (k ≤ ws.length ∧ (∀ j, j < k → gn ws j < 2 ^ m) ∧ ∀ i, i < k → ∀ j, j < i → gn ws j ≠ gn ws i) ∧ Below w0.heap.size w0 w) (fun k => ws.length - k) (0) (Sub.cons rfl (Sub.nil _)) (Sub.cons rfl (Sub.cons rfl (Sub.cons rfl (Sub.cons rfl (Sub.nil _))))) ?_ ?_
      · exact ⟨⟨Nat.zero_le _, by omega, by omega⟩, hB⟩
      rintro k w2 ⟨⟨hk, hlow, hdis⟩, hB⟩
      simp only [List.cons_append, List.nil_append]
      refine W.seqR ?_
      refine LS.vv rfl rfl (by decide) (Val.lss rfl rfl) ?_
      refine LS.nil ?_
      refine W.seq ?_
      first | refine W.condD rfl (fun hc3 => ?_) (fun hc3 => ?_) | refine W.cond rfl (fun hc3 => ?_) (fun hc3 => ?_)
      ·
        have hltk := hlt k (by omega)
        refine W.skip ?_
        refine thenP_normal ?_
        refine W.seq ?_
        refine W.block ?_
        refine W.seqR ?_
        refine LS.vv rfl rfl (by decide) (Val.move rfl) ?_
        refine LS.vv rfl rfl (by decide) (Val.index1 Try.underlying32 elem37 rfl rfl (by omega) hr (uv_lt (by omega))) ?_
        refine LS.m rfl (Step.load rfl rfl (by decide) flat37 rfl (hr.below hB) (uv_at (by omega)) ?_)
        refine LS.vv rfl rfl (by decide) (Val.assign rfl) ?_
        refine LS.vv rfl rfl (by decide) (Val.assign rfl) ?_
        refine LS.nil ?_
        refine W.seq ?_
        refine W.seqR ?_
        refine LS.vv rfl rfl (by decide) (Val.move rfl) ?_
        refine LS.vv rfl rfl (by decide) (Val.move rfl) ?_
        refine LS.vv rfl rfl (by decide) (Val.shr rfl rfl (by simp only [IntKind.bits]; omega)) ?_
        refine LS.vv rfl rfl (by decide) (Val.neq rfl rfl) ?_
        refine LS.nil ?_
        first | refine W.condD rfl (fun hc4 => ?_) (fun hc4 => ?_) | refine W.cond rfl (fun hc4 => ?_) (fun hc4 => ?_)
        ·
          refine W.seqR ?_
          refine LS.vv rfl rfl (by decide) (Val.cast (v := .int .i64 ((4 : Nat) : Int)) (Val.assign rfl) rfl) ?_
          refine LS.nil ?_
          refine W.ret ?_
          refine thenP_ret ?_
          refine inBlk_ret ?_
          refine thenP_ret ?_
          refine thenP_ret ?_
          refine inBlk_ret ?_
          refine thenP_ret ?_
          refine ret1 (by first | exact .inl rfl | exact .inr rfl) rfl ?_
          first | exact ⟨1, rfl, ⟨fun h => by omega, fun h => by (obtain ⟨h1, h2, h3, h4, h5⟩ := h; exfalso; omega)⟩, hB⟩ | (refine ⟨1, rfl, ⟨fun h => by omega, fun h => ?_⟩, hB⟩; obtain ⟨h1, h2, h3, h4, h5⟩ := h; exact absurd (he.2 ⟨h1, h2, by simp⟩) (by omega)) | (refine ⟨4, rfl, ⟨fun h => by omega, fun h => ?_⟩, hB⟩; have := h.2.2.2.1 k (by omega); rw [Int.toNat_natCast] at this; exfalso; first | exact not_lt_of_shr ‹_› this | exact not_lt_of_shl ‹_› this) | (refine ⟨3, rfl, ⟨fun h => by omega, fun h => ?_⟩, hB⟩; obtain ⟨j, hj, hj2⟩ := hdup; exact absurd hj2 (h.2.2.2.2 k (by omega) j hj)) | (obtain rfl : k = ws.length := (by omega); exact ⟨0, rfl, ⟨fun _ => ⟨by omega, by omega, by omega, fun j hj => by (rw [Int.toNat_natCast]; exact hlow j hj), hdis⟩, fun _ => rfl⟩, hB⟩)
        ·
          refine W.skip ?_
          refine thenP_normal ?_
          refine W.seqR ?_
          refine LS.vv rfl rfl (by decide) (Val.move rfl) ?_
          refine LS.vv rfl rfl (by decide) (Val.move rfl) ?_
          refine LS.vv rfl rfl (by decide) (Val.sliceTo Try.underlying32 elem37 rfl rfl (by omega)) ?_
          refine LS.vv rfl rfl (by decide) (Val.move rfl) ?_
          refine LS.m rfl (Step.call body46 rfl rfl (by decide) rfl (CallsV.mono (contains_any ws _ _ k (gn ws k) _ (hr.below hB) (by omega) (by omega)) ?_))
          rintro _ w3 ⟨b, rfl, hbb, hb3⟩
          replace hB := hB.trans (hb3.mono hB.size)
          refine LS.nil ?_
          first | refine W.condD rfl (fun hc5 => ?_) (fun hc5 => ?_) | refine W.cond rfl (fun hc5 => ?_) (fun hc5 => ?_)
          ·
            have hdup := hbb.1 hc5
            refine W.seqR ?_
            refine LS.vv rfl rfl (by decide) (Val.cast (v := .int .i64 ((3 : Nat) : Int)) (Val.assign rfl) rfl) ?_
            refine LS.nil ?_
            refine W.ret ?_
            refine inBlk_ret ?_
            refine thenP_ret ?_
            refine thenP_ret ?_
            refine inBlk_ret ?_
            refine thenP_ret ?_
            refine ret1 (by first | exact .inl rfl | exact .inr rfl) rfl ?_
            first | exact ⟨1, rfl, ⟨fun h => by omega, fun h => by (obtain ⟨h1, h2, h3, h4, h5⟩ := h; exfalso; omega)⟩, hB⟩ | (refine ⟨1, rfl, ⟨fun h => by omega, fun h => ?_⟩, hB⟩; obtain ⟨h1, h2, h3, h4, h5⟩ := h; exact absurd (he.2 ⟨h1, h2, by simp⟩) (by omega)) | (refine ⟨4, rfl, ⟨fun h => by omega, fun h => ?_⟩, hB⟩; have := h.2.2.2.1 k (by omega); rw [Int.toNat_natCast] at this; exfalso; first | exact not_lt_of_shr ‹_› this | exact not_lt_of_shl ‹_› this) | (refine ⟨3, rfl, ⟨fun h => by omega, fun h => ?_⟩, hB⟩; obtain ⟨j, hj, hj2⟩ := hdup; exact absurd hj2 (h.2.2.2.2 k (by omega) j hj)) | (obtain rfl : k = ws.length := (by omega); exact ⟨0, rfl, ⟨fun _ => ⟨by omega, by omega, by omega, fun j hj => by (rw [Int.toNat_natCast]; exact hlow j hj), hdis⟩, fun _ => rfl⟩, hB⟩)
          ·
            have hdup : ¬ ∃ j, j < k ∧ gn ws j = gn ws k := fun h => by (have := hbb.2 h; simp_all)
            refine W.skip ?_
            refine inBlk_normal ?_
            refine thenP_normal ?_
            refine W.reg ?_
            first | refine LS.vv rfl rfl (by decide) (Val.addN (j := 1) rfl rfl (by omega)) ?_ | refine LS.vv rfl rfl (by decide) (Val.add64 rfl rfl (by omega)) ?_
            refine LS.vv rfl rfl (by decide) (Val.move rfl) ?_
            refine LS.nil ?_
            refine thenP_normal ?_
            refine ⟨k + 1, ?_, ?_, ⟨⟨by omega, ?_, ?_⟩, hB⟩, by omega⟩
            · exact Sub.cons rfl (Sub.nil _)
            · repeat (first | exact Sub.nil _ | refine Sub.cons rfl ?_)
            · intro j hj
              by_cases e : j = k
              · subst e; exact (by first | exact lt_of_shr ‹_› | exact lt_of_not_shl ‹_›)
              · exact hlow j (by omega)
            · intro i hi j hj
              by_cases e : i = k
              · subst e; exact fun e => hdup ⟨j, hj, e⟩
              · exact hdis i (by omega) j hj
      ·
        refine W.exit ?_
        refine thenP_exit ?_
        refine thenP_exit ?_
        refine inBlk_exit ?_
        refine thenP_normal ?_
        refine W.seqR ?_
        refine LS.vv rfl rfl (by decide) (Val.cast (v := .int .i64 ((0 : Nat) : Int)) (Val.assign rfl) rfl) ?_
        refine LS.nil ?_
        refine W.ret ?_
        refine ret1 (by first | exact .inl rfl | exact .inr rfl) rfl ?_
        first | exact ⟨1, rfl, ⟨fun h => by omega, fun h => by (obtain ⟨h1, h2, h3, h4, h5⟩ := h; exfalso; omega)⟩, hB⟩ | (refine ⟨1, rfl, ⟨fun h => by omega, fun h => ?_⟩, hB⟩; obtain ⟨h1, h2, h3, h4, h5⟩ := h; exact absurd (he.2 ⟨h1, h2, by simp⟩) (by omega)) | (refine ⟨4, rfl, ⟨fun h => by omega, fun h => ?_⟩, hB⟩; have := h.2.2.2.1 k (by omega); rw [Int.toNat_natCast] at this; exfalso; first | exact not_lt_of_shr ‹_› this | exact not_lt_of_shl ‹_› this) | (refine ⟨3, rfl, ⟨fun h => by omega, fun h => ?_⟩, hB⟩; obtain ⟨j, hj, hj2⟩ := hdup; exact absurd hj2 (h.2.2.2.2 k (by omega) j hj)) | (obtain rfl : k = ws.length := (by omega); exact ⟨0, rfl, ⟨fun _ => ⟨by omega, by omega, by omega, fun j hj => by (rw [Int.toNat_natCast]; exact hlow j hj), hdis⟩, fun _ => rfl⟩, hB⟩)

theorem least3_any (n : Int) (ws : List Nat) (p : Option Addr) (c : Nat) (D : Nat) (w0 : World) (hr : Rd w0 p (uv ws)) (hc : ws.length ≤ c) (hl : ws.length ≤ 9223372036854775807) (hw : ∀ x ∈ ws, x < 4294967296) (hDn : (D : Int) ≤ n + 1) (hD : ∀ i, i < ws.length → ∀ j, j < i → D ≤ popc (gn ws i ^^^ gn ws j)) :
    CallsV Try.prog 24 #[.int .i64 n, .slice p ws.length c] w0 (fun v w => ∃ d e : Nat, v = .tuple #[.int .i64 (d : Int), .int .i64 (e : Int)] ∧ (e = 0 ↔ OkB n ws ∧ 2 ≤ ws.length) ∧ (e = 0 → D ≤ d ∧ LeastB n.toNat ws d) ∧ Below w0.heap.size w0 w) := by
  refine enter2 Try.func24 rfl Try.ntmps24 (by simp) rfl ?_
  have hB := Below.refl w0.heap.size w0
  simp only [argLoc, Nat.zero_add]
  have hlt : ∀ j, j < ws.length → gn ws j < 4294967296 := fun j hj => by rw [gn_lt hj]; exact hw _ (List.getElem_mem hj)
  refine W.seqR ?_
  refine LS.vv rfl rfl (by decide) (Val.cast (v := .int .i64 ((0 : Nat) : Int)) (Val.assign rfl) rfl) ?_
  refine LS.vv rfl rfl (by decide) (Val.cast (v := .int .i64 ((0 : Nat) : Int)) (Val.assign rfl) rfl) ?_
  refine LS.nil ?_
  refine W.seq ?_
  refine W.seqR ?_
  refine LS.vv rfl rfl (by decide) (Val.move rfl) ?_
  refine LS.vv rfl rfl (by decide) (Val.move rfl) ?_
  refine LS.m rfl (Step.call body40 rfl rfl (by decide) rfl (CallsV.mono (bookCheck_any n ws _ _ _ (hr.below hB) hc hl hw) ?_))
  rintro _ w1 ⟨e, rfl, he, hb1⟩
  replace hB := hB.trans (hb1.mono hB.size)
  refine LS.vv rfl rfl (by decide) (Val.assign rfl) ?_
  refine LS.nil ?_
  refine W.seqR ?_
  refine LS.vv rfl rfl (by decide) (Val.move rfl) ?_
  refine LS.vv rfl rfl (by decide) (Val.neq rfl rfl) ?_
  refine LS.nil ?_
  first | refine W.condD rfl (fun hc1 => ?_) (fun hc1 => ?_) | refine W.cond rfl (fun hc1 => ?_) (fun hc1 => ?_)
  ·
    refine W.seqR ?_
    refine LS.vv rfl rfl (by decide) (Val.move rfl) ?_
    refine LS.vv rfl rfl (by decide) (Val.cast (v := .int .i64 ((0 : Nat) : Int)) (Val.assign rfl) rfl) ?_
    refine LS.vv rfl rfl (by decide) (Val.assign rfl) ?_
    refine LS.nil ?_
    refine W.ret ?_
    refine thenP_ret ?_
    refine ret2 (by first | exact .inl rfl | exact .inr rfl) rfl rfl ?_
    first | exact ⟨0, e, rfl, ⟨fun h => by omega, fun h => he.2 h.1⟩, fun h => by omega, hB⟩ | (refine ⟨0, 5, rfl, ⟨fun h => by omega, fun h => ?_⟩, fun h => by omega, hB⟩; have := h.2; omega) | (refine ⟨d, 0, rfl, ⟨fun _ => ⟨he.1 (by omega), by omega⟩, fun _ => rfl⟩, fun _ => ⟨hdD, hd1, (show d ≤ m by omega), hd⟩, hB⟩)
  ·
    have hok := he.1 (by omega)
    obtain ⟨hn1, hn2, hn3, hlow, hdis⟩ := hok
    obtain ⟨m, rfl⟩ := Int.eq_ofNat_of_zero_le hn1
    simp only [Int.toNat_natCast] at *
    refine W.skip ?_
    refine thenP_normal ?_
    refine W.seqR ?_
    refine LS.vv rfl rfl (by decide) (Val.move rfl) ?_
    first | refine LS.vv rfl rfl (by decide) (Val.addN (j := 1) rfl rfl (by omega)) ?_ | refine LS.vv rfl rfl (by decide) (Val.add64 rfl rfl (by omega)) ?_
    refine LS.vv rfl rfl (by decide) (Val.assign rfl) ?_
    refine LS.nil ?_
    refine W.seq ?_
    refine W.seqR ?_
    refine LS.vv rfl rfl (by decide) (Val.move rfl) ?_
    refine LS.vv rfl rfl (by decide) (Val.len Try.underlying32 rfl) ?_
    refine LS.vv rfl rfl (by decide) (Val.cast (v := .int .i64 ((0 : Nat) : Int)) (Val.move rfl) rfl) ?_
    refine LS.nil ?_
    refine W.block ?_
    refine W.loop (α := Nat × Nat) (fun g => [(7, .int .i64 (g.2 : Int)), (22, .int .i64 (g.1 : Int))]) [(0, _), (1, _), (20, _), (21, _)] (fun g w => (g.1 ≤ ws.length ∧ 1 ≤ g.2 ∧ g.2 ≤ m + 1 ∧ (2 ≤ g.1 → g.2 ≤ m) ∧ (g.1 ≤ 1 → g.2 = m + 1) ∧ D ≤ g.2 ∧ ∀ i, i < g.1 → ∀ j, j < i → g.2 ≤ popc (gn ws i ^^^ gn ws j)) ∧ Below w0.heap.size w0 w) (fun g => ws.length - g.1) ((0, m + 1)) (Sub.cons rfl (Sub.cons rfl (Sub.nil _))) (Sub.cons rfl (Sub.cons rfl (Sub.cons rfl (Sub.cons rfl (Sub.nil _))))) ?_ ?_
    · exact ⟨⟨Nat.zero_le _, by simp only; omega, Nat.le_refl _, fun h => by simp only at h; omega, fun _ => rfl, by simp only; omega, fun i hi => by simp only at hi; omega⟩, hB⟩
    rintro ⟨k, d⟩ w2 ⟨⟨hk, hd1, hd2, hd3, hd4, hdD, hd⟩, hB⟩
    simp only [List.cons_append, List.nil_append]
    simp only at hk hd1 hd2 hd3 hd4 hdD hd
    refine W.seqR ?_
    refine LS.vv rfl rfl (by decide) (Val.lss rfl rfl) ?_
    refine LS.nil ?_
    refine W.seq ?_
    first | refine W.condD rfl (fun hc2 => ?_) (fun hc2 => ?_) | refine W.cond rfl (fun hc2 => ?_) (fun hc2 => ?_)
    ·
      refine W.skip ?_
      refine thenP_normal ?_
      refine W.seq ?_
      refine W.block ?_
      refine W.seqR ?_
      refine LS.vv rfl rfl (by decide) (Val.move rfl) ?_
      refine LS.vv rfl rfl (by decide) (Val.index1 Try.underlying32 elem37 rfl rfl (by omega) hr (uv_lt (by omega))) ?_
      refine LS.m rfl (Step.load rfl rfl (by decide) flat37 rfl (hr.below hB) (uv_at (by omega)) ?_)
      refine LS.vv rfl rfl (by decide) (Val.assign rfl) ?_
      refine LS.vv rfl rfl (by decide) (Val.assign rfl) ?_
      refine LS.nil ?_
      refine W.seqR ?_
      refine LS.vv rfl rfl (by decide) (Val.move rfl) ?_
      refine LS.vv rfl rfl (by decide) (Val.move rfl) ?_
      refine LS.vv rfl rfl (by decide) (Val.sliceTo Try.underlying32 elem37 rfl rfl (by omega)) ?_
      refine LS.vv rfl rfl (by decide) (Val.len Try.underlying32 rfl) ?_
      refine LS.vv rfl rfl (by decide) (Val.cast (v := .int .i64 ((0 : Nat) : Int)) (Val.move rfl) rfl) ?_
      refine LS.nil ?_
      refine W.block ?_
      refine W.loop (α := Nat × Nat) (fun g => [(7, .int .i64 (g.2 : Int)), (31, .int .i64 (g.1 : Int))]) [(0, _), (1, _), (9, _), (20, _), (21, _), (22, _), (29, _), (30, _)] (fun g w => (g.1 ≤ k ∧ 1 ≤ g.2 ∧ g.2 ≤ d ∧ (1 ≤ g.1 → g.2 ≤ m) ∧ (g.1 = 0 → g.2 = d) ∧ D ≤ g.2 ∧ ∀ j, j < g.1 → g.2 ≤ popc (gn ws k ^^^ gn ws j)) ∧ Below w0.heap.size w0 w) (fun g => k - g.1) ((0, d)) (Sub.cons rfl (Sub.cons rfl (Sub.nil _))) (Sub.cons rfl (Sub.cons rfl (Sub.cons rfl (Sub.cons rfl (Sub.cons rfl (Sub.cons rfl (Sub.cons rfl (Sub.cons rfl (Sub.nil _))))))))) ?_ ?_
      · exact ⟨⟨Nat.zero_le _, hd1, Nat.le_refl _, fun h => by simp only at h; omega, fun _ => rfl, hdD, fun j hj => by simp only at hj; omega⟩, hB⟩
      rintro ⟨q, d2⟩ w3 ⟨⟨hq, hd5, hdd, hd6, hd7, hrowD, hrow⟩, hB⟩
      simp only [List.cons_append, List.nil_append]
      simp only at hq hd5 hdd hd6 hd7 hrowD hrow
      refine W.seqR ?_
      refine LS.vv rfl rfl (by decide) (Val.lss rfl rfl) ?_
      refine LS.nil ?_
      refine W.seq ?_
      first | refine W.condD rfl (fun hc3 => ?_) (fun hc3 => ?_) | refine W.cond rfl (fun hc3 => ?_) (fun hc3 => ?_)
      ·
        have hk1 := hlt k (by omega)
        have hq1 := hlt q (by omega)
        have hdk : gn ws q < 2 ^ m ∧ gn ws k < 2 ^ m := ⟨hlow q (by omega), hlow k (by omega)⟩
        have hx : gn ws k ^^^ gn ws q < 2 ^ 32 := Nat.xor_lt_two_pow (hlt k (by omega)) (hlt q (by omega))
        have hpc : popc (gn ws k ^^^ gn ws q) ≤ m := popc_le (Nat.xor_lt_two_pow hdk.2 hdk.1)
        have hp1 : popc (gn ws k ^^^ gn ws q) ≠ 0 := fun h => hdis k (by omega) q (by omega) ((popc_dist_zero (hlt k (by omega)) (hlt q (by omega))).1 h).symm
        have hDq := hD k (by omega) q (by omega)
        refine W.skip ?_
        refine thenP_normal ?_
        refine W.seq ?_
        refine W.block ?_
        refine W.seqR ?_
        refine LS.vv rfl rfl (by decide) (Val.index1 Try.underlying32 elem37 rfl rfl (by omega) hr (uv_lt (by omega))) ?_
        refine LS.m rfl (Step.load rfl rfl (by decide) flat37 rfl (hr.below hB) (uv_at (by omega)) ?_)
        refine LS.vv rfl rfl (by decide) (Val.assign rfl) ?_
        refine LS.nil ?_
        refine W.reg ?_
        refine LS.vv rfl rfl (by decide) (Val.move rfl) ?_
        refine LS.vv rfl rfl (by decide) (Val.move rfl) ?_
        refine LS.vv rfl rfl (by decide) (Val.move rfl) ?_
        refine LS.vv rfl rfl (by decide) (Val.xorU32 rfl rfl (by omega) (by omega)) ?_
        refine LS.m rfl (Step.call body34 rfl rfl (by decide) rfl (CallsV.mono (ones32_any _ _ hx) ?_))
        rintro _ w4 ⟨rfl, hb4⟩
        replace hB := hB.trans (hb4.mono hB.size)
        first | refine LS.vv rfl rfl (by decide) (Val.minN rfl rfl) ?_ | refine LS.vv rfl rfl (by decide) (Val.min rfl rfl) ?_
        refine LS.vv rfl rfl (by decide) (Val.assign rfl) ?_
        refine LS.nil ?_
        refine inBlk_normal ?_
        refine thenP_normal ?_
        refine W.reg ?_
        first | refine LS.vv rfl rfl (by decide) (Val.addN (j := 1) rfl rfl (by omega)) ?_ | refine LS.vv rfl rfl (by decide) (Val.add64 rfl rfl (by omega)) ?_
        refine LS.vv rfl rfl (by decide) (Val.move rfl) ?_
        refine LS.nil ?_
        refine thenP_normal ?_
        refine ⟨(q + 1, Min.min d2 (popc (gn ws k ^^^ gn ws q))), ?_, ?_, ⟨⟨by simp only; omega, by simp only; omega, by simp only; omega, by simp only; omega, by simp only; omega, by simp only; omega, ?_⟩, hB⟩, by simp only; omega⟩
        · exact Sub.cons rfl (Sub.cons rfl (Sub.nil _))
        · repeat (first | exact Sub.nil _ | refine Sub.cons rfl ?_)
        · intro j hj
          simp only at hj ⊢
          by_cases e : j = q
          · subst e; omega
          · have := hrow j (by omega); omega
      ·
        refine W.exit ?_
        refine thenP_exit ?_
        refine thenP_exit ?_
        refine inBlk_exit ?_
        refine inBlk_normal ?_
        refine thenP_normal ?_
        refine W.reg ?_
        first | refine LS.vv rfl rfl (by decide) (Val.addN (j := 1) rfl rfl (by omega)) ?_ | refine LS.vv rfl rfl (by decide) (Val.add64 rfl rfl (by omega)) ?_
        refine LS.vv rfl rfl (by decide) (Val.move rfl) ?_
        refine LS.nil ?_
        refine thenP_normal ?_
        refine ⟨(k + 1, d2), ?_, ?_, ⟨⟨by simp only; omega, by simp only; omega, by simp only; omega, by simp only; omega, by simp only; omega, hrowD, ?_⟩, hB⟩, by simp only; omega⟩
        · exact Sub.cons rfl (Sub.cons rfl (Sub.nil _))
        · repeat (first | exact Sub.nil _ | refine Sub.cons rfl ?_)
        · intro i hi j hj
          simp only at hi ⊢
          by_cases e : i = k
          · subst e; exact hrow j (by omega)
          · exact Nat.le_trans hdd (hd i (by omega) j hj)
    ·
      obtain rfl : k = ws.length := by omega
      refine W.exit ?_
      refine thenP_exit ?_
      refine thenP_exit ?_
      refine inBlk_exit ?_
      refine thenP_normal ?_
      refine W.seq ?_
      refine W.seqR ?_
      refine LS.vv rfl rfl (by decide) (Val.move rfl) ?_
      refine LS.vv rfl rfl (by decide) (Val.move rfl) ?_
      refine LS.vv rfl rfl (by decide) (Val.gtr rfl rfl) ?_
      refine LS.nil ?_
      first | refine W.condD rfl (fun hc4 => ?_) (fun hc4 => ?_) | refine W.cond rfl (fun hc4 => ?_) (fun hc4 => ?_)
      ·
        refine W.seqR ?_
        refine LS.vv rfl rfl (by decide) (Val.cast (v := .int .i64 ((0 : Nat) : Int)) (Val.assign rfl) rfl) ?_
        refine LS.vv rfl rfl (by decide) (Val.cast (v := .int .i64 ((5 : Nat) : Int)) (Val.assign rfl) rfl) ?_
        refine LS.nil ?_
        refine W.ret ?_
        refine thenP_ret ?_
        refine ret2 (by first | exact .inl rfl | exact .inr rfl) rfl rfl ?_
        first | exact ⟨0, e, rfl, ⟨fun h => by omega, fun h => he.2 h.1⟩, fun h => by omega, hB⟩ | (refine ⟨0, 5, rfl, ⟨fun h => by omega, fun h => ?_⟩, fun h => by omega, hB⟩; have := h.2; omega) | (refine ⟨d, 0, rfl, ⟨fun _ => ⟨he.1 (by omega), by omega⟩, fun _ => rfl⟩, fun _ => ⟨hdD, hd1, (show d ≤ m by omega), hd⟩, hB⟩)
      ·
        refine W.skip ?_
        refine thenP_normal ?_
        refine W.seqR ?_
        refine LS.vv rfl rfl (by decide) (Val.move rfl) ?_
        refine LS.vv rfl rfl (by decide) (Val.assign rfl) ?_
        refine LS.vv rfl rfl (by decide) (Val.cast (v := .int .i64 ((0 : Nat) : Int)) (Val.assign rfl) rfl) ?_
        refine LS.nil ?_
        refine W.ret ?_
        refine ret2 (by first | exact .inl rfl | exact .inr rfl) rfl rfl ?_
        first | exact ⟨0, e, rfl, ⟨fun h => by omega, fun h => he.2 h.1⟩, fun h => by omega, hB⟩ | (refine ⟨0, 5, rfl, ⟨fun h => by omega, fun h => ?_⟩, fun h => by omega, hB⟩; have := h.2; omega) | (refine ⟨d, 0, rfl, ⟨fun _ => ⟨he.1 (by omega), by omega⟩, fun _ => rfl⟩, fun _ => ⟨hdD, hd1, (show d ≤ m by omega), hd⟩, hB⟩)

/-- the rows that are set in data -/
def sumD (cs : List Nat) (ds : List Bool) : Nat → Nat := iter (fun i x => if gb ds i = true then x ^^^ gn cs i else x) 0
theorem sumD_succ (cs : List Nat) (ds : List Bool) (k : Nat) : sumD cs ds (k + 1) = if gb ds k = true then sumD cs ds k ^^^ gn cs k else sumD cs ds k := rfl
theorem SpI.sumD_mem {m n : Nat} {rows L : List Nat} (h : SpI m rows n L) (ds : List Bool) : ∀ k, k ≤ n → sumD rows ds k ∈ L
  | 0, _ => h.zero
  | k + 1, hk => by
    rw [sumD_succ]
    split
    · exact h.clos _ (h.sumD_mem ds k (by omega)) _ (h.mem k (by omega))
    · exact h.sumD_mem ds k (by omega)
/-- the fewest bits of the first k words, but 0 -/
def fewTo (m : Nat) (L : List Nat) : Nat → Nat := iter (fun i s => if gn L i ≠ 0 ∧ popc (gn L i) < s then popc (gn L i) else s) m
theorem fewTo_succ (m : Nat) (L : List Nat) (k : Nat) : fewTo m L (k + 1) = if gn L k ≠ 0 ∧ popc (gn L k) < fewTo m L k then popc (gn L k) else fewTo m L k := rfl
theorem fewTo_le (m : Nat) (L : List Nat) : ∀ k, fewTo m L k ≤ m ∧ ∀ j, j < k → gn L j ≠ 0 → fewTo m L k ≤ popc (gn L j)
  | 0 => ⟨Nat.le_refl _, fun j h => absurd h (by omega)⟩
  | k + 1 => by
    obtain ⟨h1, h2⟩ := fewTo_le m L k
    rw [fewTo_succ]
    split
    · rename_i h
      refine ⟨by omega, fun j hj hz => ?_⟩
      by_cases e : j = k
      · subst e; exact Nat.le_refl _
      · have := h2 j (by omega) hz; omega
    · rename_i h
      refine ⟨h1, fun j hj hz => ?_⟩
      by_cases e : j = k
      · subst e
        refine Nat.le_of_not_lt fun h3 => h ⟨hz, h3⟩
      · exact h2 j (by omega) hz
theorem fewTo_at (m : Nat) (L : List Nat) : ∀ k, fewTo m L k = m ∨ ∃ j, j < k ∧ gn L j ≠ 0 ∧ fewTo m L k = popc (gn L j)
  | 0 => .inl rfl
  | k + 1 => by
    rw [fewTo_succ]
    split
    · rename_i h; exact .inr ⟨k, by omega, h.1, rfl⟩
    · rcases fewTo_at m L k with h | ⟨j, h1, h2, h3⟩
      · exact .inl h
      · exact .inr ⟨j, by omega, h2, h3⟩
structure Lst (m : Nat) (rows L : List Nat) : Prop where
  inv : SpI m rows rows.length (spn rows)
  perm : L.Perm (spn rows)
theorem Lst.low {m : Nat} {rows L : List Nat} (h : Lst m rows L) (hm : m ≤ 12) {i : Nat} (hi : i < L.length) : gn L i < 2 ^ m := h.inv.lt _ (h.perm.mem_iff.1 (by rw [gn_lt hi]; exact List.getElem_mem _))
theorem Lst.okB {m : Nat} {rows L : List Nat} (h : Lst m rows L) (hm : m ≤ 12) (hl : L.length ≤ 64) : OkB (m : Int) L := by
  have hnd : L.Nodup := h.perm.nodup_iff.2 h.inv.nodup
  refine ⟨by omega, by omega, hl, fun j hj => by rw [Int.toNat_natCast]; exact h.low hm hj, fun i hi j hj e => ?_⟩
  rw [gn_lt hi, gn_lt (show j < L.length by omega)] at e
  have := (List.getElem_inj hnd).1 e
  omega
theorem Lst.diff {m : Nat} {rows L : List Nat} (h : Lst m rows L) (hm : m ≤ 12) : ∀ i, i < L.length → ∀ j, j < i → fewTo m L L.length ≤ popc (gn L i ^^^ gn L j) := by
  intro i hi j hj
  have hin : gn L i ^^^ gn L j ∈ L := h.perm.mem_iff.2 (h.inv.clos _ (h.perm.mem_iff.1 (by rw [gn_lt hi]; exact List.getElem_mem _)) _ (h.perm.mem_iff.1 (by rw [gn_lt (show j < L.length by omega)]; exact List.getElem_mem _)))
  obtain ⟨q, hq, e⟩ := gn_mem.2 hin
  have hnd : L.Nodup := h.perm.nodup_iff.2 h.inv.nodup
  have hz : gn L q ≠ 0 := by
    rw [e]; intro h0
    have e2 := xor_eq_zero.1 h0
    rw [gn_lt hi, gn_lt (show j < L.length by omega)] at e2
    have := (List.getElem_inj hnd).1 e2
    omega
  rw [← e]
  exact (fewTo_le m L L.length).2 q hq hz
theorem Lst.le {m d : Nat} {rows L : List Nat} (h : Lst m rows L) (hm : m ≤ 12) (hd : LeastB m L d) : d ≤ fewTo m L L.length := by
  rcases fewTo_at m L L.length with e | ⟨j, hj, hz, e⟩
  · rw [e]; exact hd.2.1
  · rw [e]
    obtain ⟨z, hzl, hz0⟩ := gn_mem.2 (h.perm.mem_iff.2 h.inv.zero)
    rcases Nat.lt_trichotomy z j with hlt | heq | hgt
    · have := hd.2.2 j hj z hlt
      rwa [hz0, Nat.xor_zero] at this
    · subst heq; exact absurd hz0 hz
    · have := hd.2.2 z hzl j hgt
      rwa [hz0, Nat.zero_xor] at this

theorem spanPut_any (n : Int) (cs : List Nat) (p : Option Addr) (c : Nat) (ds : List Bool) (q : Option Addr) (d m : Nat) (w0 : World) (hr : Rd w0 p (uv cs)) (hl : cs.length ≤ 9223372036854775807) (hcs : ∀ x ∈ cs, x < 4294967296) (hd : Rd w0 q (bv ds)) (hdm : ds.length = m) :
    CallsV Try.prog 23 #[.int .i64 n, .slice p cs.length c, .slice q m d] w0 (fun v w => ∃ x e : Nat, v = .tuple #[.int .u32 (x : Int), .int .i64 (e : Int)] ∧ (e = 0 ↔ OkR n cs ∧ m = cs.length) ∧ (e = 0 → x = sumD cs ds cs.length) ∧ x < 4294967296 ∧ Below w0.heap.size w0 w) := by
  refine enter2 Try.func23 rfl Try.ntmps23 (by simp) rfl ?_
  have hB := Below.refl w0.heap.size w0
  simp only [argLoc, Nat.zero_add, Nat.reduceAdd]
  have hM := Mem.nil w0 w0.heap.size
  subst hdm
  refine W.seqR ?_
  refine LS.vv rfl rfl (by decide) (Val.cast (v := .int .u32 ((0 : Nat) : Int)) (Val.assign rfl) rfl) ?_
  refine LS.vv rfl rfl (by decide) (Val.cast (v := .int .i64 ((0 : Nat) : Int)) (Val.assign rfl) rfl) ?_
  refine LS.nil ?_
  refine W.seq ?_
  refine W.seqR ?_
  refine LS.vv rfl rfl (by decide) (Val.move rfl) ?_
  refine LS.vv rfl rfl (by decide) (Val.move rfl) ?_
  refine LS.m rfl (Step.call body31 rfl rfl (by decide) rfl (CallsV.mono (spanCheck_any n cs _ _ _ (hr.below hB) hl hcs) ?_))
  rintro _ w1 ⟨e, rfl, he, hb1⟩
  replace hM := hM.below hb1
  replace hB := hB.trans (hb1.mono hB.size)
  refine LS.vv rfl rfl (by decide) (Val.assign rfl) ?_
  refine LS.nil ?_
  refine W.seqR ?_
  refine LS.vv rfl rfl (by decide) (Val.move rfl) ?_
  refine LS.vv rfl rfl (by decide) (Val.neq rfl rfl) ?_
  refine LS.nil ?_
  first | refine W.condD rfl (fun hc1 => ?_) (fun hc1 => ?_) | refine W.cond rfl (fun hc1 => ?_) (fun hc1 => ?_)
  ·
    refine W.seqR ?_
    refine LS.vv rfl rfl (by decide) (Val.move rfl) ?_
    refine LS.vv rfl rfl (by decide) (Val.cast (v := .int .u32 ((0 : Nat) : Int)) (Val.assign rfl) rfl) ?_
    refine LS.vv rfl rfl (by decide) (Val.assign rfl) ?_
    refine LS.nil ?_
    refine W.ret ?_
    refine thenP_ret ?_
    refine ret2 (by first | exact .inl rfl | exact .inr rfl) rfl rfl ?_
    first
      | exact ⟨0, e, rfl, ⟨fun h => by omega, fun h => he.2 h.1⟩, fun h => by omega, by omega, hB⟩
      | exact ⟨0, 3, rfl, ⟨fun h => by omega, fun h => by omega⟩, fun h => by omega, by omega, hB⟩
      | (obtain rfl : k = cs.length := (by omega)
         exact ⟨_, 0, rfl, ⟨fun _ => ⟨hok, by omega⟩, fun _ => rfl⟩, fun _ => rfl, (by have := hI.lt _ (hI.sumD_mem ds cs.length (Nat.le_refl _)); omega), hB⟩)
  ·
    have hok := he.1 (by omega)
    have hI := spn_inv hok.1.2.2
    have hn2 := hok.1.2.1
    have hp12 : 2 ^ n.toNat ≤ 2 ^ 12 := Nat.pow_le_pow_right (by omega) (by omega)
    refine W.skip ?_
    refine thenP_normal ?_
    refine W.seq ?_
    refine W.seqR ?_
    refine LS.vv rfl rfl (by decide) (Val.move rfl) ?_
    refine LS.vv rfl rfl (by decide) (Val.len Try.underlying22 rfl) ?_
    refine LS.vv rfl rfl (by decide) (Val.move rfl) ?_
    refine LS.vv rfl rfl (by decide) (Val.len Try.underlying32 rfl) ?_
    refine LS.vv rfl rfl (by decide) (Val.neq rfl rfl) ?_
    refine LS.nil ?_
    first | refine W.condD rfl (fun hc2 => ?_) (fun hc2 => ?_) | refine W.cond rfl (fun hc2 => ?_) (fun hc2 => ?_)
    ·
      refine W.seqR ?_
      refine LS.vv rfl rfl (by decide) (Val.cast (v := .int .u32 ((0 : Nat) : Int)) (Val.assign rfl) rfl) ?_
      refine LS.vv rfl rfl (by decide) (Val.cast (v := .int .i64 ((3 : Nat) : Int)) (Val.assign rfl) rfl) ?_
      refine LS.nil ?_
      refine W.ret ?_
      refine thenP_ret ?_
      refine ret2 (by first | exact .inl rfl | exact .inr rfl) rfl rfl ?_
      first
        | exact ⟨0, e, rfl, ⟨fun h => by omega, fun h => he.2 h.1⟩, fun h => by omega, by omega, hB⟩
        | exact ⟨0, 3, rfl, ⟨fun h => by omega, fun h => by omega⟩, fun h => by omega, by omega, hB⟩
        | (obtain rfl : k = cs.length := (by omega)
           exact ⟨_, 0, rfl, ⟨fun _ => ⟨hok, by omega⟩, fun _ => rfl⟩, fun _ => rfl, (by have := hI.lt _ (hI.sumD_mem ds cs.length (Nat.le_refl _)); omega), hB⟩)
    ·
      refine W.skip ?_
      refine thenP_normal ?_
      refine W.seqR ?_
      refine LS.vv rfl rfl (by decide) (Val.cast (v := .int .u32 ((0 : Nat) : Int)) (Val.assign rfl) rfl) ?_
      refine LS.nil ?_
      refine W.seq ?_
      refine W.seqR ?_
      refine LS.vv rfl rfl (by decide) (Val.move rfl) ?_
      refine LS.vv rfl rfl (by decide) (Val.len Try.underlying22 rfl) ?_
      refine LS.vv rfl rfl (by decide) (Val.cast (v := .int .i64 ((0 : Nat) : Int)) (Val.move rfl) rfl) ?_
      refine LS.nil ?_
      refine W.block ?_
      refine W.loop (α := Nat) (fun k => [(9, .int .u32 (sumD cs ds k : Int)), (25, .int .i64 (k : Int))]) [(1, _), (23, _), (24, _)] (fun k w => (k ≤ cs.length) ∧ Mem w w0.heap.size [] ∧ Below w0.heap.size w0 w) (fun k => cs.length - k) (0) (Sub.cons rfl (Sub.cons rfl (Sub.nil _))) (Sub.cons rfl (Sub.cons rfl (Sub.cons rfl (Sub.nil _)))) ?_ ?_
      · exact ⟨Nat.zero_le _, hM, hB⟩
      rintro k w2 ⟨hk, hM, hB⟩
      try simp only at hM
      simp only [List.cons_append, List.nil_append]
      refine W.seqR ?_
      refine LS.vv rfl rfl (by decide) (Val.lss rfl rfl) ?_
      refine LS.nil ?_
      refine W.seq ?_
      first | refine W.condD rfl (fun hc3 => ?_) (fun hc3 => ?_) | refine W.cond rfl (fun hc3 => ?_) (fun hc3 => ?_)
      ·
        have hrk : gn cs k < 2 ^ n.toNat := hok.1.2.2 _ (by rw [gn_lt (show k < cs.length by omega)]; exact List.getElem_mem _)
        have hsk := hI.lt _ (hI.sumD_mem ds k (by omega))
        have hss := sumD_succ cs ds k
        refine W.skip ?_
        refine thenP_normal ?_
        refine W.seq ?_
        refine W.block ?_
        refine W.seqR ?_
        refine LS.vv rfl rfl (by decide) (Val.move rfl) ?_
        refine LS.vv rfl rfl (by decide) (Val.index1 Try.underlying22 elem4 rfl rfl (by omega) ((hd.below hB)) (bv_lt (by omega))) ?_
        refine LS.m rfl (Step.load rfl rfl (by decide) flat4 rfl ((hd.below hB)) (bv_at (by omega)) ?_)
        refine LS.vv rfl rfl (by decide) (Val.assign rfl) ?_
        refine LS.vv rfl rfl (by decide) (Val.assign rfl) ?_
        refine LS.nil ?_
        refine W.seqR ?_
        refine LS.vv rfl rfl (by decide) (Val.move rfl) ?_
        refine LS.nil ?_
        first | refine W.condD rfl (fun hc4 => ?_) (fun hc4 => ?_) | refine W.cond rfl (fun hc4 => ?_) (fun hc4 => ?_)
        ·
          refine W.reg ?_
          refine LS.vv rfl rfl (by decide) (Val.move rfl) ?_
          refine LS.vv rfl rfl (by decide) (Val.move rfl) ?_
          refine LS.vv rfl rfl (by decide) (Val.move rfl) ?_
          refine LS.vv rfl rfl (by decide) (Val.index1 Try.underlying32 elem37 rfl rfl (by omega) ((hr.below hB)) (uv_lt (by omega))) ?_
          refine LS.m rfl (Step.load rfl rfl (by decide) flat37 rfl ((hr.below hB)) (uv_at (by omega)) ?_)
          refine LS.vv rfl rfl (by decide) (Val.xorU32 rfl rfl (by omega) (by omega)) ?_
          refine LS.vv rfl rfl (by decide) (Val.assign rfl) ?_
          refine LS.nil ?_
          refine inBlk_normal ?_
          refine thenP_normal ?_
          refine W.reg ?_
          first | refine LS.vv rfl rfl (by decide) (Val.addN (j := 1) rfl rfl (by omega)) ?_ | refine LS.vv rfl rfl (by decide) (Val.add64 rfl rfl (by omega)) ?_
          refine LS.vv rfl rfl (by decide) (Val.move rfl) ?_
          refine LS.nil ?_
          refine thenP_normal ?_
          refine ⟨k + 1, ?_, ?_, ⟨by omega, hM, hB⟩, by omega⟩
          · exact Sub.cons' rfl (by rw [hss]; first | rw [if_pos (by assumption)] | rw [if_neg (by simp_all)]) (Sub.cons rfl (Sub.nil _))
          · repeat (first | exact Sub.nil _ | refine Sub.cons rfl ?_)
        ·
          refine W.skip ?_
          refine inBlk_normal ?_
          refine thenP_normal ?_
          refine W.reg ?_
          first | refine LS.vv rfl rfl (by decide) (Val.addN (j := 1) rfl rfl (by omega)) ?_ | refine LS.vv rfl rfl (by decide) (Val.add64 rfl rfl (by omega)) ?_
          refine LS.vv rfl rfl (by decide) (Val.move rfl) ?_
          refine LS.nil ?_
          refine thenP_normal ?_
          refine ⟨k + 1, ?_, ?_, ⟨by omega, hM, hB⟩, by omega⟩
          · exact Sub.cons' rfl (by rw [hss]; first | rw [if_pos (by assumption)] | rw [if_neg (by simp_all)]) (Sub.cons rfl (Sub.nil _))
          · repeat (first | exact Sub.nil _ | refine Sub.cons rfl ?_)
      ·
        refine W.exit ?_
        refine thenP_exit ?_
        refine thenP_exit ?_
        refine inBlk_exit ?_
        refine thenP_normal ?_
        refine W.seqR ?_
        refine LS.vv rfl rfl (by decide) (Val.move rfl) ?_
        refine LS.vv rfl rfl (by decide) (Val.assign rfl) ?_
        refine LS.vv rfl rfl (by decide) (Val.cast (v := .int .i64 ((0 : Nat) : Int)) (Val.assign rfl) rfl) ?_
        refine LS.nil ?_
        refine W.ret ?_
        refine ret2 (by first | exact .inl rfl | exact .inr rfl) rfl rfl ?_
        first
          | exact ⟨0, e, rfl, ⟨fun h => by omega, fun h => he.2 h.1⟩, fun h => by omega, by omega, hB⟩
          | exact ⟨0, 3, rfl, ⟨fun h => by omega, fun h => by omega⟩, fun h => by omega, by omega, hB⟩
          | (obtain rfl : k = cs.length := (by omega)
             exact ⟨_, 0, rfl, ⟨fun _ => ⟨hok, by omega⟩, fun _ => rfl⟩, fun _ => rfl, (by have := hI.lt _ (hI.sumD_mem ds cs.length (Nat.le_refl _)); omega), hB⟩)

theorem leastL_any (n : Int) (cs : List Nat) (p : Option Addr) (c : Nat) (ds : List Bool) (q : Option Addr) (d m : Nat) (w0 : World) (hr : Rd w0 p (uv cs)) (hl : cs.length ≤ 9223372036854775807) (hcs : ∀ x ∈ cs, x < 4294967296) (hd : Rd w0 q (bv ds)) (hdm : ds.length = m) (hmx : m ≤ 9223372036854775807) :
    CallsV Try.prog 8 #[.int .i64 n, .slice p cs.length c, .slice q m d] w0 (fun v w => v = .bool true ∧ Below w0.heap.size w0 w) := by
  refine enter1 Try.func8 rfl Try.ntmps8 (by simp) rfl ?_
  have hB := Below.refl w0.heap.size w0
  simp only [argLoc, Nat.zero_add, Nat.reduceAdd]
  have hM := Mem.nil w0 w0.heap.size
  subst hdm
  refine W.seqR ?_
  refine LS.vv rfl rfl (by decide) (Val.assign rfl) ?_
  refine LS.nil ?_
  refine W.seqR ?_
  refine LS.vv rfl rfl (by decide) (Val.move rfl) ?_
  refine LS.vv rfl rfl (by decide) (Val.move rfl) ?_
  refine LS.vv rfl rfl (by decide) (Val.move rfl) ?_
  refine LS.m rfl (Step.call body23 rfl rfl (by decide) rfl (CallsV.mono (spanPut_any n cs _ _ ds _ _ _ _ (hr.below hB) hl hcs (hd.below hB) rfl) ?_))
  rintro _ w1 ⟨x, e, rfl, he, hx, hx32, hb1⟩
  replace hM := hM.below hb1
  replace hB := hB.trans (hb1.mono hB.size)
  refine LS.vv rfl rfl (by decide) (Val.move rfl) ?_
  refine LS.vv rfl rfl (by decide) (Val.extract rfl rfl) ?_
  refine LS.vv rfl rfl (by decide) (Val.extract rfl rfl) ?_
  refine LS.vv rfl rfl (by decide) (Val.assign rfl) ?_
  refine LS.vv rfl rfl (by decide) (Val.assign rfl) ?_
  refine LS.nil ?_
  refine W.seqR ?_
  refine LS.vv rfl rfl (by decide) (Val.move rfl) ?_
  refine LS.vv rfl rfl (by decide) (Val.move rfl) ?_
  refine LS.m rfl (Step.call body13 rfl rfl (by decide) rfl (CallsV.mono (spanS_any n cs _ _ _ (hr.below hB) hl hcs) ?_))
  rintro _ w2 ⟨p2, c2, L, f, rfl, hOL, hf, hLL, hb2⟩
  replace hM := hM.add hB.size hb2 hOL
  replace hB := hB.trans (hb2.mono hB.size)
  refine LS.vv rfl rfl (by decide) (Val.move rfl) ?_
  refine LS.vv rfl rfl (by decide) (Val.extract rfl rfl) ?_
  refine LS.vv rfl rfl (by decide) (Val.extract rfl rfl) ?_
  refine LS.vv rfl rfl (by decide) (Val.assign rfl) ?_
  refine LS.vv rfl rfl (by decide) (Val.assign rfl) ?_
  refine LS.nil ?_
  refine W.seq ?_
  refine W.seqR ?_
  refine LS.vv rfl rfl (by decide) (Val.move rfl) ?_
  refine LS.vv rfl rfl (by decide) (Val.move rfl) ?_
  refine LS.m rfl (Step.call body14 rfl rfl (by decide) rfl (CallsV.mono (rowed_any n cs _ _ _ (hr.below hB) hl hcs) ?_))
  rintro _ w3 ⟨b, rfl, hbb, hb3⟩
  replace hM := hM.below hb3
  replace hB := hB.trans (hb3.mono hB.size)
  refine LS.vv rfl rfl (by decide) (Val.not rfl) ?_
  refine LS.nil ?_
  first | refine W.condD rfl (fun hc1 => ?_) (fun hc1 => ?_) | refine W.cond rfl (fun hc1 => ?_) (fun hc1 => ?_)
  ·
    refine W.seqR ?_
    refine LS.vv rfl rfl (by decide) (Val.move rfl) ?_
    refine LS.vv rfl rfl (by decide) (Val.neq rfl rfl) ?_
    refine LS.vv rfl rfl (by decide) (Val.move rfl) ?_
    refine LS.split 2 rfl (fun hg2 => ?_) (fun hg2 => ?_)
    ·
      first | (have hg2p := of_decide_eq_true hg2) | skip
      refine LS.vg rfl rfl rfl hg2 (by decide) (Val.move rfl) ?_
      refine LS.vg rfl rfl rfl hg2 (by decide) (Val.neq rfl rfl) ?_
      have hen : e ≠ 0 := fun h => by have := hbb.2 (he.1 h).1; simp_all
      have hfn : f ≠ 0 := fun h => by have := hbb.2 (hf.1 h); simp_all
      refine LS.vv rfl rfl (by decide) (Val.cast (v := .bool true) (Val.pickT rfl hg2 rfl) (by first | rfl | (exfalso; omega) | (refine congrArg Value.bool (decide_eq_true ?_); omega))) ?_
      refine LS.vv rfl rfl (by decide) (Val.assign rfl) ?_
      refine LS.nil ?_
      refine W.ret ?_
      refine thenP_ret ?_
      refine ret1 (by first | exact .inl rfl | exact .inr rfl) rfl ?_
      first | exact ⟨rfl, hB⟩ | (exfalso; omega)
    ·
      first | (have hg2p := of_decide_eq_false hg2) | skip
      refine LS.s rfl rfl rfl hg2 (by decide) ?_
      refine LS.s rfl rfl rfl hg2 (by decide) ?_
      have hen : e ≠ 0 := fun h => by have := hbb.2 (he.1 h).1; simp_all
      have hfn : f ≠ 0 := fun h => by have := hbb.2 (hf.1 h); simp_all
      refine LS.vv rfl rfl (by decide) (Val.cast (v := .bool true) (Val.pickF rfl hg2 rfl) (by first | rfl | (exfalso; omega) | (refine congrArg Value.bool (decide_eq_true ?_); omega))) ?_
      refine LS.vv rfl rfl (by decide) (Val.assign rfl) ?_
      refine LS.nil ?_
      refine W.ret ?_
      refine thenP_ret ?_
      refine ret1 (by first | exact .inl rfl | exact .inr rfl) rfl ?_
      first | exact ⟨rfl, hB⟩ | (exfalso; omega)
  ·
    have hok := hbb.1 (by simp_all)
    have hf0 := hf.2 hok
    obtain ⟨hL1, hL2⟩ := hLL hf0
    have hI := spn_inv hok.1.2.2
    have hn1 := hok.1.1
    have hn2 := hok.1.2.1
    have hcm := hok.1.2.2
    have hlen := spk_len hok.1.2.2 (Nat.le_refl _) hok.2
    clear hLL
    have hem : e = 0 ↔ ds.length = cs.length := ⟨fun h => (he.1 h).2, fun h => he.2 ⟨hok, h⟩⟩
    obtain ⟨mm, rfl⟩ := Int.eq_ofNat_of_zero_le hn1
    rw [Int.toNat_natCast] at *
    have hLst : Lst mm cs L := ⟨hI, hL1⟩
    have hp12 : 2 ^ mm ≤ 2 ^ 12 := Nat.pow_le_pow_right (by omega) (by omega)
    have hll : L.length = (spk cs cs.length).length := hL1.length_eq
    have hL32 : ∀ y ∈ L, y < 4294967296 := fun y hy => by have := hI.lt y (hL1.mem_iff.1 hy); omega
    refine W.skip ?_
    refine thenP_normal ?_
    refine W.seq ?_
    refine W.seqR ?_
    refine LS.vv rfl rfl (by decide) (Val.move rfl) ?_
    refine LS.vv rfl rfl (by decide) (Val.neq rfl rfl) ?_
    refine LS.vv rfl rfl (by decide) (Val.move rfl) ?_
    refine LS.split 2 rfl (fun hg3 => ?_) (fun hg3 => ?_)
    ·
      first | (have hg3p := of_decide_eq_true hg3) | skip
      refine LS.s rfl rfl rfl hg3 (by decide) ?_
      refine LS.s rfl rfl rfl hg3 (by decide) ?_
      refine LS.s rfl rfl rfl hg3 (by decide) ?_
      refine LS.s rfl rfl rfl hg3 (by decide) ?_
      refine LS.s rfl rfl rfl hg3 (by decide) ?_
      refine LS.s rfl rfl rfl hg3 (by decide) ?_
      refine LS.s rfl rfl rfl hg3 (by decide) ?_
      refine LS.s rfl rfl rfl hg3 (by decide) ?_
      refine LS.vv rfl rfl (by decide) (Val.cast (v := .bool false) (Val.pickT rfl hg3 rfl) (by first | rfl | (exfalso; omega) | (refine congrArg Value.bool (decide_eq_false ?_); omega))) ?_
      refine LS.vv rfl rfl (by decide) (Val.move rfl) ?_
      refine LS.vg rfl rfl rfl rfl (by decide) (Val.move rfl) ?_
      refine LS.vg rfl rfl rfl rfl (by decide) (Val.eql rfl rfl) ?_
      refine LS.vg rfl rfl rfl rfl (by decide) (Val.move rfl) ?_
      refine LS.split 15 rfl (fun hg4 => ?_) (fun hg4 => ?_)
      ·
        first | (have hg4p := of_decide_eq_true hg4) | skip
        refine LS.vg rfl rfl rfl hg4 (by decide) (Val.move rfl) ?_
        refine LS.vg rfl rfl rfl hg4 (by decide) (Val.move rfl) ?_
        refine LS.mg rfl rfl hg4 (Step.call body22 rfl rfl (by decide) rfl (CallsV.mono (in_any cs _ _ x mm _ (hr.below hB) hl hcs hok.2 (by omega) hcm) ?_))
        rintro _ w4 ⟨bi, rfl, hbi, hb4⟩
        replace hM := hM.below hb4
        replace hB := hB.trans (hb4.mono hB.size)
        have hbt : bi = true := hbi.2 (by rw [hx (by omega)]; exact hI.sumD_mem ds cs.length (Nat.le_refl _))
        subst hbt
        refine LS.vg rfl rfl rfl hg4 (by decide) (Val.not rfl) ?_
        refine LS.vg rfl rfl rfl rfl (by decide) (Val.cast (v := .bool false) (Val.pickT rfl hg4 rfl) (by first | rfl | (exfalso; omega) | (refine congrArg Value.bool (decide_eq_false ?_); omega))) ?_
        refine LS.vv rfl rfl (by decide) (Val.cast (v := .bool false) (Val.pickF rfl rfl rfl) (by first | rfl | (exfalso; omega) | (refine congrArg Value.bool (decide_eq_false ?_); omega))) ?_
        refine LS.nil ?_
        refine W.condF rfl ?_
        refine W.skip ?_
        refine thenP_normal ?_
        refine W.seqR ?_
        refine LS.vv rfl rfl (by decide) (Val.move rfl) ?_
        refine LS.vv rfl rfl (by decide) (Val.move rfl) ?_
        refine LS.m rfl (Step.call body24 rfl rfl (by decide) rfl (CallsV.mono (least3_any (mm : Int) L _ _ (fewTo mm L L.length) _ hM.o0.rd hM.o0.le_cap (by omega) hL32 (by have := (fewTo_le mm L L.length).1; omega) (hLst.diff (by omega))) ?_))
        rintro _ w5 ⟨dd, g, rfl, hg, hgd, hb5⟩
        replace hM := hM.below hb5
        replace hB := hB.trans (hb5.mono hB.size)
        refine LS.vv rfl rfl (by decide) (Val.move rfl) ?_
        refine LS.vv rfl rfl (by decide) (Val.extract rfl rfl) ?_
        refine LS.vv rfl rfl (by decide) (Val.extract rfl rfl) ?_
        refine LS.vv rfl rfl (by decide) (Val.assign rfl) ?_
        refine LS.vv rfl rfl (by decide) (Val.assign rfl) ?_
        refine LS.nil ?_
        refine W.seq ?_
        refine W.seqR ?_
        refine LS.vv rfl rfl (by decide) (Val.move rfl) ?_
        refine LS.vv rfl rfl (by decide) (Val.len Try.underlying32 rfl) ?_
        refine LS.vv rfl rfl (by decide) (Val.lss rfl rfl) ?_
        refine LS.vv rfl rfl (by decide) (Val.move rfl) ?_
        refine LS.split 3 rfl (fun hg5 => ?_) (fun hg5 => ?_)
        ·
          first | (have hg5p := of_decide_eq_true hg5) | skip
          refine LS.s rfl rfl rfl hg5 (by decide) ?_
          refine LS.s rfl rfl rfl hg5 (by decide) ?_
          refine LS.s rfl rfl rfl hg5 (by decide) ?_
          refine LS.vv rfl rfl (by decide) (Val.pickT rfl hg5 rfl) ?_
          refine LS.nil ?_
          refine W.condT rfl ?_
          refine W.seqR ?_
          refine LS.vv rfl rfl (by decide) (Val.move rfl) ?_
          refine LS.vv rfl rfl (by decide) (Val.neq rfl rfl) ?_
          refine LS.vv rfl rfl (by decide) (Val.move rfl) ?_
          refine LS.split 2 rfl (fun hg6 => ?_) (fun hg6 => ?_)
          ·
            first | (have hg6p := of_decide_eq_true hg6) | skip
            refine LS.vg rfl rfl rfl hg6 (by decide) (Val.move rfl) ?_
            refine LS.vg rfl rfl rfl hg6 (by decide) (Val.len Try.underlying32 rfl) ?_
            refine LS.vg rfl rfl rfl hg6 (by decide) (Val.gtr rfl rfl) ?_
            have hgn : g ≠ 0 := fun h => by have h9 := hg.1 h; have h8 := h9.1.2.2.1; omega
            refine LS.vv rfl rfl (by decide) (Val.cast (v := .bool true) (Val.pickT rfl hg6 rfl) (by first | rfl | (exfalso; omega) | (refine congrArg Value.bool (decide_eq_true ?_); omega))) ?_
            refine LS.vv rfl rfl (by decide) (Val.assign rfl) ?_
            refine LS.nil ?_
            refine W.ret ?_
            refine thenP_ret ?_
            refine ret1 (by first | exact .inl rfl | exact .inr rfl) rfl ?_
            first | exact ⟨rfl, hB⟩ | (exfalso; omega)
          ·
            first | (have hg6p := of_decide_eq_false hg6) | skip
            refine LS.s rfl rfl rfl hg6 (by decide) ?_
            refine LS.s rfl rfl rfl hg6 (by decide) ?_
            refine LS.s rfl rfl rfl hg6 (by decide) ?_
            have hgn : g ≠ 0 := fun h => by have h9 := hg.1 h; have h8 := h9.1.2.2.1; omega
            refine LS.vv rfl rfl (by decide) (Val.cast (v := .bool true) (Val.pickF rfl hg6 rfl) (by first | rfl | (exfalso; omega) | (refine congrArg Value.bool (decide_eq_true ?_); omega))) ?_
            refine LS.vv rfl rfl (by decide) (Val.assign rfl) ?_
            refine LS.nil ?_
            refine W.ret ?_
            refine thenP_ret ?_
            refine ret1 (by first | exact .inl rfl | exact .inr rfl) rfl ?_
            first | exact ⟨rfl, hB⟩ | (exfalso; omega)
        ·
          first | (have hg5p := of_decide_eq_false hg5) | skip
          refine LS.vg rfl rfl rfl hg5 (by decide) (Val.move rfl) ?_
          refine LS.vg rfl rfl rfl hg5 (by decide) (Val.len Try.underlying32 rfl) ?_
          refine LS.vg rfl rfl rfl hg5 (by decide) (Val.gtr rfl rfl) ?_
          refine LS.vv rfl rfl (by decide) (Val.pickF rfl hg5 rfl) ?_
          refine LS.nil ?_
          first | refine W.condD rfl (fun hc7 => ?_) (fun hc7 => ?_) | refine W.cond rfl (fun hc7 => ?_) (fun hc7 => ?_)
          ·
            refine W.seqR ?_
            refine LS.vv rfl rfl (by decide) (Val.move rfl) ?_
            refine LS.vv rfl rfl (by decide) (Val.neq rfl rfl) ?_
            refine LS.vv rfl rfl (by decide) (Val.move rfl) ?_
            refine LS.split 2 rfl (fun hg8 => ?_) (fun hg8 => ?_)
            ·
              first | (have hg8p := of_decide_eq_true hg8) | skip
              refine LS.vg rfl rfl rfl hg8 (by decide) (Val.move rfl) ?_
              refine LS.vg rfl rfl rfl hg8 (by decide) (Val.len Try.underlying32 rfl) ?_
              refine LS.vg rfl rfl rfl hg8 (by decide) (Val.gtr rfl rfl) ?_
              have hgn : g ≠ 0 := fun h => by have h9 := hg.1 h; have h8 := h9.1.2.2.1; omega
              refine LS.vv rfl rfl (by decide) (Val.cast (v := .bool true) (Val.pickT rfl hg8 rfl) (by first | rfl | (exfalso; omega) | (refine congrArg Value.bool (decide_eq_true ?_); omega))) ?_
              refine LS.vv rfl rfl (by decide) (Val.assign rfl) ?_
              refine LS.nil ?_
              refine W.ret ?_
              refine thenP_ret ?_
              refine ret1 (by first | exact .inl rfl | exact .inr rfl) rfl ?_
              first | exact ⟨rfl, hB⟩ | (exfalso; omega)
            ·
              first | (have hg8p := of_decide_eq_false hg8) | skip
              refine LS.s rfl rfl rfl hg8 (by decide) ?_
              refine LS.s rfl rfl rfl hg8 (by decide) ?_
              refine LS.s rfl rfl rfl hg8 (by decide) ?_
              have hgn : g ≠ 0 := fun h => by have h9 := hg.1 h; have h8 := h9.1.2.2.1; omega
              refine LS.vv rfl rfl (by decide) (Val.cast (v := .bool true) (Val.pickF rfl hg8 rfl) (by first | rfl | (exfalso; omega) | (refine congrArg Value.bool (decide_eq_true ?_); omega))) ?_
              refine LS.vv rfl rfl (by decide) (Val.assign rfl) ?_
              refine LS.nil ?_
              refine W.ret ?_
              refine thenP_ret ?_
              refine ret1 (by first | exact .inl rfl | exact .inr rfl) rfl ?_
              first | exact ⟨rfl, hB⟩ | (exfalso; omega)
          ·
            refine W.skip ?_
            refine thenP_normal ?_
            refine W.seqR ?_
            refine LS.vv rfl rfl (by decide) (Val.move rfl) ?_
            refine LS.vv rfl rfl (by decide) (Val.assign rfl) ?_
            refine LS.nil ?_
            refine W.seq ?_
            refine W.seqR ?_
            refine LS.vv rfl rfl (by decide) (Val.move rfl) ?_
            refine LS.vv rfl rfl (by decide) (Val.len Try.underlying32 rfl) ?_
            refine LS.vv rfl rfl (by decide) (Val.cast (v := .int .i64 ((0 : Nat) : Int)) (Val.move rfl) rfl) ?_
            refine LS.nil ?_
            refine W.block ?_
            refine W.loop (α := Nat) (fun k => [(13, .int .i64 (fewTo mm L k : Int)), (85, .int .i64 (k : Int))]) [(11, _), (12, _), (83, _), (84, _)] (fun k w => (k ≤ L.length) ∧ Mem w w0.heap.size [⟨37, p2, L.length, c2, uv L⟩] ∧ Below w0.heap.size w0 w) (fun k => L.length - k) (0) (Sub.cons rfl (Sub.cons rfl (Sub.nil _))) (Sub.cons rfl (Sub.cons rfl (Sub.cons rfl (Sub.cons rfl (Sub.nil _))))) ?_ ?_
            · exact ⟨Nat.zero_le _, hM, hB⟩
            rintro k w6 ⟨hk, hM, hB⟩
            try simp only at hM
            simp only [List.cons_append, List.nil_append]
            refine W.seqR ?_
            refine LS.vv rfl rfl (by decide) (Val.lss rfl rfl) ?_
            refine LS.nil ?_
            refine W.seq ?_
            first | refine W.condD rfl (fun hc9 => ?_) (fun hc9 => ?_) | refine W.cond rfl (fun hc9 => ?_) (fun hc9 => ?_)
            ·
              have hlk := hLst.low (by omega) (i := k) (by omega)
              have hpl := popc_le hlk
              have hfs := fewTo_succ mm L k
              have hfl := fewTo_le mm L k
              have hfl1 := hfl.1
              clear hfl
              refine W.skip ?_
              refine thenP_normal ?_
              refine W.seq ?_
              refine W.block ?_
              refine W.seqR ?_
              refine LS.vv rfl rfl (by decide) (Val.index1 Try.underlying32 elem37 rfl rfl (by omega) (hM.o0.rd) (uv_lt (by omega))) ?_
              refine LS.m rfl (Step.load rfl rfl (by decide) flat37 rfl (hM.o0.rd) (uv_at (by omega)) ?_)
              refine LS.vv rfl rfl (by decide) (Val.assign rfl) ?_
              refine LS.nil ?_
              refine W.seqR ?_
              refine LS.vv rfl rfl (by decide) (Val.move rfl) ?_
              refine LS.vv rfl rfl (by decide) (Val.neq rfl rfl) ?_
              refine LS.vv rfl rfl (by decide) (Val.move rfl) ?_
              refine LS.split 2 rfl (fun hg10 => ?_) (fun hg10 => ?_)
              ·
                first | (have hg10p := of_decide_eq_true hg10) | skip
                refine LS.vg rfl rfl rfl hg10 (by decide) (Val.move rfl) ?_
                refine LS.mg rfl rfl hg10 (Step.call body17 rfl rfl (by decide) rfl (CallsV.mono (size_any (gn L k) _ (by omega)) ?_))
                rintro _ w7 ⟨rfl, hb7⟩
                replace hM := hM.below hb7
                replace hB := hB.trans (hb7.mono hB.size)
                refine LS.vg rfl rfl rfl hg10 (by decide) (Val.move rfl) ?_
                refine LS.vg rfl rfl rfl hg10 (by decide) (Val.lss rfl rfl) ?_
                refine LS.vv rfl rfl (by decide) (Val.pickT rfl hg10 rfl) ?_
                refine LS.nil ?_
                first | refine W.condD rfl (fun hc11 => ?_) (fun hc11 => ?_) | refine W.cond rfl (fun hc11 => ?_) (fun hc11 => ?_)
                ·
                  refine W.reg ?_
                  refine LS.vv rfl rfl (by decide) (Val.move rfl) ?_
                  refine LS.m rfl (Step.call body17 rfl rfl (by decide) rfl (CallsV.mono (size_any (gn L k) _ (by omega)) ?_))
                  rintro _ w8 ⟨rfl, hb8⟩
                  replace hM := hM.below hb8
                  replace hB := hB.trans (hb8.mono hB.size)
                  refine LS.vv rfl rfl (by decide) (Val.assign rfl) ?_
                  refine LS.nil ?_
                  refine inBlk_normal ?_
                  refine thenP_normal ?_
                  refine W.reg ?_
                  first | refine LS.vv rfl rfl (by decide) (Val.addN (j := 1) rfl rfl (by omega)) ?_ | refine LS.vv rfl rfl (by decide) (Val.add64 rfl rfl (by omega)) ?_
                  refine LS.vv rfl rfl (by decide) (Val.move rfl) ?_
                  refine LS.nil ?_
                  refine thenP_normal ?_
                  refine ⟨k + 1, ?_, ?_, ⟨by omega, hM, hB⟩, by omega⟩
                  · exact Sub.cons' rfl (by rw [hfs]; split <;> first | rfl | (exfalso; omega)) (Sub.cons rfl (Sub.nil _))
                  · repeat (first | exact Sub.nil _ | refine Sub.cons rfl ?_)
                ·
                  refine W.skip ?_
                  refine inBlk_normal ?_
                  refine thenP_normal ?_
                  refine W.reg ?_
                  first | refine LS.vv rfl rfl (by decide) (Val.addN (j := 1) rfl rfl (by omega)) ?_ | refine LS.vv rfl rfl (by decide) (Val.add64 rfl rfl (by omega)) ?_
                  refine LS.vv rfl rfl (by decide) (Val.move rfl) ?_
                  refine LS.nil ?_
                  refine thenP_normal ?_
                  refine ⟨k + 1, ?_, ?_, ⟨by omega, hM, hB⟩, by omega⟩
                  · exact Sub.cons' rfl (by rw [hfs]; split <;> first | rfl | (exfalso; omega)) (Sub.cons rfl (Sub.nil _))
                  · repeat (first | exact Sub.nil _ | refine Sub.cons rfl ?_)
              ·
                first | (have hg10p := of_decide_eq_false hg10) | skip
                refine LS.s rfl rfl rfl hg10 (by decide) ?_
                refine LS.s rfl rfl rfl hg10 (by decide) ?_
                refine LS.s rfl rfl rfl hg10 (by decide) ?_
                refine LS.s rfl rfl rfl hg10 (by decide) ?_
                refine LS.vv rfl rfl (by decide) (Val.pickF rfl hg10 rfl) ?_
                refine LS.nil ?_
                refine W.condF rfl ?_
                refine W.skip ?_
                refine inBlk_normal ?_
                refine thenP_normal ?_
                refine W.reg ?_
                first | refine LS.vv rfl rfl (by decide) (Val.addN (j := 1) rfl rfl (by omega)) ?_ | refine LS.vv rfl rfl (by decide) (Val.add64 rfl rfl (by omega)) ?_
                refine LS.vv rfl rfl (by decide) (Val.move rfl) ?_
                refine LS.nil ?_
                refine thenP_normal ?_
                refine ⟨k + 1, ?_, ?_, ⟨by omega, hM, hB⟩, by omega⟩
                · exact Sub.cons' rfl (by rw [hfs]; split <;> first | rfl | (exfalso; omega)) (Sub.cons rfl (Sub.nil _))
                · repeat (first | exact Sub.nil _ | refine Sub.cons rfl ?_)
            ·
              obtain rfl : k = L.length := by omega
              refine W.exit ?_
              refine thenP_exit ?_
              refine thenP_exit ?_
              refine inBlk_exit ?_
              refine thenP_normal ?_
              refine W.seqR ?_
              refine LS.vv rfl rfl (by decide) (Val.move rfl) ?_
              have hg0 : g = 0 := hg.2 ⟨hLst.okB (by omega) (by omega), by omega⟩
              obtain ⟨hgd1, hgd2⟩ := hgd hg0
              rw [Int.toNat_natCast] at hgd2
              have hgd3 := hLst.le (by omega) hgd2
              refine LS.vv rfl rfl (by decide) (Val.cast (v := .bool true) (Val.eql rfl rfl) (by first | rfl | (exfalso; omega) | (refine congrArg Value.bool (decide_eq_true ?_); omega))) ?_
              refine LS.vv rfl rfl (by decide) (Val.move rfl) ?_
              refine LS.vg rfl rfl rfl rfl (by decide) (Val.move rfl) ?_
              refine LS.vg rfl rfl rfl rfl (by decide) (Val.move rfl) ?_
              refine LS.vg rfl rfl rfl rfl (by decide) (Val.cast (v := .bool true) (Val.eql rfl rfl) (by first | rfl | (exfalso; omega) | (refine congrArg Value.bool (decide_eq_true ?_); omega))) ?_
              refine LS.vv rfl rfl (by decide) (Val.cast (v := .bool true) (Val.pickT rfl rfl rfl) (by first | rfl | (exfalso; omega) | (refine congrArg Value.bool (decide_eq_true ?_); omega))) ?_
              refine LS.vv rfl rfl (by decide) (Val.assign rfl) ?_
              refine LS.nil ?_
              refine W.ret ?_
              refine ret1 (by first | exact .inl rfl | exact .inr rfl) rfl ?_
              first | exact ⟨rfl, hB⟩ | (exfalso; omega)
      ·
        first | (have hg4p := of_decide_eq_false hg4) | skip
        refine LS.s rfl rfl rfl hg4 (by decide) ?_
        refine LS.s rfl rfl rfl hg4 (by decide) ?_
        refine LS.s rfl rfl rfl hg4 (by decide) ?_
        refine LS.s rfl rfl rfl hg4 (by decide) ?_
        refine LS.vg rfl rfl rfl rfl (by decide) (Val.cast (v := .bool false) (Val.pickF rfl hg4 rfl) (by first | rfl | (exfalso; omega) | (refine congrArg Value.bool (decide_eq_false ?_); omega))) ?_
        refine LS.vv rfl rfl (by decide) (Val.cast (v := .bool false) (Val.pickF rfl rfl rfl) (by first | rfl | (exfalso; omega) | (refine congrArg Value.bool (decide_eq_false ?_); omega))) ?_
        refine LS.nil ?_
        refine W.condF rfl ?_
        refine W.skip ?_
        refine thenP_normal ?_
        refine W.seqR ?_
        refine LS.vv rfl rfl (by decide) (Val.move rfl) ?_
        refine LS.vv rfl rfl (by decide) (Val.move rfl) ?_
        refine LS.m rfl (Step.call body24 rfl rfl (by decide) rfl (CallsV.mono (least3_any (mm : Int) L _ _ (fewTo mm L L.length) _ hM.o0.rd hM.o0.le_cap (by omega) hL32 (by have := (fewTo_le mm L L.length).1; omega) (hLst.diff (by omega))) ?_))
        rintro _ w9 ⟨dd, g, rfl, hg, hgd, hb9⟩
        replace hM := hM.below hb9
        replace hB := hB.trans (hb9.mono hB.size)
        refine LS.vv rfl rfl (by decide) (Val.move rfl) ?_
        refine LS.vv rfl rfl (by decide) (Val.extract rfl rfl) ?_
        refine LS.vv rfl rfl (by decide) (Val.extract rfl rfl) ?_
        refine LS.vv rfl rfl (by decide) (Val.assign rfl) ?_
        refine LS.vv rfl rfl (by decide) (Val.assign rfl) ?_
        refine LS.nil ?_
        refine W.seq ?_
        refine W.seqR ?_
        refine LS.vv rfl rfl (by decide) (Val.move rfl) ?_
        refine LS.vv rfl rfl (by decide) (Val.len Try.underlying32 rfl) ?_
        refine LS.vv rfl rfl (by decide) (Val.lss rfl rfl) ?_
        refine LS.vv rfl rfl (by decide) (Val.move rfl) ?_
        refine LS.split 3 rfl (fun hg12 => ?_) (fun hg12 => ?_)
        ·
          first | (have hg12p := of_decide_eq_true hg12) | skip
          refine LS.s rfl rfl rfl hg12 (by decide) ?_
          refine LS.s rfl rfl rfl hg12 (by decide) ?_
          refine LS.s rfl rfl rfl hg12 (by decide) ?_
          refine LS.vv rfl rfl (by decide) (Val.pickT rfl hg12 rfl) ?_
          refine LS.nil ?_
          refine W.condT rfl ?_
          refine W.seqR ?_
          refine LS.vv rfl rfl (by decide) (Val.move rfl) ?_
          refine LS.vv rfl rfl (by decide) (Val.neq rfl rfl) ?_
          refine LS.vv rfl rfl (by decide) (Val.move rfl) ?_
          refine LS.split 2 rfl (fun hg13 => ?_) (fun hg13 => ?_)
          ·
            first | (have hg13p := of_decide_eq_true hg13) | skip
            refine LS.vg rfl rfl rfl hg13 (by decide) (Val.move rfl) ?_
            refine LS.vg rfl rfl rfl hg13 (by decide) (Val.len Try.underlying32 rfl) ?_
            refine LS.vg rfl rfl rfl hg13 (by decide) (Val.gtr rfl rfl) ?_
            have hgn : g ≠ 0 := fun h => by have h9 := hg.1 h; have h8 := h9.1.2.2.1; omega
            refine LS.vv rfl rfl (by decide) (Val.cast (v := .bool true) (Val.pickT rfl hg13 rfl) (by first | rfl | (exfalso; omega) | (refine congrArg Value.bool (decide_eq_true ?_); omega))) ?_
            refine LS.vv rfl rfl (by decide) (Val.assign rfl) ?_
            refine LS.nil ?_
            refine W.ret ?_
            refine thenP_ret ?_
            refine ret1 (by first | exact .inl rfl | exact .inr rfl) rfl ?_
            first | exact ⟨rfl, hB⟩ | (exfalso; omega)
          ·
            first | (have hg13p := of_decide_eq_false hg13) | skip
            refine LS.s rfl rfl rfl hg13 (by decide) ?_
            refine LS.s rfl rfl rfl hg13 (by decide) ?_
            refine LS.s rfl rfl rfl hg13 (by decide) ?_
            have hgn : g ≠ 0 := fun h => by have h9 := hg.1 h; have h8 := h9.1.2.2.1; omega
            refine LS.vv rfl rfl (by decide) (Val.cast (v := .bool true) (Val.pickF rfl hg13 rfl) (by first | rfl | (exfalso; omega) | (refine congrArg Value.bool (decide_eq_true ?_); omega))) ?_
            refine LS.vv rfl rfl (by decide) (Val.assign rfl) ?_
            refine LS.nil ?_
            refine W.ret ?_
            refine thenP_ret ?_
            refine ret1 (by first | exact .inl rfl | exact .inr rfl) rfl ?_
            first | exact ⟨rfl, hB⟩ | (exfalso; omega)
        ·
          first | (have hg12p := of_decide_eq_false hg12) | skip
          refine LS.vg rfl rfl rfl hg12 (by decide) (Val.move rfl) ?_
          refine LS.vg rfl rfl rfl hg12 (by decide) (Val.len Try.underlying32 rfl) ?_
          refine LS.vg rfl rfl rfl hg12 (by decide) (Val.gtr rfl rfl) ?_
          refine LS.vv rfl rfl (by decide) (Val.pickF rfl hg12 rfl) ?_
          refine LS.nil ?_
          first | refine W.condD rfl (fun hc14 => ?_) (fun hc14 => ?_) | refine W.cond rfl (fun hc14 => ?_) (fun hc14 => ?_)
          ·
            refine W.seqR ?_
            refine LS.vv rfl rfl (by decide) (Val.move rfl) ?_
            refine LS.vv rfl rfl (by decide) (Val.neq rfl rfl) ?_
            refine LS.vv rfl rfl (by decide) (Val.move rfl) ?_
            refine LS.split 2 rfl (fun hg15 => ?_) (fun hg15 => ?_)
            ·
              first | (have hg15p := of_decide_eq_true hg15) | skip
              refine LS.vg rfl rfl rfl hg15 (by decide) (Val.move rfl) ?_
              refine LS.vg rfl rfl rfl hg15 (by decide) (Val.len Try.underlying32 rfl) ?_
              refine LS.vg rfl rfl rfl hg15 (by decide) (Val.gtr rfl rfl) ?_
              have hgn : g ≠ 0 := fun h => by have h9 := hg.1 h; have h8 := h9.1.2.2.1; omega
              refine LS.vv rfl rfl (by decide) (Val.cast (v := .bool true) (Val.pickT rfl hg15 rfl) (by first | rfl | (exfalso; omega) | (refine congrArg Value.bool (decide_eq_true ?_); omega))) ?_
              refine LS.vv rfl rfl (by decide) (Val.assign rfl) ?_
              refine LS.nil ?_
              refine W.ret ?_
              refine thenP_ret ?_
              refine ret1 (by first | exact .inl rfl | exact .inr rfl) rfl ?_
              first | exact ⟨rfl, hB⟩ | (exfalso; omega)
            ·
              first | (have hg15p := of_decide_eq_false hg15) | skip
              refine LS.s rfl rfl rfl hg15 (by decide) ?_
              refine LS.s rfl rfl rfl hg15 (by decide) ?_
              refine LS.s rfl rfl rfl hg15 (by decide) ?_
              have hgn : g ≠ 0 := fun h => by have h9 := hg.1 h; have h8 := h9.1.2.2.1; omega
              refine LS.vv rfl rfl (by decide) (Val.cast (v := .bool true) (Val.pickF rfl hg15 rfl) (by first | rfl | (exfalso; omega) | (refine congrArg Value.bool (decide_eq_true ?_); omega))) ?_
              refine LS.vv rfl rfl (by decide) (Val.assign rfl) ?_
              refine LS.nil ?_
              refine W.ret ?_
              refine thenP_ret ?_
              refine ret1 (by first | exact .inl rfl | exact .inr rfl) rfl ?_
              first | exact ⟨rfl, hB⟩ | (exfalso; omega)
          ·
            refine W.skip ?_
            refine thenP_normal ?_
            refine W.seqR ?_
            refine LS.vv rfl rfl (by decide) (Val.move rfl) ?_
            refine LS.vv rfl rfl (by decide) (Val.assign rfl) ?_
            refine LS.nil ?_
            refine W.seq ?_
            refine W.seqR ?_
            refine LS.vv rfl rfl (by decide) (Val.move rfl) ?_
            refine LS.vv rfl rfl (by decide) (Val.len Try.underlying32 rfl) ?_
            refine LS.vv rfl rfl (by decide) (Val.cast (v := .int .i64 ((0 : Nat) : Int)) (Val.move rfl) rfl) ?_
            refine LS.nil ?_
            refine W.block ?_
            refine W.loop (α := Nat) (fun k => [(13, .int .i64 (fewTo mm L k : Int)), (85, .int .i64 (k : Int))]) [(11, _), (12, _), (83, _), (84, _)] (fun k w => (k ≤ L.length) ∧ Mem w w0.heap.size [⟨37, p2, L.length, c2, uv L⟩] ∧ Below w0.heap.size w0 w) (fun k => L.length - k) (0) (Sub.cons rfl (Sub.cons rfl (Sub.nil _))) (Sub.cons rfl (Sub.cons rfl (Sub.cons rfl (Sub.cons rfl (Sub.nil _))))) ?_ ?_
            · exact ⟨Nat.zero_le _, hM, hB⟩
            rintro k w10 ⟨hk, hM, hB⟩
            try simp only at hM
            simp only [List.cons_append, List.nil_append]
            refine W.seqR ?_
            refine LS.vv rfl rfl (by decide) (Val.lss rfl rfl) ?_
            refine LS.nil ?_
            refine W.seq ?_
            first | refine W.condD rfl (fun hc16 => ?_) (fun hc16 => ?_) | refine W.cond rfl (fun hc16 => ?_) (fun hc16 => ?_)
            ·
              have hlk := hLst.low (by omega) (i := k) (by omega)
              have hpl := popc_le hlk
              have hfs := fewTo_succ mm L k
              have hfl := fewTo_le mm L k
              have hfl1 := hfl.1
              clear hfl
              refine W.skip ?_
              refine thenP_normal ?_
              refine W.seq ?_
              refine W.block ?_
              refine W.seqR ?_
              refine LS.vv rfl rfl (by decide) (Val.index1 Try.underlying32 elem37 rfl rfl (by omega) (hM.o0.rd) (uv_lt (by omega))) ?_
              refine LS.m rfl (Step.load rfl rfl (by decide) flat37 rfl (hM.o0.rd) (uv_at (by omega)) ?_)
              refine LS.vv rfl rfl (by decide) (Val.assign rfl) ?_
              refine LS.nil ?_
              refine W.seqR ?_
              refine LS.vv rfl rfl (by decide) (Val.move rfl) ?_
              refine LS.vv rfl rfl (by decide) (Val.neq rfl rfl) ?_
              refine LS.vv rfl rfl (by decide) (Val.move rfl) ?_
              refine LS.split 2 rfl (fun hg17 => ?_) (fun hg17 => ?_)
              ·
                first | (have hg17p := of_decide_eq_true hg17) | skip
                refine LS.vg rfl rfl rfl hg17 (by decide) (Val.move rfl) ?_
                refine LS.mg rfl rfl hg17 (Step.call body17 rfl rfl (by decide) rfl (CallsV.mono (size_any (gn L k) _ (by omega)) ?_))
                rintro _ w11 ⟨rfl, hb11⟩
                replace hM := hM.below hb11
                replace hB := hB.trans (hb11.mono hB.size)
                refine LS.vg rfl rfl rfl hg17 (by decide) (Val.move rfl) ?_
                refine LS.vg rfl rfl rfl hg17 (by decide) (Val.lss rfl rfl) ?_
                refine LS.vv rfl rfl (by decide) (Val.pickT rfl hg17 rfl) ?_
                refine LS.nil ?_
                first | refine W.condD rfl (fun hc18 => ?_) (fun hc18 => ?_) | refine W.cond rfl (fun hc18 => ?_) (fun hc18 => ?_)
                ·
                  refine W.reg ?_
                  refine LS.vv rfl rfl (by decide) (Val.move rfl) ?_
                  refine LS.m rfl (Step.call body17 rfl rfl (by decide) rfl (CallsV.mono (size_any (gn L k) _ (by omega)) ?_))
                  rintro _ w12 ⟨rfl, hb12⟩
                  replace hM := hM.below hb12
                  replace hB := hB.trans (hb12.mono hB.size)
                  refine LS.vv rfl rfl (by decide) (Val.assign rfl) ?_
                  refine LS.nil ?_
                  refine inBlk_normal ?_
                  refine thenP_normal ?_
                  refine W.reg ?_
                  first | refine LS.vv rfl rfl (by decide) (Val.addN (j := 1) rfl rfl (by omega)) ?_ | refine LS.vv rfl rfl (by decide) (Val.add64 rfl rfl (by omega)) ?_
                  refine LS.vv rfl rfl (by decide) (Val.move rfl) ?_
                  refine LS.nil ?_
                  refine thenP_normal ?_
                  refine ⟨k + 1, ?_, ?_, ⟨by omega, hM, hB⟩, by omega⟩
                  · exact Sub.cons' rfl (by rw [hfs]; split <;> first | rfl | (exfalso; omega)) (Sub.cons rfl (Sub.nil _))
                  · repeat (first | exact Sub.nil _ | refine Sub.cons rfl ?_)
                ·
                  refine W.skip ?_
                  refine inBlk_normal ?_
                  refine thenP_normal ?_
                  refine W.reg ?_
                  first | refine LS.vv rfl rfl (by decide) (Val.addN (j := 1) rfl rfl (by omega)) ?_ | refine LS.vv rfl rfl (by decide) (Val.add64 rfl rfl (by omega)) ?_
                  refine LS.vv rfl rfl (by decide) (Val.move rfl) ?_
                  refine LS.nil ?_
                  refine thenP_normal ?_
                  refine ⟨k + 1, ?_, ?_, ⟨by omega, hM, hB⟩, by omega⟩
                  · exact Sub.cons' rfl (by rw [hfs]; split <;> first | rfl | (exfalso; omega)) (Sub.cons rfl (Sub.nil _))
                  · repeat (first | exact Sub.nil _ | refine Sub.cons rfl ?_)
              ·
                first | (have hg17p := of_decide_eq_false hg17) | skip
                refine LS.s rfl rfl rfl hg17 (by decide) ?_
                refine LS.s rfl rfl rfl hg17 (by decide) ?_
                refine LS.s rfl rfl rfl hg17 (by decide) ?_
                refine LS.s rfl rfl rfl hg17 (by decide) ?_
                refine LS.vv rfl rfl (by decide) (Val.pickF rfl hg17 rfl) ?_
                refine LS.nil ?_
                refine W.condF rfl ?_
                refine W.skip ?_
                refine inBlk_normal ?_
                refine thenP_normal ?_
                refine W.reg ?_
                first | refine LS.vv rfl rfl (by decide) (Val.addN (j := 1) rfl rfl (by omega)) ?_ | refine LS.vv rfl rfl (by decide) (Val.add64 rfl rfl (by omega)) ?_
                refine LS.vv rfl rfl (by decide) (Val.move rfl) ?_
                refine LS.nil ?_
                refine thenP_normal ?_
                refine ⟨k + 1, ?_, ?_, ⟨by omega, hM, hB⟩, by omega⟩
                · exact Sub.cons' rfl (by rw [hfs]; split <;> first | rfl | (exfalso; omega)) (Sub.cons rfl (Sub.nil _))
                · repeat (first | exact Sub.nil _ | refine Sub.cons rfl ?_)
            ·
              obtain rfl : k = L.length := by omega
              refine W.exit ?_
              refine thenP_exit ?_
              refine thenP_exit ?_
              refine inBlk_exit ?_
              refine thenP_normal ?_
              refine W.seqR ?_
              refine LS.vv rfl rfl (by decide) (Val.move rfl) ?_
              have hg0 : g = 0 := hg.2 ⟨hLst.okB (by omega) (by omega), by omega⟩
              obtain ⟨hgd1, hgd2⟩ := hgd hg0
              rw [Int.toNat_natCast] at hgd2
              have hgd3 := hLst.le (by omega) hgd2
              refine LS.vv rfl rfl (by decide) (Val.cast (v := .bool true) (Val.eql rfl rfl) (by first | rfl | (exfalso; omega) | (refine congrArg Value.bool (decide_eq_true ?_); omega))) ?_
              refine LS.vv rfl rfl (by decide) (Val.move rfl) ?_
              refine LS.vg rfl rfl rfl rfl (by decide) (Val.move rfl) ?_
              refine LS.vg rfl rfl rfl rfl (by decide) (Val.move rfl) ?_
              refine LS.vg rfl rfl rfl rfl (by decide) (Val.cast (v := .bool true) (Val.eql rfl rfl) (by first | rfl | (exfalso; omega) | (refine congrArg Value.bool (decide_eq_true ?_); omega))) ?_
              refine LS.vv rfl rfl (by decide) (Val.cast (v := .bool true) (Val.pickT rfl rfl rfl) (by first | rfl | (exfalso; omega) | (refine congrArg Value.bool (decide_eq_true ?_); omega))) ?_
              refine LS.vv rfl rfl (by decide) (Val.assign rfl) ?_
              refine LS.nil ?_
              refine W.ret ?_
              refine ret1 (by first | exact .inl rfl | exact .inr rfl) rfl ?_
              first | exact ⟨rfl, hB⟩ | (exfalso; omega)
    ·
      first | (have hg3p := of_decide_eq_false hg3) | skip
      refine LS.vg rfl rfl rfl hg3 (by decide) (Val.move rfl) ?_
      refine LS.vg rfl rfl rfl hg3 (by decide) (Val.eql rfl rfl) ?_
      refine LS.vg rfl rfl rfl hg3 (by decide) (Val.move rfl) ?_
      refine LS.vg rfl rfl rfl hg3 (by decide) (Val.len Try.underlying22 rfl) ?_
      refine LS.vg rfl rfl rfl hg3 (by decide) (Val.move rfl) ?_
      refine LS.vg rfl rfl rfl hg3 (by decide) (Val.len Try.underlying32 rfl) ?_
      refine LS.vg rfl rfl rfl hg3 (by decide) (Val.eql rfl rfl) ?_
      refine LS.vg rfl rfl rfl hg3 (by decide) (Val.cast (v := .bool false) (Val.neqB Try.underlying4 rfl rfl) (by refine congrArg Value.bool (decide_eq_false fun h => h (decide_eq_decide.2 ?_)); omega)) ?_
      refine LS.vv rfl rfl (by decide) (Val.cast (v := .bool false) (Val.pickF rfl hg3 rfl) (by first | rfl | (exfalso; omega) | (refine congrArg Value.bool (decide_eq_false ?_); omega))) ?_
      refine LS.vv rfl rfl (by decide) (Val.move rfl) ?_
      refine LS.vg rfl rfl rfl rfl (by decide) (Val.move rfl) ?_
      refine LS.vg rfl rfl rfl rfl (by decide) (Val.eql rfl rfl) ?_
      refine LS.vg rfl rfl rfl rfl (by decide) (Val.move rfl) ?_
      refine LS.split 15 rfl (fun hg19 => ?_) (fun hg19 => ?_)
      ·
        first | (have hg19p := of_decide_eq_true hg19) | skip
        refine LS.vg rfl rfl rfl hg19 (by decide) (Val.move rfl) ?_
        refine LS.vg rfl rfl rfl hg19 (by decide) (Val.move rfl) ?_
        refine LS.mg rfl rfl hg19 (Step.call body22 rfl rfl (by decide) rfl (CallsV.mono (in_any cs _ _ x mm _ (hr.below hB) hl hcs hok.2 (by omega) hcm) ?_))
        rintro _ w13 ⟨bi, rfl, hbi, hb13⟩
        replace hM := hM.below hb13
        replace hB := hB.trans (hb13.mono hB.size)
        have hbt : bi = true := hbi.2 (by rw [hx (by omega)]; exact hI.sumD_mem ds cs.length (Nat.le_refl _))
        subst hbt
        refine LS.vg rfl rfl rfl hg19 (by decide) (Val.not rfl) ?_
        refine LS.vg rfl rfl rfl rfl (by decide) (Val.cast (v := .bool false) (Val.pickT rfl hg19 rfl) (by first | rfl | (exfalso; omega) | (refine congrArg Value.bool (decide_eq_false ?_); omega))) ?_
        refine LS.vv rfl rfl (by decide) (Val.cast (v := .bool false) (Val.pickF rfl rfl rfl) (by first | rfl | (exfalso; omega) | (refine congrArg Value.bool (decide_eq_false ?_); omega))) ?_
        refine LS.nil ?_
        refine W.condF rfl ?_
        refine W.skip ?_
        refine thenP_normal ?_
        refine W.seqR ?_
        refine LS.vv rfl rfl (by decide) (Val.move rfl) ?_
        refine LS.vv rfl rfl (by decide) (Val.move rfl) ?_
        refine LS.m rfl (Step.call body24 rfl rfl (by decide) rfl (CallsV.mono (least3_any (mm : Int) L _ _ (fewTo mm L L.length) _ hM.o0.rd hM.o0.le_cap (by omega) hL32 (by have := (fewTo_le mm L L.length).1; omega) (hLst.diff (by omega))) ?_))
        rintro _ w14 ⟨dd, g, rfl, hg, hgd, hb14⟩
        replace hM := hM.below hb14
        replace hB := hB.trans (hb14.mono hB.size)
        refine LS.vv rfl rfl (by decide) (Val.move rfl) ?_
        refine LS.vv rfl rfl (by decide) (Val.extract rfl rfl) ?_
        refine LS.vv rfl rfl (by decide) (Val.extract rfl rfl) ?_
        refine LS.vv rfl rfl (by decide) (Val.assign rfl) ?_
        refine LS.vv rfl rfl (by decide) (Val.assign rfl) ?_
        refine LS.nil ?_
        refine W.seq ?_
        refine W.seqR ?_
        refine LS.vv rfl rfl (by decide) (Val.move rfl) ?_
        refine LS.vv rfl rfl (by decide) (Val.len Try.underlying32 rfl) ?_
        refine LS.vv rfl rfl (by decide) (Val.lss rfl rfl) ?_
        refine LS.vv rfl rfl (by decide) (Val.move rfl) ?_
        refine LS.split 3 rfl (fun hg20 => ?_) (fun hg20 => ?_)
        ·
          first | (have hg20p := of_decide_eq_true hg20) | skip
          refine LS.s rfl rfl rfl hg20 (by decide) ?_
          refine LS.s rfl rfl rfl hg20 (by decide) ?_
          refine LS.s rfl rfl rfl hg20 (by decide) ?_
          refine LS.vv rfl rfl (by decide) (Val.pickT rfl hg20 rfl) ?_
          refine LS.nil ?_
          refine W.condT rfl ?_
          refine W.seqR ?_
          refine LS.vv rfl rfl (by decide) (Val.move rfl) ?_
          refine LS.vv rfl rfl (by decide) (Val.neq rfl rfl) ?_
          refine LS.vv rfl rfl (by decide) (Val.move rfl) ?_
          refine LS.split 2 rfl (fun hg21 => ?_) (fun hg21 => ?_)
          ·
            first | (have hg21p := of_decide_eq_true hg21) | skip
            refine LS.vg rfl rfl rfl hg21 (by decide) (Val.move rfl) ?_
            refine LS.vg rfl rfl rfl hg21 (by decide) (Val.len Try.underlying32 rfl) ?_
            refine LS.vg rfl rfl rfl hg21 (by decide) (Val.gtr rfl rfl) ?_
            have hgn : g ≠ 0 := fun h => by have h9 := hg.1 h; have h8 := h9.1.2.2.1; omega
            refine LS.vv rfl rfl (by decide) (Val.cast (v := .bool true) (Val.pickT rfl hg21 rfl) (by first | rfl | (exfalso; omega) | (refine congrArg Value.bool (decide_eq_true ?_); omega))) ?_
            refine LS.vv rfl rfl (by decide) (Val.assign rfl) ?_
            refine LS.nil ?_
            refine W.ret ?_
            refine thenP_ret ?_
            refine ret1 (by first | exact .inl rfl | exact .inr rfl) rfl ?_
            first | exact ⟨rfl, hB⟩ | (exfalso; omega)
          ·
            first | (have hg21p := of_decide_eq_false hg21) | skip
            refine LS.s rfl rfl rfl hg21 (by decide) ?_
            refine LS.s rfl rfl rfl hg21 (by decide) ?_
            refine LS.s rfl rfl rfl hg21 (by decide) ?_
            have hgn : g ≠ 0 := fun h => by have h9 := hg.1 h; have h8 := h9.1.2.2.1; omega
            refine LS.vv rfl rfl (by decide) (Val.cast (v := .bool true) (Val.pickF rfl hg21 rfl) (by first | rfl | (exfalso; omega) | (refine congrArg Value.bool (decide_eq_true ?_); omega))) ?_
            refine LS.vv rfl rfl (by decide) (Val.assign rfl) ?_
            refine LS.nil ?_
            refine W.ret ?_
            refine thenP_ret ?_
            refine ret1 (by first | exact .inl rfl | exact .inr rfl) rfl ?_
            first | exact ⟨rfl, hB⟩ | (exfalso; omega)
        ·
          first | (have hg20p := of_decide_eq_false hg20) | skip
          refine LS.vg rfl rfl rfl hg20 (by decide) (Val.move rfl) ?_
          refine LS.vg rfl rfl rfl hg20 (by decide) (Val.len Try.underlying32 rfl) ?_
          refine LS.vg rfl rfl rfl hg20 (by decide) (Val.gtr rfl rfl) ?_
          refine LS.vv rfl rfl (by decide) (Val.pickF rfl hg20 rfl) ?_
          refine LS.nil ?_
          first | refine W.condD rfl (fun hc22 => ?_) (fun hc22 => ?_) | refine W.cond rfl (fun hc22 => ?_) (fun hc22 => ?_)
          ·
            refine W.seqR ?_
            refine LS.vv rfl rfl (by decide) (Val.move rfl) ?_
            refine LS.vv rfl rfl (by decide) (Val.neq rfl rfl) ?_
            refine LS.vv rfl rfl (by decide) (Val.move rfl) ?_
            refine LS.split 2 rfl (fun hg23 => ?_) (fun hg23 => ?_)
            ·
              first | (have hg23p := of_decide_eq_true hg23) | skip
              refine LS.vg rfl rfl rfl hg23 (by decide) (Val.move rfl) ?_
              refine LS.vg rfl rfl rfl hg23 (by decide) (Val.len Try.underlying32 rfl) ?_
              refine LS.vg rfl rfl rfl hg23 (by decide) (Val.gtr rfl rfl) ?_
              have hgn : g ≠ 0 := fun h => by have h9 := hg.1 h; have h8 := h9.1.2.2.1; omega
              refine LS.vv rfl rfl (by decide) (Val.cast (v := .bool true) (Val.pickT rfl hg23 rfl) (by first | rfl | (exfalso; omega) | (refine congrArg Value.bool (decide_eq_true ?_); omega))) ?_
              refine LS.vv rfl rfl (by decide) (Val.assign rfl) ?_
              refine LS.nil ?_
              refine W.ret ?_
              refine thenP_ret ?_
              refine ret1 (by first | exact .inl rfl | exact .inr rfl) rfl ?_
              first | exact ⟨rfl, hB⟩ | (exfalso; omega)
            ·
              first | (have hg23p := of_decide_eq_false hg23) | skip
              refine LS.s rfl rfl rfl hg23 (by decide) ?_
              refine LS.s rfl rfl rfl hg23 (by decide) ?_
              refine LS.s rfl rfl rfl hg23 (by decide) ?_
              have hgn : g ≠ 0 := fun h => by have h9 := hg.1 h; have h8 := h9.1.2.2.1; omega
              refine LS.vv rfl rfl (by decide) (Val.cast (v := .bool true) (Val.pickF rfl hg23 rfl) (by first | rfl | (exfalso; omega) | (refine congrArg Value.bool (decide_eq_true ?_); omega))) ?_
              refine LS.vv rfl rfl (by decide) (Val.assign rfl) ?_
              refine LS.nil ?_
              refine W.ret ?_
              refine thenP_ret ?_
              refine ret1 (by first | exact .inl rfl | exact .inr rfl) rfl ?_
              first | exact ⟨rfl, hB⟩ | (exfalso; omega)
          ·
            refine W.skip ?_
            refine thenP_normal ?_
            refine W.seqR ?_
            refine LS.vv rfl rfl (by decide) (Val.move rfl) ?_
            refine LS.vv rfl rfl (by decide) (Val.assign rfl) ?_
            refine LS.nil ?_
            refine W.seq ?_
            refine W.seqR ?_
            refine LS.vv rfl rfl (by decide) (Val.move rfl) ?_
            refine LS.vv rfl rfl (by decide) (Val.len Try.underlying32 rfl) ?_
            refine LS.vv rfl rfl (by decide) (Val.cast (v := .int .i64 ((0 : Nat) : Int)) (Val.move rfl) rfl) ?_
            refine LS.nil ?_
            refine W.block ?_
            refine W.loop (α := Nat) (fun k => [(13, .int .i64 (fewTo mm L k : Int)), (85, .int .i64 (k : Int))]) [(11, _), (12, _), (83, _), (84, _)] (fun k w => (k ≤ L.length) ∧ Mem w w0.heap.size [⟨37, p2, L.length, c2, uv L⟩] ∧ Below w0.heap.size w0 w) (fun k => L.length - k) (0) (Sub.cons rfl (Sub.cons rfl (Sub.nil _))) (Sub.cons rfl (Sub.cons rfl (Sub.cons rfl (Sub.cons rfl (Sub.nil _))))) ?_ ?_
            · exact ⟨Nat.zero_le _, hM, hB⟩
            rintro k w15 ⟨hk, hM, hB⟩
            try simp only at hM
            simp only [List.cons_append, List.nil_append]
            refine W.seqR ?_
            refine LS.vv rfl rfl (by decide) (Val.lss rfl rfl) ?_
            refine LS.nil ?_
            refine W.seq ?_
            first | refine W.condD rfl (fun hc24 => ?_) (fun hc24 => ?_) | refine W.cond rfl (fun hc24 => ?_) (fun hc24 => ?_)
            ·
              have hlk := hLst.low (by omega) (i := k) (by omega)
              have hpl := popc_le hlk
              have hfs := fewTo_succ mm L k
              have hfl := fewTo_le mm L k
              have hfl1 := hfl.1
              clear hfl
              refine W.skip ?_
              refine thenP_normal ?_
              refine W.seq ?_
              refine W.block ?_
              refine W.seqR ?_
              refine LS.vv rfl rfl (by decide) (Val.index1 Try.underlying32 elem37 rfl rfl (by omega) (hM.o0.rd) (uv_lt (by omega))) ?_
              refine LS.m rfl (Step.load rfl rfl (by decide) flat37 rfl (hM.o0.rd) (uv_at (by omega)) ?_)
              refine LS.vv rfl rfl (by decide) (Val.assign rfl) ?_
              refine LS.nil ?_
              refine W.seqR ?_
              refine LS.vv rfl rfl (by decide) (Val.move rfl) ?_
              refine LS.vv rfl rfl (by decide) (Val.neq rfl rfl) ?_
              refine LS.vv rfl rfl (by decide) (Val.move rfl) ?_
              refine LS.split 2 rfl (fun hg25 => ?_) (fun hg25 => ?_)
              ·
                first | (have hg25p := of_decide_eq_true hg25) | skip
                refine LS.vg rfl rfl rfl hg25 (by decide) (Val.move rfl) ?_
                refine LS.mg rfl rfl hg25 (Step.call body17 rfl rfl (by decide) rfl (CallsV.mono (size_any (gn L k) _ (by omega)) ?_))
                rintro _ w16 ⟨rfl, hb16⟩
                replace hM := hM.below hb16
                replace hB := hB.trans (hb16.mono hB.size)
                refine LS.vg rfl rfl rfl hg25 (by decide) (Val.move rfl) ?_
                refine LS.vg rfl rfl rfl hg25 (by decide) (Val.lss rfl rfl) ?_
                refine LS.vv rfl rfl (by decide) (Val.pickT rfl hg25 rfl) ?_
                refine LS.nil ?_
                first | refine W.condD rfl (fun hc26 => ?_) (fun hc26 => ?_) | refine W.cond rfl (fun hc26 => ?_) (fun hc26 => ?_)
                ·
                  refine W.reg ?_
                  refine LS.vv rfl rfl (by decide) (Val.move rfl) ?_
                  refine LS.m rfl (Step.call body17 rfl rfl (by decide) rfl (CallsV.mono (size_any (gn L k) _ (by omega)) ?_))
                  rintro _ w17 ⟨rfl, hb17⟩
                  replace hM := hM.below hb17
                  replace hB := hB.trans (hb17.mono hB.size)
                  refine LS.vv rfl rfl (by decide) (Val.assign rfl) ?_
                  refine LS.nil ?_
                  refine inBlk_normal ?_
                  refine thenP_normal ?_
                  refine W.reg ?_
                  first | refine LS.vv rfl rfl (by decide) (Val.addN (j := 1) rfl rfl (by omega)) ?_ | refine LS.vv rfl rfl (by decide) (Val.add64 rfl rfl (by omega)) ?_
                  refine LS.vv rfl rfl (by decide) (Val.move rfl) ?_
                  refine LS.nil ?_
                  refine thenP_normal ?_
                  refine ⟨k + 1, ?_, ?_, ⟨by omega, hM, hB⟩, by omega⟩
                  · exact Sub.cons' rfl (by rw [hfs]; split <;> first | rfl | (exfalso; omega)) (Sub.cons rfl (Sub.nil _))
                  · repeat (first | exact Sub.nil _ | refine Sub.cons rfl ?_)
                ·
                  refine W.skip ?_
                  refine inBlk_normal ?_
                  refine thenP_normal ?_
                  refine W.reg ?_
                  first | refine LS.vv rfl rfl (by decide) (Val.addN (j := 1) rfl rfl (by omega)) ?_ | refine LS.vv rfl rfl (by decide) (Val.add64 rfl rfl (by omega)) ?_
                  refine LS.vv rfl rfl (by decide) (Val.move rfl) ?_
                  refine LS.nil ?_
                  refine thenP_normal ?_
                  refine ⟨k + 1, ?_, ?_, ⟨by omega, hM, hB⟩, by omega⟩
                  · exact Sub.cons' rfl (by rw [hfs]; split <;> first | rfl | (exfalso; omega)) (Sub.cons rfl (Sub.nil _))
                  · repeat (first | exact Sub.nil _ | refine Sub.cons rfl ?_)
              ·
                first | (have hg25p := of_decide_eq_false hg25) | skip
                refine LS.s rfl rfl rfl hg25 (by decide) ?_
                refine LS.s rfl rfl rfl hg25 (by decide) ?_
                refine LS.s rfl rfl rfl hg25 (by decide) ?_
                refine LS.s rfl rfl rfl hg25 (by decide) ?_
                refine LS.vv rfl rfl (by decide) (Val.pickF rfl hg25 rfl) ?_
                refine LS.nil ?_
                refine W.condF rfl ?_
                refine W.skip ?_
                refine inBlk_normal ?_
                refine thenP_normal ?_
                refine W.reg ?_
                first | refine LS.vv rfl rfl (by decide) (Val.addN (j := 1) rfl rfl (by omega)) ?_ | refine LS.vv rfl rfl (by decide) (Val.add64 rfl rfl (by omega)) ?_
                refine LS.vv rfl rfl (by decide) (Val.move rfl) ?_
                refine LS.nil ?_
                refine thenP_normal ?_
                refine ⟨k + 1, ?_, ?_, ⟨by omega, hM, hB⟩, by omega⟩
                · exact Sub.cons' rfl (by rw [hfs]; split <;> first | rfl | (exfalso; omega)) (Sub.cons rfl (Sub.nil _))
                · repeat (first | exact Sub.nil _ | refine Sub.cons rfl ?_)
            ·
              obtain rfl : k = L.length := by omega
              refine W.exit ?_
              refine thenP_exit ?_
              refine thenP_exit ?_
              refine inBlk_exit ?_
              refine thenP_normal ?_
              refine W.seqR ?_
              refine LS.vv rfl rfl (by decide) (Val.move rfl) ?_
              have hg0 : g = 0 := hg.2 ⟨hLst.okB (by omega) (by omega), by omega⟩
              obtain ⟨hgd1, hgd2⟩ := hgd hg0
              rw [Int.toNat_natCast] at hgd2
              have hgd3 := hLst.le (by omega) hgd2
              refine LS.vv rfl rfl (by decide) (Val.cast (v := .bool true) (Val.eql rfl rfl) (by first | rfl | (exfalso; omega) | (refine congrArg Value.bool (decide_eq_true ?_); omega))) ?_
              refine LS.vv rfl rfl (by decide) (Val.move rfl) ?_
              refine LS.vg rfl rfl rfl rfl (by decide) (Val.move rfl) ?_
              refine LS.vg rfl rfl rfl rfl (by decide) (Val.move rfl) ?_
              refine LS.vg rfl rfl rfl rfl (by decide) (Val.cast (v := .bool true) (Val.eql rfl rfl) (by first | rfl | (exfalso; omega) | (refine congrArg Value.bool (decide_eq_true ?_); omega))) ?_
              refine LS.vv rfl rfl (by decide) (Val.cast (v := .bool true) (Val.pickT rfl rfl rfl) (by first | rfl | (exfalso; omega) | (refine congrArg Value.bool (decide_eq_true ?_); omega))) ?_
              refine LS.vv rfl rfl (by decide) (Val.assign rfl) ?_
              refine LS.nil ?_
              refine W.ret ?_
              refine ret1 (by first | exact .inl rfl | exact .inr rfl) rfl ?_
              first | exact ⟨rfl, hB⟩ | (exfalso; omega)
      ·
        first | (have hg19p := of_decide_eq_false hg19) | skip
        refine LS.s rfl rfl rfl hg19 (by decide) ?_
        refine LS.s rfl rfl rfl hg19 (by decide) ?_
        refine LS.s rfl rfl rfl hg19 (by decide) ?_
        refine LS.s rfl rfl rfl hg19 (by decide) ?_
        refine LS.vg rfl rfl rfl rfl (by decide) (Val.cast (v := .bool false) (Val.pickF rfl hg19 rfl) (by first | rfl | (exfalso; omega) | (refine congrArg Value.bool (decide_eq_false ?_); omega))) ?_
        refine LS.vv rfl rfl (by decide) (Val.cast (v := .bool false) (Val.pickF rfl rfl rfl) (by first | rfl | (exfalso; omega) | (refine congrArg Value.bool (decide_eq_false ?_); omega))) ?_
        refine LS.nil ?_
        refine W.condF rfl ?_
        refine W.skip ?_
        refine thenP_normal ?_
        refine W.seqR ?_
        refine LS.vv rfl rfl (by decide) (Val.move rfl) ?_
        refine LS.vv rfl rfl (by decide) (Val.move rfl) ?_
        refine LS.m rfl (Step.call body24 rfl rfl (by decide) rfl (CallsV.mono (least3_any (mm : Int) L _ _ (fewTo mm L L.length) _ hM.o0.rd hM.o0.le_cap (by omega) hL32 (by have := (fewTo_le mm L L.length).1; omega) (hLst.diff (by omega))) ?_))
        rintro _ w18 ⟨dd, g, rfl, hg, hgd, hb18⟩
        replace hM := hM.below hb18
        replace hB := hB.trans (hb18.mono hB.size)
        refine LS.vv rfl rfl (by decide) (Val.move rfl) ?_
        refine LS.vv rfl rfl (by decide) (Val.extract rfl rfl) ?_
        refine LS.vv rfl rfl (by decide) (Val.extract rfl rfl) ?_
        refine LS.vv rfl rfl (by decide) (Val.assign rfl) ?_
        refine LS.vv rfl rfl (by decide) (Val.assign rfl) ?_
        refine LS.nil ?_
        refine W.seq ?_
        refine W.seqR ?_
        refine LS.vv rfl rfl (by decide) (Val.move rfl) ?_
        refine LS.vv rfl rfl (by decide) (Val.len Try.underlying32 rfl) ?_
        refine LS.vv rfl rfl (by decide) (Val.lss rfl rfl) ?_
        refine LS.vv rfl rfl (by decide) (Val.move rfl) ?_
        refine LS.split 3 rfl (fun hg27 => ?_) (fun hg27 => ?_)
        ·
          first | (have hg27p := of_decide_eq_true hg27) | skip
          refine LS.s rfl rfl rfl hg27 (by decide) ?_
          refine LS.s rfl rfl rfl hg27 (by decide) ?_
          refine LS.s rfl rfl rfl hg27 (by decide) ?_
          refine LS.vv rfl rfl (by decide) (Val.pickT rfl hg27 rfl) ?_
          refine LS.nil ?_
          refine W.condT rfl ?_
          refine W.seqR ?_
          refine LS.vv rfl rfl (by decide) (Val.move rfl) ?_
          refine LS.vv rfl rfl (by decide) (Val.neq rfl rfl) ?_
          refine LS.vv rfl rfl (by decide) (Val.move rfl) ?_
          refine LS.split 2 rfl (fun hg28 => ?_) (fun hg28 => ?_)
          ·
            first | (have hg28p := of_decide_eq_true hg28) | skip
            refine LS.vg rfl rfl rfl hg28 (by decide) (Val.move rfl) ?_
            refine LS.vg rfl rfl rfl hg28 (by decide) (Val.len Try.underlying32 rfl) ?_
            refine LS.vg rfl rfl rfl hg28 (by decide) (Val.gtr rfl rfl) ?_
            have hgn : g ≠ 0 := fun h => by have h9 := hg.1 h; have h8 := h9.1.2.2.1; omega
            refine LS.vv rfl rfl (by decide) (Val.cast (v := .bool true) (Val.pickT rfl hg28 rfl) (by first | rfl | (exfalso; omega) | (refine congrArg Value.bool (decide_eq_true ?_); omega))) ?_
            refine LS.vv rfl rfl (by decide) (Val.assign rfl) ?_
            refine LS.nil ?_
            refine W.ret ?_
            refine thenP_ret ?_
            refine ret1 (by first | exact .inl rfl | exact .inr rfl) rfl ?_
            first | exact ⟨rfl, hB⟩ | (exfalso; omega)
          ·
            first | (have hg28p := of_decide_eq_false hg28) | skip
            refine LS.s rfl rfl rfl hg28 (by decide) ?_
            refine LS.s rfl rfl rfl hg28 (by decide) ?_
            refine LS.s rfl rfl rfl hg28 (by decide) ?_
            have hgn : g ≠ 0 := fun h => by have h9 := hg.1 h; have h8 := h9.1.2.2.1; omega
            refine LS.vv rfl rfl (by decide) (Val.cast (v := .bool true) (Val.pickF rfl hg28 rfl) (by first | rfl | (exfalso; omega) | (refine congrArg Value.bool (decide_eq_true ?_); omega))) ?_
            refine LS.vv rfl rfl (by decide) (Val.assign rfl) ?_
            refine LS.nil ?_
            refine W.ret ?_
            refine thenP_ret ?_
            refine ret1 (by first | exact .inl rfl | exact .inr rfl) rfl ?_
            first | exact ⟨rfl, hB⟩ | (exfalso; omega)
        ·
          first | (have hg27p := of_decide_eq_false hg27) | skip
          refine LS.vg rfl rfl rfl hg27 (by decide) (Val.move rfl) ?_
          refine LS.vg rfl rfl rfl hg27 (by decide) (Val.len Try.underlying32 rfl) ?_
          refine LS.vg rfl rfl rfl hg27 (by decide) (Val.gtr rfl rfl) ?_
          refine LS.vv rfl rfl (by decide) (Val.pickF rfl hg27 rfl) ?_
          refine LS.nil ?_
          first | refine W.condD rfl (fun hc29 => ?_) (fun hc29 => ?_) | refine W.cond rfl (fun hc29 => ?_) (fun hc29 => ?_)
          ·
            refine W.seqR ?_
            refine LS.vv rfl rfl (by decide) (Val.move rfl) ?_
            refine LS.vv rfl rfl (by decide) (Val.neq rfl rfl) ?_
            refine LS.vv rfl rfl (by decide) (Val.move rfl) ?_
            refine LS.split 2 rfl (fun hg30 => ?_) (fun hg30 => ?_)
            ·
              first | (have hg30p := of_decide_eq_true hg30) | skip
              refine LS.vg rfl rfl rfl hg30 (by decide) (Val.move rfl) ?_
              refine LS.vg rfl rfl rfl hg30 (by decide) (Val.len Try.underlying32 rfl) ?_
              refine LS.vg rfl rfl rfl hg30 (by decide) (Val.gtr rfl rfl) ?_
              have hgn : g ≠ 0 := fun h => by have h9 := hg.1 h; have h8 := h9.1.2.2.1; omega
              refine LS.vv rfl rfl (by decide) (Val.cast (v := .bool true) (Val.pickT rfl hg30 rfl) (by first | rfl | (exfalso; omega) | (refine congrArg Value.bool (decide_eq_true ?_); omega))) ?_
              refine LS.vv rfl rfl (by decide) (Val.assign rfl) ?_
              refine LS.nil ?_
              refine W.ret ?_
              refine thenP_ret ?_
              refine ret1 (by first | exact .inl rfl | exact .inr rfl) rfl ?_
              first | exact ⟨rfl, hB⟩ | (exfalso; omega)
            ·
              first | (have hg30p := of_decide_eq_false hg30) | skip
              refine LS.s rfl rfl rfl hg30 (by decide) ?_
              refine LS.s rfl rfl rfl hg30 (by decide) ?_
              refine LS.s rfl rfl rfl hg30 (by decide) ?_
              have hgn : g ≠ 0 := fun h => by have h9 := hg.1 h; have h8 := h9.1.2.2.1; omega
              refine LS.vv rfl rfl (by decide) (Val.cast (v := .bool true) (Val.pickF rfl hg30 rfl) (by first | rfl | (exfalso; omega) | (refine congrArg Value.bool (decide_eq_true ?_); omega))) ?_
              refine LS.vv rfl rfl (by decide) (Val.assign rfl) ?_
              refine LS.nil ?_
              refine W.ret ?_
              refine thenP_ret ?_
              refine ret1 (by first | exact .inl rfl | exact .inr rfl) rfl ?_
              first | exact ⟨rfl, hB⟩ | (exfalso; omega)
          ·
            refine W.skip ?_
            refine thenP_normal ?_
            refine W.seqR ?_
            refine LS.vv rfl rfl (by decide) (Val.move rfl) ?_
            refine LS.vv rfl rfl (by decide) (Val.assign rfl) ?_
            refine LS.nil ?_
            refine W.seq ?_
            refine W.seqR ?_
            refine LS.vv rfl rfl (by decide) (Val.move rfl) ?_
            refine LS.vv rfl rfl (by decide) (Val.len Try.underlying32 rfl) ?_
            refine LS.vv rfl rfl (by decide) (Val.cast (v := .int .i64 ((0 : Nat) : Int)) (Val.move rfl) rfl) ?_
            refine LS.nil ?_
            refine W.block ?_
            refine W.loop (α := Nat) (fun k => [(13, .int .i64 (fewTo mm L k : Int)), (85, .int .i64 (k : Int))]) [(11, _), (12, _), (83, _), (84, _)] (fun k w => (k ≤ L.length) ∧ Mem w w0.heap.size [⟨37, p2, L.length, c2, uv L⟩] ∧ Below w0.heap.size w0 w) (fun k => L.length - k) (0) (Sub.cons rfl (Sub.cons rfl (Sub.nil _))) (Sub.cons rfl (Sub.cons rfl (Sub.cons rfl (Sub.cons rfl (Sub.nil _))))) ?_ ?_
            · exact ⟨Nat.zero_le _, hM, hB⟩
            rintro k w19 ⟨hk, hM, hB⟩
            try simp only at hM
            simp only [List.cons_append, List.nil_append]
            refine W.seqR ?_
            refine LS.vv rfl rfl (by decide) (Val.lss rfl rfl) ?_
            refine LS.nil ?_
            refine W.seq ?_
            first | refine W.condD rfl (fun hc31 => ?_) (fun hc31 => ?_) | refine W.cond rfl (fun hc31 => ?_) (fun hc31 => ?_)
            ·
              have hlk := hLst.low (by omega) (i := k) (by omega)
              have hpl := popc_le hlk
              have hfs := fewTo_succ mm L k
              have hfl := fewTo_le mm L k
              have hfl1 := hfl.1
              clear hfl
              refine W.skip ?_
              refine thenP_normal ?_
              refine W.seq ?_
              refine W.block ?_
              refine W.seqR ?_
              refine LS.vv rfl rfl (by decide) (Val.index1 Try.underlying32 elem37 rfl rfl (by omega) (hM.o0.rd) (uv_lt (by omega))) ?_
              refine LS.m rfl (Step.load rfl rfl (by decide) flat37 rfl (hM.o0.rd) (uv_at (by omega)) ?_)
              refine LS.vv rfl rfl (by decide) (Val.assign rfl) ?_
              refine LS.nil ?_
              refine W.seqR ?_
              refine LS.vv rfl rfl (by decide) (Val.move rfl) ?_
              refine LS.vv rfl rfl (by decide) (Val.neq rfl rfl) ?_
              refine LS.vv rfl rfl (by decide) (Val.move rfl) ?_
              refine LS.split 2 rfl (fun hg32 => ?_) (fun hg32 => ?_)
              ·
                first | (have hg32p := of_decide_eq_true hg32) | skip
                refine LS.vg rfl rfl rfl hg32 (by decide) (Val.move rfl) ?_
                refine LS.mg rfl rfl hg32 (Step.call body17 rfl rfl (by decide) rfl (CallsV.mono (size_any (gn L k) _ (by omega)) ?_))
                rintro _ w20 ⟨rfl, hb20⟩
                replace hM := hM.below hb20
                replace hB := hB.trans (hb20.mono hB.size)
                refine LS.vg rfl rfl rfl hg32 (by decide) (Val.move rfl) ?_
                refine LS.vg rfl rfl rfl hg32 (by decide) (Val.lss rfl rfl) ?_
                refine LS.vv rfl rfl (by decide) (Val.pickT rfl hg32 rfl) ?_
                refine LS.nil ?_
                first | refine W.condD rfl (fun hc33 => ?_) (fun hc33 => ?_) | refine W.cond rfl (fun hc33 => ?_) (fun hc33 => ?_)
                ·
                  refine W.reg ?_
                  refine LS.vv rfl rfl (by decide) (Val.move rfl) ?_
                  refine LS.m rfl (Step.call body17 rfl rfl (by decide) rfl (CallsV.mono (size_any (gn L k) _ (by omega)) ?_))
                  rintro _ w21 ⟨rfl, hb21⟩
                  replace hM := hM.below hb21
                  replace hB := hB.trans (hb21.mono hB.size)
                  refine LS.vv rfl rfl (by decide) (Val.assign rfl) ?_
                  refine LS.nil ?_
                  refine inBlk_normal ?_
                  refine thenP_normal ?_
                  refine W.reg ?_
                  first | refine LS.vv rfl rfl (by decide) (Val.addN (j := 1) rfl rfl (by omega)) ?_ | refine LS.vv rfl rfl (by decide) (Val.add64 rfl rfl (by omega)) ?_
                  refine LS.vv rfl rfl (by decide) (Val.move rfl) ?_
                  refine LS.nil ?_
                  refine thenP_normal ?_
                  refine ⟨k + 1, ?_, ?_, ⟨by omega, hM, hB⟩, by omega⟩
                  · exact Sub.cons' rfl (by rw [hfs]; split <;> first | rfl | (exfalso; omega)) (Sub.cons rfl (Sub.nil _))
                  · repeat (first | exact Sub.nil _ | refine Sub.cons rfl ?_)
                ·
                  refine W.skip ?_
                  refine inBlk_normal ?_
                  refine thenP_normal ?_
                  refine W.reg ?_
                  first | refine LS.vv rfl rfl (by decide) (Val.addN (j := 1) rfl rfl (by omega)) ?_ | refine LS.vv rfl rfl (by decide) (Val.add64 rfl rfl (by omega)) ?_
                  refine LS.vv rfl rfl (by decide) (Val.move rfl) ?_
                  refine LS.nil ?_
                  refine thenP_normal ?_
                  refine ⟨k + 1, ?_, ?_, ⟨by omega, hM, hB⟩, by omega⟩
                  · exact Sub.cons' rfl (by rw [hfs]; split <;> first | rfl | (exfalso; omega)) (Sub.cons rfl (Sub.nil _))
                  · repeat (first | exact Sub.nil _ | refine Sub.cons rfl ?_)
              ·
                first | (have hg32p := of_decide_eq_false hg32) | skip
                refine LS.s rfl rfl rfl hg32 (by decide) ?_
                refine LS.s rfl rfl rfl hg32 (by decide) ?_
                refine LS.s rfl rfl rfl hg32 (by decide) ?_
                refine LS.s rfl rfl rfl hg32 (by decide) ?_
                refine LS.vv rfl rfl (by decide) (Val.pickF rfl hg32 rfl) ?_
                refine LS.nil ?_
                refine W.condF rfl ?_
                refine W.skip ?_
                refine inBlk_normal ?_
                refine thenP_normal ?_
                refine W.reg ?_
                first | refine LS.vv rfl rfl (by decide) (Val.addN (j := 1) rfl rfl (by omega)) ?_ | refine LS.vv rfl rfl (by decide) (Val.add64 rfl rfl (by omega)) ?_
                refine LS.vv rfl rfl (by decide) (Val.move rfl) ?_
                refine LS.nil ?_
                refine thenP_normal ?_
                refine ⟨k + 1, ?_, ?_, ⟨by omega, hM, hB⟩, by omega⟩
                · exact Sub.cons' rfl (by rw [hfs]; split <;> first | rfl | (exfalso; omega)) (Sub.cons rfl (Sub.nil _))
                · repeat (first | exact Sub.nil _ | refine Sub.cons rfl ?_)
            ·
              obtain rfl : k = L.length := by omega
              refine W.exit ?_
              refine thenP_exit ?_
              refine thenP_exit ?_
              refine inBlk_exit ?_
              refine thenP_normal ?_
              refine W.seqR ?_
              refine LS.vv rfl rfl (by decide) (Val.move rfl) ?_
              have hg0 : g = 0 := hg.2 ⟨hLst.okB (by omega) (by omega), by omega⟩
              obtain ⟨hgd1, hgd2⟩ := hgd hg0
              rw [Int.toNat_natCast] at hgd2
              have hgd3 := hLst.le (by omega) hgd2
              refine LS.vv rfl rfl (by decide) (Val.cast (v := .bool true) (Val.eql rfl rfl) (by first | rfl | (exfalso; omega) | (refine congrArg Value.bool (decide_eq_true ?_); omega))) ?_
              refine LS.vv rfl rfl (by decide) (Val.move rfl) ?_
              refine LS.vg rfl rfl rfl rfl (by decide) (Val.move rfl) ?_
              refine LS.vg rfl rfl rfl rfl (by decide) (Val.move rfl) ?_
              refine LS.vg rfl rfl rfl rfl (by decide) (Val.cast (v := .bool true) (Val.eql rfl rfl) (by first | rfl | (exfalso; omega) | (refine congrArg Value.bool (decide_eq_true ?_); omega))) ?_
              refine LS.vv rfl rfl (by decide) (Val.cast (v := .bool true) (Val.pickT rfl rfl rfl) (by first | rfl | (exfalso; omega) | (refine congrArg Value.bool (decide_eq_true ?_); omega))) ?_
              refine LS.vv rfl rfl (by decide) (Val.assign rfl) ?_
              refine LS.nil ?_
              refine W.ret ?_
              refine ret1 (by first | exact .inl rfl | exact .inr rfl) rfl ?_
              first | exact ⟨rfl, hB⟩ | (exfalso; omega)

end Go.Proofs.Ytjmpkmomlpgbdaa
