/-
  The walks of package book; the statement BookSingleton.
-/
import Derived.Test.YtclobhnclogaoaaWords
import Derived.Test.YtclobhnclogaoaaBookPlain
import Derived.Test.YtclobhnclogaoaaVmore
namespace Go.Proofs.Ytclobhnclogaoaa
open Go Go.RowKit V
set_option linter.unusedVariables false

theorem index_any (ws : List Nat) (p : Option Addr) (c : Nat) (m x : Nat) (w0 : World) (hr : Rd w0 p (uv ws)) (hm : m ≤ ws.length) (hl : m ≤ 9223372036854775807) :
    CallsV Try.prog 44 #[.slice p m c, .int .u32 (x : Int)] w0 (fun v w => ∃ z : Int, v = .int .i64 z ∧ (0 ≤ z ↔ ∃ j, j < m ∧ gn ws j = x) ∧ Below w0.heap.size w0 w) := by
  refine enter1 Try.func44 rfl Try.ntmps44 (by simp) rfl ?_
  have hB := Below.refl w0.heap.size w0
  simp only [argLoc, Nat.zero_add]
  refine W.seqR ?_
  refine LS.vv rfl rfl (by decide) (Val.cast (v := .int .i64 ((0 : Nat) : Int)) (Val.assign rfl) rfl) ?_
  refine LS.nil ?_
  refine W.seq ?_
  refine W.seqR ?_
  refine LS.vv rfl rfl (by decide) (Val.move rfl) ?_
  refine LS.vv rfl rfl (by decide) (Val.len Try.underlying44 rfl) ?_
  refine LS.vv rfl rfl (by decide) (Val.cast (v := .int .i64 ((0 : Nat) : Int)) (Val.move rfl) rfl) ?_
  refine LS.nil ?_
  refine W.block ?_
  refine W.loop (α := Nat) (fun k => [(8, .int .i64 (k : Int))]) [(0, _), (1, _), (7, _)] (fun k w => (k ≤ m ∧ ∀ j, j < k → gn ws j ≠ x) ∧ Below w0.heap.size w0 w) (fun k => m - k) (0) (Sub.cons rfl (Sub.nil _)) (Sub.cons rfl (Sub.cons rfl (Sub.cons rfl (Sub.nil _)))) ?_ ?_
  · exact ⟨⟨Nat.zero_le _, by omega⟩, hB⟩
  rintro k w1 ⟨⟨hk, hall⟩, hB⟩
  simp only [List.cons_append, List.nil_append]
  refine W.seqR ?_
  refine LS.vv rfl rfl (by decide) (Val.lss rfl rfl) ?_
  refine LS.nil ?_
  refine W.seq ?_
  first | refine W.condD rfl (fun hc1 => ?_) (fun hc1 => ?_) | refine W.cond rfl (fun hc1 => ?_) (fun hc1 => ?_)
  ·
    refine W.skip ?_
    refine thenP_normal ?_
    refine W.seq ?_
    refine W.block ?_
    refine W.seqR ?_
    refine LS.vv rfl rfl (by decide) (Val.move rfl) ?_
    refine LS.vv rfl rfl (by decide) (Val.assign rfl) ?_
    refine LS.nil ?_
    refine W.seqR ?_
    refine LS.vv rfl rfl (by decide) (Val.move rfl) ?_
    refine LS.vv rfl rfl (by decide) (Val.move rfl) ?_
    refine LS.vv rfl rfl (by decide) (Val.move rfl) ?_
    refine LS.vv rfl rfl (by decide) (Val.index1 Try.underlying44 elem27 rfl rfl (by omega) hr (uv_lt (by omega))) ?_
    refine LS.m rfl (Step.load rfl rfl (by decide) flat27 rfl (hr.below hB) (uv_at (by omega)) ?_)
    refine LS.vv rfl rfl (by decide) (Val.eql rfl rfl) ?_
    refine LS.nil ?_
    first | refine W.condD rfl (fun hc2 => ?_) (fun hc2 => ?_) | refine W.cond rfl (fun hc2 => ?_) (fun hc2 => ?_)
    ·
      refine W.seqR ?_
      refine LS.vv rfl rfl (by decide) (Val.move rfl) ?_
      refine LS.vv rfl rfl (by decide) (Val.assign rfl) ?_
      refine LS.nil ?_
      refine W.ret ?_
      refine inBlk_ret ?_
      refine thenP_ret ?_
      refine thenP_ret ?_
      refine inBlk_ret ?_
      refine thenP_ret ?_
      refine ret1 (by first | exact .inl rfl | exact .inr rfl) rfl ?_
      first | exact ⟨_, rfl, ⟨fun _ => ⟨k, by omega, by omega⟩, fun _ => by omega⟩, hB⟩ | exact ⟨_, rfl, ⟨fun h => absurd h (by decide), fun ⟨j, h1, h2⟩ => absurd h2 (hall j (by omega))⟩, hB⟩
    ·
      refine W.skip ?_
      refine inBlk_normal ?_
      refine thenP_normal ?_
      refine W.reg ?_
      first | refine LS.vv rfl rfl (by decide) (Val.addN (j := 1) rfl rfl (by omega)) ?_ | refine LS.vv rfl rfl (by decide) (Val.add64 rfl rfl (by omega)) ?_
      refine LS.vv rfl rfl (by decide) (Val.move rfl) ?_
      refine LS.nil ?_
      refine thenP_normal ?_
      have hne : gn ws k ≠ x := by omega
      refine ⟨k + 1, ?_, ?_, ⟨⟨by omega, ?_⟩, hB⟩, by omega⟩
      · exact Sub.cons rfl (Sub.nil _)
      · repeat (first | exact Sub.nil _ | refine Sub.cons rfl ?_)
      · intro j hj
        by_cases e : j = k
        · subst e; exact hne
        · exact hall j (by omega)
  ·
    refine W.exit ?_
    refine thenP_exit ?_
    refine thenP_exit ?_
    refine inBlk_exit ?_
    refine thenP_normal ?_
    refine W.seqR ?_
    refine LS.vv rfl rfl (by decide) (Val.assign rfl) ?_
    refine LS.nil ?_
    refine W.ret ?_
    refine ret1 (by first | exact .inl rfl | exact .inr rfl) rfl ?_
    first | exact ⟨_, rfl, ⟨fun _ => ⟨k, by omega, by omega⟩, fun _ => by omega⟩, hB⟩ | exact ⟨_, rfl, ⟨fun h => absurd h (by decide), fun ⟨j, h1, h2⟩ => absurd h2 (hall j (by omega))⟩, hB⟩

theorem contains_any (ws : List Nat) (p : Option Addr) (c : Nat) (m x : Nat) (w0 : World) (hr : Rd w0 p (uv ws)) (hm : m ≤ ws.length) (hl : m ≤ 9223372036854775807) :
    CallsV Try.prog 42 #[.slice p m c, .int .u32 (x : Int)] w0 (fun v w => ∃ b : Bool, v = .bool b ∧ (b = true ↔ ∃ j, j < m ∧ gn ws j = x) ∧ Below w0.heap.size w0 w) := by
  refine enter1 Try.func42 rfl Try.ntmps42 (by simp) rfl ?_
  have hB := Below.refl w0.heap.size w0
  simp only [argLoc, Nat.zero_add]
  refine W.seqR ?_
  refine LS.vv rfl rfl (by decide) (Val.assign rfl) ?_
  refine LS.nil ?_
  refine W.seqR ?_
  refine LS.vv rfl rfl (by decide) (Val.move rfl) ?_
  refine LS.vv rfl rfl (by decide) (Val.move rfl) ?_
  refine LS.m rfl (Step.call body44 rfl rfl (by decide) rfl (CallsV.mono (index_any ws _ _ m x _ (hr.below hB) hm hl) ?_))
  rintro _ w1 ⟨z, rfl, hz, hb1⟩
  replace hB := hB.trans (hb1.mono hB.size)
  refine LS.vv rfl rfl (by decide) (Val.geq rfl rfl) ?_
  refine LS.vv rfl rfl (by decide) (Val.assign rfl) ?_
  refine LS.nil ?_
  refine W.ret ?_
  refine ret1 (by first | exact .inl rfl | exact .inr rfl) rfl ?_
  refine ⟨_, rfl, ?_, hB⟩
  rw [← hz, decide_eq_true_iff]

theorem bookCheck_any (n : Int) (ws : List Nat) (p : Option Addr) (c : Nat) (w0 : World) (hr : Rd w0 p (uv ws)) (hc : ws.length ≤ c) (hl : ws.length ≤ 9223372036854775807) (hw : ∀ x ∈ ws, x < 4294967296) :
    CallsV Try.prog 37 #[.int .i64 n, .slice p ws.length c] w0 (fun v w => ∃ e : Nat, v = .int .i64 (e : Int) ∧ (e = 0 ↔ OkB n ws) ∧ Below w0.heap.size w0 w) := by
  refine enter1 Try.func37 rfl Try.ntmps37 (by simp) rfl ?_
  have hB := Below.refl w0.heap.size w0
  simp only [argLoc, Nat.zero_add]
  have hlt : ∀ j, j < ws.length → gn ws j < 4294967296 := fun j hj => by rw [gn_lt hj]; exact hw _ (List.getElem_mem hj)
  refine W.seqR ?_
  refine LS.vv rfl rfl (by decide) (Val.cast (v := .int .i64 ((0 : Nat) : Int)) (Val.assign rfl) rfl) ?_
  refine LS.nil ?_
  refine W.seq ?_
  refine W.seqR ?_
  refine LS.vv rfl rfl (by decide) (Val.move rfl) ?_
  refine LS.m rfl (Step.call body36 rfl rfl (by decide) rfl (CallsV.mono (ballCheck_any n [] _ _ _ (Rd.nil _ _) (by simp) (by simp)) ?_))
  rintro _ w1 ⟨e, rfl, he, hb1⟩
  replace hB := hB.trans (hb1.mono hB.size)
  refine LS.vv rfl rfl (by decide) (Val.neq rfl rfl) ?_
  refine LS.vv rfl rfl (by decide) (Val.move rfl) ?_
  refine LS.split 3 rfl (fun hg1 => ?_) (fun hg1 => ?_)
  ·
    first | (have hg1p := of_decide_eq_true hg1) | skip
    refine LS.s rfl rfl rfl hg1 (by decide) ?_
    refine LS.s rfl rfl rfl hg1 (by decide) ?_
    refine LS.s rfl rfl rfl hg1 (by decide) ?_
    refine LS.vv rfl rfl (by decide) (Val.pickT rfl hg1 rfl) ?_
    refine LS.nil ?_
    refine W.condT rfl ?_
    refine W.seqR ?_
    refine LS.vv rfl rfl (by decide) (Val.cast (v := .int .i64 ((1 : Nat) : Int)) (Val.assign rfl) rfl) ?_
    refine LS.nil ?_
    refine W.ret ?_
    refine thenP_ret ?_
    refine ret1 (by first | exact .inl rfl | exact .inr rfl) rfl ?_
    first | exact ⟨1, rfl, ⟨fun h => by omega, fun h => by (obtain ⟨h1, h2, h3, h4, h5⟩ := h; exfalso; omega)⟩, hB⟩ | (refine ⟨1, rfl, ⟨fun h => by omega, fun h => ?_⟩, hB⟩; obtain ⟨h1, h2, h3, h4, h5⟩ := h; exact absurd (he.2 ⟨h1, h2, by simp⟩) (by omega)) | (refine ⟨4, rfl, ⟨fun h => by omega, fun h => ?_⟩, hB⟩; have := h.2.2.2.1 k (by omega); rw [Int.toNat_natCast] at this; exfalso; first | exact not_lt_of_shr ‹_› this | exact not_lt_of_shl ‹_› this) | (refine ⟨3, rfl, ⟨fun h => by omega, fun h => ?_⟩, hB⟩; obtain ⟨j, hj, hj2⟩ := hdup; exact absurd hj2 (h.2.2.2.2 k (by omega) j hj)) | (obtain rfl : k = ws.length := (by omega); exact ⟨0, rfl, ⟨fun _ => ⟨by omega, by omega, by omega, fun j hj => by (rw [Int.toNat_natCast]; exact hlow j hj), hdis⟩, fun _ => rfl⟩, hB⟩)
  ·
    first | (have hg1p := of_decide_eq_false hg1) | skip
    refine LS.vg rfl rfl rfl hg1 (by decide) (Val.move rfl) ?_
    refine LS.vg rfl rfl rfl hg1 (by decide) (Val.len Try.underlying44 rfl) ?_
    refine LS.vg rfl rfl rfl hg1 (by decide) (Val.gtr rfl rfl) ?_
    refine LS.vv rfl rfl (by decide) (Val.pickF rfl hg1 rfl) ?_
    refine LS.nil ?_
    first | refine W.condD rfl (fun hc2 => ?_) (fun hc2 => ?_) | refine W.cond rfl (fun hc2 => ?_) (fun hc2 => ?_)
    ·
      refine W.seqR ?_
      refine LS.vv rfl rfl (by decide) (Val.cast (v := .int .i64 ((1 : Nat) : Int)) (Val.assign rfl) rfl) ?_
      refine LS.nil ?_
      refine W.ret ?_
      refine thenP_ret ?_
      refine ret1 (by first | exact .inl rfl | exact .inr rfl) rfl ?_
      first | exact ⟨1, rfl, ⟨fun h => by omega, fun h => by (obtain ⟨h1, h2, h3, h4, h5⟩ := h; exfalso; omega)⟩, hB⟩ | (refine ⟨1, rfl, ⟨fun h => by omega, fun h => ?_⟩, hB⟩; obtain ⟨h1, h2, h3, h4, h5⟩ := h; exact absurd (he.2 ⟨h1, h2, by simp⟩) (by omega)) | (refine ⟨4, rfl, ⟨fun h => by omega, fun h => ?_⟩, hB⟩; have := h.2.2.2.1 k (by omega); rw [Int.toNat_natCast] at this; exfalso; first | exact not_lt_of_shr ‹_› this | exact not_lt_of_shl ‹_› this) | (refine ⟨3, rfl, ⟨fun h => by omega, fun h => ?_⟩, hB⟩; obtain ⟨j, hj, hj2⟩ := hdup; exact absurd hj2 (h.2.2.2.2 k (by omega) j hj)) | (obtain rfl : k = ws.length := (by omega); exact ⟨0, rfl, ⟨fun _ => ⟨by omega, by omega, by omega, fun j hj => by (rw [Int.toNat_natCast]; exact hlow j hj), hdis⟩, fun _ => rfl⟩, hB⟩)
    ·
      have hn := he.1 (by omega)
      have hn1 := hn.1
      have hn2 := hn.2.1
      obtain ⟨m, rfl⟩ := Int.eq_ofNat_of_zero_le hn1
      refine W.skip ?_
      refine thenP_normal ?_
      refine W.seq ?_
      refine W.seqR ?_
      refine LS.vv rfl rfl (by decide) (Val.move rfl) ?_
      refine LS.vv rfl rfl (by decide) (Val.len Try.underlying44 rfl) ?_
      refine LS.vv rfl rfl (by decide) (Val.cast (v := .int .i64 ((0 : Nat) : Int)) (Val.move rfl) rfl) ?_
      refine LS.nil ?_
      refine W.block ?_
      refine W.loop (α := Nat) (fun k => [(17, .int .i64 (k : Int))]) [(0, _), (1, _), (15, _), (16, _)] (fun k w => (k ≤ ws.length ∧ (∀ j, j < k → gn ws j < 2 ^ m) ∧ ∀ i, i < k → ∀ j, j < i → gn ws j ≠ gn ws i) ∧ Below w0.heap.size w0 w) (fun k => ws.length - k) (0) (Sub.cons rfl (Sub.nil _)) (Sub.cons rfl (Sub.cons rfl (Sub.cons rfl (Sub.cons rfl (Sub.nil _))))) ?_ ?_
      · exact ⟨⟨Nat.zero_le _, by omega, by omega⟩, hB⟩
      rintro k w2 ⟨⟨hk, hlow, hdis⟩, hB⟩
      simp only [List.cons_append, List.nil_append]
      refine W.seqR ?_
      refine LS.vv rfl rfl (by decide) (Val.lss rfl rfl) ?_
      refine LS.nil ?_
      refine W.seq ?_
      first | refine W.condD rfl (fun hc3 => ?_) (fun hc3 => ?_) | refine W.cond rfl (fun hc3 => ?_) (fun hc3 => ?_)
      ·
        have hltk := hlt k (by omega)
        refine W.skip ?_
        refine thenP_normal ?_
        refine W.seq ?_
        refine W.block ?_
        refine W.seqR ?_
        refine LS.vv rfl rfl (by decide) (Val.move rfl) ?_
        refine LS.vv rfl rfl (by decide) (Val.index1 Try.underlying44 elem27 rfl rfl (by omega) hr (uv_lt (by omega))) ?_
        refine LS.m rfl (Step.load rfl rfl (by decide) flat27 rfl (hr.below hB) (uv_at (by omega)) ?_)
        refine LS.vv rfl rfl (by decide) (Val.assign rfl) ?_
        refine LS.vv rfl rfl (by decide) (Val.assign rfl) ?_
        refine LS.nil ?_
        refine W.seq ?_
        refine W.seqR ?_
        refine LS.vv rfl rfl (by decide) (Val.move rfl) ?_
        refine LS.vv rfl rfl (by decide) (Val.move rfl) ?_
        refine LS.vv rfl rfl (by decide) (Val.shr rfl rfl (by simp only [IntKind.bits]; omega)) ?_
        refine LS.vv rfl rfl (by decide) (Val.neq rfl rfl) ?_
        refine LS.nil ?_
        first | refine W.condD rfl (fun hc4 => ?_) (fun hc4 => ?_) | refine W.cond rfl (fun hc4 => ?_) (fun hc4 => ?_)
        ·
          refine W.seqR ?_
          refine LS.vv rfl rfl (by decide) (Val.cast (v := .int .i64 ((4 : Nat) : Int)) (Val.assign rfl) rfl) ?_
          refine LS.nil ?_
          refine W.ret ?_
          refine thenP_ret ?_
          refine inBlk_ret ?_
          refine thenP_ret ?_
          refine thenP_ret ?_
          refine inBlk_ret ?_
          refine thenP_ret ?_
          refine ret1 (by first | exact .inl rfl | exact .inr rfl) rfl ?_
          first | exact ⟨1, rfl, ⟨fun h => by omega, fun h => by (obtain ⟨h1, h2, h3, h4, h5⟩ := h; exfalso; omega)⟩, hB⟩ | (refine ⟨1, rfl, ⟨fun h => by omega, fun h => ?_⟩, hB⟩; obtain ⟨h1, h2, h3, h4, h5⟩ := h; exact absurd (he.2 ⟨h1, h2, by simp⟩) (by omega)) | (refine ⟨4, rfl, ⟨fun h => by omega, fun h => ?_⟩, hB⟩; have := h.2.2.2.1 k (by omega); rw [Int.toNat_natCast] at this; exfalso; first | exact not_lt_of_shr ‹_› this | exact not_lt_of_shl ‹_› this) | (refine ⟨3, rfl, ⟨fun h => by omega, fun h => ?_⟩, hB⟩; obtain ⟨j, hj, hj2⟩ := hdup; exact absurd hj2 (h.2.2.2.2 k (by omega) j hj)) | (obtain rfl : k = ws.length := (by omega); exact ⟨0, rfl, ⟨fun _ => ⟨by omega, by omega, by omega, fun j hj => by (rw [Int.toNat_natCast]; exact hlow j hj), hdis⟩, fun _ => rfl⟩, hB⟩)
        ·
          refine W.skip ?_
          refine thenP_normal ?_
          refine W.seqR ?_
          refine LS.vv rfl rfl (by decide) (Val.move rfl) ?_
          refine LS.vv rfl rfl (by decide) (Val.move rfl) ?_
          refine LS.vv rfl rfl (by decide) (Val.sliceTo Try.underlying44 elem27 rfl rfl (by omega)) ?_
          refine LS.vv rfl rfl (by decide) (Val.move rfl) ?_
          refine LS.m rfl (Step.call body42 rfl rfl (by decide) rfl (CallsV.mono (contains_any ws _ _ k (gn ws k) _ (hr.below hB) (by omega) (by omega)) ?_))
          rintro _ w3 ⟨b, rfl, hbb, hb3⟩
          replace hB := hB.trans (hb3.mono hB.size)
          refine LS.nil ?_
          first | refine W.condD rfl (fun hc5 => ?_) (fun hc5 => ?_) | refine W.cond rfl (fun hc5 => ?_) (fun hc5 => ?_)
          ·
            have hdup := hbb.1 hc5
            refine W.seqR ?_
            refine LS.vv rfl rfl (by decide) (Val.cast (v := .int .i64 ((3 : Nat) : Int)) (Val.assign rfl) rfl) ?_
            refine LS.nil ?_
            refine W.ret ?_
            refine inBlk_ret ?_
            refine thenP_ret ?_
            refine thenP_ret ?_
            refine inBlk_ret ?_
            refine thenP_ret ?_
            refine ret1 (by first | exact .inl rfl | exact .inr rfl) rfl ?_
            first | exact ⟨1, rfl, ⟨fun h => by omega, fun h => by (obtain ⟨h1, h2, h3, h4, h5⟩ := h; exfalso; omega)⟩, hB⟩ | (refine ⟨1, rfl, ⟨fun h => by omega, fun h => ?_⟩, hB⟩; obtain ⟨h1, h2, h3, h4, h5⟩ := h; exact absurd (he.2 ⟨h1, h2, by simp⟩) (by omega)) | (refine ⟨4, rfl, ⟨fun h => by omega, fun h => ?_⟩, hB⟩; have := h.2.2.2.1 k (by omega); rw [Int.toNat_natCast] at this; exfalso; first | exact not_lt_of_shr ‹_› this | exact not_lt_of_shl ‹_› this) | (refine ⟨3, rfl, ⟨fun h => by omega, fun h => ?_⟩, hB⟩; obtain ⟨j, hj, hj2⟩ := hdup; exact absurd hj2 (h.2.2.2.2 k (by omega) j hj)) | (obtain rfl : k = ws.length := (by omega); exact ⟨0, rfl, ⟨fun _ => ⟨by omega, by omega, by omega, fun j hj => by (rw [Int.toNat_natCast]; exact hlow j hj), hdis⟩, fun _ => rfl⟩, hB⟩)
          ·
            have hdup : ¬ ∃ j, j < k ∧ gn ws j = gn ws k := fun h => by (have := hbb.2 h; simp_all)
            refine W.skip ?_
            refine inBlk_normal ?_
            refine thenP_normal ?_
            refine W.reg ?_
            first | refine LS.vv rfl rfl (by decide) (Val.addN (j := 1) rfl rfl (by omega)) ?_ | refine LS.vv rfl rfl (by decide) (Val.add64 rfl rfl (by omega)) ?_
            refine LS.vv rfl rfl (by decide) (Val.move rfl) ?_
            refine LS.nil ?_
            refine thenP_normal ?_
            refine ⟨k + 1, ?_, ?_, ⟨⟨by omega, ?_, ?_⟩, hB⟩, by omega⟩
            · exact Sub.cons rfl (Sub.nil _)
            · repeat (first | exact Sub.nil _ | refine Sub.cons rfl ?_)
            · intro j hj
              by_cases e : j = k
              · subst e; exact (by first | exact lt_of_shr ‹_› | exact lt_of_not_shl ‹_›)
              · exact hlow j (by omega)
            · intro i hi j hj
              by_cases e : i = k
              · subst e; exact fun e => hdup ⟨j, hj, e⟩
              · exact hdis i (by omega) j hj
      ·
        refine W.exit ?_
        refine thenP_exit ?_
        refine thenP_exit ?_
        refine inBlk_exit ?_
        refine thenP_normal ?_
        refine W.seqR ?_
        refine LS.vv rfl rfl (by decide) (Val.cast (v := .int .i64 ((0 : Nat) : Int)) (Val.assign rfl) rfl) ?_
        refine LS.nil ?_
        refine W.ret ?_
        refine ret1 (by first | exact .inl rfl | exact .inr rfl) rfl ?_
        first | exact ⟨1, rfl, ⟨fun h => by omega, fun h => by (obtain ⟨h1, h2, h3, h4, h5⟩ := h; exfalso; omega)⟩, hB⟩ | (refine ⟨1, rfl, ⟨fun h => by omega, fun h => ?_⟩, hB⟩; obtain ⟨h1, h2, h3, h4, h5⟩ := h; exact absurd (he.2 ⟨h1, h2, by simp⟩) (by omega)) | (refine ⟨4, rfl, ⟨fun h => by omega, fun h => ?_⟩, hB⟩; have := h.2.2.2.1 k (by omega); rw [Int.toNat_natCast] at this; exfalso; first | exact not_lt_of_shr ‹_› this | exact not_lt_of_shl ‹_› this) | (refine ⟨3, rfl, ⟨fun h => by omega, fun h => ?_⟩, hB⟩; obtain ⟨j, hj, hj2⟩ := hdup; exact absurd hj2 (h.2.2.2.2 k (by omega) j hj)) | (obtain rfl : k = ws.length := (by omega); exact ⟨0, rfl, ⟨fun _ => ⟨by omega, by omega, by omega, fun j hj => by (rw [Int.toNat_natCast]; exact hlow j hj), hdis⟩, fun _ => rfl⟩, hB⟩)

theorem qbookCheck_any (n : Int) (ws : List Nat) (p : Option Addr) (c : Nat) (w0 : World) (hr : Rd w0 p (uv ws)) (hc : ws.length ≤ c) (hl : ws.length ≤ 9223372036854775807) (hw : ∀ x ∈ ws, x < 4294967296) :
    CallsV Try.prog 38 #[.int .i64 n, .slice p ws.length c] w0 (fun v w => ∃ e : Nat, v = .int .i64 (e : Int) ∧ (e = 0 ↔ OkB n ws) ∧ Below w0.heap.size w0 w) := by
  refine enter1 Try.func38 rfl Try.ntmps38 (by simp) rfl ?_
  have hB := Below.refl w0.heap.size w0
  simp only [argLoc, Nat.zero_add]
  have hlt : ∀ j, j < ws.length → gn ws j < 4294967296 := fun j hj => by rw [gn_lt hj]; exact hw _ (List.getElem_mem hj)
  refine W.seqR ?_
  refine LS.vv rfl rfl (by decide) (Val.cast (v := .int .i64 ((0 : Nat) : Int)) (Val.assign rfl) rfl) ?_
  refine LS.nil ?_
  refine W.seq ?_
  refine W.seqR ?_
  refine LS.vv rfl rfl (by decide) (Val.move rfl) ?_
  refine LS.vv rfl rfl (by decide) (Val.lss rfl rfl) ?_
  refine LS.vv rfl rfl (by decide) (Val.move rfl) ?_
  refine LS.split 2 rfl (fun hg1 => ?_) (fun hg1 => ?_)
  ·
    first | (have hg1p := of_decide_eq_true hg1) | skip
    refine LS.s rfl rfl rfl hg1 (by decide) ?_
    refine LS.s rfl rfl rfl hg1 (by decide) ?_
    refine LS.vv rfl rfl (by decide) (Val.pickT rfl hg1 rfl) ?_
    refine LS.vv rfl rfl (by decide) (Val.move rfl) ?_
    refine LS.s rfl rfl rfl rfl (by decide) ?_
    refine LS.s rfl rfl rfl rfl (by decide) ?_
    refine LS.s rfl rfl rfl rfl (by decide) ?_
    refine LS.vv rfl rfl (by decide) (Val.pickT rfl rfl rfl) ?_
    refine LS.nil ?_
    refine W.condT rfl ?_
    refine W.seqR ?_
    refine LS.vv rfl rfl (by decide) (Val.cast (v := .int .i64 ((1 : Nat) : Int)) (Val.assign rfl) rfl) ?_
    refine LS.nil ?_
    refine W.ret ?_
    refine thenP_ret ?_
    refine ret1 (by first | exact .inl rfl | exact .inr rfl) rfl ?_
    first | exact ⟨1, rfl, ⟨fun h => by omega, fun h => by (obtain ⟨h1, h2, h3, h4, h5⟩ := h; exfalso; omega)⟩, hB⟩ | (refine ⟨1, rfl, ⟨fun h => by omega, fun h => ?_⟩, hB⟩; obtain ⟨h1, h2, h3, h4, h5⟩ := h; exact absurd (he.2 ⟨h1, h2, by simp⟩) (by omega)) | (refine ⟨4, rfl, ⟨fun h => by omega, fun h => ?_⟩, hB⟩; have := h.2.2.2.1 k (by omega); rw [Int.toNat_natCast] at this; exfalso; first | exact not_lt_of_shr ‹_› this | exact not_lt_of_shl ‹_› this) | (refine ⟨3, rfl, ⟨fun h => by omega, fun h => ?_⟩, hB⟩; obtain ⟨j, hj, hj2⟩ := (show ∃ j, j < k ∧ gn ws j = gn ws k from ⟨q, by omega, by omega⟩); exact absurd hj2 (h.2.2.2.2 k (by omega) j hj)) | (obtain rfl : k = ws.length := (by omega); exact ⟨0, rfl, ⟨fun _ => ⟨by omega, by omega, by omega, fun j hj => by (rw [Int.toNat_natCast]; exact hlow j hj), hdis⟩, fun _ => rfl⟩, hB⟩)
  ·
    first | (have hg1p := of_decide_eq_false hg1) | skip
    refine LS.vg rfl rfl rfl hg1 (by decide) (Val.move rfl) ?_
    refine LS.vg rfl rfl rfl hg1 (by decide) (Val.gtr rfl rfl) ?_
    refine LS.vv rfl rfl (by decide) (Val.pickF rfl hg1 rfl) ?_
    refine LS.vv rfl rfl (by decide) (Val.move rfl) ?_
    refine LS.split 6 rfl (fun hg2 => ?_) (fun hg2 => ?_)
    ·
      first | (have hg2p := of_decide_eq_true hg2) | skip
      refine LS.s rfl rfl rfl hg2 (by decide) ?_
      refine LS.s rfl rfl rfl hg2 (by decide) ?_
      refine LS.s rfl rfl rfl hg2 (by decide) ?_
      refine LS.vv rfl rfl (by decide) (Val.pickT rfl hg2 rfl) ?_
      refine LS.nil ?_
      refine W.condT rfl ?_
      refine W.seqR ?_
      refine LS.vv rfl rfl (by decide) (Val.cast (v := .int .i64 ((1 : Nat) : Int)) (Val.assign rfl) rfl) ?_
      refine LS.nil ?_
      refine W.ret ?_
      refine thenP_ret ?_
      refine ret1 (by first | exact .inl rfl | exact .inr rfl) rfl ?_
      first | exact ⟨1, rfl, ⟨fun h => by omega, fun h => by (obtain ⟨h1, h2, h3, h4, h5⟩ := h; exfalso; omega)⟩, hB⟩ | (refine ⟨1, rfl, ⟨fun h => by omega, fun h => ?_⟩, hB⟩; obtain ⟨h1, h2, h3, h4, h5⟩ := h; exact absurd (he.2 ⟨h1, h2, by simp⟩) (by omega)) | (refine ⟨4, rfl, ⟨fun h => by omega, fun h => ?_⟩, hB⟩; have := h.2.2.2.1 k (by omega); rw [Int.toNat_natCast] at this; exfalso; first | exact not_lt_of_shr ‹_› this | exact not_lt_of_shl ‹_› this) | (refine ⟨3, rfl, ⟨fun h => by omega, fun h => ?_⟩, hB⟩; obtain ⟨j, hj, hj2⟩ := (show ∃ j, j < k ∧ gn ws j = gn ws k from ⟨q, by omega, by omega⟩); exact absurd hj2 (h.2.2.2.2 k (by omega) j hj)) | (obtain rfl : k = ws.length := (by omega); exact ⟨0, rfl, ⟨fun _ => ⟨by omega, by omega, by omega, fun j hj => by (rw [Int.toNat_natCast]; exact hlow j hj), hdis⟩, fun _ => rfl⟩, hB⟩)
    ·
      first | (have hg2p := of_decide_eq_false hg2) | skip
      refine LS.vg rfl rfl rfl hg2 (by decide) (Val.move rfl) ?_
      refine LS.vg rfl rfl rfl hg2 (by decide) (Val.len Try.underlying44 rfl) ?_
      refine LS.vg rfl rfl rfl hg2 (by decide) (Val.gtr rfl rfl) ?_
      refine LS.vv rfl rfl (by decide) (Val.pickF rfl hg2 rfl) ?_
      refine LS.nil ?_
      first | refine W.condD rfl (fun hc3 => ?_) (fun hc3 => ?_) | refine W.cond rfl (fun hc3 => ?_) (fun hc3 => ?_)
      ·
        refine W.seqR ?_
        refine LS.vv rfl rfl (by decide) (Val.cast (v := .int .i64 ((1 : Nat) : Int)) (Val.assign rfl) rfl) ?_
        refine LS.nil ?_
        refine W.ret ?_
        refine thenP_ret ?_
        refine ret1 (by first | exact .inl rfl | exact .inr rfl) rfl ?_
        first | exact ⟨1, rfl, ⟨fun h => by omega, fun h => by (obtain ⟨h1, h2, h3, h4, h5⟩ := h; exfalso; omega)⟩, hB⟩ | (refine ⟨1, rfl, ⟨fun h => by omega, fun h => ?_⟩, hB⟩; obtain ⟨h1, h2, h3, h4, h5⟩ := h; exact absurd (he.2 ⟨h1, h2, by simp⟩) (by omega)) | (refine ⟨4, rfl, ⟨fun h => by omega, fun h => ?_⟩, hB⟩; have := h.2.2.2.1 k (by omega); rw [Int.toNat_natCast] at this; exfalso; first | exact not_lt_of_shr ‹_› this | exact not_lt_of_shl ‹_› this) | (refine ⟨3, rfl, ⟨fun h => by omega, fun h => ?_⟩, hB⟩; obtain ⟨j, hj, hj2⟩ := (show ∃ j, j < k ∧ gn ws j = gn ws k from ⟨q, by omega, by omega⟩); exact absurd hj2 (h.2.2.2.2 k (by omega) j hj)) | (obtain rfl : k = ws.length := (by omega); exact ⟨0, rfl, ⟨fun _ => ⟨by omega, by omega, by omega, fun j hj => by (rw [Int.toNat_natCast]; exact hlow j hj), hdis⟩, fun _ => rfl⟩, hB⟩)
      ·
        obtain ⟨m, rfl⟩ := Int.eq_ofNat_of_zero_le (show 0 ≤ n by omega)
        have hpw : 1 <<< m ≤ 4294967295 := shl_one_lt (by omega)
        refine W.skip ?_
        refine thenP_normal ?_
        refine W.seq ?_
        refine W.seqR ?_
        refine LS.vv rfl rfl (by decide) (Val.move rfl) ?_
        refine LS.vv rfl rfl (by decide) (Val.len Try.underlying44 rfl) ?_
        refine LS.vv rfl rfl (by decide) (Val.cast (v := .int .i64 ((0 : Nat) : Int)) (Val.move rfl) rfl) ?_
        refine LS.nil ?_
        refine W.block ?_
        refine W.loop (α := Nat) (fun k => [(22, .int .i64 (k : Int))]) [(0, _), (1, _), (20, _), (21, _)] (fun k w => (k ≤ ws.length ∧ (∀ j, j < k → gn ws j < 2 ^ m) ∧ ∀ i, i < k → ∀ j, j < i → gn ws j ≠ gn ws i) ∧ Below w0.heap.size w0 w) (fun k => ws.length - k) (0) (Sub.cons rfl (Sub.nil _)) (Sub.cons rfl (Sub.cons rfl (Sub.cons rfl (Sub.cons rfl (Sub.nil _))))) ?_ ?_
        · exact ⟨⟨Nat.zero_le _, by omega, by omega⟩, hB⟩
        rintro k w1 ⟨⟨hk, hlow, hdis⟩, hB⟩
        simp only [List.cons_append, List.nil_append]
        refine W.seqR ?_
        refine LS.vv rfl rfl (by decide) (Val.lss rfl rfl) ?_
        refine LS.nil ?_
        refine W.seq ?_
        first | refine W.condD rfl (fun hc4 => ?_) (fun hc4 => ?_) | refine W.cond rfl (fun hc4 => ?_) (fun hc4 => ?_)
        ·
          have hltk := hlt k (by omega)
          refine W.skip ?_
          refine thenP_normal ?_
          refine W.seq ?_
          refine W.block ?_
          refine W.seqR ?_
          refine LS.vv rfl rfl (by decide) (Val.move rfl) ?_
          refine LS.vv rfl rfl (by decide) (Val.index1 Try.underlying44 elem27 rfl rfl (by omega) hr (uv_lt (by omega))) ?_
          refine LS.m rfl (Step.load rfl rfl (by decide) flat27 rfl (hr.below hB) (uv_at (by omega)) ?_)
          refine LS.vv rfl rfl (by decide) (Val.assign rfl) ?_
          refine LS.vv rfl rfl (by decide) (Val.assign rfl) ?_
          refine LS.nil ?_
          refine W.seq ?_
          refine W.seqR ?_
          refine LS.vv rfl rfl (by decide) (Val.move rfl) ?_
          refine LS.vv rfl rfl (by decide) (Val.move rfl) ?_
          refine LS.vv rfl rfl (by decide) (Val.conv rfl Try.underlying3 Try.underlying47 (IntWalk.u64_in _ (by omega))) ?_
          refine LS.vv rfl rfl (by decide) (Val.shlU32 (i := 1) rfl rfl (by omega) (by omega)) ?_
          refine LS.vv rfl rfl (by decide) (Val.geq rfl rfl) ?_
          refine LS.nil ?_
          first | refine W.condD rfl (fun hc5 => ?_) (fun hc5 => ?_) | refine W.cond rfl (fun hc5 => ?_) (fun hc5 => ?_)
          ·
            refine W.seqR ?_
            refine LS.vv rfl rfl (by decide) (Val.cast (v := .int .i64 ((4 : Nat) : Int)) (Val.assign rfl) rfl) ?_
            refine LS.nil ?_
            refine W.ret ?_
            refine thenP_ret ?_
            refine inBlk_ret ?_
            refine thenP_ret ?_
            refine thenP_ret ?_
            refine inBlk_ret ?_
            refine thenP_ret ?_
            refine ret1 (by first | exact .inl rfl | exact .inr rfl) rfl ?_
            first | exact ⟨1, rfl, ⟨fun h => by omega, fun h => by (obtain ⟨h1, h2, h3, h4, h5⟩ := h; exfalso; omega)⟩, hB⟩ | (refine ⟨1, rfl, ⟨fun h => by omega, fun h => ?_⟩, hB⟩; obtain ⟨h1, h2, h3, h4, h5⟩ := h; exact absurd (he.2 ⟨h1, h2, by simp⟩) (by omega)) | (refine ⟨4, rfl, ⟨fun h => by omega, fun h => ?_⟩, hB⟩; have := h.2.2.2.1 k (by omega); rw [Int.toNat_natCast] at this; exfalso; first | exact not_lt_of_shr ‹_› this | exact not_lt_of_shl ‹_› this) | (refine ⟨3, rfl, ⟨fun h => by omega, fun h => ?_⟩, hB⟩; obtain ⟨j, hj, hj2⟩ := (show ∃ j, j < k ∧ gn ws j = gn ws k from ⟨q, by omega, by omega⟩); exact absurd hj2 (h.2.2.2.2 k (by omega) j hj)) | (obtain rfl : k = ws.length := (by omega); exact ⟨0, rfl, ⟨fun _ => ⟨by omega, by omega, by omega, fun j hj => by (rw [Int.toNat_natCast]; exact hlow j hj), hdis⟩, fun _ => rfl⟩, hB⟩)
          ·
            refine W.skip ?_
            refine thenP_normal ?_
            refine W.seqR ?_
            refine LS.vv rfl rfl (by decide) (Val.move rfl) ?_
            refine LS.vv rfl rfl (by decide) (Val.move rfl) ?_
            refine LS.vv rfl rfl (by decide) (Val.sliceTo Try.underlying44 elem27 rfl rfl (by omega)) ?_
            refine LS.vv rfl rfl (by decide) (Val.len Try.underlying44 rfl) ?_
            refine LS.vv rfl rfl (by decide) (Val.cast (v := .int .i64 ((0 : Nat) : Int)) (Val.move rfl) rfl) ?_
            refine LS.nil ?_
            refine W.block ?_
            refine W.loop (α := Nat) (fun q => [(36, .int .i64 (q : Int))]) [(0, _), (1, _), (6, _), (20, _), (21, _), (22, _), (34, _), (35, _)] (fun q w => (q ≤ k ∧ ∀ j, j < q → gn ws j ≠ gn ws k) ∧ Below w0.heap.size w0 w) (fun q => k - q) (0) (Sub.cons rfl (Sub.nil _)) (Sub.cons rfl (Sub.cons rfl (Sub.cons rfl (Sub.cons rfl (Sub.cons rfl (Sub.cons rfl (Sub.cons rfl (Sub.cons rfl (Sub.nil _))))))))) ?_ ?_
            · exact ⟨⟨Nat.zero_le _, by omega⟩, hB⟩
            rintro q w2 ⟨⟨hq, hrow⟩, hB⟩
            simp only [List.cons_append, List.nil_append]
            refine W.seqR ?_
            refine LS.vv rfl rfl (by decide) (Val.lss rfl rfl) ?_
            refine LS.nil ?_
            refine W.seq ?_
            first | refine W.condD rfl (fun hc6 => ?_) (fun hc6 => ?_) | refine W.cond rfl (fun hc6 => ?_) (fun hc6 => ?_)
            ·
              refine W.skip ?_
              refine thenP_normal ?_
              refine W.seq ?_
              refine W.block ?_
              refine W.seqR ?_
              refine LS.vv rfl rfl (by decide) (Val.index1 Try.underlying44 elem27 rfl rfl (by omega) hr (uv_lt (by omega))) ?_
              refine LS.m rfl (Step.load rfl rfl (by decide) flat27 rfl (hr.below hB) (uv_at (by omega)) ?_)
              refine LS.vv rfl rfl (by decide) (Val.assign rfl) ?_
              refine LS.nil ?_
              refine W.seqR ?_
              refine LS.vv rfl rfl (by decide) (Val.move rfl) ?_
              refine LS.vv rfl rfl (by decide) (Val.move rfl) ?_
              refine LS.vv rfl rfl (by decide) (Val.eql rfl rfl) ?_
              refine LS.nil ?_
              first | refine W.condD rfl (fun hc7 => ?_) (fun hc7 => ?_) | refine W.cond rfl (fun hc7 => ?_) (fun hc7 => ?_)
              ·
                refine W.seqR ?_
                refine LS.vv rfl rfl (by decide) (Val.cast (v := .int .i64 ((3 : Nat) : Int)) (Val.assign rfl) rfl) ?_
                refine LS.nil ?_
                refine W.ret ?_
                refine inBlk_ret ?_
                refine thenP_ret ?_
                refine thenP_ret ?_
                refine inBlk_ret ?_
                refine inBlk_ret ?_
                refine thenP_ret ?_
                refine thenP_ret ?_
                refine inBlk_ret ?_
                refine thenP_ret ?_
                refine ret1 (by first | exact .inl rfl | exact .inr rfl) rfl ?_
                first | exact ⟨1, rfl, ⟨fun h => by omega, fun h => by (obtain ⟨h1, h2, h3, h4, h5⟩ := h; exfalso; omega)⟩, hB⟩ | (refine ⟨1, rfl, ⟨fun h => by omega, fun h => ?_⟩, hB⟩; obtain ⟨h1, h2, h3, h4, h5⟩ := h; exact absurd (he.2 ⟨h1, h2, by simp⟩) (by omega)) | (refine ⟨4, rfl, ⟨fun h => by omega, fun h => ?_⟩, hB⟩; have := h.2.2.2.1 k (by omega); rw [Int.toNat_natCast] at this; exfalso; first | exact not_lt_of_shr ‹_› this | exact not_lt_of_shl ‹_› this) | (refine ⟨3, rfl, ⟨fun h => by omega, fun h => ?_⟩, hB⟩; obtain ⟨j, hj, hj2⟩ := (show ∃ j, j < k ∧ gn ws j = gn ws k from ⟨q, by omega, by omega⟩); exact absurd hj2 (h.2.2.2.2 k (by omega) j hj)) | (obtain rfl : k = ws.length := (by omega); exact ⟨0, rfl, ⟨fun _ => ⟨by omega, by omega, by omega, fun j hj => by (rw [Int.toNat_natCast]; exact hlow j hj), hdis⟩, fun _ => rfl⟩, hB⟩)
              ·
                refine W.skip ?_
                refine inBlk_normal ?_
                refine thenP_normal ?_
                refine W.reg ?_
                first | refine LS.vv rfl rfl (by decide) (Val.addN (j := 1) rfl rfl (by omega)) ?_ | refine LS.vv rfl rfl (by decide) (Val.add64 rfl rfl (by omega)) ?_
                refine LS.vv rfl rfl (by decide) (Val.move rfl) ?_
                refine LS.nil ?_
                refine thenP_normal ?_
                have hne : gn ws q ≠ gn ws k := by omega
                refine ⟨q + 1, ?_, ?_, ⟨⟨by omega, ?_⟩, hB⟩, by omega⟩
                · exact Sub.cons rfl (Sub.nil _)
                · repeat (first | exact Sub.nil _ | refine Sub.cons rfl ?_)
                · intro j hj
                  by_cases e : j = q
                  · subst e; exact hne
                  · exact hrow j (by omega)
            ·
              refine W.exit ?_
              refine thenP_exit ?_
              refine thenP_exit ?_
              refine inBlk_exit ?_
              refine inBlk_normal ?_
              refine thenP_normal ?_
              refine W.reg ?_
              first | refine LS.vv rfl rfl (by decide) (Val.addN (j := 1) rfl rfl (by omega)) ?_ | refine LS.vv rfl rfl (by decide) (Val.add64 rfl rfl (by omega)) ?_
              refine LS.vv rfl rfl (by decide) (Val.move rfl) ?_
              refine LS.nil ?_
              refine thenP_normal ?_
              refine ⟨k + 1, ?_, ?_, ⟨⟨by omega, ?_, ?_⟩, hB⟩, by omega⟩
              · exact Sub.cons rfl (Sub.nil _)
              · repeat (first | exact Sub.nil _ | refine Sub.cons rfl ?_)
              · intro j hj
                by_cases e : j = k
                · subst e; exact (by first | exact lt_of_shr ‹_› | exact lt_of_not_shl ‹_›)
                · exact hlow j (by omega)
              · intro i hi j hj
                by_cases e : i = k
                · subst e; exact hrow j (by omega)
                · exact hdis i (by omega) j hj
        ·
          refine W.exit ?_
          refine thenP_exit ?_
          refine thenP_exit ?_
          refine inBlk_exit ?_
          refine thenP_normal ?_
          refine W.seqR ?_
          refine LS.vv rfl rfl (by decide) (Val.cast (v := .int .i64 ((0 : Nat) : Int)) (Val.assign rfl) rfl) ?_
          refine LS.nil ?_
          refine W.ret ?_
          refine ret1 (by first | exact .inl rfl | exact .inr rfl) rfl ?_
          first | exact ⟨1, rfl, ⟨fun h => by omega, fun h => by (obtain ⟨h1, h2, h3, h4, h5⟩ := h; exfalso; omega)⟩, hB⟩ | (refine ⟨1, rfl, ⟨fun h => by omega, fun h => ?_⟩, hB⟩; obtain ⟨h1, h2, h3, h4, h5⟩ := h; exact absurd (he.2 ⟨h1, h2, by simp⟩) (by omega)) | (refine ⟨4, rfl, ⟨fun h => by omega, fun h => ?_⟩, hB⟩; have := h.2.2.2.1 k (by omega); rw [Int.toNat_natCast] at this; exfalso; first | exact not_lt_of_shr ‹_› this | exact not_lt_of_shl ‹_› this) | (refine ⟨3, rfl, ⟨fun h => by omega, fun h => ?_⟩, hB⟩; obtain ⟨j, hj, hj2⟩ := (show ∃ j, j < k ∧ gn ws j = gn ws k from ⟨q, by omega, by omega⟩); exact absurd hj2 (h.2.2.2.2 k (by omega) j hj)) | (obtain rfl : k = ws.length := (by omega); exact ⟨0, rfl, ⟨fun _ => ⟨by omega, by omega, by omega, fun j hj => by (rw [Int.toNat_natCast]; exact hlow j hj), hdis⟩, fun _ => rfl⟩, hB⟩)

theorem booked_any (n : Int) (ws : List Nat) (p : Option Addr) (c : Nat) (w0 : World) (hr : Rd w0 p (uv ws)) (hc : ws.length ≤ c) (hl : ws.length ≤ 9223372036854775807) (hw : ∀ x ∈ ws, x < 4294967296) :
    CallsV Try.prog 28 #[.int .i64 n, .slice p ws.length c] w0 (fun v w => ∃ b : Bool, v = .bool b ∧ (b = true ↔ OkB n ws) ∧ Below w0.heap.size w0 w) := by
  refine enter1 Try.func28 rfl Try.ntmps28 (by simp) rfl ?_
  have hB := Below.refl w0.heap.size w0
  simp only [argLoc, Nat.zero_add]
  refine W.seqR ?_
  refine LS.vv rfl rfl (by decide) (Val.assign rfl) ?_
  refine LS.nil ?_
  refine W.seqR ?_
  refine LS.vv rfl rfl (by decide) (Val.move rfl) ?_
  refine LS.vv rfl rfl (by decide) (Val.move rfl) ?_
  refine LS.m rfl (Step.call body38 rfl rfl (by decide) rfl (CallsV.mono (qbookCheck_any n ws _ _ _ (hr.below hB) hc hl hw) ?_))
  rintro _ w1 ⟨e, rfl, he, hb1⟩
  replace hB := hB.trans (hb1.mono hB.size)
  refine LS.vv rfl rfl (by decide) (Val.eql rfl rfl) ?_
  refine LS.vv rfl rfl (by decide) (Val.assign rfl) ?_
  refine LS.nil ?_
  refine W.ret ?_
  refine ret1 (by first | exact .inl rfl | exact .inr rfl) rfl ?_
  refine ⟨_, rfl, ?_, hB⟩
  rw [← he, decide_eq_true_iff]
  omega

theorem least_any (n : Int) (ws : List Nat) (p : Option Addr) (c : Nat) (w0 : World) (hr : Rd w0 p (uv ws)) (hc : ws.length ≤ c) (hl : ws.length ≤ 9223372036854775807) (hw : ∀ x ∈ ws, x < 4294967296) :
    CallsV Try.prog 27 #[.int .i64 n, .slice p ws.length c] w0 (fun v w => ∃ d e : Nat, v = .tuple #[.int .i64 (d : Int), .int .i64 (e : Int)] ∧ (e = 0 ↔ OkB n ws ∧ 2 ≤ ws.length) ∧ (e = 0 → LeastB n.toNat ws d) ∧ Below w0.heap.size w0 w) := by
  refine enter2 Try.func27 rfl Try.ntmps27 (by simp) rfl ?_
  have hB := Below.refl w0.heap.size w0
  simp only [argLoc, Nat.zero_add]
  have hlt : ∀ j, j < ws.length → gn ws j < 4294967296 := fun j hj => by rw [gn_lt hj]; exact hw _ (List.getElem_mem hj)
  refine W.seqR ?_
  refine LS.vv rfl rfl (by decide) (Val.cast (v := .int .i64 ((0 : Nat) : Int)) (Val.assign rfl) rfl) ?_
  refine LS.vv rfl rfl (by decide) (Val.cast (v := .int .i64 ((0 : Nat) : Int)) (Val.assign rfl) rfl) ?_
  refine LS.nil ?_
  refine W.seq ?_
  refine W.seqR ?_
  refine LS.vv rfl rfl (by decide) (Val.move rfl) ?_
  refine LS.vv rfl rfl (by decide) (Val.move rfl) ?_
  refine LS.m rfl (Step.call body37 rfl rfl (by decide) rfl (CallsV.mono (bookCheck_any n ws _ _ _ (hr.below hB) hc hl hw) ?_))
  rintro _ w1 ⟨e, rfl, he, hb1⟩
  replace hB := hB.trans (hb1.mono hB.size)
  refine LS.vv rfl rfl (by decide) (Val.assign rfl) ?_
  refine LS.nil ?_
  refine W.seqR ?_
  refine LS.vv rfl rfl (by decide) (Val.move rfl) ?_
  refine LS.vv rfl rfl (by decide) (Val.neq rfl rfl) ?_
  refine LS.nil ?_
  first | refine W.condD rfl (fun hc1 => ?_) (fun hc1 => ?_) | refine W.cond rfl (fun hc1 => ?_) (fun hc1 => ?_)
  ·
    refine W.seqR ?_
    refine LS.vv rfl rfl (by decide) (Val.move rfl) ?_
    refine LS.vv rfl rfl (by decide) (Val.cast (v := .int .i64 ((0 : Nat) : Int)) (Val.assign rfl) rfl) ?_
    refine LS.vv rfl rfl (by decide) (Val.assign rfl) ?_
    refine LS.nil ?_
    refine W.ret ?_
    refine thenP_ret ?_
    refine ret2 (by first | exact .inl rfl | exact .inr rfl) rfl rfl ?_
    first | exact ⟨0, e, rfl, ⟨fun h => by omega, fun h => he.2 h.1⟩, fun h => by omega, hB⟩ | (refine ⟨0, 5, rfl, ⟨fun h => by omega, fun h => ?_⟩, fun h => by omega, hB⟩; have := h.2; omega) | (refine ⟨d, 0, rfl, ⟨fun _ => ⟨he.1 (by omega), by omega⟩, fun _ => rfl⟩, fun _ => ⟨hd1, (show d ≤ m by omega), hd⟩, hB⟩)
  ·
    have hok := he.1 (by omega)
    obtain ⟨hn1, hn2, hn3, hlow, hdis⟩ := hok
    obtain ⟨m, rfl⟩ := Int.eq_ofNat_of_zero_le hn1
    simp only [Int.toNat_natCast] at *
    refine W.skip ?_
    refine thenP_normal ?_
    refine W.seqR ?_
    refine LS.vv rfl rfl (by decide) (Val.move rfl) ?_
    first | refine LS.vv rfl rfl (by decide) (Val.addN (j := 1) rfl rfl (by omega)) ?_ | refine LS.vv rfl rfl (by decide) (Val.add64 rfl rfl (by omega)) ?_
    refine LS.vv rfl rfl (by decide) (Val.assign rfl) ?_
    refine LS.nil ?_
    refine W.seq ?_
    refine W.seqR ?_
    refine LS.vv rfl rfl (by decide) (Val.move rfl) ?_
    refine LS.vv rfl rfl (by decide) (Val.len Try.underlying44 rfl) ?_
    refine LS.vv rfl rfl (by decide) (Val.cast (v := .int .i64 ((0 : Nat) : Int)) (Val.move rfl) rfl) ?_
    refine LS.nil ?_
    refine W.block ?_
    refine W.loop (α := Nat × Nat) (fun g => [(7, .int .i64 (g.2 : Int)), (22, .int .i64 (g.1 : Int))]) [(0, _), (1, _), (20, _), (21, _)] (fun g w => (g.1 ≤ ws.length ∧ 1 ≤ g.2 ∧ g.2 ≤ m + 1 ∧ (2 ≤ g.1 → g.2 ≤ m) ∧ (g.1 ≤ 1 → g.2 = m + 1) ∧ ∀ i, i < g.1 → ∀ j, j < i → g.2 ≤ popc (gn ws i ^^^ gn ws j)) ∧ Below w0.heap.size w0 w) (fun g => ws.length - g.1) ((0, m + 1)) (Sub.cons rfl (Sub.cons rfl (Sub.nil _))) (Sub.cons rfl (Sub.cons rfl (Sub.cons rfl (Sub.cons rfl (Sub.nil _))))) ?_ ?_
    · exact ⟨⟨Nat.zero_le _, by simp only; omega, Nat.le_refl _, fun h => by simp only at h; omega, fun _ => rfl, fun i hi => by simp only at hi; omega⟩, hB⟩
    rintro ⟨k, d⟩ w2 ⟨⟨hk, hd1, hd2, hd3, hd4, hd⟩, hB⟩
    simp only [List.cons_append, List.nil_append]
    simp only at hk hd1 hd2 hd3 hd4 hd
    refine W.seqR ?_
    refine LS.vv rfl rfl (by decide) (Val.lss rfl rfl) ?_
    refine LS.nil ?_
    refine W.seq ?_
    first | refine W.condD rfl (fun hc2 => ?_) (fun hc2 => ?_) | refine W.cond rfl (fun hc2 => ?_) (fun hc2 => ?_)
    ·
      refine W.skip ?_
      refine thenP_normal ?_
      refine W.seq ?_
      refine W.block ?_
      refine W.seqR ?_
      refine LS.vv rfl rfl (by decide) (Val.move rfl) ?_
      refine LS.vv rfl rfl (by decide) (Val.index1 Try.underlying44 elem27 rfl rfl (by omega) hr (uv_lt (by omega))) ?_
      refine LS.m rfl (Step.load rfl rfl (by decide) flat27 rfl (hr.below hB) (uv_at (by omega)) ?_)
      refine LS.vv rfl rfl (by decide) (Val.assign rfl) ?_
      refine LS.vv rfl rfl (by decide) (Val.assign rfl) ?_
      refine LS.nil ?_
      refine W.seqR ?_
      refine LS.vv rfl rfl (by decide) (Val.move rfl) ?_
      refine LS.vv rfl rfl (by decide) (Val.move rfl) ?_
      refine LS.vv rfl rfl (by decide) (Val.sliceTo Try.underlying44 elem27 rfl rfl (by omega)) ?_
      refine LS.vv rfl rfl (by decide) (Val.len Try.underlying44 rfl) ?_
      refine LS.vv rfl rfl (by decide) (Val.cast (v := .int .i64 ((0 : Nat) : Int)) (Val.move rfl) rfl) ?_
      refine LS.nil ?_
      refine W.block ?_
      refine W.loop (α := Nat × Nat) (fun g => [(7, .int .i64 (g.2 : Int)), (31, .int .i64 (g.1 : Int))]) [(0, _), (1, _), (9, _), (20, _), (21, _), (22, _), (29, _), (30, _)] (fun g w => (g.1 ≤ k ∧ 1 ≤ g.2 ∧ g.2 ≤ d ∧ (1 ≤ g.1 → g.2 ≤ m) ∧ (g.1 = 0 → g.2 = d) ∧ ∀ j, j < g.1 → g.2 ≤ popc (gn ws k ^^^ gn ws j)) ∧ Below w0.heap.size w0 w) (fun g => k - g.1) ((0, d)) (Sub.cons rfl (Sub.cons rfl (Sub.nil _))) (Sub.cons rfl (Sub.cons rfl (Sub.cons rfl (Sub.cons rfl (Sub.cons rfl (Sub.cons rfl (Sub.cons rfl (Sub.cons rfl (Sub.nil _))))))))) ?_ ?_
      · exact ⟨⟨Nat.zero_le _, hd1, Nat.le_refl _, fun h => by simp only at h; omega, fun _ => rfl, fun j hj => by simp only at hj; omega⟩, hB⟩
      rintro ⟨q, d2⟩ w3 ⟨⟨hq, hd5, hdd, hd6, hd7, hrow⟩, hB⟩
      simp only [List.cons_append, List.nil_append]
      simp only at hq hd5 hdd hd6 hd7 hrow
      refine W.seqR ?_
      refine LS.vv rfl rfl (by decide) (Val.lss rfl rfl) ?_
      refine LS.nil ?_
      refine W.seq ?_
      first | refine W.condD rfl (fun hc3 => ?_) (fun hc3 => ?_) | refine W.cond rfl (fun hc3 => ?_) (fun hc3 => ?_)
      ·
        have hk1 := hlt k (by omega)
        have hq1 := hlt q (by omega)
        have hdk : gn ws q < 2 ^ m ∧ gn ws k < 2 ^ m := ⟨hlow q (by omega), hlow k (by omega)⟩
        have hx : gn ws k ^^^ gn ws q < 2 ^ 32 := Nat.xor_lt_two_pow (hlt k (by omega)) (hlt q (by omega))
        have hpc : popc (gn ws k ^^^ gn ws q) ≤ m := popc_le (Nat.xor_lt_two_pow hdk.2 hdk.1)
        have hp1 : popc (gn ws k ^^^ gn ws q) ≠ 0 := fun h => hdis k (by omega) q (by omega) ((popc_dist_zero (hlt k (by omega)) (hlt q (by omega))).1 h).symm
        refine W.skip ?_
        refine thenP_normal ?_
        refine W.seq ?_
        refine W.block ?_
        refine W.seqR ?_
        refine LS.vv rfl rfl (by decide) (Val.index1 Try.underlying44 elem27 rfl rfl (by omega) hr (uv_lt (by omega))) ?_
        refine LS.m rfl (Step.load rfl rfl (by decide) flat27 rfl (hr.below hB) (uv_at (by omega)) ?_)
        refine LS.vv rfl rfl (by decide) (Val.assign rfl) ?_
        refine LS.nil ?_
        refine W.reg ?_
        refine LS.vv rfl rfl (by decide) (Val.move rfl) ?_
        refine LS.vv rfl rfl (by decide) (Val.move rfl) ?_
        refine LS.vv rfl rfl (by decide) (Val.move rfl) ?_
        refine LS.vv rfl rfl (by decide) (Val.xorU32 rfl rfl (by omega) (by omega)) ?_
        refine LS.m rfl (Step.call body32 rfl rfl (by decide) rfl (CallsV.mono (ones32_any _ _ hx) ?_))
        rintro _ w4 ⟨rfl, hb4⟩
        replace hB := hB.trans (hb4.mono hB.size)
        first | refine LS.vv rfl rfl (by decide) (Val.minN rfl rfl) ?_ | refine LS.vv rfl rfl (by decide) (Val.min rfl rfl) ?_
        refine LS.vv rfl rfl (by decide) (Val.assign rfl) ?_
        refine LS.nil ?_
        refine inBlk_normal ?_
        refine thenP_normal ?_
        refine W.reg ?_
        first | refine LS.vv rfl rfl (by decide) (Val.addN (j := 1) rfl rfl (by omega)) ?_ | refine LS.vv rfl rfl (by decide) (Val.add64 rfl rfl (by omega)) ?_
        refine LS.vv rfl rfl (by decide) (Val.move rfl) ?_
        refine LS.nil ?_
        refine thenP_normal ?_
        refine ⟨(q + 1, Min.min d2 (popc (gn ws k ^^^ gn ws q))), ?_, ?_, ⟨⟨by simp only; omega, by simp only; omega, by simp only; omega, by simp only; omega, by simp only; omega, ?_⟩, hB⟩, by simp only; omega⟩
        · exact Sub.cons rfl (Sub.cons rfl (Sub.nil _))
        · repeat (first | exact Sub.nil _ | refine Sub.cons rfl ?_)
        · intro j hj
          simp only at hj ⊢
          by_cases e : j = q
          · subst e; omega
          · have := hrow j (by omega); omega
      ·
        refine W.exit ?_
        refine thenP_exit ?_
        refine thenP_exit ?_
        refine inBlk_exit ?_
        refine inBlk_normal ?_
        refine thenP_normal ?_
        refine W.reg ?_
        first | refine LS.vv rfl rfl (by decide) (Val.addN (j := 1) rfl rfl (by omega)) ?_ | refine LS.vv rfl rfl (by decide) (Val.add64 rfl rfl (by omega)) ?_
        refine LS.vv rfl rfl (by decide) (Val.move rfl) ?_
        refine LS.nil ?_
        refine thenP_normal ?_
        refine ⟨(k + 1, d2), ?_, ?_, ⟨⟨by simp only; omega, by simp only; omega, by simp only; omega, by simp only; omega, by simp only; omega, ?_⟩, hB⟩, by simp only; omega⟩
        · exact Sub.cons rfl (Sub.cons rfl (Sub.nil _))
        · repeat (first | exact Sub.nil _ | refine Sub.cons rfl ?_)
        · intro i hi j hj
          simp only at hi ⊢
          by_cases e : i = k
          · subst e; exact hrow j (by omega)
          · exact Nat.le_trans hdd (hd i (by omega) j hj)
    ·
      obtain rfl : k = ws.length := by omega
      refine W.exit ?_
      refine thenP_exit ?_
      refine thenP_exit ?_
      refine inBlk_exit ?_
      refine thenP_normal ?_
      refine W.seq ?_
      refine W.seqR ?_
      refine LS.vv rfl rfl (by decide) (Val.move rfl) ?_
      refine LS.vv rfl rfl (by decide) (Val.move rfl) ?_
      refine LS.vv rfl rfl (by decide) (Val.gtr rfl rfl) ?_
      refine LS.nil ?_
      first | refine W.condD rfl (fun hc4 => ?_) (fun hc4 => ?_) | refine W.cond rfl (fun hc4 => ?_) (fun hc4 => ?_)
      ·
        refine W.seqR ?_
        refine LS.vv rfl rfl (by decide) (Val.cast (v := .int .i64 ((0 : Nat) : Int)) (Val.assign rfl) rfl) ?_
        refine LS.vv rfl rfl (by decide) (Val.cast (v := .int .i64 ((5 : Nat) : Int)) (Val.assign rfl) rfl) ?_
        refine LS.nil ?_
        refine W.ret ?_
        refine thenP_ret ?_
        refine ret2 (by first | exact .inl rfl | exact .inr rfl) rfl rfl ?_
        first | exact ⟨0, e, rfl, ⟨fun h => by omega, fun h => he.2 h.1⟩, fun h => by omega, hB⟩ | (refine ⟨0, 5, rfl, ⟨fun h => by omega, fun h => ?_⟩, fun h => by omega, hB⟩; have := h.2; omega) | (refine ⟨d, 0, rfl, ⟨fun _ => ⟨he.1 (by omega), by omega⟩, fun _ => rfl⟩, fun _ => ⟨hd1, (show d ≤ m by omega), hd⟩, hB⟩)
      ·
        refine W.skip ?_
        refine thenP_normal ?_
        refine W.seqR ?_
        refine LS.vv rfl rfl (by decide) (Val.move rfl) ?_
        refine LS.vv rfl rfl (by decide) (Val.assign rfl) ?_
        refine LS.vv rfl rfl (by decide) (Val.cast (v := .int .i64 ((0 : Nat) : Int)) (Val.assign rfl) rfl) ?_
        refine LS.nil ?_
        refine W.ret ?_
        refine ret2 (by first | exact .inl rfl | exact .inr rfl) rfl rfl ?_
        first | exact ⟨0, e, rfl, ⟨fun h => by omega, fun h => he.2 h.1⟩, fun h => by omega, hB⟩ | (refine ⟨0, 5, rfl, ⟨fun h => by omega, fun h => ?_⟩, fun h => by omega, hB⟩; have := h.2; omega) | (refine ⟨d, 0, rfl, ⟨fun _ => ⟨he.1 (by omega), by omega⟩, fun _ => rfl⟩, fun _ => ⟨hd1, (show d ≤ m by omega), hd⟩, hB⟩)

end Go.Proofs.Ytclobhnclogaoaa
