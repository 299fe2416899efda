/-
  The walks of package state.
-/
import Derived.Test.YtcoplafphgpmpaaVfacts
import Derived.Test.YtcoplafphgpmpaaStatePlain
namespace Go.Proofs.Ytcoplafphgpmpaa
open Go Go.RowKit V
set_option linter.unusedVariables false

theorem wrong_any (zs : List Int) (p : Option Addr) (c : Nat) (x : Int) (w0 : World) (hr : Rd w0 p (iv zs)) :
    CallsV Try.prog 43 #[.slice p zs.length c, .int .i64 x] w0 (fun v w => ∃ e : Nat, v = .int .i64 (e : Int) ∧ (e = 0 ↔ OkP zs x) ∧ Below w0.heap.size w0 w) := by
  refine enter1 Try.func43 rfl Try.ntmps43 (by simp) rfl ?_
  have hB := Below.refl w0.heap.size w0
  simp only [argLoc, Nat.zero_add]
  refine W.seqR ?_
  refine LS.vv rfl rfl (by decide) (Val.cast (v := .int .i64 ((0 : Nat) : Int)) (Val.assign rfl) rfl) ?_
  refine LS.nil ?_
  refine W.seq ?_
  refine W.seqR ?_
  refine LS.vv rfl rfl (by decide) (Val.move rfl) ?_
  refine LS.vv rfl rfl (by decide) (Val.len Try.underlying33 rfl) ?_
  refine LS.vv rfl rfl (by decide) (Val.gtr rfl rfl) ?_
  refine LS.nil ?_
  first | refine W.condD rfl (fun hc1 => ?_) (fun hc1 => ?_) | refine W.cond rfl (fun hc1 => ?_) (fun hc1 => ?_)
  ·
    refine W.seqR ?_
    refine LS.vv rfl rfl (by decide) (Val.cast (v := .int .i64 ((1 : Nat) : Int)) (Val.assign rfl) rfl) ?_
    refine LS.nil ?_
    refine W.ret ?_
    refine thenP_ret ?_
    refine ret1 (by first | exact .inl rfl | exact .inr rfl) rfl ?_
    first | (refine ⟨1, rfl, ⟨by omega, fun h => ?_⟩, hB⟩; have := h.1; omega) | (refine ⟨4, rfl, ⟨by omega, fun h => ?_⟩, hB⟩; exfalso; obtain ⟨h1, h2, h3, h4, h5, h6⟩ := h; first | (have := h2 k (by omega); omega) | (rw [hkl] at *; omega)) | (refine ⟨0, rfl, ⟨fun _ => ⟨by omega, hsm, ?_⟩, fun _ => rfl⟩, hB⟩; rw [hkl] at *; omega)
  ·
    refine W.skip ?_
    refine thenP_normal ?_
    refine W.seqR ?_
    refine LS.vv rfl rfl (by decide) (Val.cast (v := .int .i64 ((0 : Nat) : Int)) (Val.assign rfl) rfl) ?_
    refine LS.nil ?_
    refine W.seq ?_
    refine W.seqR ?_
    refine LS.vv rfl rfl (by decide) (Val.move rfl) ?_
    refine LS.vv rfl rfl (by decide) (Val.len Try.underlying33 rfl) ?_
    refine LS.vv rfl rfl (by decide) (Val.cast (v := .int .i64 ((0 : Nat) : Int)) (Val.move rfl) rfl) ?_
    refine LS.nil ?_
    refine W.block ?_
    refine W.loop (α := Nat) (fun k => [(5, .int .i64 (sumTo zs k)), (13, .int .i64 (k : Int))]) [(1, _), (11, _), (12, _)] (fun k w => (k ≤ zs.length ∧ ∀ j, j < k → 0 ≤ gz zs j ∧ gz zs j ≤ 16) ∧ Below w0.heap.size w0 w) (fun k => zs.length - k) (0) (Sub.cons rfl (Sub.cons rfl (Sub.nil _))) (Sub.cons rfl (Sub.cons rfl (Sub.cons rfl (Sub.nil _)))) ?_ ?_
    · exact ⟨⟨Nat.zero_le _, by omega⟩, hB⟩
    rintro k w1 ⟨⟨hk, hall⟩, hB⟩
    simp only [List.cons_append, List.nil_append]
    have hsb := sumTo_bound hall
    refine W.seqR ?_
    refine LS.vv rfl rfl (by decide) (Val.lss rfl rfl) ?_
    refine LS.nil ?_
    refine W.seq ?_
    first | refine W.condD rfl (fun hc2 => ?_) (fun hc2 => ?_) | refine W.cond rfl (fun hc2 => ?_) (fun hc2 => ?_)
    ·
      refine W.skip ?_
      refine thenP_normal ?_
      refine W.seq ?_
      refine W.block ?_
      refine W.seqR ?_
      refine LS.vv rfl rfl (by decide) (Val.index1 Try.underlying33 elem3 rfl rfl (by omega) hr (iv_lt (by omega))) ?_
      refine LS.m rfl (Step.load rfl rfl (by decide) flat3 rfl (hr.below hB) (iv_at (by omega)) ?_)
      refine LS.vv rfl rfl (by decide) (Val.assign rfl) ?_
      refine LS.nil ?_
      refine W.seq ?_
      refine W.seqR ?_
      refine LS.vv rfl rfl (by decide) (Val.move rfl) ?_
      refine LS.vv rfl rfl (by decide) (Val.lss rfl rfl) ?_
      refine LS.vv rfl rfl (by decide) (Val.move rfl) ?_
      refine LS.split 2 rfl (fun hg3 => ?_) (fun hg3 => ?_)
      ·
        first | (have hg3p := of_decide_eq_true hg3) | skip
        refine LS.s rfl rfl rfl hg3 (by decide) ?_
        refine LS.s rfl rfl rfl hg3 (by decide) ?_
        refine LS.vv rfl rfl (by decide) (Val.pickT rfl hg3 rfl) ?_
        refine LS.nil ?_
        refine W.condT rfl ?_
        refine W.seqR ?_
        refine LS.vv rfl rfl (by decide) (Val.cast (v := .int .i64 ((4 : Nat) : Int)) (Val.assign rfl) rfl) ?_
        refine LS.nil ?_
        refine W.ret ?_
        refine thenP_ret ?_
        refine inBlk_ret ?_
        refine thenP_ret ?_
        refine thenP_ret ?_
        refine inBlk_ret ?_
        refine thenP_ret ?_
        refine ret1 (by first | exact .inl rfl | exact .inr rfl) rfl ?_
        first | (refine ⟨1, rfl, ⟨by omega, fun h => ?_⟩, hB⟩; have := h.1; omega) | (refine ⟨4, rfl, ⟨by omega, fun h => ?_⟩, hB⟩; exfalso; obtain ⟨h1, h2, h3, h4, h5, h6⟩ := h; first | (have := h2 k (by omega); omega) | (rw [hkl] at *; omega)) | (refine ⟨0, rfl, ⟨fun _ => ⟨by omega, hsm, ?_⟩, fun _ => rfl⟩, hB⟩; rw [hkl] at *; omega)
      ·
        first | (have hg3p := of_decide_eq_false hg3) | skip
        refine LS.vg rfl rfl rfl hg3 (by decide) (Val.move rfl) ?_
        refine LS.vg rfl rfl rfl hg3 (by decide) (Val.gtr rfl rfl) ?_
        refine LS.vv rfl rfl (by decide) (Val.pickF rfl hg3 rfl) ?_
        refine LS.nil ?_
        first | refine W.condD rfl (fun hc4 => ?_) (fun hc4 => ?_) | refine W.cond rfl (fun hc4 => ?_) (fun hc4 => ?_)
        ·
          refine W.seqR ?_
          refine LS.vv rfl rfl (by decide) (Val.cast (v := .int .i64 ((4 : Nat) : Int)) (Val.assign rfl) rfl) ?_
          refine LS.nil ?_
          refine W.ret ?_
          refine thenP_ret ?_
          refine inBlk_ret ?_
          refine thenP_ret ?_
          refine thenP_ret ?_
          refine inBlk_ret ?_
          refine thenP_ret ?_
          refine ret1 (by first | exact .inl rfl | exact .inr rfl) rfl ?_
          first | (refine ⟨1, rfl, ⟨by omega, fun h => ?_⟩, hB⟩; have := h.1; omega) | (refine ⟨4, rfl, ⟨by omega, fun h => ?_⟩, hB⟩; exfalso; obtain ⟨h1, h2, h3, h4, h5, h6⟩ := h; first | (have := h2 k (by omega); omega) | (rw [hkl] at *; omega)) | (refine ⟨0, rfl, ⟨fun _ => ⟨by omega, hsm, ?_⟩, fun _ => rfl⟩, hB⟩; rw [hkl] at *; omega)
        ·
          refine W.skip ?_
          refine thenP_normal ?_
          refine W.reg ?_
          refine LS.vv rfl rfl (by decide) (Val.move rfl) ?_
          refine LS.vv rfl rfl (by decide) (Val.move rfl) ?_
          first | refine LS.vv rfl rfl (by decide) (Val.addN rfl rfl (by omega)) ?_ | refine LS.vv rfl rfl (by decide) (Val.add64 rfl rfl (by omega)) ?_
          refine LS.vv rfl rfl (by decide) (Val.assign rfl) ?_
          refine LS.nil ?_
          refine inBlk_normal ?_
          refine thenP_normal ?_
          refine W.reg ?_
          first | refine LS.vv rfl rfl (by decide) (Val.addN (j := 1) rfl rfl (by omega)) ?_ | refine LS.vv rfl rfl (by decide) (Val.add64 rfl rfl (by omega)) ?_
          refine LS.vv rfl rfl (by decide) (Val.move rfl) ?_
          refine LS.nil ?_
          refine thenP_normal ?_
          refine ⟨k + 1, ?_, ?_, ⟨⟨by omega, ?_⟩, hB⟩, by omega⟩
          · exact Sub.cons rfl (Sub.cons rfl (Sub.nil _))
          · repeat (first | exact Sub.nil _ | refine Sub.cons rfl ?_)
          · intro j hj
            by_cases e : j = k
            · subst e; omega
            · exact hall j (by omega)
    ·
      have hkl : k = zs.length := by omega
      have hsm : Small zs := fun j hj => hall j (by omega)
      rw [hkl] at hsb
      refine W.exit ?_
      refine thenP_exit ?_
      refine thenP_exit ?_
      refine inBlk_exit ?_
      refine thenP_normal ?_
      refine W.seq ?_
      refine W.seqR ?_
      refine LS.vv rfl rfl (by decide) (Val.move rfl) ?_
      refine LS.vv rfl rfl (by decide) (Val.lss rfl rfl) ?_
      refine LS.vv rfl rfl (by decide) (Val.move rfl) ?_
      refine LS.split 2 rfl (fun hg5 => ?_) (fun hg5 => ?_)
      ·
        first | (have hg5p := of_decide_eq_true hg5) | skip
        refine LS.s rfl rfl rfl hg5 (by decide) ?_
        refine LS.s rfl rfl rfl hg5 (by decide) ?_
        refine LS.vv rfl rfl (by decide) (Val.pickT rfl hg5 rfl) ?_
        refine LS.vv rfl rfl (by decide) (Val.move rfl) ?_
        refine LS.s rfl rfl rfl rfl (by decide) ?_
        refine LS.s rfl rfl rfl rfl (by decide) ?_
        refine LS.vv rfl rfl (by decide) (Val.pickT rfl rfl rfl) ?_
        refine LS.vv rfl rfl (by decide) (Val.move rfl) ?_
        refine LS.s rfl rfl rfl rfl (by decide) ?_
        refine LS.s rfl rfl rfl rfl (by decide) ?_
        refine LS.vv rfl rfl (by decide) (Val.pickT rfl rfl rfl) ?_
        refine LS.nil ?_
        refine W.condT rfl ?_
        refine W.seqR ?_
        refine LS.vv rfl rfl (by decide) (Val.cast (v := .int .i64 ((4 : Nat) : Int)) (Val.assign rfl) rfl) ?_
        refine LS.nil ?_
        refine W.ret ?_
        refine thenP_ret ?_
        refine ret1 (by first | exact .inl rfl | exact .inr rfl) rfl ?_
        first | (refine ⟨1, rfl, ⟨by omega, fun h => ?_⟩, hB⟩; have := h.1; omega) | (refine ⟨4, rfl, ⟨by omega, fun h => ?_⟩, hB⟩; exfalso; obtain ⟨h1, h2, h3, h4, h5, h6⟩ := h; first | (have := h2 k (by omega); omega) | (rw [hkl] at *; omega)) | (refine ⟨0, rfl, ⟨fun _ => ⟨by omega, hsm, ?_⟩, fun _ => rfl⟩, hB⟩; rw [hkl] at *; omega)
      ·
        first | (have hg5p := of_decide_eq_false hg5) | skip
        refine LS.vg rfl rfl rfl hg5 (by decide) (Val.move rfl) ?_
        refine LS.vg rfl rfl rfl hg5 (by decide) (Val.gtr rfl rfl) ?_
        refine LS.vv rfl rfl (by decide) (Val.pickF rfl hg5 rfl) ?_
        refine LS.vv rfl rfl (by decide) (Val.move rfl) ?_
        refine LS.split 6 rfl (fun hg6 => ?_) (fun hg6 => ?_)
        ·
          first | (have hg6p := of_decide_eq_true hg6) | skip
          refine LS.s rfl rfl rfl hg6 (by decide) ?_
          refine LS.s rfl rfl rfl hg6 (by decide) ?_
          refine LS.vv rfl rfl (by decide) (Val.pickT rfl hg6 rfl) ?_
          refine LS.vv rfl rfl (by decide) (Val.move rfl) ?_
          refine LS.s rfl rfl rfl rfl (by decide) ?_
          refine LS.s rfl rfl rfl rfl (by decide) ?_
          refine LS.vv rfl rfl (by decide) (Val.pickT rfl rfl rfl) ?_
          refine LS.nil ?_
          refine W.condT rfl ?_
          refine W.seqR ?_
          refine LS.vv rfl rfl (by decide) (Val.cast (v := .int .i64 ((4 : Nat) : Int)) (Val.assign rfl) rfl) ?_
          refine LS.nil ?_
          refine W.ret ?_
          refine thenP_ret ?_
          refine ret1 (by first | exact .inl rfl | exact .inr rfl) rfl ?_
          first | (refine ⟨1, rfl, ⟨by omega, fun h => ?_⟩, hB⟩; have := h.1; omega) | (refine ⟨4, rfl, ⟨by omega, fun h => ?_⟩, hB⟩; exfalso; obtain ⟨h1, h2, h3, h4, h5, h6⟩ := h; first | (have := h2 k (by omega); omega) | (rw [hkl] at *; omega)) | (refine ⟨0, rfl, ⟨fun _ => ⟨by omega, hsm, ?_⟩, fun _ => rfl⟩, hB⟩; rw [hkl] at *; omega)
        ·
          first | (have hg6p := of_decide_eq_false hg6) | skip
          refine LS.vg rfl rfl rfl hg6 (by decide) (Val.move rfl) ?_
          refine LS.vg rfl rfl rfl hg6 (by decide) (Val.lss rfl rfl) ?_
          refine LS.vv rfl rfl (by decide) (Val.pickF rfl hg6 rfl) ?_
          refine LS.vv rfl rfl (by decide) (Val.move rfl) ?_
          refine LS.split 10 rfl (fun hg7 => ?_) (fun hg7 => ?_)
          ·
            first | (have hg7p := of_decide_eq_true hg7) | skip
            refine LS.s rfl rfl rfl hg7 (by decide) ?_
            refine LS.s rfl rfl rfl hg7 (by decide) ?_
            refine LS.vv rfl rfl (by decide) (Val.pickT rfl hg7 rfl) ?_
            refine LS.nil ?_
            refine W.condT rfl ?_
            refine W.seqR ?_
            refine LS.vv rfl rfl (by decide) (Val.cast (v := .int .i64 ((4 : Nat) : Int)) (Val.assign rfl) rfl) ?_
            refine LS.nil ?_
            refine W.ret ?_
            refine thenP_ret ?_
            refine ret1 (by first | exact .inl rfl | exact .inr rfl) rfl ?_
            first | (refine ⟨1, rfl, ⟨by omega, fun h => ?_⟩, hB⟩; have := h.1; omega) | (refine ⟨4, rfl, ⟨by omega, fun h => ?_⟩, hB⟩; exfalso; obtain ⟨h1, h2, h3, h4, h5, h6⟩ := h; first | (have := h2 k (by omega); omega) | (rw [hkl] at *; omega)) | (refine ⟨0, rfl, ⟨fun _ => ⟨by omega, hsm, ?_⟩, fun _ => rfl⟩, hB⟩; rw [hkl] at *; omega)
          ·
            first | (have hg7p := of_decide_eq_false hg7) | skip
            refine LS.vg rfl rfl rfl hg7 (by decide) (Val.move rfl) ?_
            refine LS.vg rfl rfl rfl hg7 (by decide) (Val.gtr rfl rfl) ?_
            refine LS.vv rfl rfl (by decide) (Val.pickF rfl hg7 rfl) ?_
            refine LS.nil ?_
            first | refine W.condD rfl (fun hc8 => ?_) (fun hc8 => ?_) | refine W.cond rfl (fun hc8 => ?_) (fun hc8 => ?_)
            ·
              refine W.seqR ?_
              refine LS.vv rfl rfl (by decide) (Val.cast (v := .int .i64 ((4 : Nat) : Int)) (Val.assign rfl) rfl) ?_
              refine LS.nil ?_
              refine W.ret ?_
              refine thenP_ret ?_
              refine ret1 (by first | exact .inl rfl | exact .inr rfl) rfl ?_
              first | (refine ⟨1, rfl, ⟨by omega, fun h => ?_⟩, hB⟩; have := h.1; omega) | (refine ⟨4, rfl, ⟨by omega, fun h => ?_⟩, hB⟩; exfalso; obtain ⟨h1, h2, h3, h4, h5, h6⟩ := h; first | (have := h2 k (by omega); omega) | (rw [hkl] at *; omega)) | (refine ⟨0, rfl, ⟨fun _ => ⟨by omega, hsm, ?_⟩, fun _ => rfl⟩, hB⟩; rw [hkl] at *; omega)
            ·
              refine W.skip ?_
              refine thenP_normal ?_
              refine W.seqR ?_
              refine LS.vv rfl rfl (by decide) (Val.cast (v := .int .i64 ((0 : Nat) : Int)) (Val.assign rfl) rfl) ?_
              refine LS.nil ?_
              refine W.ret ?_
              refine ret1 (by first | exact .inl rfl | exact .inr rfl) rfl ?_
              first | (refine ⟨1, rfl, ⟨by omega, fun h => ?_⟩, hB⟩; have := h.1; omega) | (refine ⟨4, rfl, ⟨by omega, fun h => ?_⟩, hB⟩; exfalso; obtain ⟨h1, h2, h3, h4, h5, h6⟩ := h; first | (have := h2 k (by omega); omega) | (rw [hkl] at *; omega)) | (refine ⟨0, rfl, ⟨fun _ => ⟨by omega, hsm, ?_⟩, fun _ => rfl⟩, hB⟩; rw [hkl] at *; omega)

theorem partsCheck_any (zs : List Int) (p : Option Addr) (c : Nat) (x : Int) (w0 : World) (hr : Rd w0 p (iv zs)) :
    CallsV Try.prog 45 #[.slice p zs.length c, .int .i64 x] w0 (fun v w => ∃ e : Nat, v = .int .i64 (e : Int) ∧ (e = 0 ↔ OkP zs x) ∧ Below w0.heap.size w0 w) := by
  refine enter1 Try.func45 rfl Try.ntmps45 (by simp) rfl ?_
  have hB := Below.refl w0.heap.size w0
  simp only [argLoc, Nat.zero_add]
  refine W.seqR ?_
  refine LS.vv rfl rfl (by decide) (Val.cast (v := .int .i64 ((0 : Nat) : Int)) (Val.assign rfl) rfl) ?_
  refine LS.nil ?_
  refine W.seq ?_
  refine W.seqR ?_
  refine LS.vv rfl rfl (by decide) (Val.move rfl) ?_
  refine LS.vv rfl rfl (by decide) (Val.len Try.underlying33 rfl) ?_
  refine LS.vv rfl rfl (by decide) (Val.gtr rfl rfl) ?_
  refine LS.nil ?_
  first | refine W.condD rfl (fun hc1 => ?_) (fun hc1 => ?_) | refine W.cond rfl (fun hc1 => ?_) (fun hc1 => ?_)
  ·
    refine W.seqR ?_
    refine LS.vv rfl rfl (by decide) (Val.cast (v := .int .i64 ((1 : Nat) : Int)) (Val.assign rfl) rfl) ?_
    refine LS.nil ?_
    refine W.ret ?_
    refine thenP_ret ?_
    refine ret1 (by first | exact .inl rfl | exact .inr rfl) rfl ?_
    first | (refine ⟨1, rfl, ⟨by omega, fun h => ?_⟩, hB⟩; have := h.1; omega) | (refine ⟨4, rfl, ⟨by omega, fun h => ?_⟩, hB⟩; exfalso; obtain ⟨h1, h2, h3, h4, h5, h6⟩ := h; first | (have := h2 k (by omega); omega) | (rw [hkl] at *; omega)) | (refine ⟨0, rfl, ⟨fun _ => ⟨by omega, hsm, ?_⟩, fun _ => rfl⟩, hB⟩; rw [hkl] at *; omega)
  ·
    refine W.skip ?_
    refine thenP_normal ?_
    refine W.seqR ?_
    refine LS.vv rfl rfl (by decide) (Val.cast (v := .int .i64 ((0 : Nat) : Int)) (Val.assign rfl) rfl) ?_
    refine LS.nil ?_
    refine W.seq ?_
    refine W.seqR ?_
    refine LS.vv rfl rfl (by decide) (Val.move rfl) ?_
    refine LS.vv rfl rfl (by decide) (Val.len Try.underlying33 rfl) ?_
    refine LS.vv rfl rfl (by decide) (Val.cast (v := .int .i64 ((0 : Nat) : Int)) (Val.move rfl) rfl) ?_
    refine LS.nil ?_
    refine W.block ?_
    refine W.loop (α := Nat) (fun k => [(5, .int .i64 (sumTo zs k)), (13, .int .i64 (k : Int))]) [(1, _), (11, _), (12, _)] (fun k w => (k ≤ zs.length ∧ ∀ j, j < k → 0 ≤ gz zs j ∧ gz zs j ≤ 16) ∧ Below w0.heap.size w0 w) (fun k => zs.length - k) (0) (Sub.cons rfl (Sub.cons rfl (Sub.nil _))) (Sub.cons rfl (Sub.cons rfl (Sub.cons rfl (Sub.nil _)))) ?_ ?_
    · exact ⟨⟨Nat.zero_le _, by omega⟩, hB⟩
    rintro k w1 ⟨⟨hk, hall⟩, hB⟩
    simp only [List.cons_append, List.nil_append]
    have hsb := sumTo_bound hall
    refine W.seqR ?_
    refine LS.vv rfl rfl (by decide) (Val.lss rfl rfl) ?_
    refine LS.nil ?_
    refine W.seq ?_
    first | refine W.condD rfl (fun hc2 => ?_) (fun hc2 => ?_) | refine W.cond rfl (fun hc2 => ?_) (fun hc2 => ?_)
    ·
      refine W.skip ?_
      refine thenP_normal ?_
      refine W.seq ?_
      refine W.block ?_
      refine W.seqR ?_
      refine LS.vv rfl rfl (by decide) (Val.index1 Try.underlying33 elem3 rfl rfl (by omega) hr (iv_lt (by omega))) ?_
      refine LS.m rfl (Step.load rfl rfl (by decide) flat3 rfl (hr.below hB) (iv_at (by omega)) ?_)
      refine LS.vv rfl rfl (by decide) (Val.assign rfl) ?_
      refine LS.nil ?_
      refine W.seq ?_
      refine W.seqR ?_
      refine LS.vv rfl rfl (by decide) (Val.move rfl) ?_
      refine LS.vv rfl rfl (by decide) (Val.lss rfl rfl) ?_
      refine LS.vv rfl rfl (by decide) (Val.move rfl) ?_
      refine LS.split 2 rfl (fun hg3 => ?_) (fun hg3 => ?_)
      ·
        first | (have hg3p := of_decide_eq_true hg3) | skip
        refine LS.s rfl rfl rfl hg3 (by decide) ?_
        refine LS.s rfl rfl rfl hg3 (by decide) ?_
        refine LS.vv rfl rfl (by decide) (Val.pickT rfl hg3 rfl) ?_
        refine LS.nil ?_
        refine W.condT rfl ?_
        refine W.seqR ?_
        refine LS.vv rfl rfl (by decide) (Val.cast (v := .int .i64 ((4 : Nat) : Int)) (Val.assign rfl) rfl) ?_
        refine LS.nil ?_
        refine W.ret ?_
        refine thenP_ret ?_
        refine inBlk_ret ?_
        refine thenP_ret ?_
        refine thenP_ret ?_
        refine inBlk_ret ?_
        refine thenP_ret ?_
        refine ret1 (by first | exact .inl rfl | exact .inr rfl) rfl ?_
        first | (refine ⟨1, rfl, ⟨by omega, fun h => ?_⟩, hB⟩; have := h.1; omega) | (refine ⟨4, rfl, ⟨by omega, fun h => ?_⟩, hB⟩; exfalso; obtain ⟨h1, h2, h3, h4, h5, h6⟩ := h; first | (have := h2 k (by omega); omega) | (rw [hkl] at *; omega)) | (refine ⟨0, rfl, ⟨fun _ => ⟨by omega, hsm, ?_⟩, fun _ => rfl⟩, hB⟩; rw [hkl] at *; omega)
      ·
        first | (have hg3p := of_decide_eq_false hg3) | skip
        refine LS.vg rfl rfl rfl hg3 (by decide) (Val.move rfl) ?_
        refine LS.vg rfl rfl rfl hg3 (by decide) (Val.gtr rfl rfl) ?_
        refine LS.vv rfl rfl (by decide) (Val.pickF rfl hg3 rfl) ?_
        refine LS.nil ?_
        first | refine W.condD rfl (fun hc4 => ?_) (fun hc4 => ?_) | refine W.cond rfl (fun hc4 => ?_) (fun hc4 => ?_)
        ·
          refine W.seqR ?_
          refine LS.vv rfl rfl (by decide) (Val.cast (v := .int .i64 ((4 : Nat) : Int)) (Val.assign rfl) rfl) ?_
          refine LS.nil ?_
          refine W.ret ?_
          refine thenP_ret ?_
          refine inBlk_ret ?_
          refine thenP_ret ?_
          refine thenP_ret ?_
          refine inBlk_ret ?_
          refine thenP_ret ?_
          refine ret1 (by first | exact .inl rfl | exact .inr rfl) rfl ?_
          first | (refine ⟨1, rfl, ⟨by omega, fun h => ?_⟩, hB⟩; have := h.1; omega) | (refine ⟨4, rfl, ⟨by omega, fun h => ?_⟩, hB⟩; exfalso; obtain ⟨h1, h2, h3, h4, h5, h6⟩ := h; first | (have := h2 k (by omega); omega) | (rw [hkl] at *; omega)) | (refine ⟨0, rfl, ⟨fun _ => ⟨by omega, hsm, ?_⟩, fun _ => rfl⟩, hB⟩; rw [hkl] at *; omega)
        ·
          refine W.skip ?_
          refine thenP_normal ?_
          refine W.reg ?_
          refine LS.vv rfl rfl (by decide) (Val.move rfl) ?_
          refine LS.vv rfl rfl (by decide) (Val.move rfl) ?_
          first | refine LS.vv rfl rfl (by decide) (Val.addN rfl rfl (by omega)) ?_ | refine LS.vv rfl rfl (by decide) (Val.add64 rfl rfl (by omega)) ?_
          refine LS.vv rfl rfl (by decide) (Val.assign rfl) ?_
          refine LS.nil ?_
          refine inBlk_normal ?_
          refine thenP_normal ?_
          refine W.reg ?_
          first | refine LS.vv rfl rfl (by decide) (Val.addN (j := 1) rfl rfl (by omega)) ?_ | refine LS.vv rfl rfl (by decide) (Val.add64 rfl rfl (by omega)) ?_
          refine LS.vv rfl rfl (by decide) (Val.move rfl) ?_
          refine LS.nil ?_
          refine thenP_normal ?_
          refine ⟨k + 1, ?_, ?_, ⟨⟨by omega, ?_⟩, hB⟩, by omega⟩
          · exact Sub.cons rfl (Sub.cons rfl (Sub.nil _))
          · repeat (first | exact Sub.nil _ | refine Sub.cons rfl ?_)
          · intro j hj
            by_cases e : j = k
            · subst e; omega
            · exact hall j (by omega)
    ·
      have hkl : k = zs.length := by omega
      have hsm : Small zs := fun j hj => hall j (by omega)
      rw [hkl] at hsb
      refine W.exit ?_
      refine thenP_exit ?_
      refine thenP_exit ?_
      refine inBlk_exit ?_
      refine thenP_normal ?_
      refine W.seq ?_
      refine W.seqR ?_
      refine LS.vv rfl rfl (by decide) (Val.move rfl) ?_
      refine LS.vv rfl rfl (by decide) (Val.lss rfl rfl) ?_
      refine LS.vv rfl rfl (by decide) (Val.move rfl) ?_
      refine LS.split 2 rfl (fun hg5 => ?_) (fun hg5 => ?_)
      ·
        first | (have hg5p := of_decide_eq_true hg5) | skip
        refine LS.s rfl rfl rfl hg5 (by decide) ?_
        refine LS.s rfl rfl rfl hg5 (by decide) ?_
        refine LS.vv rfl rfl (by decide) (Val.pickT rfl hg5 rfl) ?_
        refine LS.vv rfl rfl (by decide) (Val.move rfl) ?_
        refine LS.s rfl rfl rfl rfl (by decide) ?_
        refine LS.s rfl rfl rfl rfl (by decide) ?_
        refine LS.vv rfl rfl (by decide) (Val.pickT rfl rfl rfl) ?_
        refine LS.vv rfl rfl (by decide) (Val.move rfl) ?_
        refine LS.s rfl rfl rfl rfl (by decide) ?_
        refine LS.s rfl rfl rfl rfl (by decide) ?_
        refine LS.vv rfl rfl (by decide) (Val.pickT rfl rfl rfl) ?_
        refine LS.nil ?_
        refine W.condT rfl ?_
        refine W.seqR ?_
        refine LS.vv rfl rfl (by decide) (Val.cast (v := .int .i64 ((4 : Nat) : Int)) (Val.assign rfl) rfl) ?_
        refine LS.nil ?_
        refine W.ret ?_
        refine thenP_ret ?_
        refine ret1 (by first | exact .inl rfl | exact .inr rfl) rfl ?_
        first | (refine ⟨1, rfl, ⟨by omega, fun h => ?_⟩, hB⟩; have := h.1; omega) | (refine ⟨4, rfl, ⟨by omega, fun h => ?_⟩, hB⟩; exfalso; obtain ⟨h1, h2, h3, h4, h5, h6⟩ := h; first | (have := h2 k (by omega); omega) | (rw [hkl] at *; omega)) | (refine ⟨0, rfl, ⟨fun _ => ⟨by omega, hsm, ?_⟩, fun _ => rfl⟩, hB⟩; rw [hkl] at *; omega)
      ·
        first | (have hg5p := of_decide_eq_false hg5) | skip
        refine LS.vg rfl rfl rfl hg5 (by decide) (Val.move rfl) ?_
        refine LS.vg rfl rfl rfl hg5 (by decide) (Val.gtr rfl rfl) ?_
        refine LS.vv rfl rfl (by decide) (Val.pickF rfl hg5 rfl) ?_
        refine LS.vv rfl rfl (by decide) (Val.move rfl) ?_
        refine LS.split 6 rfl (fun hg6 => ?_) (fun hg6 => ?_)
        ·
          first | (have hg6p := of_decide_eq_true hg6) | skip
          refine LS.s rfl rfl rfl hg6 (by decide) ?_
          refine LS.s rfl rfl rfl hg6 (by decide) ?_
          refine LS.vv rfl rfl (by decide) (Val.pickT rfl hg6 rfl) ?_
          refine LS.vv rfl rfl (by decide) (Val.move rfl) ?_
          refine LS.s rfl rfl rfl rfl (by decide) ?_
          refine LS.s rfl rfl rfl rfl (by decide) ?_
          refine LS.vv rfl rfl (by decide) (Val.pickT rfl rfl rfl) ?_
          refine LS.nil ?_
          refine W.condT rfl ?_
          refine W.seqR ?_
          refine LS.vv rfl rfl (by decide) (Val.cast (v := .int .i64 ((4 : Nat) : Int)) (Val.assign rfl) rfl) ?_
          refine LS.nil ?_
          refine W.ret ?_
          refine thenP_ret ?_
          refine ret1 (by first | exact .inl rfl | exact .inr rfl) rfl ?_
          first | (refine ⟨1, rfl, ⟨by omega, fun h => ?_⟩, hB⟩; have := h.1; omega) | (refine ⟨4, rfl, ⟨by omega, fun h => ?_⟩, hB⟩; exfalso; obtain ⟨h1, h2, h3, h4, h5, h6⟩ := h; first | (have := h2 k (by omega); omega) | (rw [hkl] at *; omega)) | (refine ⟨0, rfl, ⟨fun _ => ⟨by omega, hsm, ?_⟩, fun _ => rfl⟩, hB⟩; rw [hkl] at *; omega)
        ·
          first | (have hg6p := of_decide_eq_false hg6) | skip
          refine LS.vg rfl rfl rfl hg6 (by decide) (Val.move rfl) ?_
          refine LS.vg rfl rfl rfl hg6 (by decide) (Val.lss rfl rfl) ?_
          refine LS.vv rfl rfl (by decide) (Val.pickF rfl hg6 rfl) ?_
          refine LS.vv rfl rfl (by decide) (Val.move rfl) ?_
          refine LS.split 10 rfl (fun hg7 => ?_) (fun hg7 => ?_)
          ·
            first | (have hg7p := of_decide_eq_true hg7) | skip
            refine LS.s rfl rfl rfl hg7 (by decide) ?_
            refine LS.s rfl rfl rfl hg7 (by decide) ?_
            refine LS.vv rfl rfl (by decide) (Val.pickT rfl hg7 rfl) ?_
            refine LS.nil ?_
            refine W.condT rfl ?_
            refine W.seqR ?_
            refine LS.vv rfl rfl (by decide) (Val.cast (v := .int .i64 ((4 : Nat) : Int)) (Val.assign rfl) rfl) ?_
            refine LS.nil ?_
            refine W.ret ?_
            refine thenP_ret ?_
            refine ret1 (by first | exact .inl rfl | exact .inr rfl) rfl ?_
            first | (refine ⟨1, rfl, ⟨by omega, fun h => ?_⟩, hB⟩; have := h.1; omega) | (refine ⟨4, rfl, ⟨by omega, fun h => ?_⟩, hB⟩; exfalso; obtain ⟨h1, h2, h3, h4, h5, h6⟩ := h; first | (have := h2 k (by omega); omega) | (rw [hkl] at *; omega)) | (refine ⟨0, rfl, ⟨fun _ => ⟨by omega, hsm, ?_⟩, fun _ => rfl⟩, hB⟩; rw [hkl] at *; omega)
          ·
            first | (have hg7p := of_decide_eq_false hg7) | skip
            refine LS.vg rfl rfl rfl hg7 (by decide) (Val.move rfl) ?_
            refine LS.vg rfl rfl rfl hg7 (by decide) (Val.gtr rfl rfl) ?_
            refine LS.vv rfl rfl (by decide) (Val.pickF rfl hg7 rfl) ?_
            refine LS.nil ?_
            first | refine W.condD rfl (fun hc8 => ?_) (fun hc8 => ?_) | refine W.cond rfl (fun hc8 => ?_) (fun hc8 => ?_)
            ·
              refine W.seqR ?_
              refine LS.vv rfl rfl (by decide) (Val.cast (v := .int .i64 ((4 : Nat) : Int)) (Val.assign rfl) rfl) ?_
              refine LS.nil ?_
              refine W.ret ?_
              refine thenP_ret ?_
              refine ret1 (by first | exact .inl rfl | exact .inr rfl) rfl ?_
              first | (refine ⟨1, rfl, ⟨by omega, fun h => ?_⟩, hB⟩; have := h.1; omega) | (refine ⟨4, rfl, ⟨by omega, fun h => ?_⟩, hB⟩; exfalso; obtain ⟨h1, h2, h3, h4, h5, h6⟩ := h; first | (have := h2 k (by omega); omega) | (rw [hkl] at *; omega)) | (refine ⟨0, rfl, ⟨fun _ => ⟨by omega, hsm, ?_⟩, fun _ => rfl⟩, hB⟩; rw [hkl] at *; omega)
            ·
              refine W.skip ?_
              refine thenP_normal ?_
              refine W.seqR ?_
              refine LS.vv rfl rfl (by decide) (Val.cast (v := .int .i64 ((0 : Nat) : Int)) (Val.assign rfl) rfl) ?_
              refine LS.nil ?_
              refine W.ret ?_
              refine ret1 (by first | exact .inl rfl | exact .inr rfl) rfl ?_
              first | (refine ⟨1, rfl, ⟨by omega, fun h => ?_⟩, hB⟩; have := h.1; omega) | (refine ⟨4, rfl, ⟨by omega, fun h => ?_⟩, hB⟩; exfalso; obtain ⟨h1, h2, h3, h4, h5, h6⟩ := h; first | (have := h2 k (by omega); omega) | (rw [hkl] at *; omega)) | (refine ⟨0, rfl, ⟨fun _ => ⟨by omega, hsm, ?_⟩, fun _ => rfl⟩, hB⟩; rw [hkl] at *; omega)

theorem parted_any (zs : List Int) (p : Option Addr) (c : Nat) (x : Int) (w0 : World) (hr : Rd w0 p (iv zs)) :
    CallsV Try.prog 22 #[.slice p zs.length c, .int .i64 x] w0 (fun v w => ∃ b : Bool, v = .bool b ∧ (b = true ↔ OkP zs x) ∧ Below w0.heap.size w0 w) := by
  refine enter1 Try.func22 rfl Try.ntmps22 (by simp) rfl ?_
  have hB := Below.refl w0.heap.size w0
  simp only [argLoc, Nat.zero_add]
  refine W.seqR ?_
  refine LS.vv rfl rfl (by decide) (Val.assign rfl) ?_
  refine LS.nil ?_
  refine W.seqR ?_
  refine LS.vv rfl rfl (by decide) (Val.move rfl) ?_
  refine LS.vv rfl rfl (by decide) (Val.move rfl) ?_
  refine LS.m rfl (Step.call body45 rfl rfl (by decide) rfl (CallsV.mono (partsCheck_any zs _ _ x _ (hr.below hB)) ?_))
  rintro _ w1 ⟨e, rfl, he, hb1⟩
  replace hB := hB.trans (hb1.mono hB.size)
  refine LS.vv rfl rfl (by decide) (Val.eql rfl rfl) ?_
  refine LS.vv rfl rfl (by decide) (Val.assign rfl) ?_
  refine LS.nil ?_
  refine W.ret ?_
  refine ret1 (by first | exact .inl rfl | exact .inr rfl) rfl ?_
  refine ⟨_, rfl, ?_, hB⟩
  rw [← he, decide_eq_true_iff]
  omega

theorem start_any (zs : List Int) (p : Option Addr) (c s : Nat) (w0 : World) (hr : Rd w0 p (iv zs)) (hc : zs.length ≤ c) (h8 : zs.length ≤ 8) (hsm : Small zs) (hs : s ≤ zs.length) :
    CallsV Try.prog 44 #[.slice p zs.length c, .int .i64 (s : Int)] w0 (fun v w => v = .int .i64 (sumTo zs s) ∧ Below w0.heap.size w0 w) := by
  refine enter1 Try.func44 rfl Try.ntmps44 (by simp) rfl ?_
  have hB := Below.refl w0.heap.size w0
  simp only [argLoc, Nat.zero_add]
  refine W.seqR ?_
  refine LS.vv rfl rfl (by decide) (Val.cast (v := .int .i64 ((0 : Nat) : Int)) (Val.assign rfl) rfl) ?_
  refine LS.nil ?_
  refine W.seqR ?_
  refine LS.vv rfl rfl (by decide) (Val.cast (v := .int .i64 ((0 : Nat) : Int)) (Val.assign rfl) rfl) ?_
  refine LS.nil ?_
  refine W.seq ?_
  refine W.seqR ?_
  refine LS.vv rfl rfl (by decide) (Val.move rfl) ?_
  refine LS.vv rfl rfl (by decide) (Val.move rfl) ?_
  refine LS.vv rfl rfl (by decide) (Val.sliceTo Try.underlying33 elem3 rfl rfl (by omega)) ?_
  refine LS.vv rfl rfl (by decide) (Val.len Try.underlying33 rfl) ?_
  refine LS.vv rfl rfl (by decide) (Val.cast (v := .int .i64 ((0 : Nat) : Int)) (Val.move rfl) rfl) ?_
  refine LS.nil ?_
  refine W.block ?_
  refine W.loop (α := Nat) (fun k => [(5, .int .i64 (sumTo zs k)), (12, .int .i64 (k : Int))]) [(10, _), (11, _)] (fun k w => k ≤ s ∧ Below w0.heap.size w0 w) (fun k => s - k) (0) (Sub.cons rfl (Sub.cons rfl (Sub.nil _))) (Sub.cons rfl (Sub.cons rfl (Sub.nil _))) ?_ ?_
  · exact ⟨Nat.zero_le _, hB⟩
  rintro k w1 ⟨hk, hB⟩
  simp only [List.cons_append, List.nil_append]
  have hsb := sumTo_bound (zs := zs) (k := k) (fun j hj => hsm j (by omega))
  have hg : k < s → 0 ≤ gz zs k ∧ gz zs k ≤ 16 := fun h => hsm k (by omega)
  refine W.seqR ?_
  refine LS.vv rfl rfl (by decide) (Val.lss rfl rfl) ?_
  refine LS.nil ?_
  refine W.seq ?_
  first | refine W.condD rfl (fun hc1 => ?_) (fun hc1 => ?_) | refine W.cond rfl (fun hc1 => ?_) (fun hc1 => ?_)
  ·
    refine W.skip ?_
    refine thenP_normal ?_
    refine W.seq ?_
    refine W.block ?_
    refine W.seqR ?_
    refine LS.vv rfl rfl (by decide) (Val.index1 Try.underlying33 elem3 rfl rfl (by omega) hr (iv_lt (by omega))) ?_
    refine LS.m rfl (Step.load rfl rfl (by decide) flat3 rfl (hr.below hB) (iv_at (by omega)) ?_)
    refine LS.vv rfl rfl (by decide) (Val.assign rfl) ?_
    refine LS.nil ?_
    refine W.reg ?_
    refine LS.vv rfl rfl (by decide) (Val.move rfl) ?_
    refine LS.vv rfl rfl (by decide) (Val.move rfl) ?_
    first | refine LS.vv rfl rfl (by decide) (Val.addN rfl rfl (by omega)) ?_ | refine LS.vv rfl rfl (by decide) (Val.add64 rfl rfl (by omega)) ?_
    refine LS.vv rfl rfl (by decide) (Val.assign rfl) ?_
    refine LS.nil ?_
    refine inBlk_normal ?_
    refine thenP_normal ?_
    refine W.reg ?_
    first | refine LS.vv rfl rfl (by decide) (Val.addN (j := 1) rfl rfl (by omega)) ?_ | refine LS.vv rfl rfl (by decide) (Val.add64 rfl rfl (by omega)) ?_
    refine LS.vv rfl rfl (by decide) (Val.move rfl) ?_
    refine LS.nil ?_
    refine thenP_normal ?_
    refine ⟨k + 1, ?_, ?_, ⟨by omega, hB⟩, by omega⟩
    · exact Sub.cons rfl (Sub.cons rfl (Sub.nil _))
    · repeat (first | exact Sub.nil _ | refine Sub.cons rfl ?_)
  ·
    refine W.exit ?_
    refine thenP_exit ?_
    refine thenP_exit ?_
    refine inBlk_exit ?_
    refine thenP_normal ?_
    refine W.seqR ?_
    refine LS.vv rfl rfl (by decide) (Val.move rfl) ?_
    refine LS.vv rfl rfl (by decide) (Val.assign rfl) ?_
    refine LS.nil ?_
    refine W.ret ?_
    refine ret1 (by first | exact .inl rfl | exact .inr rfl) rfl ?_
    obtain rfl : k = s := by omega
    exact ⟨rfl, hB⟩

theorem put_any (zs : List Int) (p : Option Addr) (c : Nat) (x s : Int) (w0 : World) (hr : Rd w0 p (iv zs)) (hc : zs.length ≤ c) :
    CallsV Try.prog 21 #[.slice p zs.length c, .int .i64 x, .int .i64 s] w0 (fun v w => ∃ (y : Int) (e : Nat), v = .tuple #[.int .i64 y, .int .i64 (e : Int)] ∧ (e = 0 ↔ OkP zs x ∧ 0 ≤ s ∧ s < zs.length ∧ 1 ≤ gz zs s.toNat ∧ putV zs x s.toNat ≤ 1099511627776) ∧ (e = 0 → y = putV zs x s.toNat) ∧ (e ≠ 0 → y = 0) ∧ Below w0.heap.size w0 w) := by
  refine enter2 Try.func21 rfl Try.ntmps21 (by simp) rfl ?_
  have hB := Below.refl w0.heap.size w0
  simp only [argLoc, Nat.zero_add, Nat.reduceAdd]
  refine W.seqR ?_
  refine LS.vv rfl rfl (by decide) (Val.cast (v := .int .i64 ((0 : Nat) : Int)) (Val.assign rfl) rfl) ?_
  refine LS.vv rfl rfl (by decide) (Val.cast (v := .int .i64 ((0 : Nat) : Int)) (Val.assign rfl) rfl) ?_
  refine LS.nil ?_
  refine W.seq ?_
  refine W.seqR ?_
  refine LS.vv rfl rfl (by decide) (Val.move rfl) ?_
  refine LS.vv rfl rfl (by decide) (Val.move rfl) ?_
  refine LS.m rfl (Step.call body43 rfl rfl (by decide) rfl (CallsV.mono (wrong_any zs _ _ x _ (hr.below hB)) ?_))
  rintro _ w1 ⟨e, rfl, he, hb1⟩
  replace hB := hB.trans (hb1.mono hB.size)
  refine LS.vv rfl rfl (by decide) (Val.assign rfl) ?_
  refine LS.nil ?_
  refine W.seqR ?_
  refine LS.vv rfl rfl (by decide) (Val.move rfl) ?_
  refine LS.vv rfl rfl (by decide) (Val.neq rfl rfl) ?_
  refine LS.nil ?_
  first | refine W.condD rfl (fun hc1 => ?_) (fun hc1 => ?_) | refine W.cond rfl (fun hc1 => ?_) (fun hc1 => ?_)
  ·
    refine W.seqR ?_
    refine LS.vv rfl rfl (by decide) (Val.move rfl) ?_
    refine LS.vv rfl rfl (by decide) (Val.cast (v := .int .i64 ((0 : Nat) : Int)) (Val.assign rfl) rfl) ?_
    refine LS.vv rfl rfl (by decide) (Val.assign rfl) ?_
    refine LS.nil ?_
    refine W.ret ?_
    refine thenP_ret ?_
    refine ret2 (by first | exact .inl rfl | exact .inr rfl) rfl rfl ?_
    first | (refine ⟨0, e, rfl, ⟨fun h => by omega, fun h => he.2 h.1⟩, fun h => by omega, fun _ => rfl, hB⟩) | (refine ⟨0, 2, rfl, ⟨fun h => by omega, fun h => ?_⟩, fun h => by omega, fun _ => rfl, hB⟩; exfalso; obtain ⟨h1, h2, h3, h4, h5⟩ := h; (try rw [Int.toNat_natCast] at h4); omega) | (refine ⟨0, 1, rfl, ⟨fun h => by omega, fun h => ?_⟩, fun h => by omega, fun _ => rfl, hB⟩; exfalso; obtain ⟨h1, h2, h3, h4, h5⟩ := h; rw [Int.toNat_natCast] at h5; unfold putV at h5; omega) | (refine ⟨_, 0, rfl, ⟨fun _ => ⟨⟨o1, o2, o3, o4, o5, o6⟩, by omega, by omega, by rw [Int.toNat_natCast]; omega, by rw [Int.toNat_natCast]; unfold putV; omega⟩, fun _ => rfl⟩, fun _ => rfl, fun h => absurd rfl h, hB⟩)
  ·
    refine W.skip ?_
    refine thenP_normal ?_
    refine W.seq ?_
    refine W.seqR ?_
    refine LS.vv rfl rfl (by decide) (Val.move rfl) ?_
    refine LS.vv rfl rfl (by decide) (Val.lss rfl rfl) ?_
    refine LS.vv rfl rfl (by decide) (Val.move rfl) ?_
    refine LS.split 2 rfl (fun hg2 => ?_) (fun hg2 => ?_)
    ·
      first | (have hg2p := of_decide_eq_true hg2) | skip
      refine LS.s rfl rfl rfl hg2 (by decide) ?_
      refine LS.s rfl rfl rfl hg2 (by decide) ?_
      refine LS.s rfl rfl rfl hg2 (by decide) ?_
      refine LS.s rfl rfl rfl hg2 (by decide) ?_
      refine LS.vv rfl rfl (by decide) (Val.pickT rfl hg2 rfl) ?_
      refine LS.vv rfl rfl (by decide) (Val.move rfl) ?_
      refine LS.s rfl rfl rfl rfl (by decide) ?_
      refine LS.s rfl rfl rfl rfl (by decide) ?_
      refine LS.s rfl rfl rfl rfl (by decide) ?_
      refine LS.s rfl rfl rfl rfl (by decide) ?_
      refine LS.s rfl rfl rfl rfl (by decide) ?_
      refine LS.vv rfl rfl (by decide) (Val.pickT rfl rfl rfl) ?_
      refine LS.nil ?_
      refine W.condT rfl ?_
      refine W.seqR ?_
      refine LS.vv rfl rfl (by decide) (Val.cast (v := .int .i64 ((0 : Nat) : Int)) (Val.assign rfl) rfl) ?_
      refine LS.vv rfl rfl (by decide) (Val.cast (v := .int .i64 ((2 : Nat) : Int)) (Val.assign rfl) rfl) ?_
      refine LS.nil ?_
      refine W.ret ?_
      refine thenP_ret ?_
      refine ret2 (by first | exact .inl rfl | exact .inr rfl) rfl rfl ?_
      first | (refine ⟨0, e, rfl, ⟨fun h => by omega, fun h => he.2 h.1⟩, fun h => by omega, fun _ => rfl, hB⟩) | (refine ⟨0, 2, rfl, ⟨fun h => by omega, fun h => ?_⟩, fun h => by omega, fun _ => rfl, hB⟩; exfalso; obtain ⟨h1, h2, h3, h4, h5⟩ := h; (try rw [Int.toNat_natCast] at h4); omega) | (refine ⟨0, 1, rfl, ⟨fun h => by omega, fun h => ?_⟩, fun h => by omega, fun _ => rfl, hB⟩; exfalso; obtain ⟨h1, h2, h3, h4, h5⟩ := h; rw [Int.toNat_natCast] at h5; unfold putV at h5; omega) | (refine ⟨_, 0, rfl, ⟨fun _ => ⟨⟨o1, o2, o3, o4, o5, o6⟩, by omega, by omega, by rw [Int.toNat_natCast]; omega, by rw [Int.toNat_natCast]; unfold putV; omega⟩, fun _ => rfl⟩, fun _ => rfl, fun h => absurd rfl h, hB⟩)
    ·
      first | (have hg2p := of_decide_eq_false hg2) | skip
      refine LS.vg rfl rfl rfl hg2 (by decide) (Val.move rfl) ?_
      refine LS.vg rfl rfl rfl hg2 (by decide) (Val.move rfl) ?_
      refine LS.vg rfl rfl rfl hg2 (by decide) (Val.len Try.underlying33 rfl) ?_
      refine LS.vg rfl rfl rfl hg2 (by decide) (Val.geq rfl rfl) ?_
      refine LS.vv rfl rfl (by decide) (Val.pickF rfl hg2 rfl) ?_
      refine LS.vv rfl rfl (by decide) (Val.move rfl) ?_
      refine LS.split 8 rfl (fun hg3 => ?_) (fun hg3 => ?_)
      ·
        first | (have hg3p := of_decide_eq_true hg3) | skip
        refine LS.s rfl rfl rfl hg3 (by decide) ?_
        refine LS.s rfl rfl rfl hg3 (by decide) ?_
        refine LS.s rfl rfl rfl hg3 (by decide) ?_
        refine LS.s rfl rfl rfl hg3 (by decide) ?_
        refine LS.s rfl rfl rfl hg3 (by decide) ?_
        refine LS.vv rfl rfl (by decide) (Val.pickT rfl hg3 rfl) ?_
        refine LS.nil ?_
        refine W.condT rfl ?_
        refine W.seqR ?_
        refine LS.vv rfl rfl (by decide) (Val.cast (v := .int .i64 ((0 : Nat) : Int)) (Val.assign rfl) rfl) ?_
        refine LS.vv rfl rfl (by decide) (Val.cast (v := .int .i64 ((2 : Nat) : Int)) (Val.assign rfl) rfl) ?_
        refine LS.nil ?_
        refine W.ret ?_
        refine thenP_ret ?_
        refine ret2 (by first | exact .inl rfl | exact .inr rfl) rfl rfl ?_
        first | (refine ⟨0, e, rfl, ⟨fun h => by omega, fun h => he.2 h.1⟩, fun h => by omega, fun _ => rfl, hB⟩) | (refine ⟨0, 2, rfl, ⟨fun h => by omega, fun h => ?_⟩, fun h => by omega, fun _ => rfl, hB⟩; exfalso; obtain ⟨h1, h2, h3, h4, h5⟩ := h; (try rw [Int.toNat_natCast] at h4); omega) | (refine ⟨0, 1, rfl, ⟨fun h => by omega, fun h => ?_⟩, fun h => by omega, fun _ => rfl, hB⟩; exfalso; obtain ⟨h1, h2, h3, h4, h5⟩ := h; rw [Int.toNat_natCast] at h5; unfold putV at h5; omega) | (refine ⟨_, 0, rfl, ⟨fun _ => ⟨⟨o1, o2, o3, o4, o5, o6⟩, by omega, by omega, by rw [Int.toNat_natCast]; omega, by rw [Int.toNat_natCast]; unfold putV; omega⟩, fun _ => rfl⟩, fun _ => rfl, fun h => absurd rfl h, hB⟩)
      ·
        first | (have hg3p := of_decide_eq_false hg3) | skip
        refine LS.vg rfl rfl rfl hg3 (by decide) (Val.move rfl) ?_
        refine LS.vg rfl rfl rfl hg3 (by decide) (Val.move rfl) ?_
        obtain ⟨S, rfl⟩ := Int.eq_ofNat_of_zero_le (show 0 ≤ s by omega)
        have hok := he.1 (by omega)
        have hgs := hok.2.1 S (by omega)
        refine LS.vg rfl rfl rfl hg3 (by decide) (Val.index1 Try.underlying33 elem3 rfl rfl (by omega) hr (iv_lt (by omega))) ?_
        refine LS.mg rfl rfl hg3 (Step.load rfl rfl (by decide) flat3 rfl (hr.below hB) (iv_at (by omega)) ?_)
        refine LS.vg rfl rfl rfl hg3 (by decide) (Val.eql rfl rfl) ?_
        refine LS.vv rfl rfl (by decide) (Val.pickF rfl hg3 rfl) ?_
        refine LS.nil ?_
        first | refine W.condD rfl (fun hc4 => ?_) (fun hc4 => ?_) | refine W.cond rfl (fun hc4 => ?_) (fun hc4 => ?_)
        ·
          refine W.seqR ?_
          refine LS.vv rfl rfl (by decide) (Val.cast (v := .int .i64 ((0 : Nat) : Int)) (Val.assign rfl) rfl) ?_
          refine LS.vv rfl rfl (by decide) (Val.cast (v := .int .i64 ((2 : Nat) : Int)) (Val.assign rfl) rfl) ?_
          refine LS.nil ?_
          refine W.ret ?_
          refine thenP_ret ?_
          refine ret2 (by first | exact .inl rfl | exact .inr rfl) rfl rfl ?_
          first | (refine ⟨0, e, rfl, ⟨fun h => by omega, fun h => he.2 h.1⟩, fun h => by omega, fun _ => rfl, hB⟩) | (refine ⟨0, 2, rfl, ⟨fun h => by omega, fun h => ?_⟩, fun h => by omega, fun _ => rfl, hB⟩; exfalso; obtain ⟨h1, h2, h3, h4, h5⟩ := h; (try rw [Int.toNat_natCast] at h4); omega) | (refine ⟨0, 1, rfl, ⟨fun h => by omega, fun h => ?_⟩, fun h => by omega, fun _ => rfl, hB⟩; exfalso; obtain ⟨h1, h2, h3, h4, h5⟩ := h; rw [Int.toNat_natCast] at h5; unfold putV at h5; omega) | (refine ⟨_, 0, rfl, ⟨fun _ => ⟨⟨o1, o2, o3, o4, o5, o6⟩, by omega, by omega, by rw [Int.toNat_natCast]; omega, by rw [Int.toNat_natCast]; unfold putV; omega⟩, fun _ => rfl⟩, fun _ => rfl, fun h => absurd rfl h, hB⟩)
        ·
          refine W.skip ?_
          refine thenP_normal ?_
          refine W.seqR ?_
          refine LS.vv rfl rfl (by decide) (Val.move rfl) ?_
          refine LS.vv rfl rfl (by decide) (Val.move rfl) ?_
          refine LS.vv rfl rfl (by decide) (Val.index1 Try.underlying33 elem3 rfl rfl (by omega) hr (iv_lt (by omega))) ?_
          refine LS.m rfl (Step.load rfl rfl (by decide) flat3 rfl (hr.below hB) (iv_at (by omega)) ?_)
          obtain ⟨f1, f2, f3, f4, f5, f6, f7, f8⟩ := putV_parts hok (show S < zs.length by omega) (by omega)
          obtain ⟨o1, o2, o3, o4, o5, o6⟩ := hok
          refine LS.vv rfl rfl (by decide) (Val.assign rfl) ?_
          refine LS.nil ?_
          refine W.seqD (S := fun w => Below w0.heap.size w0 w) [(0, true), (1, true), (2, true), (3, true), (4, true), (5, true), (8, true), (9, true), (12, true), (13, true), (14, true), (6, false), (7, true), (10, false), (11, true), (15, true), (16, true)] mixed (by kernel_rfl) hB.drew ?_
          replace hB := hB.drew
          refine DX.vv rfl rfl rfl (by decide) (Val.move rfl) ?_
          refine DX.vv rfl rfl rfl (by decide) (Val.move rfl) ?_
          refine DX.vv rfl rfl rfl (by decide) (Val.quo64 rfl rfl (by omega) (by omega)) ?_
          refine DX.vv rfl rfl rfl (by decide) (Val.move rfl) ?_
          refine DX.vv rfl rfl rfl (by decide) (Val.move rfl) ?_
          refine DX.vv rfl rfl rfl (by decide) (Val.len Try.underlying33 rfl) ?_
          refine DX.vv rfl rfl rfl (by decide) (Val.move rfl) ?_
          refine DX.vv rfl rfl rfl (by decide) (Val.move rfl) ?_
          refine DX.vv rfl rfl rfl (by decide) (Val.move rfl) ?_
          refine DX.vv rfl rfl rfl (by decide) (Val.move rfl) ?_
          refine DX.vv rfl rfl rfl (by decide) (Val.rem rfl rfl (by omega) (by omega)) ?_
          refine DX.m rfl rfl (Step.call body44 rfl rfl (by decide) rfl (CallsV.mono (start_any zs _ _ zs.length _ (hr.below hB) hc o1 o2 (Nat.le_refl _)) ?_))
          rintro _ w2 ⟨rfl, hb2⟩
          replace hB := hB.trans (hb2.mono hB.size)
          refine ⟨hB, ?_⟩
          refine DX.vv rfl rfl rfl (by decide) (Val.mul64 rfl rfl (by omega)) ?_
          refine DX.m rfl rfl (Step.call body44 rfl rfl (by decide) rfl (CallsV.mono (start_any zs _ _ S _ (hr.below hB) hc o1 o2 (by omega)) ?_))
          rintro _ w3 ⟨rfl, hb3⟩
          replace hB := hB.trans (hb3.mono hB.size)
          refine ⟨hB, ?_⟩
          first | refine DX.vv rfl rfl rfl (by decide) (Val.addN rfl rfl (by omega)) ?_ | refine DX.vv rfl rfl rfl (by decide) (Val.add64 rfl rfl (by omega)) ?_
          first | refine DX.vv rfl rfl rfl (by decide) (Val.addN rfl rfl (by omega)) ?_ | refine DX.vv rfl rfl rfl (by decide) (Val.add64 rfl rfl (by omega)) ?_
          refine DX.vv rfl rfl rfl (by decide) (Val.assign rfl) ?_
          refine DX.nil ?_
          refine W.seq ?_
          refine W.seqR ?_
          refine LS.vv rfl rfl (by decide) (Val.move rfl) ?_
          refine LS.vv rfl rfl (by decide) (Val.gtr rfl rfl) ?_
          refine LS.nil ?_
          first | refine W.condD rfl (fun hc5 => ?_) (fun hc5 => ?_) | refine W.cond rfl (fun hc5 => ?_) (fun hc5 => ?_)
          ·
            refine W.seqR ?_
            refine LS.vv rfl rfl (by decide) (Val.cast (v := .int .i64 ((0 : Nat) : Int)) (Val.assign rfl) rfl) ?_
            refine LS.vv rfl rfl (by decide) (Val.cast (v := .int .i64 ((1 : Nat) : Int)) (Val.assign rfl) rfl) ?_
            refine LS.nil ?_
            refine W.ret ?_
            refine thenP_ret ?_
            refine ret2 (by first | exact .inl rfl | exact .inr rfl) rfl rfl ?_
            first | (refine ⟨0, e, rfl, ⟨fun h => by omega, fun h => he.2 h.1⟩, fun h => by omega, fun _ => rfl, hB⟩) | (refine ⟨0, 2, rfl, ⟨fun h => by omega, fun h => ?_⟩, fun h => by omega, fun _ => rfl, hB⟩; exfalso; obtain ⟨h1, h2, h3, h4, h5⟩ := h; (try rw [Int.toNat_natCast] at h4); omega) | (refine ⟨0, 1, rfl, ⟨fun h => by omega, fun h => ?_⟩, fun h => by omega, fun _ => rfl, hB⟩; exfalso; obtain ⟨h1, h2, h3, h4, h5⟩ := h; rw [Int.toNat_natCast] at h5; unfold putV at h5; omega) | (refine ⟨_, 0, rfl, ⟨fun _ => ⟨⟨o1, o2, o3, o4, o5, o6⟩, by omega, by omega, by rw [Int.toNat_natCast]; omega, by rw [Int.toNat_natCast]; unfold putV; omega⟩, fun _ => rfl⟩, fun _ => rfl, fun h => absurd rfl h, hB⟩)
          ·
            refine W.skip ?_
            refine thenP_normal ?_
            refine W.seqR ?_
            refine LS.vv rfl rfl (by decide) (Val.move rfl) ?_
            refine LS.vv rfl rfl (by decide) (Val.assign rfl) ?_
            refine LS.vv rfl rfl (by decide) (Val.cast (v := .int .i64 ((0 : Nat) : Int)) (Val.assign rfl) rfl) ?_
            refine LS.nil ?_
            refine W.ret ?_
            refine ret2 (by first | exact .inl rfl | exact .inr rfl) rfl rfl ?_
            first | (refine ⟨0, e, rfl, ⟨fun h => by omega, fun h => he.2 h.1⟩, fun h => by omega, fun _ => rfl, hB⟩) | (refine ⟨0, 2, rfl, ⟨fun h => by omega, fun h => ?_⟩, fun h => by omega, fun _ => rfl, hB⟩; exfalso; obtain ⟨h1, h2, h3, h4, h5⟩ := h; (try rw [Int.toNat_natCast] at h4); omega) | (refine ⟨0, 1, rfl, ⟨fun h => by omega, fun h => ?_⟩, fun h => by omega, fun _ => rfl, hB⟩; exfalso; obtain ⟨h1, h2, h3, h4, h5⟩ := h; rw [Int.toNat_natCast] at h5; unfold putV at h5; omega) | (refine ⟨_, 0, rfl, ⟨fun _ => ⟨⟨o1, o2, o3, o4, o5, o6⟩, by omega, by omega, by rw [Int.toNat_natCast]; omega, by rw [Int.toNat_natCast]; unfold putV; omega⟩, fun _ => rfl⟩, fun _ => rfl, fun h => absurd rfl h, hB⟩)

end Go.Proofs.Ytcoplafphgpmpaa
