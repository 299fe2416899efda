/-
  The walks of package field.
-/
import Derived.Test.YtnaebllojkodbaaVfacts
import Derived.Test.YtnaebllojkodbaaFieldPlain
namespace Go.Proofs.Ytnaebllojkodbaa
open Go Go.RowKit V
set_option linter.unusedVariables false
set_option linter.unusedSimpArgs false

theorem indexFunc_int (vals : List Value) (pr : Nat → Bool) (f : FuncId) (cap : Array Value) (p : Option Addr) (c : Nat) (w0 : World) (hbody : Body Try.prog f) (hr : Rd w0 p vals) (hb : vals.length ≤ 4611686018427387904)
    (hf : ∀ i (h : i < vals.length) w, Below w0.heap.size w0 w → CallsV Try.prog f (#[vals[i]] ++ cap) w (fun v w2 => v = .bool (pr i) ∧ Below w.heap.size w w2)) :
    CallsV Try.prog 51 #[.slice p vals.length c, .func (.func f) #[] cap] w0 (fun v w => v = .int .i64 (fI pr vals.length) ∧ Below w0.heap.size w0 w) := by
  refine enter1 Try.func51 rfl Try.ntmps51 (by simp) rfl ?_
  have hB := Below.refl w0.heap.size w0
  simp only [argLoc, Nat.zero_add]
  refine W.seqR ?_
  refine LS.vv rfl rfl (by decide) (Val.cast (v := .int .i64 ((0 : Nat) : Int)) (Val.assign rfl) rfl) ?_
  refine LS.nil ?_
  refine W.seq ?_
  refine W.seqR ?_
  refine LS.vv rfl rfl (by decide) (Val.move rfl) ?_
  refine LS.vv rfl rfl (by decide) (Val.len Try.underlying27 rfl) ?_
  refine LS.vv rfl rfl (by decide) (Val.cast (v := .int .i64 ((0 : Nat) : Int)) (Val.move rfl) rfl) ?_
  refine LS.nil ?_
  refine W.block ?_
  refine W.loop (α := Nat) (fun k => [(8, .int .i64 (k : Int))]) [(0, _), (1, _), (7, _)] (fun k w => (k ≤ vals.length ∧ ∀ j, j < k → pr j = false) ∧ Below w0.heap.size w0 w) (fun k => vals.length - k) (0) (Sub.cons rfl (Sub.nil _)) (Sub.cons rfl (Sub.cons rfl (Sub.cons rfl (Sub.nil _)))) ?_ ?_
  · exact ⟨⟨Nat.zero_le _, by omega⟩, hB⟩
  rintro k w1 ⟨⟨hk, hall⟩, hB⟩
  simp only [List.cons_append, List.nil_append]
  refine W.seqR ?_
  refine LS.vv rfl rfl (by decide) (Val.lss rfl rfl) ?_
  refine LS.nil ?_
  refine W.seq ?_
  first | refine W.condD rfl (fun hc1 => ?_) (fun hc1 => ?_) | refine W.cond rfl (fun hc1 => ?_) (fun hc1 => ?_)
  ·
    refine W.skip ?_
    refine thenP_normal ?_
    refine W.seq ?_
    refine W.block ?_
    refine W.seqR ?_
    refine LS.vv rfl rfl (by decide) (Val.move rfl) ?_
    refine LS.vv rfl rfl (by decide) (Val.assign rfl) ?_
    refine LS.nil ?_
    refine W.seqR ?_
    refine LS.vv rfl rfl (by decide) (Val.move rfl) ?_
    refine LS.vv rfl rfl (by decide) (Val.move rfl) ?_
    refine LS.vv rfl rfl (by decide) (Val.move rfl) ?_
    have hkl : k < vals.length := by omega
    refine LS.vv rfl rfl (by decide) (Val.index1 Try.underlying27 elem3 rfl rfl (by omega) hr (id (by omega))) ?_
    refine LS.m rfl (Step.load rfl rfl (by decide) flat3 rfl (hr.below hB) (List.getElem?_eq_getElem hkl) ?_)
    refine LS.m rfl (Step.callV hbody rfl rfl rfl (by decide) rfl (CallsV.mono (hf k hkl _ hB) ?_))
    rintro _ w2 ⟨rfl, hb2⟩
    replace hB := hB.trans (hb2.mono hB.size)
    refine LS.nil ?_
    first | refine W.condD rfl (fun hc2 => ?_) (fun hc2 => ?_) | refine W.cond rfl (fun hc2 => ?_) (fun hc2 => ?_)
    ·
      refine W.seqR ?_
      refine LS.vv rfl rfl (by decide) (Val.move rfl) ?_
      refine LS.vv rfl rfl (by decide) (Val.assign rfl) ?_
      refine LS.nil ?_
      refine W.ret ?_
      refine inBlk_ret ?_
      refine thenP_ret ?_
      refine thenP_ret ?_
      refine inBlk_ret ?_
      refine thenP_ret ?_
      refine ret1 (by first | exact .inl rfl | exact .inr rfl) rfl ?_
      exact ⟨by rw [fI_some (show k < vals.length by omega) (by assumption) hall], hB⟩
    ·
      refine W.skip ?_
      refine inBlk_normal ?_
      refine thenP_normal ?_
      refine W.reg ?_
      first | refine LS.vv rfl rfl (by decide) (Val.addN (j := 1) rfl rfl (by omega)) ?_ | refine LS.vv rfl rfl (by decide) (Val.add64 rfl rfl (by omega)) ?_
      refine LS.vv rfl rfl (by decide) (Val.move rfl) ?_
      refine LS.nil ?_
      refine thenP_normal ?_
      refine ⟨k + 1, ?_, ?_, ⟨⟨by omega, ?_⟩, hB⟩, by omega⟩
      · exact Sub.cons rfl (Sub.nil _)
      · repeat (first | exact Sub.nil _ | refine Sub.cons rfl ?_)
      · intro j hj
        by_cases e : j = k
        · subst e; assumption
        · exact hall j (by omega)
  ·
    refine W.exit ?_
    refine thenP_exit ?_
    refine thenP_exit ?_
    refine inBlk_exit ?_
    refine thenP_normal ?_
    refine W.seqR ?_
    refine LS.vv rfl rfl (by decide) (Val.assign rfl) ?_
    refine LS.nil ?_
    refine W.ret ?_
    refine ret1 (by first | exact .inl rfl | exact .inr rfl) rfl ?_
    exact ⟨by rw [fI_none (fun j hj => hall j (by omega))], hB⟩

theorem containsFunc_int (vals : List Value) (pr : Nat → Bool) (f : FuncId) (cap : Array Value) (p : Option Addr) (c : Nat) (w0 : World) (hbody : Body Try.prog f) (hr : Rd w0 p vals) (hb : vals.length ≤ 4611686018427387904)
    (hf : ∀ i (h : i < vals.length) w, Below w0.heap.size w0 w → CallsV Try.prog f (#[vals[i]] ++ cap) w (fun v w2 => v = .bool (pr i) ∧ Below w.heap.size w w2)) :
    CallsV Try.prog 39 #[.slice p vals.length c, .func (.func f) #[] cap] w0 (fun v w => v = .bool ((List.range vals.length).any pr) ∧ Below w0.heap.size w0 w) := by
  refine enter1 Try.func39 rfl Try.ntmps39 (by simp) rfl ?_
  have hB := Below.refl w0.heap.size w0
  simp only [argLoc, Nat.zero_add]
  refine W.seqR ?_
  refine LS.vv rfl rfl (by decide) (Val.assign rfl) ?_
  refine LS.nil ?_
  refine W.seqR ?_
  refine LS.vv rfl rfl (by decide) (Val.move rfl) ?_
  refine LS.vv rfl rfl (by decide) (Val.move rfl) ?_
  refine LS.m rfl (Step.call body51 rfl rfl (by decide) rfl (CallsV.mono (indexFunc_int vals pr f cap _ _ _ hbody (hr.below hB) hb (fun i h w hw => hf i h w (hB.trans (hw.mono hB.size)))) ?_))
  rintro _ w1 ⟨rfl, hb1⟩
  replace hB := hB.trans (hb1.mono hB.size)
  refine LS.vv rfl rfl (by decide) (Val.cast (Val.geq (j := 0) rfl rfl) (congrArg Value.bool (fI_any pr vals.length))) ?_
  refine LS.vv rfl rfl (by decide) (Val.assign rfl) ?_
  refine LS.nil ?_
  refine W.ret ?_
  refine ret1 (by first | exact .inl rfl | exact .inr rfl) rfl ?_
  exact ⟨rfl, hB⟩

theorem check1_any (x : Int) (w0 : World) :
    CallsV Try.prog 49 #[.int .i64 x] w0 (fun v w => v = .bool (decide (x < 0 ∨ 15 < x)) ∧ Below w0.heap.size w0 w) := by
  refine enter1 Try.func49 rfl Try.ntmps49 (by simp) rfl ?_
  have hB := Below.refl w0.heap.size w0
  simp only [argLoc]
  refine W.seqR ?_
  refine LS.vv rfl rfl (by decide) (Val.assign rfl) ?_
  refine LS.nil ?_
  refine W.seqR ?_
  refine LS.vv rfl rfl (by decide) (Val.move rfl) ?_
  refine LS.vv rfl rfl (by decide) (Val.lss rfl rfl) ?_
  refine LS.vv rfl rfl (by decide) (Val.move rfl) ?_
  refine LS.split 2 rfl (fun hg1 => ?_) (fun hg1 => ?_)
  ·
    first | (have hg1p := of_decide_eq_true hg1) | skip
    refine LS.s rfl rfl rfl hg1 (by decide) ?_
    refine LS.s rfl rfl rfl hg1 (by decide) ?_
    refine LS.vv rfl rfl (by decide) (Val.pickT rfl hg1 rfl) ?_
    refine LS.vv rfl rfl (by decide) (Val.assign rfl) ?_
    refine LS.nil ?_
    refine W.ret ?_
    refine ret1 (by first | exact .inl rfl | exact .inr rfl) rfl ?_
    exact ⟨congrArg Value.bool (by first | (symm; exact decide_eq_true (by omega)) | (rw [decide_eq_decide]; omega)), hB⟩
  ·
    first | (have hg1p := of_decide_eq_false hg1) | skip
    refine LS.vg rfl rfl rfl hg1 (by decide) (Val.move rfl) ?_
    refine LS.vg rfl rfl rfl hg1 (by decide) (Val.gtr rfl rfl) ?_
    refine LS.vv rfl rfl (by decide) (Val.pickF rfl hg1 rfl) ?_
    refine LS.vv rfl rfl (by decide) (Val.assign rfl) ?_
    refine LS.nil ?_
    refine W.ret ?_
    refine ret1 (by first | exact .inl rfl | exact .inr rfl) rfl ?_
    exact ⟨congrArg Value.bool (by first | (symm; exact decide_eq_true (by omega)) | (rw [decide_eq_decide]; omega)), hB⟩

theorem any_bad (zs : List Int) : (List.range (iv zs).length).any (fun i => decide (gz zs i < 0 ∨ 15 < gz zs i)) = true ↔ ¬ OkF zs := by
  rw [List.any_eq_true]
  constructor
  · rintro ⟨i, hi, h⟩ hok
    have hi := List.mem_range.1 hi
    have hil : i < zs.length := by simpa [iv] using hi
    have := hok (gz zs i) (by rw [gz_lt hil]; exact List.getElem_mem hil)
    have := of_decide_eq_true h
    omega
  · intro h
    simp only [OkF] at h
    have ⟨z, hz, hb⟩ : ∃ z, z ∈ zs ∧ ¬ (0 ≤ z ∧ z ≤ 15) := by
      refine Classical.byContradiction fun hno => h fun z hz => ?_
      refine Classical.byContradiction fun hb => hno ⟨z, hz, hb⟩
    obtain ⟨i, hi, rfl⟩ := List.getElem_of_mem hz
    refine ⟨i, List.mem_range.2 (by simpa [iv] using hi), decide_eq_true ?_⟩
    rw [gz_lt hi]; omega

theorem fcheck_any (zs : List Int) (p : Option Addr) (c : Nat) (w0 : World) (hr : Rd w0 p (iv zs)) (hb : zs.length ≤ 4611686018427387904) :
    CallsV Try.prog 31 #[.slice p zs.length c] w0 (fun v w => ∃ e : Nat, v = .int .i64 (e : Int) ∧ (e = 0 ↔ OkF zs) ∧ (e = 0 ∨ e = 4) ∧ Below w0.heap.size w0 w) := by
  refine enter1 Try.func31 rfl Try.ntmps31 (by simp) rfl ?_
  have hB := Below.refl w0.heap.size w0
  simp only [argLoc]
  have hlen : zs.length = (iv zs).length := by simp [iv]
  rw [hlen]
  refine W.seqR ?_
  refine LS.vv rfl rfl (by decide) (Val.cast (v := .int .i64 ((0 : Nat) : Int)) (Val.assign rfl) rfl) ?_
  refine LS.nil ?_
  refine W.seq ?_
  refine W.seqR ?_
  refine LS.vv rfl rfl (by decide) (Val.move rfl) ?_
  refine LS.m rfl (Step.call body39 rfl rfl (by decide) rfl (CallsV.mono (containsFunc_int (iv zs) (fun i => decide (gz zs i < 0 ∨ 15 < gz zs i)) 49 #[] _ _ _ body49 (hr.below hB) (by simpa [iv] using hb) (fun i h w hw => by rw [show (iv zs)[i] = .int .i64 (gz zs i) from by simp [iv, gz, show i < zs.length by simpa [iv] using h]]; exact check1_any _ _)) ?_))
  rintro _ w1 ⟨rfl, hb1⟩
  replace hB := hB.trans (hb1.mono hB.size)
  refine LS.nil ?_
  first | refine W.condD rfl (fun hc1 => ?_) (fun hc1 => ?_) | refine W.cond rfl (fun hc1 => ?_) (fun hc1 => ?_)
  ·
    refine W.seqR ?_
    refine LS.vv rfl rfl (by decide) (Val.cast (v := .int .i64 ((4 : Nat) : Int)) (Val.assign rfl) rfl) ?_
    refine LS.nil ?_
    refine W.ret ?_
    refine thenP_ret ?_
    refine ret1 (by first | exact .inl rfl | exact .inr rfl) rfl ?_
    exact ⟨4, rfl, ⟨by omega, fun h => absurd h ((any_bad zs).1 ‹_›)⟩, by omega, hB⟩
  ·
    have hcf := hc1
    refine W.skip ?_
    refine thenP_normal ?_
    refine W.seqR ?_
    refine LS.vv rfl rfl (by decide) (Val.cast (v := .int .i64 ((0 : Nat) : Int)) (Val.assign rfl) rfl) ?_
    refine LS.nil ?_
    refine W.ret ?_
    refine ret1 (by first | exact .inl rfl | exact .inr rfl) rfl ?_
    refine ⟨0, rfl, ⟨fun _ => ?_, by omega⟩, by omega, hB⟩
    refine Classical.byContradiction fun h => ?_
    have := (any_bad zs).2 h
    rw [hcf] at this; cases this

theorem refFieldCheck_any (zs : List Int) (p : Option Addr) (c : Nat) (w0 : World) (hr : Rd w0 p (iv zs)) (hb : zs.length ≤ 9223372036854775800) :
    CallsV Try.prog 33 #[.slice p zs.length c] w0 (fun v w => ∃ e : Nat, v = .int .i64 (e : Int) ∧ (e = 0 ↔ OkF zs) ∧ Below w0.heap.size w0 w) := by
  refine enter1 Try.func33 rfl Try.ntmps33 (by simp) rfl ?_
  have hB := Below.refl w0.heap.size w0
  simp only [argLoc]
  refine W.seqR ?_
  refine LS.vv rfl rfl (by decide) (Val.cast (v := .int .i64 ((0 : Nat) : Int)) (Val.assign rfl) rfl) ?_
  refine LS.nil ?_
  refine W.seq ?_
  refine W.seqR ?_
  refine LS.vv rfl rfl (by decide) (Val.move rfl) ?_
  refine LS.vv rfl rfl (by decide) (Val.len Try.underlying27 rfl) ?_
  refine LS.vv rfl rfl (by decide) (Val.cast (v := .int .i64 ((0 : Nat) : Int)) (Val.move rfl) rfl) ?_
  refine LS.nil ?_
  refine W.block ?_
  refine W.loop (α := Nat) (fun k => [(7, .int .i64 (k : Int))]) [(5, _), (6, _)] (fun k w => (k ≤ zs.length ∧ ∀ j, j < k → 0 ≤ gz zs j ∧ gz zs j ≤ 15) ∧ Below w0.heap.size w0 w) (fun k => zs.length - k) (0) (Sub.cons rfl (Sub.nil _)) (Sub.cons rfl (Sub.cons rfl (Sub.nil _))) ?_ ?_
  · exact ⟨⟨Nat.zero_le _, by omega⟩, hB⟩
  rintro k w1 ⟨⟨hk, hall⟩, hB⟩
  simp only [List.cons_append, List.nil_append]
  refine W.seqR ?_
  refine LS.vv rfl rfl (by decide) (Val.lss rfl rfl) ?_
  refine LS.nil ?_
  refine W.seq ?_
  first | refine W.condD rfl (fun hc1 => ?_) (fun hc1 => ?_) | refine W.cond rfl (fun hc1 => ?_) (fun hc1 => ?_)
  ·
    refine W.skip ?_
    refine thenP_normal ?_
    refine W.seq ?_
    refine W.block ?_
    refine W.seqR ?_
    refine LS.vv rfl rfl (by decide) (Val.index1 Try.underlying27 elem3 rfl rfl (by omega) hr (iv_lt (by omega))) ?_
    refine LS.m rfl (Step.load rfl rfl (by decide) flat3 rfl (hr.below hB) (iv_at (by omega)) ?_)
    refine LS.vv rfl rfl (by decide) (Val.assign rfl) ?_
    refine LS.nil ?_
    refine W.seqR ?_
    refine LS.vv rfl rfl (by decide) (Val.move rfl) ?_
    refine LS.vv rfl rfl (by decide) (Val.lss rfl rfl) ?_
    refine LS.vv rfl rfl (by decide) (Val.move rfl) ?_
    refine LS.split 2 rfl (fun hg2 => ?_) (fun hg2 => ?_)
    ·
      first | (have hg2p := of_decide_eq_true hg2) | skip
      refine LS.s rfl rfl rfl hg2 (by decide) ?_
      refine LS.s rfl rfl rfl hg2 (by decide) ?_
      refine LS.vv rfl rfl (by decide) (Val.pickT rfl hg2 rfl) ?_
      refine LS.nil ?_
      refine W.condT rfl ?_
      refine W.seqR ?_
      refine LS.vv rfl rfl (by decide) (Val.cast (v := .int .i64 ((4 : Nat) : Int)) (Val.assign rfl) rfl) ?_
      refine LS.nil ?_
      refine W.ret ?_
      refine inBlk_ret ?_
      refine thenP_ret ?_
      refine thenP_ret ?_
      refine inBlk_ret ?_
      refine thenP_ret ?_
      refine ret1 (by first | exact .inl rfl | exact .inr rfl) rfl ?_
      first | (refine ⟨4, rfl, ⟨by omega, fun h => ?_⟩, hB⟩; exfalso; have hkl : k < zs.length := (by omega); have := h (gz zs k) (by rw [gz_lt hkl]; exact List.getElem_mem hkl); omega) | (refine ⟨0, rfl, ⟨fun _ z hz => ?_, fun _ => rfl⟩, hB⟩; obtain ⟨j, hj, rfl⟩ := List.getElem_of_mem hz; have := hall j (by omega); rwa [gz_lt hj] at this)
    ·
      first | (have hg2p := of_decide_eq_false hg2) | skip
      refine LS.vg rfl rfl rfl hg2 (by decide) (Val.move rfl) ?_
      refine LS.vg rfl rfl rfl hg2 (by decide) (Val.gtr rfl rfl) ?_
      refine LS.vv rfl rfl (by decide) (Val.pickF rfl hg2 rfl) ?_
      refine LS.nil ?_
      first | refine W.condD rfl (fun hc3 => ?_) (fun hc3 => ?_) | refine W.cond rfl (fun hc3 => ?_) (fun hc3 => ?_)
      ·
        refine W.seqR ?_
        refine LS.vv rfl rfl (by decide) (Val.cast (v := .int .i64 ((4 : Nat) : Int)) (Val.assign rfl) rfl) ?_
        refine LS.nil ?_
        refine W.ret ?_
        refine inBlk_ret ?_
        refine thenP_ret ?_
        refine thenP_ret ?_
        refine inBlk_ret ?_
        refine thenP_ret ?_
        refine ret1 (by first | exact .inl rfl | exact .inr rfl) rfl ?_
        first | (refine ⟨4, rfl, ⟨by omega, fun h => ?_⟩, hB⟩; exfalso; have hkl : k < zs.length := (by omega); have := h (gz zs k) (by rw [gz_lt hkl]; exact List.getElem_mem hkl); omega) | (refine ⟨0, rfl, ⟨fun _ z hz => ?_, fun _ => rfl⟩, hB⟩; obtain ⟨j, hj, rfl⟩ := List.getElem_of_mem hz; have := hall j (by omega); rwa [gz_lt hj] at this)
      ·
        refine W.skip ?_
        refine inBlk_normal ?_
        refine thenP_normal ?_
        refine W.reg ?_
        first | refine LS.vv rfl rfl (by decide) (Val.addN (j := 1) rfl rfl (by omega)) ?_ | refine LS.vv rfl rfl (by decide) (Val.add64 rfl rfl (by omega)) ?_
        refine LS.vv rfl rfl (by decide) (Val.move rfl) ?_
        refine LS.nil ?_
        refine thenP_normal ?_
        refine ⟨k + 1, ?_, ?_, ⟨⟨by omega, ?_⟩, hB⟩, by omega⟩
        · exact Sub.cons rfl (Sub.nil _)
        · repeat (first | exact Sub.nil _ | refine Sub.cons rfl ?_)
        · intro j hj
          by_cases e : j = k
          · subst e; omega
          · exact hall j (by omega)
  ·
    refine W.exit ?_
    refine thenP_exit ?_
    refine thenP_exit ?_
    refine inBlk_exit ?_
    refine thenP_normal ?_
    refine W.seqR ?_
    refine LS.vv rfl rfl (by decide) (Val.cast (v := .int .i64 ((0 : Nat) : Int)) (Val.assign rfl) rfl) ?_
    refine LS.nil ?_
    refine W.ret ?_
    refine ret1 (by first | exact .inl rfl | exact .inr rfl) rfl ?_
    first | (refine ⟨4, rfl, ⟨by omega, fun h => ?_⟩, hB⟩; exfalso; have hkl : k < zs.length := (by omega); have := h (gz zs k) (by rw [gz_lt hkl]; exact List.getElem_mem hkl); omega) | (refine ⟨0, rfl, ⟨fun _ z hz => ?_, fun _ => rfl⟩, hB⟩; obtain ⟨j, hj, rfl⟩ := List.getElem_of_mem hz; have := hall j (by omega); rwa [gz_lt hj] at this)

theorem numbers_any (zs : List Int) (p : Option Addr) (c : Nat) (w0 : World) (hr : Rd w0 p (iv zs)) (hb : zs.length ≤ 9223372036854775800) :
    CallsV Try.prog 14 #[.slice p zs.length c] w0 (fun v w => ∃ b : Bool, v = .bool b ∧ (b = true ↔ OkF zs) ∧ Below w0.heap.size w0 w) := by
  refine enter1 Try.func14 rfl Try.ntmps14 (by simp) rfl ?_
  have hB := Below.refl w0.heap.size w0
  simp only [argLoc]
  refine W.seqR ?_
  refine LS.vv rfl rfl (by decide) (Val.assign rfl) ?_
  refine LS.nil ?_
  refine W.seqR ?_
  refine LS.vv rfl rfl (by decide) (Val.move rfl) ?_
  refine LS.m rfl (Step.call body33 rfl rfl (by decide) rfl (CallsV.mono (refFieldCheck_any zs _ _ _ (hr.below hB) hb) ?_))
  rintro _ w1 ⟨e, rfl, he, hb1⟩
  replace hB := hB.trans (hb1.mono hB.size)
  refine LS.vv rfl rfl (by decide) (Val.eql rfl rfl) ?_
  refine LS.vv rfl rfl (by decide) (Val.assign rfl) ?_
  refine LS.nil ?_
  refine W.ret ?_
  refine ret1 (by first | exact .inl rfl | exact .inr rfl) rfl ?_
  refine ⟨_, rfl, ?_, hB⟩
  rw [← he, decide_eq_true_iff]
  omega

theorem times_any (a b : Nat) (w0 : World) (ha : a < 16) (hb : b < 16) :
    CallsV Try.prog 32 #[.int .i64 (a : Int), .int .i64 (b : Int)] w0 (fun v w => v = .int .i64 (fmul a b : Int) ∧ Below w0.heap.size w0 w) := by
  refine enter1 Try.func32 rfl Try.ntmps32 (by simp) rfl ?_
  have hB := Below.refl w0.heap.size w0
  simp only [argLoc, Nat.zero_add]
  refine W.seqR ?_
  refine LS.vv rfl rfl (by decide) (Val.cast (v := .int .i64 ((0 : Nat) : Int)) (Val.assign rfl) rfl) ?_
  refine LS.nil ?_
  refine W.seqR ?_
  refine LS.vv rfl rfl (by decide) (Val.cast (v := .int .i64 ((0 : Nat) : Int)) (Val.assign rfl) rfl) ?_
  refine LS.nil ?_
  refine W.seq ?_
  refine W.block ?_
  refine W.loop (α := Nat) (fun k => [(0, .int .i64 ((tTo a b k).a : Int)), (1, .int .i64 ((tTo a b k).b : Int)), (5, .int .i64 ((tTo a b k).p : Int))]) [] (fun k w => k ≤ 4 ∧ Below w0.heap.size w0 w) (fun k => 4 - k) (0) (Sub.cons rfl (Sub.cons rfl (Sub.cons rfl (Sub.nil _)))) (Sub.nil _) ?_ ?_
  · exact ⟨Nat.zero_le _, hB⟩
  rintro k w1 ⟨hk, hB⟩
  simp only [List.cons_append, List.nil_append]
  obtain ⟨q1, q2, q3, q4, q5⟩ := t_facts ha hb hk
  have hsa := tTo_a a b k
  have hsb := tTo_b a b k
  have hsp := tTo_p a b k
  generalize (tTo a b k).a = A at *
  generalize (tTo a b k).b = C at *
  generalize (tTo a b k).p = D at *
  have hsl : A <<< 1 = 2 * A := by rw [Nat.shiftLeft_eq]; omega
  have hx5 : D ^^^ A < 2 ^ 63 := Nat.xor_lt_two_pow (by omega) (by omega)
  refine W.seq ?_
  refine W.seqR ?_
  refine LS.vv rfl rfl (by decide) (Val.move rfl) ?_
  refine LS.vv rfl rfl (by decide) (Val.gtr rfl rfl) ?_
  refine LS.nil ?_
  first | refine W.condD rfl (fun hc1 => ?_) (fun hc1 => ?_) | refine W.cond rfl (fun hc1 => ?_) (fun hc1 => ?_)
  ·
    refine W.skip ?_
    refine thenP_normal ?_
    refine W.seq ?_
    refine W.block ?_
    refine W.seq ?_
    refine W.seqR ?_
    refine LS.vv rfl rfl (by decide) (Val.move rfl) ?_
    refine LS.vv rfl rfl (by decide) (Val.and64 (j := 1) rfl rfl (by omega) (by omega)) ?_
    refine LS.vv rfl rfl (by decide) (Val.eql rfl rfl) ?_
    refine LS.nil ?_
    first | refine W.condD rfl (fun hc2 => ?_) (fun hc2 => ?_) | refine W.cond rfl (fun hc2 => ?_) (fun hc2 => ?_)
    ·
      refine W.reg ?_
      refine LS.vv rfl rfl (by decide) (Val.move rfl) ?_
      refine LS.vv rfl rfl (by decide) (Val.move rfl) ?_
      refine LS.vv rfl rfl (by decide) (Val.xor64 rfl rfl (by omega) (by omega)) ?_
      refine LS.vv rfl rfl (by decide) (Val.assign rfl) ?_
      refine LS.nil ?_
      refine thenP_normal ?_
      refine W.seqR ?_
      refine LS.vv rfl rfl (by decide) (Val.move rfl) ?_
      refine LS.vv rfl rfl (by decide) (Val.shl64 (j := 1) rfl rfl (by omega) (by omega)) ?_
      refine LS.vv rfl rfl (by decide) (Val.assign rfl) ?_
      refine LS.nil ?_
      refine W.seqR ?_
      refine LS.vv rfl rfl (by decide) (Val.move rfl) ?_
      refine LS.vv rfl rfl (by decide) (Val.gtr rfl rfl) ?_
      refine LS.nil ?_
      first | refine W.condD rfl (fun hc3 => ?_) (fun hc3 => ?_) | refine W.cond rfl (fun hc3 => ?_) (fun hc3 => ?_)
      ·
        refine W.reg ?_
        refine LS.vv rfl rfl (by decide) (Val.move rfl) ?_
        refine LS.vv rfl rfl (by decide) (Val.xor64 (j := 19) rfl rfl (by omega) (by omega)) ?_
        refine LS.vv rfl rfl (by decide) (Val.assign rfl) ?_
        refine LS.nil ?_
        refine inBlk_normal ?_
        refine thenP_normal ?_
        refine W.reg ?_
        refine LS.vv rfl rfl (by decide) (Val.move rfl) ?_
        refine LS.vv rfl rfl (by decide) (Val.shr (j := 1) rfl rfl (by simp only [IntKind.bits]; omega)) ?_
        refine LS.vv rfl rfl (by decide) (Val.assign rfl) ?_
        refine LS.nil ?_
        refine thenP_normal ?_
        refine ⟨k + 1, ?_, ?_, ⟨by omega, hB⟩, by omega⟩
        · refine Sub.cons' rfl ?_ (Sub.cons' rfl ?_ (Sub.cons' rfl ?_ (Sub.nil _)))
          · rw [hsa]; first | rw [if_pos (show 15 < A <<< 1 by omega)] | rw [if_neg (show ¬ 15 < A <<< 1 by omega)]
          · rw [hsb]
          · rw [hsp]; first | rw [if_pos (show C &&& 1 = 1 by omega)] | rw [if_neg (show ¬ C &&& 1 = 1 by omega)]
        · exact Sub.nil _
      ·
        refine W.skip ?_
        refine inBlk_normal ?_
        refine thenP_normal ?_
        refine W.reg ?_
        refine LS.vv rfl rfl (by decide) (Val.move rfl) ?_
        refine LS.vv rfl rfl (by decide) (Val.shr (j := 1) rfl rfl (by simp only [IntKind.bits]; omega)) ?_
        refine LS.vv rfl rfl (by decide) (Val.assign rfl) ?_
        refine LS.nil ?_
        refine thenP_normal ?_
        refine ⟨k + 1, ?_, ?_, ⟨by omega, hB⟩, by omega⟩
        · refine Sub.cons' rfl ?_ (Sub.cons' rfl ?_ (Sub.cons' rfl ?_ (Sub.nil _)))
          · rw [hsa]; first | rw [if_pos (show 15 < A <<< 1 by omega)] | rw [if_neg (show ¬ 15 < A <<< 1 by omega)]
          · rw [hsb]
          · rw [hsp]; first | rw [if_pos (show C &&& 1 = 1 by omega)] | rw [if_neg (show ¬ C &&& 1 = 1 by omega)]
        · exact Sub.nil _
    ·
      refine W.skip ?_
      refine thenP_normal ?_
      refine W.seqR ?_
      refine LS.vv rfl rfl (by decide) (Val.move rfl) ?_
      refine LS.vv rfl rfl (by decide) (Val.shl64 (j := 1) rfl rfl (by omega) (by omega)) ?_
      refine LS.vv rfl rfl (by decide) (Val.assign rfl) ?_
      refine LS.nil ?_
      refine W.seqR ?_
      refine LS.vv rfl rfl (by decide) (Val.move rfl) ?_
      refine LS.vv rfl rfl (by decide) (Val.gtr rfl rfl) ?_
      refine LS.nil ?_
      first | refine W.condD rfl (fun hc4 => ?_) (fun hc4 => ?_) | refine W.cond rfl (fun hc4 => ?_) (fun hc4 => ?_)
      ·
        refine W.reg ?_
        refine LS.vv rfl rfl (by decide) (Val.move rfl) ?_
        refine LS.vv rfl rfl (by decide) (Val.xor64 (j := 19) rfl rfl (by omega) (by omega)) ?_
        refine LS.vv rfl rfl (by decide) (Val.assign rfl) ?_
        refine LS.nil ?_
        refine inBlk_normal ?_
        refine thenP_normal ?_
        refine W.reg ?_
        refine LS.vv rfl rfl (by decide) (Val.move rfl) ?_
        refine LS.vv rfl rfl (by decide) (Val.shr (j := 1) rfl rfl (by simp only [IntKind.bits]; omega)) ?_
        refine LS.vv rfl rfl (by decide) (Val.assign rfl) ?_
        refine LS.nil ?_
        refine thenP_normal ?_
        refine ⟨k + 1, ?_, ?_, ⟨by omega, hB⟩, by omega⟩
        · refine Sub.cons' rfl ?_ (Sub.cons' rfl ?_ (Sub.cons' rfl ?_ (Sub.nil _)))
          · rw [hsa]; first | rw [if_pos (show 15 < A <<< 1 by omega)] | rw [if_neg (show ¬ 15 < A <<< 1 by omega)]
          · rw [hsb]
          · rw [hsp]; first | rw [if_pos (show C &&& 1 = 1 by omega)] | rw [if_neg (show ¬ C &&& 1 = 1 by omega)]
        · exact Sub.nil _
      ·
        refine W.skip ?_
        refine inBlk_normal ?_
        refine thenP_normal ?_
        refine W.reg ?_
        refine LS.vv rfl rfl (by decide) (Val.move rfl) ?_
        refine LS.vv rfl rfl (by decide) (Val.shr (j := 1) rfl rfl (by simp only [IntKind.bits]; omega)) ?_
        refine LS.vv rfl rfl (by decide) (Val.assign rfl) ?_
        refine LS.nil ?_
        refine thenP_normal ?_
        refine ⟨k + 1, ?_, ?_, ⟨by omega, hB⟩, by omega⟩
        · refine Sub.cons' rfl ?_ (Sub.cons' rfl ?_ (Sub.cons' rfl ?_ (Sub.nil _)))
          · rw [hsa]; first | rw [if_pos (show 15 < A <<< 1 by omega)] | rw [if_neg (show ¬ 15 < A <<< 1 by omega)]
          · rw [hsb]
          · rw [hsp]; first | rw [if_pos (show C &&& 1 = 1 by omega)] | rw [if_neg (show ¬ C &&& 1 = 1 by omega)]
        · exact Sub.nil _
  ·
    refine W.exit ?_
    refine thenP_exit ?_
    refine thenP_exit ?_
    refine inBlk_exit ?_
    refine thenP_normal ?_
    refine W.seqR ?_
    refine LS.vv rfl rfl (by decide) (Val.move rfl) ?_
    refine LS.vv rfl rfl (by decide) (Val.assign rfl) ?_
    refine LS.nil ?_
    refine W.ret ?_
    refine ret1 (by first | exact .inl rfl | exact .inr rfl) rfl ?_
    exact ⟨by rw [← q4 (by omega)], hB⟩

theorem mul_any (a b : Int) (w0 : World) :
    CallsV Try.prog 13 #[.int .i64 a, .int .i64 b] w0 (fun v w => ∃ r e : Nat, v = .tuple #[.int .i64 (r : Int), .int .i64 (e : Int)] ∧ (e = 0 ↔ OkF [a, b]) ∧ (e = 0 → r = fmul a.toNat b.toNat) ∧ r < 16 ∧ Below w0.heap.size w0 w) := by
  refine enter2 Try.func13 rfl Try.ntmps13 (by simp) rfl ?_
  have hB := Below.refl w0.heap.size w0
  simp only [argLoc, Nat.zero_add]
  refine W.seqR ?_
  refine LS.vv rfl rfl (by decide) (Val.cast (v := .int .i64 ((0 : Nat) : Int)) (Val.assign rfl) rfl) ?_
  refine LS.vv rfl rfl (by decide) (Val.cast (v := .int .i64 ((0 : Nat) : Int)) (Val.assign rfl) rfl) ?_
  refine LS.nil ?_
  refine W.seq ?_
  refine W.seqR ?_
  refine LS.vv rfl rfl (by decide) (Val.move rfl) ?_
  refine LS.vv rfl rfl (by decide) (Val.move rfl) ?_
  refine LS.m rfl (Step.lit (B := w0.heap.size) rfl rfl (by decide) Try.underlying27 elem3 rfl rfl (by omega) (by simp [Value.oneCell']) hB.size ?_)
  rintro w1 hO1 hg1 hbl1 hsz1
  replace hB := hB.trans (hbl1.mono hB.size)
  refine LS.m rfl (Step.call body31 rfl rfl (by decide) rfl (CallsV.mono (fcheck_any [a, b] _ _ _ hO1.rd (by simp)) ?_))
  rintro _ w2 ⟨e, rfl, he, he4, hb2⟩
  replace hB := hB.trans (hb2.mono hB.size)
  refine LS.vv rfl rfl (by decide) (Val.assign rfl) ?_
  refine LS.nil ?_
  refine W.seqR ?_
  refine LS.vv rfl rfl (by decide) (Val.move rfl) ?_
  refine LS.vv rfl rfl (by decide) (Val.neq rfl rfl) ?_
  refine LS.nil ?_
  first | refine W.condD rfl (fun hc1 => ?_) (fun hc1 => ?_) | refine W.cond rfl (fun hc1 => ?_) (fun hc1 => ?_)
  ·
    refine W.seqR ?_
    refine LS.vv rfl rfl (by decide) (Val.move rfl) ?_
    refine LS.vv rfl rfl (by decide) (Val.cast (v := .int .i64 ((0 : Nat) : Int)) (Val.assign rfl) rfl) ?_
    refine LS.vv rfl rfl (by decide) (Val.assign rfl) ?_
    refine LS.nil ?_
    refine W.ret ?_
    refine thenP_ret ?_
    refine ret2 (by first | exact .inl rfl | exact .inr rfl) rfl rfl ?_
    first | exact ⟨0, e, rfl, he, fun h => by omega, by omega, hB⟩ | exact ⟨_, 0, rfl, by rw [← he]; omega, fun _ => rfl, hlt, hB⟩
  ·
    refine W.skip ?_
    refine thenP_normal ?_
    refine W.seqR ?_
    refine LS.vv rfl rfl (by decide) (Val.move rfl) ?_
    refine LS.vv rfl rfl (by decide) (Val.move rfl) ?_
    have hok := he.1 (by omega)
    have h1 := hok a (by simp)
    have h2 := hok b (by simp)
    obtain ⟨A, rfl⟩ := Int.eq_ofNat_of_zero_le h1.1
    obtain ⟨C, rfl⟩ := Int.eq_ofNat_of_zero_le h2.1
    have hlt := fmul_lt (a := A) (b := C) (by omega) (by omega)
    refine LS.m rfl (Step.call body32 rfl rfl (by decide) rfl (CallsV.mono (times_any A C _ (by omega) (by omega)) ?_))
    rintro _ w3 ⟨rfl, hb3⟩
    replace hB := hB.trans (hb3.mono hB.size)
    refine LS.vv rfl rfl (by decide) (Val.assign rfl) ?_
    refine LS.vv rfl rfl (by decide) (Val.cast (v := .int .i64 ((0 : Nat) : Int)) (Val.assign rfl) rfl) ?_
    refine LS.nil ?_
    refine W.ret ?_
    refine ret2 (by first | exact .inl rfl | exact .inr rfl) rfl rfl ?_
    first | exact ⟨0, e, rfl, he, fun h => by omega, by omega, hB⟩ | exact ⟨_, 0, rfl, by rw [← he]; omega, fun _ => rfl, hlt, hB⟩

theorem power_any (a k : Nat) (w0 : World) (ha : a < 16) (hk : k ≤ 9223372036854775807) :
    CallsV Try.prog 35 #[.int .i64 (a : Int), .int .i64 (k : Int)] w0 (fun v w => v = .int .i64 (fpow a k : Int) ∧ Below w0.heap.size w0 w) := by
  refine enter1 Try.func35 rfl Try.ntmps35 (by simp) rfl ?_
  have hB := Below.refl w0.heap.size w0
  simp only [argLoc, Nat.zero_add]
  refine W.seqR ?_
  refine LS.vv rfl rfl (by decide) (Val.cast (v := .int .i64 ((0 : Nat) : Int)) (Val.assign rfl) rfl) ?_
  refine LS.nil ?_
  refine W.seqR ?_
  refine LS.vv rfl rfl (by decide) (Val.cast (v := .int .i64 ((1 : Nat) : Int)) (Val.assign rfl) rfl) ?_
  refine LS.nil ?_
  refine W.seq ?_
  refine W.block ?_
  refine W.loop (α := Nat) (fun j => [(0, .int .i64 ((pTo a k j).a : Int)), (1, .int .i64 ((pTo a k j).k : Int)), (5, .int .i64 ((pTo a k j).x : Int))]) [] (fun j w => Below w0.heap.size w0 w) (fun j => (pTo a k j).k) (0) (Sub.cons rfl (Sub.cons rfl (Sub.cons rfl (Sub.nil _)))) (Sub.nil _) ?_ ?_
  · exact hB
  rintro j w1 hB
  simp only [List.cons_append, List.nil_append]
  obtain ⟨q1, q2, q3, q4⟩ := pTo_inv ha k j
  have hle : k >>> j ≤ k := by rw [Nat.shiftRight_eq_div_pow]; exact Nat.div_le_self _ _
  have hle2 : (pTo a k j).k ≤ k := by rw [q3]; exact hle
  have hsa := pTo_a a k j
  have hsb := pTo_k a k j
  have hsp := pTo_x a k j
  clear q3 hle
  generalize (pTo a k j).a = A at *
  generalize (pTo a k j).k = C at *
  generalize (pTo a k j).x = D at *
  refine W.seq ?_
  refine W.seqR ?_
  refine LS.vv rfl rfl (by decide) (Val.move rfl) ?_
  refine LS.vv rfl rfl (by decide) (Val.gtr rfl rfl) ?_
  refine LS.nil ?_
  first | refine W.condD rfl (fun hc1 => ?_) (fun hc1 => ?_) | refine W.cond rfl (fun hc1 => ?_) (fun hc1 => ?_)
  ·
    refine W.skip ?_
    refine thenP_normal ?_
    refine W.seq ?_
    refine W.block ?_
    refine W.seq ?_
    refine W.seqR ?_
    refine LS.vv rfl rfl (by decide) (Val.move rfl) ?_
    refine LS.vv rfl rfl (by decide) (Val.and64 (j := 1) rfl rfl (by omega) (by omega)) ?_
    refine LS.vv rfl rfl (by decide) (Val.eql rfl rfl) ?_
    refine LS.nil ?_
    first | refine W.condD rfl (fun hc2 => ?_) (fun hc2 => ?_) | refine W.cond rfl (fun hc2 => ?_) (fun hc2 => ?_)
    ·
      refine W.reg ?_
      refine LS.vv rfl rfl (by decide) (Val.move rfl) ?_
      refine LS.vv rfl rfl (by decide) (Val.move rfl) ?_
      refine LS.m rfl (Step.call body32 rfl rfl (by decide) rfl (CallsV.mono (times_any D A _ q1 q2) ?_))
      rintro _ w2 ⟨rfl, hb2⟩
      replace hB := hB.trans (hb2.mono hB.size)
      refine LS.vv rfl rfl (by decide) (Val.assign rfl) ?_
      refine LS.nil ?_
      refine thenP_normal ?_
      refine W.reg ?_
      refine LS.vv rfl rfl (by decide) (Val.move rfl) ?_
      refine LS.vv rfl rfl (by decide) (Val.move rfl) ?_
      refine LS.m rfl (Step.call body32 rfl rfl (by decide) rfl (CallsV.mono (times_any A A _ q2 q2) ?_))
      rintro _ w3 ⟨rfl, hb3⟩
      replace hB := hB.trans (hb3.mono hB.size)
      refine LS.vv rfl rfl (by decide) (Val.assign rfl) ?_
      refine LS.nil ?_
      refine inBlk_normal ?_
      refine thenP_normal ?_
      refine W.reg ?_
      refine LS.vv rfl rfl (by decide) (Val.move rfl) ?_
      refine LS.vv rfl rfl (by decide) (Val.shr (j := 1) rfl rfl (by simp only [IntKind.bits]; omega)) ?_
      refine LS.vv rfl rfl (by decide) (Val.assign rfl) ?_
      refine LS.nil ?_
      refine thenP_normal ?_
      refine ⟨j + 1, ?_, ?_, hB, by rw [hsb]; omega⟩
      · refine Sub.cons' rfl ?_ (Sub.cons' rfl ?_ (Sub.cons' rfl ?_ (Sub.nil _)))
        · rw [hsa]
        · rw [hsb]
        · rw [hsp]; first | rw [if_pos (show C &&& 1 = 1 by omega)] | rw [if_neg (show ¬ C &&& 1 = 1 by omega)]
      · exact Sub.nil _
    ·
      refine W.skip ?_
      refine thenP_normal ?_
      refine W.reg ?_
      refine LS.vv rfl rfl (by decide) (Val.move rfl) ?_
      refine LS.vv rfl rfl (by decide) (Val.move rfl) ?_
      refine LS.m rfl (Step.call body32 rfl rfl (by decide) rfl (CallsV.mono (times_any A A _ q2 q2) ?_))
      rintro _ w4 ⟨rfl, hb4⟩
      replace hB := hB.trans (hb4.mono hB.size)
      refine LS.vv rfl rfl (by decide) (Val.assign rfl) ?_
      refine LS.nil ?_
      refine inBlk_normal ?_
      refine thenP_normal ?_
      refine W.reg ?_
      refine LS.vv rfl rfl (by decide) (Val.move rfl) ?_
      refine LS.vv rfl rfl (by decide) (Val.shr (j := 1) rfl rfl (by simp only [IntKind.bits]; omega)) ?_
      refine LS.vv rfl rfl (by decide) (Val.assign rfl) ?_
      refine LS.nil ?_
      refine thenP_normal ?_
      refine ⟨j + 1, ?_, ?_, hB, by rw [hsb]; omega⟩
      · refine Sub.cons' rfl ?_ (Sub.cons' rfl ?_ (Sub.cons' rfl ?_ (Sub.nil _)))
        · rw [hsa]
        · rw [hsb]
        · rw [hsp]; first | rw [if_pos (show C &&& 1 = 1 by omega)] | rw [if_neg (show ¬ C &&& 1 = 1 by omega)]
      · exact Sub.nil _
  ·
    refine W.exit ?_
    refine thenP_exit ?_
    refine thenP_exit ?_
    refine inBlk_exit ?_
    refine thenP_normal ?_
    refine W.seqR ?_
    refine LS.vv rfl rfl (by decide) (Val.move rfl) ?_
    refine LS.vv rfl rfl (by decide) (Val.assign rfl) ?_
    refine LS.nil ?_
    refine W.ret ?_
    refine ret1 (by first | exact .inl rfl | exact .inr rfl) rfl ?_
    refine ⟨?_, hB⟩
    obtain rfl : C = 0 := by omega
    rw [← q4, fpow, fmul_one q1]

theorem inv_any (a : Int) (w0 : World) :
    CallsV Try.prog 16 #[.int .i64 a] w0 (fun v w => ∃ r e : Nat, v = .tuple #[.int .i64 (r : Int), .int .i64 (e : Int)] ∧ (e = 0 ↔ OkF [a] ∧ a ≠ 0) ∧ (e = 0 → r = fpow a.toNat 14) ∧ r < 16 ∧ Below w0.heap.size w0 w) := by
  refine enter2 Try.func16 rfl Try.ntmps16 (by simp) rfl ?_
  have hB := Below.refl w0.heap.size w0
  simp only [argLoc]
  refine W.seqR ?_
  refine LS.vv rfl rfl (by decide) (Val.cast (v := .int .i64 ((0 : Nat) : Int)) (Val.assign rfl) rfl) ?_
  refine LS.vv rfl rfl (by decide) (Val.cast (v := .int .i64 ((0 : Nat) : Int)) (Val.assign rfl) rfl) ?_
  refine LS.nil ?_
  refine W.seq ?_
  refine W.seqR ?_
  refine LS.vv rfl rfl (by decide) (Val.move rfl) ?_
  refine LS.m rfl (Step.lit (B := w0.heap.size) rfl rfl (by decide) Try.underlying27 elem3 rfl rfl (by omega) (by simp [Value.oneCell']) hB.size ?_)
  rintro w1 hO1 hg1 hbl1 hsz1
  replace hB := hB.trans (hbl1.mono hB.size)
  refine LS.m rfl (Step.call body31 rfl rfl (by decide) rfl (CallsV.mono (fcheck_any [a] _ _ _ hO1.rd (by simp)) ?_))
  rintro _ w2 ⟨e, rfl, he, he4, hb2⟩
  replace hB := hB.trans (hb2.mono hB.size)
  refine LS.vv rfl rfl (by decide) (Val.assign rfl) ?_
  refine LS.nil ?_
  refine W.seqR ?_
  refine LS.vv rfl rfl (by decide) (Val.move rfl) ?_
  refine LS.vv rfl rfl (by decide) (Val.neq rfl rfl) ?_
  refine LS.nil ?_
  first | refine W.condD rfl (fun hc1 => ?_) (fun hc1 => ?_) | refine W.cond rfl (fun hc1 => ?_) (fun hc1 => ?_)
  ·
    refine W.seqR ?_
    refine LS.vv rfl rfl (by decide) (Val.move rfl) ?_
    refine LS.vv rfl rfl (by decide) (Val.cast (v := .int .i64 ((0 : Nat) : Int)) (Val.assign rfl) rfl) ?_
    refine LS.vv rfl rfl (by decide) (Val.assign rfl) ?_
    refine LS.nil ?_
    refine W.ret ?_
    refine thenP_ret ?_
    refine ret2 (by first | exact .inl rfl | exact .inr rfl) rfl rfl ?_
    refine ⟨0, e, rfl, ⟨fun h => by omega, fun h => he.2 h.1⟩, fun h => by omega, by omega, hB⟩
  ·
    refine W.skip ?_
    refine thenP_normal ?_
    refine W.seq ?_
    refine W.seqR ?_
    refine LS.vv rfl rfl (by decide) (Val.move rfl) ?_
    refine LS.vv rfl rfl (by decide) (Val.eql rfl rfl) ?_
    refine LS.nil ?_
    first | refine W.condD rfl (fun hc2 => ?_) (fun hc2 => ?_) | refine W.cond rfl (fun hc2 => ?_) (fun hc2 => ?_)
    ·
      refine W.seqR ?_
      refine LS.vv rfl rfl (by decide) (Val.cast (v := .int .i64 ((0 : Nat) : Int)) (Val.assign rfl) rfl) ?_
      refine LS.vv rfl rfl (by decide) (Val.cast (v := .int .i64 ((5 : Nat) : Int)) (Val.assign rfl) rfl) ?_
      refine LS.nil ?_
      refine W.ret ?_
      refine thenP_ret ?_
      refine ret2 (by first | exact .inl rfl | exact .inr rfl) rfl rfl ?_
      refine ⟨0, 5, rfl, ⟨fun h => by omega, fun h => absurd (by assumption) h.2⟩, fun h => by omega, by omega, hB⟩
    ·
      refine W.skip ?_
      refine thenP_normal ?_
      refine W.seqR ?_
      refine LS.vv rfl rfl (by decide) (Val.move rfl) ?_
      have hok := he.1 (by omega)
      have h1 := hok a (by simp)
      obtain ⟨A, rfl⟩ := Int.eq_ofNat_of_zero_le h1.1
      have hlt := fpow_lt (a := A) (by omega) 14
      refine LS.m rfl (Step.call body35 rfl rfl (by decide) rfl (CallsV.mono (power_any A 14 _ (by omega) (by omega)) ?_))
      rintro _ w3 ⟨rfl, hb3⟩
      replace hB := hB.trans (hb3.mono hB.size)
      refine LS.vv rfl rfl (by decide) (Val.assign rfl) ?_
      refine LS.vv rfl rfl (by decide) (Val.cast (v := .int .i64 ((0 : Nat) : Int)) (Val.assign rfl) rfl) ?_
      refine LS.nil ?_
      refine W.ret ?_
      refine ret2 (by first | exact .inl rfl | exact .inr rfl) rfl rfl ?_
      exact ⟨_, 0, rfl, ⟨fun _ => ⟨hok, by assumption⟩, fun _ => rfl⟩, fun _ => rfl, hlt, hB⟩

theorem pow_any (a k : Int) (w0 : World) (hk : k ≤ 9223372036854775807) :
    CallsV Try.prog 17 #[.int .i64 a, .int .i64 k] w0 (fun v w => ∃ r e : Nat, v = .tuple #[.int .i64 (r : Int), .int .i64 (e : Int)] ∧ (e = 0 ↔ OkF [a] ∧ 0 ≤ k) ∧ (e = 0 → r = fpow a.toNat k.toNat) ∧ r < 16 ∧ Below w0.heap.size w0 w) := by
  refine enter2 Try.func17 rfl Try.ntmps17 (by simp) rfl ?_
  have hB := Below.refl w0.heap.size w0
  simp only [argLoc, Nat.zero_add]
  refine W.seqR ?_
  refine LS.vv rfl rfl (by decide) (Val.cast (v := .int .i64 ((0 : Nat) : Int)) (Val.assign rfl) rfl) ?_
  refine LS.vv rfl rfl (by decide) (Val.cast (v := .int .i64 ((0 : Nat) : Int)) (Val.assign rfl) rfl) ?_
  refine LS.nil ?_
  refine W.seq ?_
  refine W.seqR ?_
  refine LS.vv rfl rfl (by decide) (Val.move rfl) ?_
  refine LS.m rfl (Step.lit (B := w0.heap.size) rfl rfl (by decide) Try.underlying27 elem3 rfl rfl (by omega) (by simp [Value.oneCell']) hB.size ?_)
  rintro w1 hO1 hg1 hbl1 hsz1
  replace hB := hB.trans (hbl1.mono hB.size)
  refine LS.m rfl (Step.call body31 rfl rfl (by decide) rfl (CallsV.mono (fcheck_any [a] _ _ _ hO1.rd (by simp)) ?_))
  rintro _ w2 ⟨e, rfl, he, he4, hb2⟩
  replace hB := hB.trans (hb2.mono hB.size)
  refine LS.vv rfl rfl (by decide) (Val.assign rfl) ?_
  refine LS.nil ?_
  refine W.seqR ?_
  refine LS.vv rfl rfl (by decide) (Val.move rfl) ?_
  refine LS.vv rfl rfl (by decide) (Val.neq rfl rfl) ?_
  refine LS.nil ?_
  first | refine W.condD rfl (fun hc1 => ?_) (fun hc1 => ?_) | refine W.cond rfl (fun hc1 => ?_) (fun hc1 => ?_)
  ·
    refine W.seqR ?_
    refine LS.vv rfl rfl (by decide) (Val.move rfl) ?_
    refine LS.vv rfl rfl (by decide) (Val.cast (v := .int .i64 ((0 : Nat) : Int)) (Val.assign rfl) rfl) ?_
    refine LS.vv rfl rfl (by decide) (Val.assign rfl) ?_
    refine LS.nil ?_
    refine W.ret ?_
    refine thenP_ret ?_
    refine ret2 (by first | exact .inl rfl | exact .inr rfl) rfl rfl ?_
    refine ⟨0, e, rfl, ⟨fun h => by omega, fun h => he.2 h.1⟩, fun h => by omega, by omega, hB⟩
  ·
    refine W.skip ?_
    refine thenP_normal ?_
    refine W.seq ?_
    refine W.seqR ?_
    refine LS.vv rfl rfl (by decide) (Val.move rfl) ?_
    refine LS.vv rfl rfl (by decide) (Val.lss rfl rfl) ?_
    refine LS.nil ?_
    first | refine W.condD rfl (fun hc2 => ?_) (fun hc2 => ?_) | refine W.cond rfl (fun hc2 => ?_) (fun hc2 => ?_)
    ·
      refine W.seqR ?_
      refine LS.vv rfl rfl (by decide) (Val.cast (v := .int .i64 ((0 : Nat) : Int)) (Val.assign rfl) rfl) ?_
      refine LS.vv rfl rfl (by decide) (Val.cast (v := .int .i64 ((4 : Nat) : Int)) (Val.assign rfl) rfl) ?_
      refine LS.nil ?_
      refine W.ret ?_
      refine thenP_ret ?_
      refine ret2 (by first | exact .inl rfl | exact .inr rfl) rfl rfl ?_
      refine ⟨0, 4, rfl, ⟨fun h => by omega, fun h => by omega⟩, fun h => by omega, by omega, hB⟩
    ·
      refine W.skip ?_
      refine thenP_normal ?_
      refine W.seqR ?_
      refine LS.vv rfl rfl (by decide) (Val.move rfl) ?_
      refine LS.vv rfl rfl (by decide) (Val.move rfl) ?_
      have hok := he.1 (by omega)
      have h1 := hok a (by simp)
      obtain ⟨A, rfl⟩ := Int.eq_ofNat_of_zero_le h1.1
      obtain ⟨K, rfl⟩ := Int.eq_ofNat_of_zero_le (show 0 ≤ k by omega)
      have hlt := fpow_lt (a := A) (by omega) K
      refine LS.m rfl (Step.call body35 rfl rfl (by decide) rfl (CallsV.mono (power_any A K _ (by omega) (by omega)) ?_))
      rintro _ w3 ⟨rfl, hb3⟩
      replace hB := hB.trans (hb3.mono hB.size)
      refine LS.vv rfl rfl (by decide) (Val.assign rfl) ?_
      refine LS.vv rfl rfl (by decide) (Val.cast (v := .int .i64 ((0 : Nat) : Int)) (Val.assign rfl) rfl) ?_
      refine LS.nil ?_
      refine W.ret ?_
      refine ret2 (by first | exact .inl rfl | exact .inr rfl) rfl rfl ?_
      exact ⟨_, 0, rfl, ⟨fun _ => ⟨hok, by omega⟩, fun _ => rfl⟩, fun _ => rfl, hlt, hB⟩

end Go.Proofs.Ytnaebllojkodbaa
