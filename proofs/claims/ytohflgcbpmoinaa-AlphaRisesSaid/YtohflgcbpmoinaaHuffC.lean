/-
  What package huff tells.
-/
import Derived.Test.YtohflgcbpmoinaaHuffL
import Derived.Test.YtohflgcbpmoinaaHuffPlain2
namespace Go.Proofs.Ytohflgcbpmoinaa
open Go Go.RowKit V
set_option linter.unusedVariables false
set_option linter.unusedSimpArgs false

theorem indexFunc_i64 (vals : List Value) (pr : Nat → Bool) (f : FuncId) (cap : Array Value) (p : Option Addr) (c : Nat) (w0 : World) (hbody : Body Try.prog f) (hr : Rd w0 p vals) (hb : vals.length ≤ 100000)
    (hf : ∀ i (h : i < vals.length) w, Below w0.heap.size w0 w → CallsV Try.prog f (#[vals[i]] ++ cap) w (fun v w2 => v = .bool (pr i) ∧ Below w.heap.size w w2)) :
    CallsV Try.prog 40 #[.slice p vals.length c, .func (.func f) #[] cap] w0 (fun v w => v = .int .i64 (fI pr vals.length) ∧ Below w0.heap.size w0 w) := by
  refine enter1 Try.func40 rfl Try.ntmps40 (by simp) rfl ?_
  have hB := Below.refl w0.heap.size w0
  simp only [argLoc, Nat.zero_add]
  refine W.seqR ?_
  refine LS.vv rfl rfl (by decide) (Val.cast (v := .int .i64 ((0 : Nat) : Int)) (Val.assign rfl) rfl) ?_
  refine LS.nil ?_
  refine W.seq ?_
  refine W.seqR ?_
  refine LS.vv rfl rfl (by decide) (Val.move rfl) ?_
  refine LS.vv rfl rfl (by decide) (Val.len Try.underlying22 rfl) ?_
  refine LS.vv rfl rfl (by decide) (Val.cast (v := .int .i64 ((0 : Nat) : Int)) (Val.move rfl) rfl) ?_
  refine LS.nil ?_
  refine W.block ?_
  refine W.loop (α := Nat) (fun k => [(8, .int .i64 (k : Int))]) [(0, _), (1, _), (7, _)] (fun k w => (k ≤ vals.length ∧ ∀ j, j < k → pr j = false) ∧ Below w0.heap.size w0 w) (fun k => vals.length - k) (0) (Sub.cons rfl (Sub.nil _)) (Sub.cons rfl (Sub.cons rfl (Sub.cons rfl (Sub.nil _)))) ?_ ?_
  · exact ⟨⟨Nat.zero_le _, by omega⟩, hB⟩
  rintro k w1 ⟨⟨hk, hall⟩, hB⟩
  simp only [List.cons_append, List.nil_append]
  refine W.seqR ?_
  refine LS.vv rfl rfl (by decide) (Val.lss rfl rfl) ?_
  refine LS.nil ?_
  refine W.seq ?_
  first | refine W.condD rfl (fun hc1 => ?_) (fun hc1 => ?_) | refine W.cond rfl (fun hc1 => ?_) (fun hc1 => ?_)
  ·
    refine W.skip ?_
    refine thenP_normal ?_
    refine W.seq ?_
    refine W.block ?_
    refine W.seqR ?_
    refine LS.vv rfl rfl (by decide) (Val.move rfl) ?_
    refine LS.vv rfl rfl (by decide) (Val.assign rfl) ?_
    refine LS.nil ?_
    refine W.seqR ?_
    refine LS.vv rfl rfl (by decide) (Val.move rfl) ?_
    refine LS.vv rfl rfl (by decide) (Val.move rfl) ?_
    refine LS.vv rfl rfl (by decide) (Val.move rfl) ?_
    have hkl : k < vals.length := by omega
    refine LS.vv rfl rfl (by decide) (Val.index1 Try.underlying22 elem2 rfl rfl (by omega) hr (id (by omega))) ?_
    refine LS.m rfl (Step.load rfl rfl (by decide) flat2 rfl (hr.below hB) (List.getElem?_eq_getElem hkl) ?_)
    refine LS.m rfl (Step.callV hbody rfl rfl rfl (by decide) rfl (CallsV.mono (hf k hkl _ hB) ?_))
    rintro _ w2 ⟨rfl, hb2⟩
    replace hB := hB.trans (hb2.mono hB.size)
    refine LS.nil ?_
    first | refine W.condD rfl (fun hc2 => ?_) (fun hc2 => ?_) | refine W.cond rfl (fun hc2 => ?_) (fun hc2 => ?_)
    ·
      refine W.seqR ?_
      refine LS.vv rfl rfl (by decide) (Val.move rfl) ?_
      refine LS.vv rfl rfl (by decide) (Val.assign rfl) ?_
      refine LS.nil ?_
      refine W.ret ?_
      refine inBlk_ret ?_
      refine thenP_ret ?_
      refine thenP_ret ?_
      refine inBlk_ret ?_
      refine thenP_ret ?_
      refine ret1 (by first | exact .inl rfl | exact .inr rfl) rfl ?_
      exact ⟨by rw [fI_some (show k < vals.length by omega) (by assumption) hall], hB⟩
    ·
      refine W.skip ?_
      refine inBlk_normal ?_
      refine thenP_normal ?_
      refine W.reg ?_
      first | refine LS.vv rfl rfl (by decide) (Val.addN (j := 1) rfl rfl (by omega)) ?_ | refine LS.vv rfl rfl (by decide) (Val.add64 rfl rfl (by omega)) ?_
      refine LS.vv rfl rfl (by decide) (Val.move rfl) ?_
      refine LS.nil ?_
      refine thenP_normal ?_
      refine ⟨k + 1, ?_, ?_, ⟨⟨by omega, ?_⟩, hB⟩, by omega⟩
      · exact Sub.cons rfl (Sub.nil _)
      · repeat (first | exact Sub.nil _ | refine Sub.cons rfl ?_)
      · intro j hj
        by_cases e : j = k
        · subst e; assumption
        · exact hall j (by omega)
  ·
    refine W.exit ?_
    refine thenP_exit ?_
    refine thenP_exit ?_
    refine inBlk_exit ?_
    refine thenP_normal ?_
    refine W.seqR ?_
    refine LS.vv rfl rfl (by decide) (Val.assign rfl) ?_
    refine LS.nil ?_
    refine W.ret ?_
    refine ret1 (by first | exact .inl rfl | exact .inr rfl) rfl ?_
    exact ⟨by rw [fI_none (fun j hj => hall j (by omega))], hB⟩

theorem containsFunc_i64 (vals : List Value) (pr : Nat → Bool) (f : FuncId) (cap : Array Value) (p : Option Addr) (c : Nat) (w0 : World) (hbody : Body Try.prog f) (hr : Rd w0 p vals) (hb : vals.length ≤ 100000)
    (hf : ∀ i (h : i < vals.length) w, Below w0.heap.size w0 w → CallsV Try.prog f (#[vals[i]] ++ cap) w (fun v w2 => v = .bool (pr i) ∧ Below w.heap.size w w2)) :
    CallsV Try.prog 31 #[.slice p vals.length c, .func (.func f) #[] cap] w0 (fun v w => v = .bool ((List.range vals.length).any pr) ∧ Below w0.heap.size w0 w) := by
  refine enter1 Try.func31 rfl Try.ntmps31 (by simp) rfl ?_
  have hB := Below.refl w0.heap.size w0
  simp only [argLoc, Nat.zero_add]
  refine W.seqR ?_
  refine LS.vv rfl rfl (by decide) (Val.assign rfl) ?_
  refine LS.nil ?_
  refine W.seqR ?_
  refine LS.vv rfl rfl (by decide) (Val.move rfl) ?_
  refine LS.vv rfl rfl (by decide) (Val.move rfl) ?_
  refine LS.m rfl (Step.call body40 rfl rfl (by decide) rfl (CallsV.mono (indexFunc_i64 vals pr f cap _ _ _ hbody (hr.below hB) hb (fun i h w hw => hf i h w (hB.trans (hw.mono hB.size)))) ?_))
  rintro _ w1 ⟨rfl, hb1⟩
  replace hB := hB.trans (hb1.mono hB.size)
  refine LS.vv rfl rfl (by decide) (Val.cast (Val.geq (j := 0) rfl rfl) (congrArg Value.bool (fI_any pr vals.length))) ?_
  refine LS.vv rfl rfl (by decide) (Val.assign rfl) ?_
  refine LS.nil ?_
  refine W.ret ?_
  refine ret1 (by first | exact .inl rfl | exact .inr rfl) rfl ?_
  exact ⟨rfl, hB⟩

theorem gn_toNat {zs : List Int} {k : Nat} (h : k < zs.length) : gn (zs.map Int.toNat) k = (gz zs k).toNat := by unfold gn gz; simp [h]
theorem iv_toNat {zs : List Int} (h : ∀ z ∈ zs, 0 ≤ z) : iv zs = nv (zs.map Int.toNat) := by
  rw [nv_iv, List.map_map]
  congr 1
  conv => lhs; rw [← List.map_id zs]
  refine List.map_congr_left fun x hx => ?_
  have := h x hx
  simp only [Function.comp, id]; omega
theorem any_badW (zs : List Int) (n : Nat) (hn : n = zs.length) : (List.range n).any (fun i => decide (gz zs i < 0 ∨ 1048576 < gz zs i)) = true ↔ ¬ ∀ z ∈ zs, 0 ≤ z ∧ z ≤ 1048576 := by
  subst hn
  rw [List.any_eq_true]
  constructor
  · rintro ⟨i, hi, hb⟩ h
    have hi := List.mem_range.1 hi
    have := h (gz zs i) (by rw [gz_lt hi]; exact List.getElem_mem hi)
    have := of_decide_eq_true hb
    omega
  · intro h
    have ⟨z, hz, hb⟩ : ∃ z, z ∈ zs ∧ ¬ (0 ≤ z ∧ z ≤ 1048576) := by
      refine Classical.byContradiction fun hno => h fun z hz => ?_
      refine Classical.byContradiction fun hb => hno ⟨z, hz, hb⟩
    obtain ⟨i, hi, rfl⟩ := List.getElem_of_mem hz
    refine ⟨i, List.mem_range.2 hi, decide_eq_true ?_⟩
    rw [gz_lt hi]; omega
theorem okW_nat {zs : List Int} (h : ∀ z ∈ zs, 0 ≤ z ∧ z ≤ 1048576) : ∀ x ∈ zs.map Int.toNat, x ≤ 1048576 := by
  intro x hx
  obtain ⟨z, hz, rfl⟩ := List.mem_map.1 hx
  have := h z hz; omega

theorem check1_any (z : Int) (w0 : World) :
    CallsV Try.prog 32 #[.int .i64 z] w0 (fun v w => v = .bool (decide (z < 0 ∨ 1048576 < z)) ∧ Below w0.heap.size w0 w) := by
  refine enter1 Try.func32 rfl Try.ntmps32 (by simp) rfl ?_
  have hB := Below.refl w0.heap.size w0
  simp only [argLoc]
  have hM := Mem.nil w0 w0.heap.size
  refine W.seqR ?_
  refine LS.vv rfl rfl (by decide) (Val.assign rfl) ?_
  refine LS.nil ?_
  refine W.seqR ?_
  refine LS.vv rfl rfl (by decide) (Val.move rfl) ?_
  refine LS.vv rfl rfl (by decide) (Val.lss rfl rfl) ?_
  refine LS.vv rfl rfl (by decide) (Val.move rfl) ?_
  refine LS.split 2 rfl (fun hg1 => ?_) (fun hg1 => ?_)
  ·
    first | (have hg1p := of_decide_eq_true hg1) | skip
    refine LS.s rfl rfl rfl hg1 (by decide) ?_
    refine LS.s rfl rfl rfl hg1 (by decide) ?_
    refine LS.vv rfl rfl (by decide) (Val.cast (v := .bool (decide (z < 0 ∨ 1048576 < z))) (Val.pickT rfl hg1 rfl) (by refine congrArg Value.bool ?_; by_cases h1 : z < 0 <;> by_cases h2 : 1048576 < z <;> first | (exfalso; omega) | simp [h1, h2])) ?_
    refine LS.vv rfl rfl (by decide) (Val.assign rfl) ?_
    refine LS.nil ?_
    refine W.ret ?_
    refine ret1 (by first | exact .inl rfl | exact .inr rfl) rfl ?_
    exact ⟨rfl, hB⟩
  ·
    first | (have hg1p := of_decide_eq_false hg1) | skip
    refine LS.vg rfl rfl rfl hg1 (by decide) (Val.move rfl) ?_
    refine LS.vg rfl rfl rfl hg1 (by decide) (Val.gtr rfl rfl) ?_
    refine LS.vv rfl rfl (by decide) (Val.cast (v := .bool (decide (z < 0 ∨ 1048576 < z))) (Val.pickF rfl hg1 rfl) (by refine congrArg Value.bool ?_; by_cases h1 : z < 0 <;> by_cases h2 : 1048576 < z <;> first | (exfalso; omega) | simp [h1, h2])) ?_
    refine LS.vv rfl rfl (by decide) (Val.assign rfl) ?_
    refine LS.nil ?_
    refine W.ret ?_
    refine ret1 (by first | exact .inl rfl | exact .inr rfl) rfl ?_
    exact ⟨rfl, hB⟩

theorem check_any (zs : List Int) (p : Option Addr) (c m : Nat) (w0 : World) (hr : Rd w0 p (iv zs)) (hm : zs.length = m) :
    CallsV Try.prog 22 #[.slice p m c] w0 (fun v w => ∃ e : Nat, v = .int .i64 (e : Int) ∧ (e = 0 ↔ (zs.length ≤ 8 ∧ ∀ z ∈ zs, 0 ≤ z ∧ z ≤ 1048576)) ∧ Below w0.heap.size w0 w) := by
  refine enter1 Try.func22 rfl Try.ntmps22 (by simp) rfl ?_
  have hB := Below.refl w0.heap.size w0
  simp only [argLoc]
  have hM := Mem.nil w0 w0.heap.size
  subst hm
  have hlen : zs.length = (iv zs).length := by simp [iv]
  refine W.seqR ?_
  refine LS.vv rfl rfl (by decide) (Val.cast (v := .int .i64 ((0 : Nat) : Int)) (Val.assign rfl) rfl) ?_
  refine LS.nil ?_
  refine W.seq ?_
  refine W.seqR ?_
  refine LS.vv rfl rfl (by decide) (Val.move rfl) ?_
  refine LS.vv rfl rfl (by decide) (Val.len Try.underlying22 rfl) ?_
  refine LS.vv rfl rfl (by decide) (Val.gtr rfl rfl) ?_
  refine LS.nil ?_
  first | refine W.condD rfl (fun hc1 => ?_) (fun hc1 => ?_) | refine W.cond rfl (fun hc1 => ?_) (fun hc1 => ?_)
  ·
    refine W.seqR ?_
    refine LS.vv rfl rfl (by decide) (Val.cast (v := .int .i64 ((1 : Nat) : Int)) (Val.assign rfl) rfl) ?_
    refine LS.nil ?_
    refine W.ret ?_
    refine thenP_ret ?_
    refine ret1 (by first | exact .inl rfl | exact .inr rfl) rfl ?_
    exact ⟨1, rfl, ⟨fun h => (by cases h), fun h => by omega⟩, hB⟩
  ·
    refine W.skip ?_
    refine thenP_normal ?_
    refine W.seq ?_
    refine W.seqR ?_
    refine LS.vv rfl rfl (by decide) (Val.move rfl) ?_
    have hle8 : zs.length ≤ 8 := by omega
    rw [hlen]
    refine LS.m rfl (Step.call body31 rfl rfl (by decide) rfl (CallsV.mono (containsFunc_i64 (iv zs) (fun i => decide (gz zs i < 0 ∨ 1048576 < gz zs i)) 32 #[] _ _ _ body32 (hr.below hB) (by simp [iv]; omega) (fun i h w hw => by rw [show (iv zs)[i] = .int .i64 (gz zs i) from by simp [iv, gz, show i < zs.length by simpa [iv] using h]]; exact check1_any _ _)) ?_))
    rintro _ w1 ⟨rfl, hb1⟩
    replace hM := hM.below hb1
    replace hB := hB.trans (hb1.mono hB.size)
    refine LS.nil ?_
    first | refine W.condD rfl (fun hc2 => ?_) (fun hc2 => ?_) | refine W.cond rfl (fun hc2 => ?_) (fun hc2 => ?_)
    ·
      refine W.seqR ?_
      refine LS.vv rfl rfl (by decide) (Val.cast (v := .int .i64 ((4 : Nat) : Int)) (Val.assign rfl) rfl) ?_
      refine LS.nil ?_
      refine W.ret ?_
      refine thenP_ret ?_
      refine ret1 (by first | exact .inl rfl | exact .inr rfl) rfl ?_
      exact ⟨4, rfl, ⟨fun h => (by cases h), fun h => absurd h.2 ((any_badW zs (iv zs).length (by simp [iv])).1 ‹_›)⟩, hB⟩
    ·
      refine W.skip ?_
      refine thenP_normal ?_
      refine W.seqR ?_
      refine LS.vv rfl rfl (by decide) (Val.cast (v := .int .i64 ((0 : Nat) : Int)) (Val.assign rfl) rfl) ?_
      refine LS.nil ?_
      refine W.ret ?_
      refine ret1 (by first | exact .inl rfl | exact .inr rfl) rfl ?_
      refine ⟨0, rfl, ⟨fun _ => ⟨by omega, ?_⟩, fun _ => rfl⟩, hB⟩
      refine Classical.byContradiction fun h => ?_
      have := (any_badW zs (iv zs).length (by simp [iv])).2 h
      first | exact absurd this ‹_› | (rw [this] at *; contradiction) | (rename_i hcf; rw [hcf] at this; cases this) | exact absurd (hc2.symm.trans this) (by decide) | exact hc2 this

theorem weightsCheck_any (zs : List Int) (p : Option Addr) (c m : Nat) (w0 : World) (hr : Rd w0 p (iv zs)) (hm : zs.length = m) :
    CallsV Try.prog 25 #[.slice p m c] w0 (fun v w => ∃ e : Nat, v = .int .i64 (e : Int) ∧ (e = 0 ↔ (zs.length ≤ 8 ∧ ∀ z ∈ zs, 0 ≤ z ∧ z ≤ 1048576)) ∧ Below w0.heap.size w0 w) := by
  refine enter1 Try.func25 rfl Try.ntmps25 (by simp) rfl ?_
  have hB := Below.refl w0.heap.size w0
  simp only [argLoc]
  have hM := Mem.nil w0 w0.heap.size
  subst hm
  refine W.seqR ?_
  refine LS.vv rfl rfl (by decide) (Val.cast (v := .int .i64 ((0 : Nat) : Int)) (Val.assign rfl) rfl) ?_
  refine LS.nil ?_
  refine W.seq ?_
  refine W.seqR ?_
  refine LS.vv rfl rfl (by decide) (Val.move rfl) ?_
  refine LS.vv rfl rfl (by decide) (Val.len Try.underlying22 rfl) ?_
  refine LS.vv rfl rfl (by decide) (Val.gtr rfl rfl) ?_
  refine LS.nil ?_
  first | refine W.condD rfl (fun hc1 => ?_) (fun hc1 => ?_) | refine W.cond rfl (fun hc1 => ?_) (fun hc1 => ?_)
  ·
    refine W.seqR ?_
    refine LS.vv rfl rfl (by decide) (Val.cast (v := .int .i64 ((1 : Nat) : Int)) (Val.assign rfl) rfl) ?_
    refine LS.nil ?_
    refine W.ret ?_
    refine thenP_ret ?_
    refine ret1 (by first | exact .inl rfl | exact .inr rfl) rfl ?_
    first | exact ⟨1, rfl, ⟨fun h => (by cases h), fun h => by omega⟩, hB⟩ | (have hzm : gz zs k ∈ zs := (by { rw [gz_lt (show k < zs.length by omega)]; exact List.getElem_mem _ }); exact ⟨4, rfl, ⟨fun h => (by cases h), fun h => by have := h.2 _ hzm; omega⟩, hB⟩) | (obtain rfl : k = zs.length := (by omega); exact ⟨0, rfl, ⟨fun _ => ⟨by omega, fun z hz => by obtain ⟨j, hj, rfl⟩ := List.getElem_of_mem hz; rw [← gz_lt hj]; exact hall j hj⟩, fun _ => rfl⟩, hB⟩)
  ·
    refine W.skip ?_
    refine thenP_normal ?_
    refine W.seq ?_
    refine W.seqR ?_
    refine LS.vv rfl rfl (by decide) (Val.move rfl) ?_
    refine LS.vv rfl rfl (by decide) (Val.len Try.underlying22 rfl) ?_
    refine LS.vv rfl rfl (by decide) (Val.cast (v := .int .i64 ((0 : Nat) : Int)) (Val.move rfl) rfl) ?_
    refine LS.nil ?_
    refine W.block ?_
    refine W.loop (α := Nat) (fun k => [(10, .int .i64 (k : Int))]) [(8, _), (9, _)] (fun k w => (k ≤ zs.length ∧ ∀ j, j < k → 0 ≤ gz zs j ∧ gz zs j ≤ 1048576) ∧ Mem w w0.heap.size [] ∧ Below w0.heap.size w0 w) (fun k => zs.length - k) (0) (Sub.cons rfl (Sub.nil _)) (Sub.cons rfl (Sub.cons rfl (Sub.nil _))) ?_ ?_
    · exact ⟨⟨Nat.zero_le _, fun j h => absurd h (by omega)⟩, hM, hB⟩
    rintro k w1 ⟨⟨hk, hall⟩, hM, hB⟩
    try simp only at hM
    simp only [List.cons_append, List.nil_append]
    refine W.seqR ?_
    refine LS.vv rfl rfl (by decide) (Val.lss rfl rfl) ?_
    refine LS.nil ?_
    refine W.seq ?_
    first | refine W.condD rfl (fun hc2 => ?_) (fun hc2 => ?_) | refine W.cond rfl (fun hc2 => ?_) (fun hc2 => ?_)
    ·
      refine W.skip ?_
      refine thenP_normal ?_
      refine W.seq ?_
      refine W.block ?_
      refine W.seqR ?_
      refine LS.vv rfl rfl (by decide) (Val.index1 Try.underlying22 elem2 rfl rfl (by omega) ((hr.below hB)) (iv_lt (by omega))) ?_
      refine LS.m rfl (Step.load rfl rfl (by decide) flat2 rfl ((hr.below hB)) (iv_at (by omega)) ?_)
      refine LS.vv rfl rfl (by decide) (Val.assign rfl) ?_
      refine LS.nil ?_
      refine W.seqR ?_
      refine LS.vv rfl rfl (by decide) (Val.move rfl) ?_
      refine LS.vv rfl rfl (by decide) (Val.lss rfl rfl) ?_
      refine LS.vv rfl rfl (by decide) (Val.move rfl) ?_
      refine LS.split 2 rfl (fun hg3 => ?_) (fun hg3 => ?_)
      ·
        first | (have hg3p := of_decide_eq_true hg3) | skip
        refine LS.s rfl rfl rfl hg3 (by decide) ?_
        refine LS.s rfl rfl rfl hg3 (by decide) ?_
        refine LS.vv rfl rfl (by decide) (Val.pickT rfl hg3 rfl) ?_
        refine LS.nil ?_
        refine W.condT rfl ?_
        refine W.seqR ?_
        refine LS.vv rfl rfl (by decide) (Val.cast (v := .int .i64 ((4 : Nat) : Int)) (Val.assign rfl) rfl) ?_
        refine LS.nil ?_
        refine W.ret ?_
        refine inBlk_ret ?_
        refine thenP_ret ?_
        refine thenP_ret ?_
        refine inBlk_ret ?_
        refine thenP_ret ?_
        refine ret1 (by first | exact .inl rfl | exact .inr rfl) rfl ?_
        first | exact ⟨1, rfl, ⟨fun h => (by cases h), fun h => by omega⟩, hB⟩ | (have hzm : gz zs k ∈ zs := (by { rw [gz_lt (show k < zs.length by omega)]; exact List.getElem_mem _ }); exact ⟨4, rfl, ⟨fun h => (by cases h), fun h => by have := h.2 _ hzm; omega⟩, hB⟩) | (obtain rfl : k = zs.length := (by omega); exact ⟨0, rfl, ⟨fun _ => ⟨by omega, fun z hz => by obtain ⟨j, hj, rfl⟩ := List.getElem_of_mem hz; rw [← gz_lt hj]; exact hall j hj⟩, fun _ => rfl⟩, hB⟩)
      ·
        first | (have hg3p := of_decide_eq_false hg3) | skip
        refine LS.vg rfl rfl rfl hg3 (by decide) (Val.move rfl) ?_
        refine LS.vg rfl rfl rfl hg3 (by decide) (Val.gtr rfl rfl) ?_
        refine LS.vv rfl rfl (by decide) (Val.pickF rfl hg3 rfl) ?_
        refine LS.nil ?_
        first | refine W.condD rfl (fun hc4 => ?_) (fun hc4 => ?_) | refine W.cond rfl (fun hc4 => ?_) (fun hc4 => ?_)
        ·
          refine W.seqR ?_
          refine LS.vv rfl rfl (by decide) (Val.cast (v := .int .i64 ((4 : Nat) : Int)) (Val.assign rfl) rfl) ?_
          refine LS.nil ?_
          refine W.ret ?_
          refine inBlk_ret ?_
          refine thenP_ret ?_
          refine thenP_ret ?_
          refine inBlk_ret ?_
          refine thenP_ret ?_
          refine ret1 (by first | exact .inl rfl | exact .inr rfl) rfl ?_
          first | exact ⟨1, rfl, ⟨fun h => (by cases h), fun h => by omega⟩, hB⟩ | (have hzm : gz zs k ∈ zs := (by { rw [gz_lt (show k < zs.length by omega)]; exact List.getElem_mem _ }); exact ⟨4, rfl, ⟨fun h => (by cases h), fun h => by have := h.2 _ hzm; omega⟩, hB⟩) | (obtain rfl : k = zs.length := (by omega); exact ⟨0, rfl, ⟨fun _ => ⟨by omega, fun z hz => by obtain ⟨j, hj, rfl⟩ := List.getElem_of_mem hz; rw [← gz_lt hj]; exact hall j hj⟩, fun _ => rfl⟩, hB⟩)
        ·
          refine W.skip ?_
          refine inBlk_normal ?_
          refine thenP_normal ?_
          refine W.reg ?_
          first | refine LS.vv rfl rfl (by decide) (Val.addN (j := 1) rfl rfl (by omega)) ?_ | refine LS.vv rfl rfl (by decide) (Val.add64 rfl rfl (by omega)) ?_
          refine LS.vv rfl rfl (by decide) (Val.move rfl) ?_
          refine LS.nil ?_
          refine thenP_normal ?_
          refine ⟨k + 1, ?_, ?_, ⟨⟨by omega, fun j hj => ?_⟩, hM, hB⟩, by omega⟩
          · exact (Sub.cons rfl (Sub.nil _))
          · repeat (first | exact Sub.nil _ | refine Sub.cons rfl ?_)
          · by_cases e : j = k
            · subst e; omega
            · exact hall j (by omega)
    ·
      refine W.exit ?_
      refine thenP_exit ?_
      refine thenP_exit ?_
      refine inBlk_exit ?_
      refine thenP_normal ?_
      refine W.seqR ?_
      refine LS.vv rfl rfl (by decide) (Val.cast (v := .int .i64 ((0 : Nat) : Int)) (Val.assign rfl) rfl) ?_
      refine LS.nil ?_
      refine W.ret ?_
      refine ret1 (by first | exact .inl rfl | exact .inr rfl) rfl ?_
      first | exact ⟨1, rfl, ⟨fun h => (by cases h), fun h => by omega⟩, hB⟩ | (have hzm : gz zs k ∈ zs := (by { rw [gz_lt (show k < zs.length by omega)]; exact List.getElem_mem _ }); exact ⟨4, rfl, ⟨fun h => (by cases h), fun h => by have := h.2 _ hzm; omega⟩, hB⟩) | (obtain rfl : k = zs.length := (by omega); exact ⟨0, rfl, ⟨fun _ => ⟨by omega, fun z hz => by obtain ⟨j, hj, rfl⟩ := List.getElem_of_mem hz; rw [← gz_lt hj]; exact hall j hj⟩, fun _ => rfl⟩, hB⟩)

theorem weighed_any (zs : List Int) (p : Option Addr) (c m : Nat) (w0 : World) (hr : Rd w0 p (iv zs)) (hm : zs.length = m) :
    CallsV Try.prog 11 #[.slice p m c] w0 (fun v w => ∃ b : Bool, v = .bool b ∧ (b = true ↔ (zs.length ≤ 8 ∧ ∀ z ∈ zs, 0 ≤ z ∧ z ≤ 1048576)) ∧ Below w0.heap.size w0 w) := by
  refine enter1 Try.func11 rfl Try.ntmps11 (by simp) rfl ?_
  have hB := Below.refl w0.heap.size w0
  simp only [argLoc]
  have hM := Mem.nil w0 w0.heap.size
  subst hm
  refine W.seqR ?_
  refine LS.vv rfl rfl (by decide) (Val.assign rfl) ?_
  refine LS.nil ?_
  refine W.seqR ?_
  refine LS.vv rfl rfl (by decide) (Val.move rfl) ?_
  refine LS.m rfl (Step.call body25 rfl rfl (by decide) rfl (CallsV.mono (weightsCheck_any zs _ _ _ _ (hr.below hB) rfl) ?_))
  rintro _ w1 ⟨e, rfl, he, hb1⟩
  replace hM := hM.below hb1
  replace hB := hB.trans (hb1.mono hB.size)
  refine LS.vv rfl rfl (by decide) (Val.eql rfl rfl) ?_
  refine LS.vv rfl rfl (by decide) (Val.assign rfl) ?_
  refine LS.nil ?_
  refine W.ret ?_
  refine ret1 (by first | exact .inl rfl | exact .inr rfl) rfl ?_
  exact ⟨_, rfl, by rw [decide_eq_true_iff, ← he]; omega, hB⟩

theorem cost_le {ws ls : List Nat} (hw : ∀ x ∈ ws, x ≤ 1048576) (hl : ∀ x ∈ ls, x ≤ 8) (h8 : ws.length ≤ 8) (he : ls.length = ws.length) {k : Nat} (hk : k < ws.length) : gn ws k ≤ 1048576 ∧ gn ls k ≤ 8 ∧ gn ws k * gn ls k ≤ 8388608 := by
  have h1 : gn ws k ≤ 1048576 := hw _ (by rw [gn_lt hk]; exact List.getElem_mem _)
  have h2 : gn ls k ≤ 8 := hl _ (by rw [gn_lt (show k < ls.length by omega)]; exact List.getElem_mem _)
  exact ⟨h1, h2, Nat.mul_le_mul h1 h2⟩
theorem mulI (a b : Nat) : (a : Int) * (b : Int) = ((a * b : Nat) : Int) := (Int.natCast_mul a b).symm

theorem costs_any (ws ls : List Nat) (p q : Option Addr) (c d n m : Nat) (w0 : World) (hr : Rd w0 p (nv ws)) (hq : Rd w0 q (nv ls)) (hn : ws.length = n) (hm : ls.length = m) (he : ls.length = ws.length) (hw : ∀ x ∈ ws, x ≤ 1048576) (hl : ∀ x ∈ ls, x ≤ 8) (h8 : ws.length ≤ 8) :
    CallsV Try.prog 27 #[.slice p n c, .slice q m d] w0 (fun v w => v = .int .i64 ((cost ws ls : Nat) : Int) ∧ Below w0.heap.size w0 w) := by
  refine enter1 Try.func27 rfl Try.ntmps27 (by simp) rfl ?_
  have hB := Below.refl w0.heap.size w0
  simp only [argLoc, Nat.zero_add]
  have hM := Mem.nil w0 w0.heap.size
  subst hn
  subst hm
  refine W.seqR ?_
  refine LS.vv rfl rfl (by decide) (Val.cast (v := .int .i64 ((0 : Nat) : Int)) (Val.assign rfl) rfl) ?_
  refine LS.nil ?_
  refine W.seqR ?_
  refine LS.vv rfl rfl (by decide) (Val.cast (v := .int .i64 ((0 : Nat) : Int)) (Val.assign rfl) rfl) ?_
  refine LS.nil ?_
  refine W.seq ?_
  refine W.seqR ?_
  refine LS.vv rfl rfl (by decide) (Val.move rfl) ?_
  refine LS.vv rfl rfl (by decide) (Val.len Try.underlying22 rfl) ?_
  refine LS.vv rfl rfl (by decide) (Val.cast (v := .int .i64 ((0 : Nat) : Int)) (Val.move rfl) rfl) ?_
  refine LS.nil ?_
  refine W.block ?_
  refine W.loop (α := Nat) (fun k => [(5, .int .i64 ((sumI (List.range k) (fun i => gn ws i * gn ls i) : Nat) : Int)), (10, .int .i64 (k : Int))]) [(1, _), (8, _), (9, _)] (fun k w => (k ≤ ws.length ∧ sumI (List.range k) (fun i => gn ws i * gn ls i) ≤ 8388608 * k) ∧ Mem w w0.heap.size [] ∧ Below w0.heap.size w0 w) (fun k => ws.length - k) (0) (Sub.cons rfl (Sub.cons rfl (Sub.nil _))) (Sub.cons rfl (Sub.cons rfl (Sub.cons rfl (Sub.nil _)))) ?_ ?_
  · exact ⟨⟨Nat.zero_le _, by simp [sumI]⟩, hM, hB⟩
  rintro k w1 ⟨⟨hk, hsm⟩, hM, hB⟩
  try simp only at hM
  simp only [List.cons_append, List.nil_append]
  have hss := sumI_succ k (fun i => gn ws i * gn ls i)
  refine W.seqR ?_
  refine LS.vv rfl rfl (by decide) (Val.lss rfl rfl) ?_
  refine LS.nil ?_
  refine W.seq ?_
  first | refine W.condD rfl (fun hc1 => ?_) (fun hc1 => ?_) | refine W.cond rfl (fun hc1 => ?_) (fun hc1 => ?_)
  ·
    refine W.skip ?_
    refine thenP_normal ?_
    refine W.seq ?_
    refine W.block ?_
    refine W.seqR ?_
    refine LS.vv rfl rfl (by decide) (Val.move rfl) ?_
    refine LS.vv rfl rfl (by decide) (Val.index1 Try.underlying22 elem2 rfl rfl (by omega) ((hr.below hB)) (nv_lt (by omega))) ?_
    have hcl := cost_le hw hl h8 he (k := k) (by omega)
    have hcl1 := hcl.1
    have hcl2 := hcl.2.1
    have hcl3 := hcl.2.2
    have hcl4 : (gn ws k : Int) * (gn ls k : Int) = ((gn ws k * gn ls k : Nat) : Int) := mulI _ _
    refine LS.m rfl (Step.load rfl rfl (by decide) flat2 rfl ((hr.below hB)) (nv_at (by omega)) ?_)
    refine LS.vv rfl rfl (by decide) (Val.assign rfl) ?_
    refine LS.vv rfl rfl (by decide) (Val.assign rfl) ?_
    refine LS.nil ?_
    refine W.reg ?_
    refine LS.vv rfl rfl (by decide) (Val.move rfl) ?_
    refine LS.vv rfl rfl (by decide) (Val.move rfl) ?_
    refine LS.vv rfl rfl (by decide) (Val.move rfl) ?_
    refine LS.vv rfl rfl (by decide) (Val.move rfl) ?_
    refine LS.vv rfl rfl (by decide) (Val.index1 Try.underlying23 elem3 rfl rfl (by omega) ((hq.below hB)) (nv_lt (by omega))) ?_
    refine LS.m rfl (Step.load rfl rfl (by decide) flat3 rfl ((hq.below hB)) (nv_at (by omega)) ?_)
    first | refine LS.vv rfl rfl (by decide) (Val.mulN rfl rfl (by omega)) ?_ | refine LS.vv rfl rfl (by decide) (Val.mul64 rfl rfl (by omega)) ?_
    first | refine LS.vv rfl rfl (by decide) (Val.addN rfl rfl (by omega)) ?_ | refine LS.vv rfl rfl (by decide) (Val.add64 rfl rfl (by omega)) ?_
    refine LS.vv rfl rfl (by decide) (Val.assign rfl) ?_
    refine LS.nil ?_
    refine inBlk_normal ?_
    refine thenP_normal ?_
    refine W.reg ?_
    first | refine LS.vv rfl rfl (by decide) (Val.addN (j := 1) rfl rfl (by omega)) ?_ | refine LS.vv rfl rfl (by decide) (Val.add64 rfl rfl (by omega)) ?_
    refine LS.vv rfl rfl (by decide) (Val.move rfl) ?_
    refine LS.nil ?_
    refine thenP_normal ?_
    refine ⟨k + 1, ?_, ?_, ⟨⟨by omega, by rw [hss]; omega⟩, hM, hB⟩, by omega⟩
    · exact (Sub.cons' rfl (by rw [hss, Int.natCast_add, Int.natCast_mul]) (Sub.cons rfl (Sub.nil _)))
    · repeat (first | exact Sub.nil _ | refine Sub.cons rfl ?_)
  ·
    refine W.exit ?_
    refine thenP_exit ?_
    refine thenP_exit ?_
    refine inBlk_exit ?_
    refine thenP_normal ?_
    refine W.seqR ?_
    refine LS.vv rfl rfl (by decide) (Val.move rfl) ?_
    refine LS.vv rfl rfl (by decide) (Val.assign rfl) ?_
    refine LS.nil ?_
    refine W.ret ?_
    refine ret1 (by first | exact .inl rfl | exact .inr rfl) rfl ?_
    obtain rfl : k = ws.length := by omega
    rw [cost_range he]
    exact ⟨rfl, hB⟩

theorem refCosts_any (ws ls : List Nat) (p q : Option Addr) (c d n m : Nat) (w0 : World) (hr : Rd w0 p (nv ws)) (hq : Rd w0 q (nv ls)) (hn : ws.length = n) (hm : ls.length = m) (he : ls.length = ws.length) (hw : ∀ x ∈ ws, x ≤ 1048576) (hl : ∀ x ∈ ls, x ≤ 8) (h8 : ws.length ≤ 8) :
    CallsV Try.prog 13 #[.slice p n c, .slice q m d] w0 (fun v w => v = .int .i64 ((cost ws ls : Nat) : Int) ∧ Below w0.heap.size w0 w) := by
  refine enter1 Try.func13 rfl Try.ntmps13 (by simp) rfl ?_
  have hB := Below.refl w0.heap.size w0
  simp only [argLoc, Nat.zero_add]
  have hM := Mem.nil w0 w0.heap.size
  subst hn
  subst hm
  refine W.seqR ?_
  refine LS.vv rfl rfl (by decide) (Val.cast (v := .int .i64 ((0 : Nat) : Int)) (Val.assign rfl) rfl) ?_
  refine LS.nil ?_
  refine W.seqR ?_
  refine LS.vv rfl rfl (by decide) (Val.cast (v := .int .i64 ((0 : Nat) : Int)) (Val.assign rfl) rfl) ?_
  refine LS.nil ?_
  refine W.seq ?_
  refine W.seqR ?_
  refine LS.vv rfl rfl (by decide) (Val.cast (v := .int .i64 ((0 : Nat) : Int)) (Val.assign rfl) rfl) ?_
  refine LS.nil ?_
  refine W.block ?_
  refine W.loop (α := Nat) (fun k => [(5, .int .i64 ((sumI (List.range k) (fun i => gn ws i * gn ls i) : Nat) : Int)), (6, .int .i64 (k : Int))]) [(0, _), (1, _)] (fun k w => (k ≤ ws.length ∧ sumI (List.range k) (fun i => gn ws i * gn ls i) ≤ 8388608 * k) ∧ Mem w w0.heap.size [] ∧ Below w0.heap.size w0 w) (fun k => ws.length - k) (0) (Sub.cons rfl (Sub.cons rfl (Sub.nil _))) (Sub.cons rfl (Sub.cons rfl (Sub.nil _))) ?_ ?_
  · exact ⟨⟨Nat.zero_le _, by simp [sumI]⟩, hM, hB⟩
  rintro k w1 ⟨⟨hk, hsm⟩, hM, hB⟩
  try simp only at hM
  simp only [List.cons_append, List.nil_append]
  have hss := sumI_succ k (fun i => gn ws i * gn ls i)
  refine W.seq ?_
  refine W.seqR ?_
  refine LS.vv rfl rfl (by decide) (Val.move rfl) ?_
  refine LS.vv rfl rfl (by decide) (Val.move rfl) ?_
  refine LS.vv rfl rfl (by decide) (Val.len Try.underlying22 rfl) ?_
  refine LS.vv rfl rfl (by decide) (Val.lss rfl rfl) ?_
  refine LS.vv rfl rfl (by decide) (Val.move rfl) ?_
  refine LS.split 4 rfl (fun hg1 => ?_) (fun hg1 => ?_)
  ·
    first | (have hg1p := of_decide_eq_true hg1) | skip
    refine LS.vg rfl rfl rfl hg1 (by decide) (Val.move rfl) ?_
    refine LS.vg rfl rfl rfl hg1 (by decide) (Val.move rfl) ?_
    refine LS.vg rfl rfl rfl hg1 (by decide) (Val.len Try.underlying23 rfl) ?_
    refine LS.vg rfl rfl rfl hg1 (by decide) (Val.lss rfl rfl) ?_
    refine LS.vv rfl rfl (by decide) (Val.pickT rfl hg1 rfl) ?_
    refine LS.nil ?_
    first | refine W.condD rfl (fun hc2 => ?_) (fun hc2 => ?_) | refine W.cond rfl (fun hc2 => ?_) (fun hc2 => ?_)
    ·
      refine W.skip ?_
      refine thenP_normal ?_
      refine W.seq ?_
      refine W.block ?_
      refine W.regF 12 [(0, true), (1, true), (2, true), (3, true), (4, true), (5, true), (6, true), (7, true), (8, true), (9, true), (10, true), (11, true)] mixed (by kernel_rfl) hB hM ?_
      replace hB := hB.drew
      replace hM := hM.drew
      refine DF.vv rfl rfl rfl (by decide) (Val.move rfl) ?_
      refine DF.vv rfl rfl rfl (by decide) (Val.move rfl) ?_
      refine DF.vv rfl rfl rfl (by decide) (Val.move rfl) ?_
      refine DF.vv rfl rfl rfl (by decide) (Val.index1 Try.underlying22 elem2 rfl rfl (by omega) ((hr.below hB)) (nv_lt (by omega))) ?_
      have hcl := cost_le hw hl h8 he (k := k) (by omega)
      have hcl1 := hcl.1
      have hcl2 := hcl.2.1
      have hcl3 := hcl.2.2
      have hcl4 : (gn ws k : Int) * (gn ls k : Int) = ((gn ws k * gn ls k : Nat) : Int) := mulI _ _
      refine DF.vv rfl rfl rfl (by decide) (Val.load flat2 rfl (fun _ h => (hr.below h.1)) (nv_at (by omega))) ?_
      refine DF.vv rfl rfl rfl (by decide) (Val.move rfl) ?_
      refine DF.vv rfl rfl rfl (by decide) (Val.move rfl) ?_
      refine DF.vv rfl rfl rfl (by decide) (Val.index1 Try.underlying23 elem3 rfl rfl (by omega) ((hq.below hB)) (nv_lt (by omega))) ?_
      refine DF.vv rfl rfl rfl (by decide) (Val.load flat3 rfl (fun _ h => (hq.below h.1)) (nv_at (by omega))) ?_
      first | refine DF.vv rfl rfl rfl (by decide) (Val.mulN rfl rfl (by omega)) ?_ | refine DF.vv rfl rfl rfl (by decide) (Val.mul64 rfl rfl (by omega)) ?_
      first | refine DF.vv rfl rfl rfl (by decide) (Val.addN rfl rfl (by omega)) ?_ | refine DF.vv rfl rfl rfl (by decide) (Val.add64 rfl rfl (by omega)) ?_
      refine DF.vv rfl rfl rfl (by decide) (Val.assign rfl) ?_
      refine DF.nil ?_
      refine inBlk_normal ?_
      refine thenP_normal ?_
      refine W.reg ?_
      refine LS.vv rfl rfl (by decide) (Val.move rfl) ?_
      first | refine LS.vv rfl rfl (by decide) (Val.addN (j := 1) rfl rfl (by omega)) ?_ | refine LS.vv rfl rfl (by decide) (Val.add64 rfl rfl (by omega)) ?_
      refine LS.vv rfl rfl (by decide) (Val.assign rfl) ?_
      refine LS.nil ?_
      refine thenP_normal ?_
      refine ⟨k + 1, ?_, ?_, ⟨⟨by omega, by rw [hss]; omega⟩, hM, hB⟩, by omega⟩
      · exact (Sub.cons' rfl (by rw [hss, Int.natCast_add, Int.natCast_mul]) (Sub.cons rfl (Sub.nil _)))
      · repeat (first | exact Sub.nil _ | refine Sub.cons rfl ?_)
    ·
      refine W.exit ?_
      refine thenP_exit ?_
      refine thenP_exit ?_
      refine inBlk_exit ?_
      refine thenP_normal ?_
      refine W.seqR ?_
      refine LS.vv rfl rfl (by decide) (Val.move rfl) ?_
      refine LS.vv rfl rfl (by decide) (Val.assign rfl) ?_
      refine LS.nil ?_
      refine W.ret ?_
      refine ret1 (by first | exact .inl rfl | exact .inr rfl) rfl ?_
      obtain rfl : k = ws.length := by omega
      rw [cost_range he]
      exact ⟨rfl, hB⟩
  ·
    first | (have hg1p := of_decide_eq_false hg1) | skip
    refine LS.s rfl rfl rfl hg1 (by decide) ?_
    refine LS.s rfl rfl rfl hg1 (by decide) ?_
    refine LS.s rfl rfl rfl hg1 (by decide) ?_
    refine LS.s rfl rfl rfl hg1 (by decide) ?_
    refine LS.vv rfl rfl (by decide) (Val.pickF rfl hg1 rfl) ?_
    refine LS.nil ?_
    refine W.condF rfl ?_
    refine W.exit ?_
    refine thenP_exit ?_
    refine thenP_exit ?_
    refine inBlk_exit ?_
    refine thenP_normal ?_
    refine W.seqR ?_
    refine LS.vv rfl rfl (by decide) (Val.move rfl) ?_
    refine LS.vv rfl rfl (by decide) (Val.assign rfl) ?_
    refine LS.nil ?_
    refine W.ret ?_
    refine ret1 (by first | exact .inl rfl | exact .inr rfl) rfl ?_
    obtain rfl : k = ws.length := by omega
    rw [cost_range he]
    exact ⟨rfl, hB⟩

theorem cost_any (zs : List Int) (p : Option Addr) (c m : Nat) (w0 : World) (hr : Rd w0 p (iv zs)) (hm : zs.length = m) :
    CallsV Try.prog 17 #[.slice p m c] w0 (fun v w => ∃ e x : Nat, v = .tuple #[.int .i64 (x : Int), .int .i64 (e : Int)] ∧ (e = 0 ↔ (zs.length ≤ 8 ∧ ∀ z ∈ zs, 0 ≤ z ∧ z ≤ 1048576)) ∧ (e = 0 → ∃ l, Opt (zs.map Int.toNat) l ∧ x = cost (zs.map Int.toNat) l) ∧ Below w0.heap.size w0 w) := by
  refine enter2 Try.func17 rfl Try.ntmps17 (by simp) rfl ?_
  have hB := Below.refl w0.heap.size w0
  simp only [argLoc]
  have hM := Mem.nil w0 w0.heap.size
  subst hm
  refine W.seqR ?_
  refine LS.vv rfl rfl (by decide) (Val.cast (v := .int .i64 ((0 : Nat) : Int)) (Val.assign rfl) rfl) ?_
  refine LS.vv rfl rfl (by decide) (Val.cast (v := .int .i64 ((0 : Nat) : Int)) (Val.assign rfl) rfl) ?_
  refine LS.nil ?_
  refine W.seq ?_
  refine W.seqR ?_
  refine LS.vv rfl rfl (by decide) (Val.move rfl) ?_
  refine LS.m rfl (Step.call body22 rfl rfl (by decide) rfl (CallsV.mono (check_any zs _ _ _ _ (hr.below hB) rfl) ?_))
  rintro _ w1 ⟨e, rfl, he, hb1⟩
  replace hM := hM.below hb1
  replace hB := hB.trans (hb1.mono hB.size)
  refine LS.vv rfl rfl (by decide) (Val.assign rfl) ?_
  refine LS.nil ?_
  refine W.seqR ?_
  refine LS.vv rfl rfl (by decide) (Val.move rfl) ?_
  refine LS.vv rfl rfl (by decide) (Val.neq rfl rfl) ?_
  refine LS.nil ?_
  first | refine W.condD rfl (fun hc1 => ?_) (fun hc1 => ?_) | refine W.cond rfl (fun hc1 => ?_) (fun hc1 => ?_)
  ·
    refine W.seqR ?_
    refine LS.vv rfl rfl (by decide) (Val.move rfl) ?_
    refine LS.vv rfl rfl (by decide) (Val.cast (v := .int .i64 ((0 : Nat) : Int)) (Val.assign rfl) rfl) ?_
    refine LS.vv rfl rfl (by decide) (Val.assign rfl) ?_
    refine LS.nil ?_
    refine W.ret ?_
    refine thenP_ret ?_
    refine ret2 (by first | exact .inl rfl | exact .inr rfl) rfl rfl ?_
    first | exact ⟨e, 0, rfl, he, fun h => absurd h (by omega), hB⟩ | exact ⟨0, _, rfl, ⟨fun _ => hok, fun _ => rfl⟩, fun _ => ⟨l, hop, rfl⟩, hB⟩
  ·
    refine W.skip ?_
    refine thenP_normal ?_
    refine W.seqR ?_
    refine LS.vv rfl rfl (by decide) (Val.move rfl) ?_
    refine LS.vv rfl rfl (by decide) (Val.move rfl) ?_
    have hok := he.1 (by omega)
    have hr2 : Rd w0 p (nv (zs.map Int.toNat)) := by rw [← iv_toNat (fun z h => (hok.2 z h).1)]; exact hr
    have hwn := okW_nat hok.2
    refine LS.m rfl (Step.call body28 rfl rfl (by decide) rfl (CallsV.mono (lens_any (zs.map Int.toNat) _ _ _ _ (hr2.below hB) (by rw [List.length_map]) hok.1 hwn) ?_))
    rintro _ w2 ⟨p2, c2, l, rfl, hOl, hop, hb2⟩
    replace hM := hM.below hb2
    replace hB := hB.trans (hb2.mono hB.size)
    have hol := hop.len
    rw [List.length_map] at hol
    refine LS.m rfl (Step.call body27 rfl rfl (by decide) rfl (CallsV.mono (costs_any (zs.map Int.toNat) l _ _ _ _ _ _ _ (hr2.below hB) (hOl.rd) (by rw [List.length_map]) hol (by rw [hol, List.length_map]) hwn (hop.l8 (by rw [List.length_map]; exact hok.1)) (by rw [List.length_map]; exact hok.1)) ?_))
    rintro _ w3 ⟨rfl, hb3⟩
    replace hM := hM.below hb3
    replace hB := hB.trans (hb3.mono hB.size)
    refine LS.vv rfl rfl (by decide) (Val.assign rfl) ?_
    refine LS.vv rfl rfl (by decide) (Val.cast (v := .int .i64 ((0 : Nat) : Int)) (Val.assign rfl) rfl) ?_
    refine LS.nil ?_
    refine W.ret ?_
    refine ret2 (by first | exact .inl rfl | exact .inr rfl) rfl rfl ?_
    first | exact ⟨e, 0, rfl, he, fun h => absurd h (by omega), hB⟩ | exact ⟨0, _, rfl, ⟨fun _ => hok, fun _ => rfl⟩, fun _ => ⟨l, hop, rfl⟩, hB⟩

theorem lensW_any (zs : List Int) (p : Option Addr) (c m : Nat) (w0 : World) (hr : Rd w0 p (iv zs)) (hm : zs.length = m) :
    CallsV Try.prog 18 #[.slice p m c] w0 (fun v w => ∃ (e : Nat) (p2 : Option Addr) (c2 : Nat) (l : List Nat), v = .tuple #[.slice p2 l.length c2, .int .i64 (e : Int)] ∧ (e = 0 ↔ (zs.length ≤ 8 ∧ ∀ z ∈ zs, 0 ≤ z ∧ z ≤ 1048576)) ∧ (e = 0 → Opt (zs.map Int.toNat) l) ∧ Own w w0.heap.size 3 p2 l.length c2 (nv l) ∧ Below w0.heap.size w0 w) := by
  refine enter2 Try.func18 rfl Try.ntmps18 (by simp) rfl ?_
  have hB := Below.refl w0.heap.size w0
  simp only [argLoc]
  have hM := Mem.nil w0 w0.heap.size
  subst hm
  refine W.seqR ?_
  refine LS.vv rfl rfl (by decide) (Val.assign rfl) ?_
  refine LS.vv rfl rfl (by decide) (Val.cast (v := .int .i64 ((0 : Nat) : Int)) (Val.assign rfl) rfl) ?_
  refine LS.nil ?_
  refine W.seq ?_
  refine W.seqR ?_
  refine LS.vv rfl rfl (by decide) (Val.move rfl) ?_
  refine LS.m rfl (Step.call body22 rfl rfl (by decide) rfl (CallsV.mono (check_any zs _ _ _ _ (hr.below hB) rfl) ?_))
  rintro _ w1 ⟨e, rfl, he, hb1⟩
  replace hM := hM.below hb1
  replace hB := hB.trans (hb1.mono hB.size)
  refine LS.vv rfl rfl (by decide) (Val.assign rfl) ?_
  refine LS.nil ?_
  refine W.seqR ?_
  refine LS.vv rfl rfl (by decide) (Val.move rfl) ?_
  refine LS.vv rfl rfl (by decide) (Val.neq rfl rfl) ?_
  refine LS.nil ?_
  first | refine W.condD rfl (fun hc1 => ?_) (fun hc1 => ?_) | refine W.cond rfl (fun hc1 => ?_) (fun hc1 => ?_)
  ·
    refine W.seqR ?_
    refine LS.vv rfl rfl (by decide) (Val.move rfl) ?_
    refine LS.vv rfl rfl (by decide) (Val.assign rfl) ?_
    refine LS.vv rfl rfl (by decide) (Val.assign rfl) ?_
    refine LS.nil ?_
    refine W.ret ?_
    refine thenP_ret ?_
    refine ret2 (by first | exact .inl rfl | exact .inr rfl) rfl rfl ?_
    first | exact ⟨e, none, 0, [], rfl, he, fun h => absurd h (by omega), Own.nil _ _ _, hB⟩ | exact ⟨0, p2, c2, l, (by rw [hol]), ⟨fun _ => hok, fun _ => rfl⟩, fun _ => hop, (by rw [hol]; exact hOl.base hb1.size), hB⟩
  ·
    refine W.skip ?_
    refine thenP_normal ?_
    refine W.seqR ?_
    refine LS.vv rfl rfl (by decide) (Val.move rfl) ?_
    have hok := he.1 (by omega)
    have hr2 : Rd w0 p (nv (zs.map Int.toNat)) := by rw [← iv_toNat (fun z h => (hok.2 z h).1)]; exact hr
    have hwn := okW_nat hok.2
    refine LS.m rfl (Step.call body28 rfl rfl (by decide) rfl (CallsV.mono (lens_any (zs.map Int.toNat) _ _ _ _ (hr2.below hB) (by rw [List.length_map]) hok.1 hwn) ?_))
    rintro _ w2 ⟨p2, c2, l, rfl, hOl, hop, hb2⟩
    replace hM := hM.below hb2
    replace hB := hB.trans (hb2.mono hB.size)
    have hol := hop.len
    rw [List.length_map] at hol
    refine LS.vv rfl rfl (by decide) (Val.assign rfl) ?_
    refine LS.vv rfl rfl (by decide) (Val.cast (v := .int .i64 ((0 : Nat) : Int)) (Val.assign rfl) rfl) ?_
    refine LS.nil ?_
    refine W.ret ?_
    refine ret2 (by first | exact .inl rfl | exact .inr rfl) rfl rfl ?_
    first | exact ⟨e, none, 0, [], rfl, he, fun h => absurd h (by omega), Own.nil _ _ _, hB⟩ | exact ⟨0, p2, c2, l, (by rw [hol]), ⟨fun _ => hok, fun _ => rfl⟩, fun _ => hop, (by rw [hol]; exact hOl.base hb1.size), hB⟩

end Go.Proofs.Ytohflgcbpmoinaa
