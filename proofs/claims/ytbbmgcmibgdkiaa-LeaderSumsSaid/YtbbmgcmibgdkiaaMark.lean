/-
  The walks of package leader up to Mark.
-/
import Derived.Test.YtbbmgcmibgdkiaaWords
import Derived.Test.YtbbmgcmibgdkiaaFlipPlain
namespace Go.Proofs.Ytbbmgcmibgdkiaa
open Go Go.RowKit V
set_option linter.unusedVariables false

theorem mark_any (cs : List Nat) (p : Option Addr) (c : Nat) (x : Nat) (w0 : World) (hr : Rd w0 p (uv cs)) (hl : cs.length ≤ 9223372036854775807) (hcs : ∀ x ∈ cs, x < 4294967296) (hx : x < 4294967296) (h8 : cs.length ≤ 8) :
    CallsV Try.prog 53 #[.slice p cs.length c, .int .u32 (x : Int)] w0 (fun v w => v = .int .u32 (markTo cs x cs.length : Int) ∧ Below w0.heap.size w0 w) := by
  refine enter1 Try.func53 rfl Try.ntmps53 (by simp) rfl ?_
  have hB := Below.refl w0.heap.size w0
  simp only [argLoc, Nat.zero_add]
  have hlt : ∀ j, j < cs.length → gn cs j < 4294967296 := fun j hj => by rw [gn_lt hj]; exact hcs _ (List.getElem_mem hj)
  refine W.seqR ?_
  refine LS.vv rfl rfl (by decide) (Val.cast (v := .int .u32 ((0 : Nat) : Int)) (Val.assign rfl) rfl) ?_
  refine LS.nil ?_
  refine W.seqR ?_
  refine LS.vv rfl rfl (by decide) (Val.cast (v := .int .u32 ((0 : Nat) : Int)) (Val.assign rfl) rfl) ?_
  refine LS.nil ?_
  refine W.seq ?_
  refine W.seqR ?_
  refine LS.vv rfl rfl (by decide) (Val.move rfl) ?_
  refine LS.vv rfl rfl (by decide) (Val.len Try.underlying45 rfl) ?_
  refine LS.vv rfl rfl (by decide) (Val.cast (v := .int .i64 ((0 : Nat) : Int)) (Val.move rfl) rfl) ?_
  refine LS.nil ?_
  refine W.block ?_
  refine W.loop (α := Nat) (fun k => [(5, .int .u32 (markTo cs x k : Int)), (10, .int .i64 (k : Int))]) [(1, _), (8, _), (9, _)] (fun k w => k ≤ cs.length ∧ Below w0.heap.size w0 w) (fun k => cs.length - k) (0) (Sub.cons rfl (Sub.cons rfl (Sub.nil _))) (Sub.cons rfl (Sub.cons rfl (Sub.cons rfl (Sub.nil _)))) ?_ ?_
  · exact ⟨Nat.zero_le _, hB⟩
  rintro k w1 ⟨hk, hB⟩
  simp only [List.cons_append, List.nil_append]
  have hm1 := markTo_lt cs x k
  have hm2 : 2 ^ k ≤ 2 ^ 8 := Nat.pow_le_pow_right (by omega) (by omega)
  have hbs := bit_shl_lt (b := popc (gn cs k &&& x) % 2) (k := k) (Nat.mod_lt _ (by omega))
  have hm3 : 2 ^ (k + 1) ≤ 2 ^ 9 := Nat.pow_le_pow_right (by omega) (by omega)
  have han : gn cs k &&& x < 2 ^ 32 := Nat.and_lt_two_pow _ (by omega)
  have hmd := Nat.mod_lt (popc (gn cs k &&& x)) (show 0 < 2 by omega)
  refine W.seqR ?_
  refine LS.vv rfl rfl (by decide) (Val.lss rfl rfl) ?_
  refine LS.nil ?_
  refine W.seq ?_
  first | refine W.condD rfl (fun hc1 => ?_) (fun hc1 => ?_) | refine W.cond rfl (fun hc1 => ?_) (fun hc1 => ?_)
  ·
    have hltk := hlt k (by omega)
    have hpc : popc (gn cs k &&& x) ≤ 32 := popTo_le _ 32
    have hm4 : markTo cs x k < 256 := by omega
    have hm5 : (popc (gn cs k &&& x) % 2) <<< k < 512 := by omega
    clear hm1 hm2 hm3 hbs
    refine W.skip ?_
    refine thenP_normal ?_
    refine W.seq ?_
    refine W.block ?_
    refine W.seqR ?_
    refine LS.vv rfl rfl (by decide) (Val.move rfl) ?_
    refine LS.vv rfl rfl (by decide) (Val.index1 Try.underlying45 elem22 rfl rfl (by omega) hr (uv_lt (by omega))) ?_
    refine LS.m rfl (Step.load rfl rfl (by decide) flat22 rfl (hr.below hB) (uv_at (by omega)) ?_)
    refine LS.vv rfl rfl (by decide) (Val.assign rfl) ?_
    refine LS.vv rfl rfl (by decide) (Val.assign rfl) ?_
    refine LS.nil ?_
    refine W.reg ?_
    refine LS.vv rfl rfl (by decide) (Val.move rfl) ?_
    refine LS.vv rfl rfl (by decide) (Val.move rfl) ?_
    refine LS.vv rfl rfl (by decide) (Val.move rfl) ?_
    refine LS.vv rfl rfl (by decide) (Val.andU32 rfl rfl (by omega) (by omega)) ?_
    refine LS.m rfl (Step.call body63 rfl rfl (by decide) rfl (CallsV.mono (ones32_any _ _ han) ?_))
    rintro _ w2 ⟨rfl, hb2⟩
    replace hB := hB.trans (hb2.mono hB.size)
    first | refine LS.vv rfl rfl (by decide) (Val.remN (j := 2) rfl rfl (by omega)) ?_ | refine LS.vv rfl rfl (by decide) (Val.rem rfl rfl (by omega) (by omega)) ?_ | refine LS.vv rfl rfl (by decide) (Val.remT rfl rfl (by omega)) ?_
    refine LS.vv rfl rfl (by decide) (Val.conv rfl Try.underlying3 Try.underlying22 (IntWalk.u32_in _ (by omega))) ?_
    refine LS.vv rfl rfl (by decide) (Val.move rfl) ?_
    refine LS.vv rfl rfl (by decide) (Val.shlU32 rfl rfl (by omega) (by omega)) ?_
    refine LS.vv rfl rfl (by decide) (Val.orU32 rfl rfl (by omega) (by omega)) ?_
    refine LS.vv rfl rfl (by decide) (Val.assign rfl) ?_
    refine LS.nil ?_
    refine inBlk_normal ?_
    refine thenP_normal ?_
    refine W.reg ?_
    first | refine LS.vv rfl rfl (by decide) (Val.addN (j := 1) rfl rfl (by omega)) ?_ | refine LS.vv rfl rfl (by decide) (Val.add64 rfl rfl (by omega)) ?_
    refine LS.vv rfl rfl (by decide) (Val.move rfl) ?_
    refine LS.nil ?_
    refine thenP_normal ?_
    refine ⟨k + 1, ?_, ?_, ⟨by omega, hB⟩, by omega⟩
    · exact Sub.cons rfl (Sub.cons rfl (Sub.nil _))
    · repeat (first | exact Sub.nil _ | refine Sub.cons rfl ?_)
  ·
    refine W.exit ?_
    refine thenP_exit ?_
    refine thenP_exit ?_
    refine inBlk_exit ?_
    refine thenP_normal ?_
    refine W.seqR ?_
    refine LS.vv rfl rfl (by decide) (Val.move rfl) ?_
    refine LS.vv rfl rfl (by decide) (Val.assign rfl) ?_
    refine LS.nil ?_
    refine W.ret ?_
    refine ret1 (by first | exact .inl rfl | exact .inr rfl) rfl ?_
    exact ⟨by rw [show k = cs.length by omega], hB⟩

theorem spanCheck_any (n : Int) (cs : List Nat) (p : Option Addr) (c : Nat) (w0 : World) (hr : Rd w0 p (uv cs)) (hl : cs.length ≤ 9223372036854775807) (hcs : ∀ x ∈ cs, x < 4294967296) :
    CallsV Try.prog 62 #[.int .i64 n, .slice p cs.length c] w0 (fun v w => ∃ e : Nat, v = .int .i64 (e : Int) ∧ (e = 0 ↔ OkR n cs) ∧ Below w0.heap.size w0 w) := by
  refine enter1 Try.func62 rfl Try.ntmps62 (by simp) rfl ?_
  have hB := Below.refl w0.heap.size w0
  simp only [argLoc, Nat.zero_add]
  refine W.seqR ?_
  refine LS.vv rfl rfl (by decide) (Val.cast (v := .int .i64 ((0 : Nat) : Int)) (Val.assign rfl) rfl) ?_
  refine LS.nil ?_
  refine W.seq ?_
  refine W.seqR ?_
  refine LS.vv rfl rfl (by decide) (Val.move rfl) ?_
  refine LS.vv rfl rfl (by decide) (Val.len Try.underlying45 rfl) ?_
  refine LS.vv rfl rfl (by decide) (Val.gtr rfl rfl) ?_
  refine LS.nil ?_
  first | refine W.condD rfl (fun hc1 => ?_) (fun hc1 => ?_) | refine W.cond rfl (fun hc1 => ?_) (fun hc1 => ?_)
  ·
    refine W.seqR ?_
    refine LS.vv rfl rfl (by decide) (Val.cast (v := .int .i64 ((1 : Nat) : Int)) (Val.assign rfl) rfl) ?_
    refine LS.nil ?_
    refine W.ret ?_
    refine thenP_ret ?_
    refine ret1 (by first | exact .inl rfl | exact .inr rfl) rfl ?_
    first | exact ⟨1, rfl, ⟨fun h => by omega, fun h => by (have := h.2; omega)⟩, hB⟩ | exact ⟨e, rfl, ⟨fun h => ⟨he.1 h, by omega⟩, fun h => he.2 h.1⟩, hB⟩
  ·
    refine W.skip ?_
    refine thenP_normal ?_
    refine W.seqR ?_
    refine LS.vv rfl rfl (by decide) (Val.move rfl) ?_
    refine LS.vv rfl rfl (by decide) (Val.move rfl) ?_
    refine LS.m rfl (Step.call body64 rfl rfl (by decide) rfl (CallsV.mono (ballCheck_any n cs _ _ _ (hr.below hB) (by omega) hcs) ?_))
    rintro _ w1 ⟨e, rfl, he, hb1⟩
    replace hB := hB.trans (hb1.mono hB.size)
    refine LS.vv rfl rfl (by decide) (Val.assign rfl) ?_
    refine LS.nil ?_
    refine W.ret ?_
    refine ret1 (by first | exact .inl rfl | exact .inr rfl) rfl ?_
    first | exact ⟨1, rfl, ⟨fun h => by omega, fun h => by (have := h.2; omega)⟩, hB⟩ | exact ⟨e, rfl, ⟨fun h => ⟨he.1 h, by omega⟩, fun h => he.2 h.1⟩, hB⟩

theorem rowsCheck_any (n : Int) (cs : List Nat) (p : Option Addr) (c : Nat) (w0 : World) (hr : Rd w0 p (uv cs)) (hl : cs.length ≤ 9223372036854775807) (hcs : ∀ x ∈ cs, x < 4294967296) :
    CallsV Try.prog 54 #[.int .i64 n, .slice p cs.length c] w0 (fun v w => ∃ e : Nat, v = .int .i64 (e : Int) ∧ (e = 0 ↔ OkR n cs) ∧ Below w0.heap.size w0 w) := by
  refine enter1 Try.func54 rfl Try.ntmps54 (by simp) rfl ?_
  have hB := Below.refl w0.heap.size w0
  simp only [argLoc, Nat.zero_add]
  refine W.seqR ?_
  refine LS.vv rfl rfl (by decide) (Val.cast (v := .int .i64 ((0 : Nat) : Int)) (Val.assign rfl) rfl) ?_
  refine LS.nil ?_
  refine W.seq ?_
  refine W.seqR ?_
  refine LS.vv rfl rfl (by decide) (Val.move rfl) ?_
  refine LS.vv rfl rfl (by decide) (Val.len Try.underlying45 rfl) ?_
  refine LS.vv rfl rfl (by decide) (Val.gtr rfl rfl) ?_
  refine LS.nil ?_
  first | refine W.condD rfl (fun hc1 => ?_) (fun hc1 => ?_) | refine W.cond rfl (fun hc1 => ?_) (fun hc1 => ?_)
  ·
    refine W.seqR ?_
    refine LS.vv rfl rfl (by decide) (Val.cast (v := .int .i64 ((1 : Nat) : Int)) (Val.assign rfl) rfl) ?_
    refine LS.nil ?_
    refine W.ret ?_
    refine thenP_ret ?_
    refine ret1 (by first | exact .inl rfl | exact .inr rfl) rfl ?_
    first | exact ⟨1, rfl, ⟨fun h => by omega, fun h => by (have := h.2; omega)⟩, hB⟩ | exact ⟨e, rfl, ⟨fun h => ⟨he.1 h, by omega⟩, fun h => he.2 h.1⟩, hB⟩
  ·
    refine W.skip ?_
    refine thenP_normal ?_
    refine W.seqR ?_
    refine LS.vv rfl rfl (by decide) (Val.move rfl) ?_
    refine LS.vv rfl rfl (by decide) (Val.move rfl) ?_
    refine LS.m rfl (Step.call body55 rfl rfl (by decide) rfl (CallsV.mono (bitsCheck_any n cs _ _ _ (hr.below hB) (by omega) hcs) ?_))
    rintro _ w1 ⟨e, rfl, he, hb1⟩
    replace hB := hB.trans (hb1.mono hB.size)
    refine LS.vv rfl rfl (by decide) (Val.assign rfl) ?_
    refine LS.nil ?_
    refine W.ret ?_
    refine ret1 (by first | exact .inl rfl | exact .inr rfl) rfl ?_
    first | exact ⟨1, rfl, ⟨fun h => by omega, fun h => by (have := h.2; omega)⟩, hB⟩ | exact ⟨e, rfl, ⟨fun h => ⟨he.1 h, by omega⟩, fun h => he.2 h.1⟩, hB⟩

theorem rowed_any (n : Int) (cs : List Nat) (p : Option Addr) (c : Nat) (w0 : World) (hr : Rd w0 p (uv cs)) (hl : cs.length ≤ 9223372036854775807) (hcs : ∀ x ∈ cs, x < 4294967296) :
    CallsV Try.prog 30 #[.int .i64 n, .slice p cs.length c] w0 (fun v w => ∃ b : Bool, v = .bool b ∧ (b = true ↔ OkR n cs) ∧ Below w0.heap.size w0 w) := by
  refine enter1 Try.func30 rfl Try.ntmps30 (by simp) rfl ?_
  have hB := Below.refl w0.heap.size w0
  simp only [argLoc, Nat.zero_add]
  refine W.seqR ?_
  refine LS.vv rfl rfl (by decide) (Val.assign rfl) ?_
  refine LS.nil ?_
  refine W.seqR ?_
  refine LS.vv rfl rfl (by decide) (Val.move rfl) ?_
  refine LS.vv rfl rfl (by decide) (Val.move rfl) ?_
  refine LS.m rfl (Step.call body54 rfl rfl (by decide) rfl (CallsV.mono (rowsCheck_any n cs _ _ _ (hr.below hB) hl hcs) ?_))
  rintro _ w1 ⟨e, rfl, he, hb1⟩
  replace hB := hB.trans (hb1.mono hB.size)
  refine LS.vv rfl rfl (by decide) (Val.eql rfl rfl) ?_
  refine LS.vv rfl rfl (by decide) (Val.assign rfl) ?_
  refine LS.nil ?_
  refine W.ret ?_
  refine ret1 (by first | exact .inl rfl | exact .inr rfl) rfl ?_
  refine ⟨_, rfl, ?_, hB⟩
  rw [← he, decide_eq_true_iff]
  omega

theorem lwrong_any (n : Int) (cs : List Nat) (p : Option Addr) (c : Nat) (x : Nat) (many : Int) (w0 : World) (hr : Rd w0 p (uv cs)) (hl : cs.length ≤ 9223372036854775807) (hcs : ∀ x ∈ cs, x < 4294967296) (hx : x < 4294967296) (hmany : OkR n cs → 0 ≤ many ∧ many ≤ 32) :
    CallsV Try.prog 51 #[.int .i64 n, .slice p cs.length c, .int .u32 (x : Int), .int .i64 many] w0 (fun v w => ∃ e : Nat, v = .int .i64 (e : Int) ∧ (e = 0 ↔ OkR n cs ∧ x < 2 ^ many.toNat) ∧ Below w0.heap.size w0 w) := by
  refine enter1 Try.func51 rfl Try.ntmps51 (by simp) rfl ?_
  have hB := Below.refl w0.heap.size w0
  simp only [argLoc, Nat.zero_add, Nat.reduceAdd]
  refine W.seqR ?_
  refine LS.vv rfl rfl (by decide) (Val.cast (v := .int .i64 ((0 : Nat) : Int)) (Val.assign rfl) rfl) ?_
  refine LS.nil ?_
  refine W.seq ?_
  refine W.seqR ?_
  refine LS.vv rfl rfl (by decide) (Val.move rfl) ?_
  refine LS.vv rfl rfl (by decide) (Val.move rfl) ?_
  refine LS.m rfl (Step.call body62 rfl rfl (by decide) rfl (CallsV.mono (spanCheck_any n cs _ _ _ (hr.below hB) hl hcs) ?_))
  rintro _ w1 ⟨e, rfl, he, hb1⟩
  replace hB := hB.trans (hb1.mono hB.size)
  refine LS.vv rfl rfl (by decide) (Val.assign rfl) ?_
  refine LS.nil ?_
  refine W.seqR ?_
  refine LS.vv rfl rfl (by decide) (Val.move rfl) ?_
  refine LS.vv rfl rfl (by decide) (Val.neq rfl rfl) ?_
  refine LS.nil ?_
  first | refine W.condD rfl (fun hc1 => ?_) (fun hc1 => ?_) | refine W.cond rfl (fun hc1 => ?_) (fun hc1 => ?_)
  ·
    refine W.seqR ?_
    refine LS.vv rfl rfl (by decide) (Val.move rfl) ?_
    refine LS.vv rfl rfl (by decide) (Val.assign rfl) ?_
    refine LS.nil ?_
    refine W.ret ?_
    refine thenP_ret ?_
    refine ret1 (by first | exact .inl rfl | exact .inr rfl) rfl ?_
    first | exact ⟨e, rfl, ⟨fun h => by omega, fun h => he.2 h.1⟩, hB⟩ | (refine ⟨4, rfl, ⟨fun h => by omega, fun h => ?_⟩, hB⟩; exfalso; have := h.2; rw [Int.toNat_natCast] at this; exact not_lt_of_shr ‹_› this) | exact ⟨0, rfl, ⟨fun _ => ⟨hok, lt_of_shr ‹_›⟩, fun _ => rfl⟩, hB⟩
  ·
    have hok := he.1 (by omega)
    have hmn := hmany hok
    have hmn1 := hmn.1
    have hmn2 := hmn.2
    obtain ⟨q, rfl⟩ := Int.eq_ofNat_of_zero_le hmn1
    refine W.skip ?_
    refine thenP_normal ?_
    refine W.seq ?_
    refine W.seqR ?_
    refine LS.vv rfl rfl (by decide) (Val.move rfl) ?_
    refine LS.vv rfl rfl (by decide) (Val.move rfl) ?_
    refine LS.vv rfl rfl (by decide) (Val.shr rfl rfl (by simp only [IntKind.bits]; omega)) ?_
    refine LS.vv rfl rfl (by decide) (Val.neq rfl rfl) ?_
    refine LS.nil ?_
    first | refine W.condD rfl (fun hc2 => ?_) (fun hc2 => ?_) | refine W.cond rfl (fun hc2 => ?_) (fun hc2 => ?_)
    ·
      refine W.seqR ?_
      refine LS.vv rfl rfl (by decide) (Val.cast (v := .int .i64 ((4 : Nat) : Int)) (Val.assign rfl) rfl) ?_
      refine LS.nil ?_
      refine W.ret ?_
      refine thenP_ret ?_
      refine ret1 (by first | exact .inl rfl | exact .inr rfl) rfl ?_
      first | exact ⟨e, rfl, ⟨fun h => by omega, fun h => he.2 h.1⟩, hB⟩ | (refine ⟨4, rfl, ⟨fun h => by omega, fun h => ?_⟩, hB⟩; exfalso; have := h.2; rw [Int.toNat_natCast] at this; exact not_lt_of_shr ‹_› this) | exact ⟨0, rfl, ⟨fun _ => ⟨hok, lt_of_shr ‹_›⟩, fun _ => rfl⟩, hB⟩
    ·
      refine W.skip ?_
      refine thenP_normal ?_
      refine W.seqR ?_
      refine LS.vv rfl rfl (by decide) (Val.cast (v := .int .i64 ((0 : Nat) : Int)) (Val.assign rfl) rfl) ?_
      refine LS.nil ?_
      refine W.ret ?_
      refine ret1 (by first | exact .inl rfl | exact .inr rfl) rfl ?_
      first | exact ⟨e, rfl, ⟨fun h => by omega, fun h => he.2 h.1⟩, hB⟩ | (refine ⟨4, rfl, ⟨fun h => by omega, fun h => ?_⟩, hB⟩; exfalso; have := h.2; rw [Int.toNat_natCast] at this; exact not_lt_of_shr ‹_› this) | exact ⟨0, rfl, ⟨fun _ => ⟨hok, lt_of_shr ‹_›⟩, fun _ => rfl⟩, hB⟩

theorem Mark_any (n : Int) (cs : List Nat) (p : Option Addr) (c : Nat) (x : Nat) (w0 : World) (hr : Rd w0 p (uv cs)) (hl : cs.length ≤ 9223372036854775807) (hcs : ∀ x ∈ cs, x < 4294967296) (hx : x < 4294967296) :
    CallsV Try.prog 32 #[.int .i64 n, .slice p cs.length c, .int .u32 (x : Int)] w0 (fun v w => ∃ m e : Nat, v = .tuple #[.int .u32 (m : Int), .int .i64 (e : Int)] ∧ (e = 0 ↔ OkR n cs ∧ x < 2 ^ n.toNat) ∧ (e = 0 → m = markTo cs x cs.length) ∧ (e ≠ 0 → m = 0) ∧ Below w0.heap.size w0 w) := by
  refine enter2 Try.func32 rfl Try.ntmps32 (by simp) rfl ?_
  have hB := Below.refl w0.heap.size w0
  simp only [argLoc, Nat.zero_add, Nat.reduceAdd]
  refine W.seqR ?_
  refine LS.vv rfl rfl (by decide) (Val.cast (v := .int .u32 ((0 : Nat) : Int)) (Val.assign rfl) rfl) ?_
  refine LS.vv rfl rfl (by decide) (Val.cast (v := .int .i64 ((0 : Nat) : Int)) (Val.assign rfl) rfl) ?_
  refine LS.nil ?_
  refine W.seq ?_
  refine W.seqR ?_
  refine LS.vv rfl rfl (by decide) (Val.move rfl) ?_
  refine LS.vv rfl rfl (by decide) (Val.move rfl) ?_
  refine LS.vv rfl rfl (by decide) (Val.move rfl) ?_
  refine LS.vv rfl rfl (by decide) (Val.move rfl) ?_
  refine LS.m rfl (Step.call body51 rfl rfl (by decide) rfl (CallsV.mono (lwrong_any n cs _ _ x n _ (hr.below hB) hl hcs hx (fun h => by (have h1 := h.1.1; have h2 := h.1.2.1; omega))) ?_))
  rintro _ w1 ⟨e, rfl, he, hb1⟩
  replace hB := hB.trans (hb1.mono hB.size)
  refine LS.vv rfl rfl (by decide) (Val.assign rfl) ?_
  refine LS.nil ?_
  refine W.seqR ?_
  refine LS.vv rfl rfl (by decide) (Val.move rfl) ?_
  refine LS.vv rfl rfl (by decide) (Val.neq rfl rfl) ?_
  refine LS.nil ?_
  first | refine W.condD rfl (fun hc1 => ?_) (fun hc1 => ?_) | refine W.cond rfl (fun hc1 => ?_) (fun hc1 => ?_)
  ·
    refine W.seqR ?_
    refine LS.vv rfl rfl (by decide) (Val.move rfl) ?_
    refine LS.vv rfl rfl (by decide) (Val.cast (v := .int .u32 ((0 : Nat) : Int)) (Val.assign rfl) rfl) ?_
    refine LS.vv rfl rfl (by decide) (Val.assign rfl) ?_
    refine LS.nil ?_
    refine W.ret ?_
    refine thenP_ret ?_
    refine ret2 (by first | exact .inl rfl | exact .inr rfl) rfl rfl ?_
    first | exact ⟨0, e, rfl, he, fun h => by omega, fun _ => rfl, hB⟩ | exact ⟨_, 0, rfl, ⟨fun _ => he.1 (by omega), fun _ => rfl⟩, fun _ => rfl, fun h => absurd rfl h, hB⟩
  ·
    refine W.skip ?_
    refine thenP_normal ?_
    refine W.seqR ?_
    refine LS.vv rfl rfl (by decide) (Val.move rfl) ?_
    refine LS.vv rfl rfl (by decide) (Val.move rfl) ?_
    refine LS.m rfl (Step.call body53 rfl rfl (by decide) rfl (CallsV.mono (mark_any cs _ _ x _ (hr.below hB) hl hcs hx ((he.1 (by omega)).1.2)) ?_))
    rintro _ w2 ⟨rfl, hb2⟩
    replace hB := hB.trans (hb2.mono hB.size)
    refine LS.vv rfl rfl (by decide) (Val.assign rfl) ?_
    refine LS.vv rfl rfl (by decide) (Val.cast (v := .int .i64 ((0 : Nat) : Int)) (Val.assign rfl) rfl) ?_
    refine LS.nil ?_
    refine W.ret ?_
    refine ret2 (by first | exact .inl rfl | exact .inr rfl) rfl rfl ?_
    first | exact ⟨0, e, rfl, he, fun h => by omega, fun _ => rfl, hB⟩ | exact ⟨_, 0, rfl, ⟨fun _ => he.1 (by omega), fun _ => rfl⟩, fun _ => rfl, fun h => absurd rfl h, hB⟩

end Go.Proofs.Ytbbmgcmibgdkiaa
