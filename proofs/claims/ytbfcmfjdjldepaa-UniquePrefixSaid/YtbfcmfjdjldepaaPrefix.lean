/-
  Codes: prefix.Check, Begins.
-/
import Derived.Test.YtbfcmfjdjldepaaPrefixPlain
import Derived.Test.YtbfcmfjdjldepaaVfacts2
import Derived.Test.YtbfcmfjdjldepaaVfin
import Derived.Test.YtbfcmfjdjldepaaVww
import Derived.Test.YtbfcmfjdjldepaaRefsB
namespace Go.Proofs.Ytbfcmfjdjldepaa
open Go Go.RowKit V
set_option linter.unusedVariables false
set_option linter.unusedSimpArgs false

def codeOf (C : List Wd) : Code := C.map (·.l)
theorem codeOf_len (C : List Wd) : (codeOf C).length = C.length := by simp [codeOf]
theorem codeOf_gw (C : List Wd) (k : Nat) : gw (codeOf C) k = (gW C k).l := by
  unfold gw gW codeOf
  rw [List.getD_eq_getElem?_getD, List.getD_eq_getElem?_getD, List.getElem?_map]
  cases C[k]? <;> rfl
theorem coded_iff (C : List Wd) : Coded (codeOf C) ↔ C.length ≤ 8 ∧ ∀ i, i < C.length → (gW C i).l.length ≤ 8 := by
  unfold Coded; rw [codeOf_len]
  refine and_congr_right fun _ => ⟨fun h i hi => ?_, fun h w hw => ?_⟩
  · rw [← codeOf_gw]; exact h _ (gw_mem (by rw [codeOf_len]; exact hi))
  · obtain ⟨i, hi, rfl⟩ := List.getElem_of_mem hw
    rw [← gw_lt hi, codeOf_gw]; exact h i (by rw [codeOf_len] at hi; exact hi)
theorem free_iff (C : List Wd) : Free (codeOf C) ↔ ∀ i j, i < C.length → j < C.length → i ≠ j → ¬ (gW C i).l <+: (gW C j).l := by
  unfold Free; rw [codeOf_len]
  refine ⟨fun h i j hi hj hne => ?_, fun h i j hi hj hne => ?_⟩
  · have := h i j hi hj hne; rwa [codeOf_gw, codeOf_gw] at this
  · rw [codeOf_gw, codeOf_gw]; exact h i j hi hj hne
theorem nobare_iff (C : List Wd) : NoBare (codeOf C) ↔ ∀ i, i < C.length → (gW C i).l.length ≠ 0 := by
  unfold NoBare; rw [codeOf_len]
  refine ⟨fun h i hi e => h i hi (by rw [codeOf_gw]; exact List.eq_nil_of_length_eq_zero e), fun h i hi e => h i hi (by rw [codeOf_gw] at e; rw [e]; rfl)⟩

theorem equal_any (xs ys : List Bool) (p q : Option Addr) (c d m n : Nat) (w0 : World) (hr1 : Rd w0 p (bv xs)) (hr2 : Rd w0 q (bv ys)) (hm : xs.length = m) (hn : ys.length = n) (hl1 : m ≤ 9223372036854775807) :
    CallsV Try.prog 41 #[.slice p m c, .slice q n d] w0 (fun v w => v = .bool (decide (xs = ys)) ∧ Below w0.heap.size w0 w) := by
  refine enter1 Try.func41 rfl Try.ntmps41 (by simp) rfl ?_
  have hB := Below.refl w0.heap.size w0
  simp only [argLoc, Nat.zero_add]
  have hM := Mem.nil w0 w0.heap.size
  subst hm
  subst hn
  refine W.seqR ?_
  refine LS.vv rfl rfl (by decide) (Val.assign rfl) ?_
  refine LS.nil ?_
  refine W.seq ?_
  refine W.seqR ?_
  refine LS.vv rfl rfl (by decide) (Val.move rfl) ?_
  refine LS.vv rfl rfl (by decide) (Val.len Try.underlying36 rfl) ?_
  refine LS.vv rfl rfl (by decide) (Val.move rfl) ?_
  refine LS.vv rfl rfl (by decide) (Val.len Try.underlying36 rfl) ?_
  refine LS.vv rfl rfl (by decide) (Val.neq rfl rfl) ?_
  refine LS.nil ?_
  first | refine W.condD rfl (fun hc1 => ?_) (fun hc1 => ?_) | refine W.cond rfl (fun hc1 => ?_) (fun hc1 => ?_)
  ·
    refine W.seqR ?_
    refine LS.vv rfl rfl (by decide) (Val.assign rfl) ?_
    refine LS.nil ?_
    refine W.ret ?_
    refine thenP_ret ?_
    refine ret1 (by first | exact .inl rfl | exact .inr rfl) rfl ?_
    refine ⟨congrArg Value.bool (decide_eq_false fun h => ?_).symm, hB⟩
    exact absurd (congrArg List.length h) (by omega)
  ·
    refine W.skip ?_
    refine thenP_normal ?_
    refine W.seq ?_
    refine W.seqR ?_
    refine LS.vv rfl rfl (by decide) (Val.move rfl) ?_
    refine LS.vv rfl rfl (by decide) (Val.len Try.underlying36 rfl) ?_
    refine LS.vv rfl rfl (by decide) (Val.cast (v := .int .i64 ((0 : Nat) : Int)) (Val.move rfl) rfl) ?_
    refine LS.nil ?_
    refine W.block ?_
    refine W.loop (α := Nat) (fun k => [(13, .int .i64 (k : Int))]) [(0, _), (1, _), (12, _)] (fun k w => ((k ≤ xs.length ∧ ∀ j, j < k → gb xs j = gb ys j)) ∧ Mem w w0.heap.size [] ∧ Below w0.heap.size w0 w) (fun k => xs.length - k) (0) (Sub.cons rfl (Sub.nil _)) (Sub.cons rfl (Sub.cons rfl (Sub.cons rfl (Sub.nil _)))) ?_ ?_
    · exact ⟨⟨Nat.zero_le _, by omega⟩, hM, hB⟩
    rintro k w1 ⟨⟨hk, hall⟩, hM, hB⟩
    try simp only at hM
    simp only [List.cons_append, List.nil_append]
    have hlen : xs.length = ys.length := by omega
    refine W.seqR ?_
    refine LS.vv rfl rfl (by decide) (Val.lss rfl rfl) ?_
    refine LS.nil ?_
    refine W.seq ?_
    first | refine W.condD rfl (fun hc2 => ?_) (fun hc2 => ?_) | refine W.cond rfl (fun hc2 => ?_) (fun hc2 => ?_)
    ·
      refine W.skip ?_
      refine thenP_normal ?_
      refine W.seq ?_
      refine W.block ?_
      refine W.seqR ?_
      refine LS.vv rfl rfl (by decide) (Val.move rfl) ?_
      refine LS.vv rfl rfl (by decide) (Val.assign rfl) ?_
      refine LS.nil ?_
      refine W.seqF 9 [(0, true), (1, true), (2, true), (3, true), (4, true), (5, true), (6, true), (7, true), (8, true)] mixed (by kernel_rfl) hB hM ?_
      replace hB := hB.drew
      replace hM := hM.drew
      refine DF.vv rfl rfl rfl (by decide) (Val.move rfl) ?_
      refine DF.vv rfl rfl rfl (by decide) (Val.move rfl) ?_
      refine DF.vv rfl rfl rfl (by decide) (Val.index1 Try.underlying36 elem4 rfl rfl (by omega) ((hr1.below hB)) (bv_lt (by omega))) ?_
      refine DF.vv rfl rfl rfl (by decide) (Val.load flat4 rfl (fun _ h => (hr1.below h.1)) (bv_at (by omega))) ?_
      refine DF.vv rfl rfl rfl (by decide) (Val.move rfl) ?_
      refine DF.vv rfl rfl rfl (by decide) (Val.move rfl) ?_
      refine DF.vv rfl rfl rfl (by decide) (Val.index1 Try.underlying36 elem4 rfl rfl (by omega) ((hr2.below hB)) (bv_lt (by omega))) ?_
      refine DF.vv rfl rfl rfl (by decide) (Val.load flat4 rfl (fun _ h => (hr2.below h.1)) (bv_at (by omega))) ?_
      refine DF.vv rfl rfl rfl (by decide) (Val.neqB Try.underlying4 rfl rfl) ?_
      refine DF.nil ?_
      first | refine W.condD rfl (fun hc3 => ?_) (fun hc3 => ?_) | refine W.cond rfl (fun hc3 => ?_) (fun hc3 => ?_)
      ·
        refine W.seqR ?_
        refine LS.vv rfl rfl (by decide) (Val.assign rfl) ?_
        refine LS.nil ?_
        refine W.ret ?_
        refine inBlk_ret ?_
        refine thenP_ret ?_
        refine thenP_ret ?_
        refine inBlk_ret ?_
        refine thenP_ret ?_
        refine ret1 (by first | exact .inl rfl | exact .inr rfl) rfl ?_
        refine ⟨congrArg Value.bool (decide_eq_false fun h => ?_).symm, hB⟩
        simp_all
      ·
        refine W.skip ?_
        refine inBlk_normal ?_
        refine thenP_normal ?_
        refine W.reg ?_
        first | refine LS.vv rfl rfl (by decide) (Val.addN (j := 1) rfl rfl (by omega)) ?_ | refine LS.vv rfl rfl (by decide) (Val.add64 rfl rfl (by omega)) ?_
        refine LS.vv rfl rfl (by decide) (Val.move rfl) ?_
        refine LS.nil ?_
        refine thenP_normal ?_
        have hkk : gb xs k = gb ys k := by first | omega | simp_all
        refine ⟨k + 1, ?_, ?_, ⟨⟨by omega, ?_⟩, hM, hB⟩, by omega⟩
        · exact (Sub.cons rfl (Sub.nil _))
        · repeat (first | exact Sub.nil _ | refine Sub.cons rfl ?_)
        · intro j hj
          by_cases e : j = k
          · subst e; exact hkk
          · exact hall j (by omega)
    ·
      refine W.exit ?_
      refine thenP_exit ?_
      refine thenP_exit ?_
      refine inBlk_exit ?_
      refine thenP_normal ?_
      refine W.seqR ?_
      refine LS.vv rfl rfl (by decide) (Val.assign rfl) ?_
      refine LS.nil ?_
      refine W.ret ?_
      refine ret1 (by first | exact .inl rfl | exact .inr rfl) rfl ?_
      refine ⟨congrArg Value.bool (decide_eq_true (gb_eq_of hlen fun j hj => hall j (by omega))).symm, hB⟩

theorem begins_any (a b : List Bool) (p q : Option Addr) (c d m n : Nat) (w0 : World) (hr1 : Rd w0 p (bv a)) (hr2 : Rd w0 q (bv b)) (hm : a.length = m) (hn : b.length = n) (hd : n ≤ d) (hl1 : m ≤ 9223372036854775807) :
    CallsV Try.prog 36 #[.slice p m c, .slice q n d] w0 (fun v w => v = .bool (begins a b) ∧ Below w0.heap.size w0 w) := by
  refine enter1 Try.func36 rfl Try.ntmps36 (by simp) rfl ?_
  have hB := Below.refl w0.heap.size w0
  simp only [argLoc, Nat.zero_add]
  have hM := Mem.nil w0 w0.heap.size
  subst hm
  subst hn
  refine W.seqR ?_
  refine LS.vv rfl rfl (by decide) (Val.assign rfl) ?_
  refine LS.nil ?_
  refine W.seqR ?_
  refine LS.vv rfl rfl (by decide) (Val.move rfl) ?_
  refine LS.vv rfl rfl (by decide) (Val.len Try.underlying36 rfl) ?_
  refine LS.vv rfl rfl (by decide) (Val.move rfl) ?_
  refine LS.vv rfl rfl (by decide) (Val.len Try.underlying36 rfl) ?_
  refine LS.vv rfl rfl (by decide) (Val.leq rfl rfl) ?_
  refine LS.vv rfl rfl (by decide) (Val.move rfl) ?_
  refine LS.split 5 rfl (fun hg1 => ?_) (fun hg1 => ?_)
  ·
    first | (have hg1p := of_decide_eq_true hg1) | skip
    refine LS.vg rfl rfl rfl hg1 (by decide) (Val.move rfl) ?_
    refine LS.vg rfl rfl rfl hg1 (by decide) (Val.move rfl) ?_
    refine LS.vg rfl rfl rfl hg1 (by decide) (Val.move rfl) ?_
    refine LS.vg rfl rfl rfl hg1 (by decide) (Val.len Try.underlying36 rfl) ?_
    refine LS.vg rfl rfl rfl hg1 (by decide) (Val.sliceTo Try.underlying36 elem4 rfl rfl (by omega)) ?_
    refine LS.mg rfl rfl hg1 (Step.call body41 rfl rfl (by decide) rfl (CallsV.mono (equal_any a (b.take a.length) _ _ _ _ _ _ _ (hr1.below hB) ((hr2.below hB).take_bv) rfl (by rw [List.length_take]; omega) hl1) ?_))
    rintro _ w1 ⟨rfl, hb1⟩
    replace hM := hM.below hb1
    replace hB := hB.trans (hb1.mono hB.size)
    refine LS.vv rfl rfl (by decide) (Val.pickT rfl hg1 rfl) ?_
    refine LS.vv rfl rfl (by decide) (Val.assign rfl) ?_
    refine LS.nil ?_
    refine W.ret ?_
    refine ret1 (by first | exact .inl rfl | exact .inr rfl) rfl ?_
    refine ⟨congrArg Value.bool ?_, hB⟩; unfold begins; first | (simp only [show (a.length ≤ b.length) = True from eq_true (by omega), decide_true, Bool.true_and]; done) | (simp only [show (a.length ≤ b.length) = False from eq_false (by omega), decide_false, Bool.false_and]; done)
  ·
    first | (have hg1p := of_decide_eq_false hg1) | skip
    refine LS.s rfl rfl rfl hg1 (by decide) ?_
    refine LS.s rfl rfl rfl hg1 (by decide) ?_
    refine LS.s rfl rfl rfl hg1 (by decide) ?_
    refine LS.s rfl rfl rfl hg1 (by decide) ?_
    refine LS.s rfl rfl rfl hg1 (by decide) ?_
    refine LS.s rfl rfl rfl hg1 (by decide) ?_
    refine LS.vv rfl rfl (by decide) (Val.pickF rfl hg1 rfl) ?_
    refine LS.vv rfl rfl (by decide) (Val.assign rfl) ?_
    refine LS.nil ?_
    refine W.ret ?_
    refine ret1 (by first | exact .inl rfl | exact .inr rfl) rfl ?_
    refine ⟨congrArg Value.bool ?_, hB⟩; unfold begins; first | (simp only [show (a.length ≤ b.length) = True from eq_true (by omega), decide_true, Bool.true_and]; done) | (simp only [show (a.length ≤ b.length) = False from eq_false (by omega), decide_false, Bool.false_and]; done)

theorem rbegins_any (a b : List Bool) (p q : Option Addr) (c d m n : Nat) (w0 : World) (hr1 : Rd w0 p (bv a)) (hr2 : Rd w0 q (bv b)) (hm : a.length = m) (hn : b.length = n) (hd : n ≤ d) (hl1 : m ≤ 9223372036854775807) :
    CallsV Try.prog 27 #[.slice p m c, .slice q n d] w0 (fun v w => v = .bool (begins a b) ∧ Below w0.heap.size w0 w) := by
  refine enter1 Try.func27 rfl Try.ntmps27 (by simp) rfl ?_
  have hB := Below.refl w0.heap.size w0
  simp only [argLoc, Nat.zero_add]
  have hM := Mem.nil w0 w0.heap.size
  subst hm
  subst hn
  refine W.seqR ?_
  refine LS.vv rfl rfl (by decide) (Val.assign rfl) ?_
  refine LS.nil ?_
  refine W.seqR ?_
  refine LS.vv rfl rfl (by decide) (Val.move rfl) ?_
  refine LS.vv rfl rfl (by decide) (Val.len Try.underlying36 rfl) ?_
  refine LS.vv rfl rfl (by decide) (Val.move rfl) ?_
  refine LS.vv rfl rfl (by decide) (Val.len Try.underlying36 rfl) ?_
  refine LS.vv rfl rfl (by decide) (Val.leq rfl rfl) ?_
  refine LS.vv rfl rfl (by decide) (Val.move rfl) ?_
  refine LS.split 5 rfl (fun hg1 => ?_) (fun hg1 => ?_)
  ·
    first | (have hg1p := of_decide_eq_true hg1) | skip
    refine LS.vg rfl rfl rfl hg1 (by decide) (Val.move rfl) ?_
    refine LS.vg rfl rfl rfl hg1 (by decide) (Val.move rfl) ?_
    refine LS.vg rfl rfl rfl hg1 (by decide) (Val.move rfl) ?_
    refine LS.vg rfl rfl rfl hg1 (by decide) (Val.len Try.underlying36 rfl) ?_
    refine LS.vg rfl rfl rfl hg1 (by decide) (Val.sliceTo Try.underlying36 elem4 rfl rfl (by omega)) ?_
    refine LS.mg rfl rfl hg1 (Step.call body21 rfl rfl (by decide) rfl (CallsV.mono (boolsEqN a (b.take a.length) _ _ _ _ _ _ _ (hr1.below hB) ((hr2.below hB).take_bv) rfl (by rw [List.length_take]; omega) hl1) ?_))
    rintro _ w1 ⟨rfl, hb1⟩
    replace hM := hM.below hb1
    replace hB := hB.trans (hb1.mono hB.size)
    refine LS.vv rfl rfl (by decide) (Val.pickT rfl hg1 rfl) ?_
    refine LS.vv rfl rfl (by decide) (Val.assign rfl) ?_
    refine LS.nil ?_
    refine W.ret ?_
    refine ret1 (by first | exact .inl rfl | exact .inr rfl) rfl ?_
    refine ⟨congrArg Value.bool ?_, hB⟩; unfold begins; first | (simp only [show (a.length ≤ b.length) = True from eq_true (by omega), decide_true, Bool.true_and]; done) | (simp only [show (a.length ≤ b.length) = False from eq_false (by omega), decide_false, Bool.false_and]; done)
  ·
    first | (have hg1p := of_decide_eq_false hg1) | skip
    refine LS.s rfl rfl rfl hg1 (by decide) ?_
    refine LS.s rfl rfl rfl hg1 (by decide) ?_
    refine LS.s rfl rfl rfl hg1 (by decide) ?_
    refine LS.s rfl rfl rfl hg1 (by decide) ?_
    refine LS.s rfl rfl rfl hg1 (by decide) ?_
    refine LS.s rfl rfl rfl hg1 (by decide) ?_
    refine LS.vv rfl rfl (by decide) (Val.pickF rfl hg1 rfl) ?_
    refine LS.vv rfl rfl (by decide) (Val.assign rfl) ?_
    refine LS.nil ?_
    refine W.ret ?_
    refine ret1 (by first | exact .inl rfl | exact .inr rfl) rfl ?_
    refine ⟨congrArg Value.bool ?_, hB⟩; unfold begins; first | (simp only [show (a.length ≤ b.length) = True from eq_true (by omega), decide_true, Bool.true_and]; done) | (simp only [show (a.length ≤ b.length) = False from eq_false (by omega), decide_false, Bool.false_and]; done)

theorem indexFunc_wrd (vals : List Value) (pr : Nat → Bool) (f : FuncId) (cap : Array Value) (p : Option Addr) (c : Nat) (w0 : World) (hbody : Body Try.prog f) (hr : Rd w0 p vals) (hb : vals.length ≤ 100000)
    (hf : ∀ i (h : i < vals.length) w, Below w0.heap.size w0 w → CallsV Try.prog f (#[vals[i]] ++ cap) w (fun v w2 => v = .bool (pr i) ∧ Below w.heap.size w w2)) :
    CallsV Try.prog 34 #[.slice p vals.length c, .func (.func f) #[] cap] w0 (fun v w => v = .int .i64 (fI pr vals.length) ∧ Below w0.heap.size w0 w) := by
  refine enter1 Try.func34 rfl Try.ntmps34 (by simp) rfl ?_
  have hB := Below.refl w0.heap.size w0
  simp only [argLoc, Nat.zero_add]
  refine W.seqR ?_
  refine LS.vv rfl rfl (by decide) (Val.cast (v := .int .i64 ((0 : Nat) : Int)) (Val.assign rfl) rfl) ?_
  refine LS.nil ?_
  refine W.seq ?_
  refine W.seqR ?_
  refine LS.vv rfl rfl (by decide) (Val.move rfl) ?_
  refine LS.vv rfl rfl (by decide) (Val.len Try.underlying22 rfl) ?_
  refine LS.vv rfl rfl (by decide) (Val.cast (v := .int .i64 ((0 : Nat) : Int)) (Val.move rfl) rfl) ?_
  refine LS.nil ?_
  refine W.block ?_
  refine W.loop (α := Nat) (fun k => [(8, .int .i64 (k : Int))]) [(0, _), (1, _), (7, _)] (fun k w => (k ≤ vals.length ∧ ∀ j, j < k → pr j = false) ∧ Below w0.heap.size w0 w) (fun k => vals.length - k) (0) (Sub.cons rfl (Sub.nil _)) (Sub.cons rfl (Sub.cons rfl (Sub.cons rfl (Sub.nil _)))) ?_ ?_
  · exact ⟨⟨Nat.zero_le _, by omega⟩, hB⟩
  rintro k w1 ⟨⟨hk, hall⟩, hB⟩
  simp only [List.cons_append, List.nil_append]
  refine W.seqR ?_
  refine LS.vv rfl rfl (by decide) (Val.lss rfl rfl) ?_
  refine LS.nil ?_
  refine W.seq ?_
  first | refine W.condD rfl (fun hc1 => ?_) (fun hc1 => ?_) | refine W.cond rfl (fun hc1 => ?_) (fun hc1 => ?_)
  ·
    refine W.skip ?_
    refine thenP_normal ?_
    refine W.seq ?_
    refine W.block ?_
    refine W.seqR ?_
    refine LS.vv rfl rfl (by decide) (Val.move rfl) ?_
    refine LS.vv rfl rfl (by decide) (Val.assign rfl) ?_
    refine LS.nil ?_
    refine W.seqR ?_
    refine LS.vv rfl rfl (by decide) (Val.move rfl) ?_
    refine LS.vv rfl rfl (by decide) (Val.move rfl) ?_
    refine LS.vv rfl rfl (by decide) (Val.move rfl) ?_
    have hkl : k < vals.length := by omega
    refine LS.vv rfl rfl (by decide) (Val.index1 Try.underlying22 elem36 rfl rfl (by omega) hr (id (by omega))) ?_
    refine LS.m rfl (Step.load rfl rfl (by decide) flat36 rfl (hr.below hB) (List.getElem?_eq_getElem hkl) ?_)
    refine LS.m rfl (Step.callV hbody rfl rfl rfl (by decide) rfl (CallsV.mono (hf k hkl _ hB) ?_))
    rintro _ w2 ⟨rfl, hb2⟩
    replace hB := hB.trans (hb2.mono hB.size)
    refine LS.nil ?_
    first | refine W.condD rfl (fun hc2 => ?_) (fun hc2 => ?_) | refine W.cond rfl (fun hc2 => ?_) (fun hc2 => ?_)
    ·
      refine W.seqR ?_
      refine LS.vv rfl rfl (by decide) (Val.move rfl) ?_
      refine LS.vv rfl rfl (by decide) (Val.assign rfl) ?_
      refine LS.nil ?_
      refine W.ret ?_
      refine inBlk_ret ?_
      refine thenP_ret ?_
      refine thenP_ret ?_
      refine inBlk_ret ?_
      refine thenP_ret ?_
      refine ret1 (by first | exact .inl rfl | exact .inr rfl) rfl ?_
      exact ⟨by rw [fI_some (show k < vals.length by omega) (by assumption) hall], hB⟩
    ·
      refine W.skip ?_
      refine inBlk_normal ?_
      refine thenP_normal ?_
      refine W.reg ?_
      first | refine LS.vv rfl rfl (by decide) (Val.addN (j := 1) rfl rfl (by omega)) ?_ | refine LS.vv rfl rfl (by decide) (Val.add64 rfl rfl (by omega)) ?_
      refine LS.vv rfl rfl (by decide) (Val.move rfl) ?_
      refine LS.nil ?_
      refine thenP_normal ?_
      refine ⟨k + 1, ?_, ?_, ⟨⟨by omega, ?_⟩, hB⟩, by omega⟩
      · exact Sub.cons rfl (Sub.nil _)
      · repeat (first | exact Sub.nil _ | refine Sub.cons rfl ?_)
      · intro j hj
        by_cases e : j = k
        · subst e; assumption
        · exact hall j (by omega)
  ·
    refine W.exit ?_
    refine thenP_exit ?_
    refine thenP_exit ?_
    refine inBlk_exit ?_
    refine thenP_normal ?_
    refine W.seqR ?_
    refine LS.vv rfl rfl (by decide) (Val.assign rfl) ?_
    refine LS.nil ?_
    refine W.ret ?_
    refine ret1 (by first | exact .inl rfl | exact .inr rfl) rfl ?_
    exact ⟨by rw [fI_none (fun j hj => hall j (by omega))], hB⟩

theorem containsFunc_wrd (vals : List Value) (pr : Nat → Bool) (f : FuncId) (cap : Array Value) (p : Option Addr) (c : Nat) (w0 : World) (hbody : Body Try.prog f) (hr : Rd w0 p vals) (hb : vals.length ≤ 100000)
    (hf : ∀ i (h : i < vals.length) w, Below w0.heap.size w0 w → CallsV Try.prog f (#[vals[i]] ++ cap) w (fun v w2 => v = .bool (pr i) ∧ Below w.heap.size w w2)) :
    CallsV Try.prog 32 #[.slice p vals.length c, .func (.func f) #[] cap] w0 (fun v w => v = .bool ((List.range vals.length).any pr) ∧ Below w0.heap.size w0 w) := by
  refine enter1 Try.func32 rfl Try.ntmps32 (by simp) rfl ?_
  have hB := Below.refl w0.heap.size w0
  simp only [argLoc, Nat.zero_add]
  refine W.seqR ?_
  refine LS.vv rfl rfl (by decide) (Val.assign rfl) ?_
  refine LS.nil ?_
  refine W.seqR ?_
  refine LS.vv rfl rfl (by decide) (Val.move rfl) ?_
  refine LS.vv rfl rfl (by decide) (Val.move rfl) ?_
  refine LS.m rfl (Step.call body34 rfl rfl (by decide) rfl (CallsV.mono (indexFunc_wrd vals pr f cap _ _ _ hbody (hr.below hB) hb (fun i h w hw => hf i h w (hB.trans (hw.mono hB.size)))) ?_))
  rintro _ w1 ⟨rfl, hb1⟩
  replace hB := hB.trans (hb1.mono hB.size)
  refine LS.vv rfl rfl (by decide) (Val.cast (Val.geq (j := 0) rfl rfl) (congrArg Value.bool (fI_any pr vals.length))) ?_
  refine LS.vv rfl rfl (by decide) (Val.assign rfl) ?_
  refine LS.nil ?_
  refine W.ret ?_
  refine ret1 (by first | exact .inl rfl | exact .inr rfl) rfl ?_
  exact ⟨rfl, hB⟩

theorem containsC (C : List Wd) (pr : Nat → Bool) (f : FuncId) (cap : Array Value) (p : Option Addr) (c m : Nat) (w0 : World) (hbody : Body Try.prog f) (hr : Rd w0 p (wv C)) (hm : C.length = m) (hb : m ≤ 100000)
    (hf : ∀ i, i < m → ∀ w, Below w0.heap.size w0 w → CallsV Try.prog f (#[.slice (gW C i).p (gW C i).l.length (gW C i).c] ++ cap) w (fun v w2 => v = .bool (pr i) ∧ Below w.heap.size w w2)) :
    CallsV Try.prog 32 #[.slice p m c, .func (.func f) #[] cap] w0 (fun v w => v = .bool ((List.range m).any pr) ∧ Below w0.heap.size w0 w) := by
  subst hm
  have hwl : (wv C).length = C.length := by simp [wv]
  have := containsFunc_wrd (wv C) pr f cap p c w0 hbody hr (by omega) (fun i h w hw => by
    have hi : i < C.length := by omega
    rw [show (wv C)[i] = .slice (gW C i).p (gW C i).l.length (gW C i).c from by simp [wv, gW, hi]]
    exact hf i hi w hw)
  rw [hwl] at this
  exact this

theorem indexC (C : List Wd) (pr : Nat → Bool) (f : FuncId) (cap : Array Value) (p : Option Addr) (c m : Nat) (w0 : World) (hbody : Body Try.prog f) (hr : Rd w0 p (wv C)) (hm : C.length = m) (hb : m ≤ 100000)
    (hf : ∀ i, i < m → ∀ w, Below w0.heap.size w0 w → CallsV Try.prog f (#[.slice (gW C i).p (gW C i).l.length (gW C i).c] ++ cap) w (fun v w2 => v = .bool (pr i) ∧ Below w.heap.size w w2)) :
    CallsV Try.prog 34 #[.slice p m c, .func (.func f) #[] cap] w0 (fun v w => v = .int .i64 (fI pr m) ∧ Below w0.heap.size w0 w) := by
  subst hm
  have hwl : (wv C).length = C.length := by simp [wv]
  have := indexFunc_wrd (wv C) pr f cap p c w0 hbody hr (by omega) (fun i h w hw => by
    have hi : i < C.length := by omega
    rw [show (wv C)[i] = .slice (gW C i).p (gW C i).l.length (gW C i).c from by simp [wv, gW, hi]]
    exact hf i hi w hw)
  rw [hwl] at this
  exact this

theorem Check1_any (p : Option Addr) (c m : Nat) (w0 : World) :
    CallsV Try.prog 38 #[.slice p m c] w0 (fun v w => v = .bool (decide (8 < m)) ∧ Below w0.heap.size w0 w) := by
  refine enter1 Try.func38 rfl Try.ntmps38 (by simp) rfl ?_
  have hB := Below.refl w0.heap.size w0
  simp only [argLoc]
  refine W.seqR ?_
  refine LS.vv rfl rfl (by decide) (Val.assign rfl) ?_
  refine LS.nil ?_
  refine W.seqR ?_
  refine LS.vv rfl rfl (by decide) (Val.move rfl) ?_
  refine LS.vv rfl rfl (by decide) (Val.len Try.underlying36 rfl) ?_
  refine LS.vv rfl rfl (by decide) (Val.gtr rfl rfl) ?_
  refine LS.vv rfl rfl (by decide) (Val.assign rfl) ?_
  refine LS.nil ?_
  refine W.ret ?_
  refine ret1 (by first | exact .inl rfl | exact .inr rfl) rfl ?_
  refine ⟨congrArg Value.bool ?_, hB⟩; rw [decide_eq_decide]; omega

theorem Read1_any (p : Option Addr) (c m : Nat) (w0 : World) :
    CallsV Try.prog 33 #[.slice p m c] w0 (fun v w => v = .bool (decide (m = 0)) ∧ Below w0.heap.size w0 w) := by
  refine enter1 Try.func33 rfl Try.ntmps33 (by simp) rfl ?_
  have hB := Below.refl w0.heap.size w0
  simp only [argLoc]
  refine W.seqR ?_
  refine LS.vv rfl rfl (by decide) (Val.assign rfl) ?_
  refine LS.nil ?_
  refine W.seqR ?_
  refine LS.vv rfl rfl (by decide) (Val.move rfl) ?_
  refine LS.vv rfl rfl (by decide) (Val.len Try.underlying36 rfl) ?_
  refine LS.vv rfl rfl (by decide) (Val.eql rfl rfl) ?_
  refine LS.vv rfl rfl (by decide) (Val.assign rfl) ?_
  refine LS.nil ?_
  refine W.ret ?_
  refine ret1 (by first | exact .inl rfl | exact .inr rfl) rfl ?_
  refine ⟨congrArg Value.bool ?_, hB⟩; rw [decide_eq_decide]; omega

theorem check_any (C : List Wd) (p : Option Addr) (c m : Nat) (w0 : World) (hr : RdW w0 p C) (hm : C.length = m) :
    CallsV Try.prog 24 #[.slice p m c] w0 (fun v w => ∃ e : Nat, v = .int .i64 (e : Int) ∧ (e = 0 ↔ Coded (codeOf C)) ∧ Below w0.heap.size w0 w) := by
  refine enter1 Try.func24 rfl Try.ntmps24 (by simp) rfl ?_
  have hB := Below.refl w0.heap.size w0
  simp only [argLoc]
  have hM := Mem.nil w0 w0.heap.size
  subst hm
  have hh := hr.head
  rw [coded_iff]
  refine W.seqR ?_
  refine LS.vv rfl rfl (by decide) (Val.cast (v := .int .i64 ((0 : Nat) : Int)) (Val.assign rfl) rfl) ?_
  refine LS.nil ?_
  refine W.seq ?_
  refine W.seqR ?_
  refine LS.vv rfl rfl (by decide) (Val.move rfl) ?_
  refine LS.vv rfl rfl (by decide) (Val.len Try.underlying22 rfl) ?_
  refine LS.vv rfl rfl (by decide) (Val.gtr rfl rfl) ?_
  refine LS.vv rfl rfl (by decide) (Val.move rfl) ?_
  refine LS.split 3 rfl (fun hg1 => ?_) (fun hg1 => ?_)
  ·
    first | (have hg1p := of_decide_eq_true hg1) | skip
    refine LS.s rfl rfl rfl hg1 (by decide) ?_
    refine LS.s rfl rfl rfl hg1 (by decide) ?_
    refine LS.vv rfl rfl (by decide) (Val.pickT rfl hg1 rfl) ?_
    refine LS.nil ?_
    refine W.condT rfl ?_
    refine W.seqR ?_
    refine LS.vv rfl rfl (by decide) (Val.cast (v := .int .i64 ((1 : Nat) : Int)) (Val.assign rfl) rfl) ?_
    refine LS.nil ?_
    refine W.ret ?_
    refine thenP_ret ?_
    refine ret1 (by first | exact .inl rfl | exact .inr rfl) rfl ?_
    have hany : ∀ i, i < C.length → (List.range C.length).any (fun i => decide (8 < (gW C i).l.length)) = false → (gW C i).l.length ≤ 8 := fun i hi h => by { have := List.any_eq_false.1 h i (List.mem_range.2 hi); simp at this; exact this }
    have hany2 : (List.range C.length).any (fun i => decide (8 < (gW C i).l.length)) = true → ¬ ∀ i, i < C.length → (gW C i).l.length ≤ 8 := fun h hall => by { obtain ⟨i, hi, hi2⟩ := List.any_eq_true.1 h; rw [List.mem_range] at hi; have := hall i hi; simp at hi2; omega }
    first | exact ⟨1, rfl, ⟨fun h => absurd h (by decide), fun h => by exfalso; first | omega | exact hany2 (by assumption) h.2⟩, hB⟩ | exact ⟨0, rfl, ⟨fun _ => ⟨by omega, fun i hi => hany i hi (by assumption)⟩, fun _ => rfl⟩, hB⟩
  ·
    first | (have hg1p := of_decide_eq_false hg1) | skip
    refine LS.vg rfl rfl rfl hg1 (by decide) (Val.move rfl) ?_
    refine LS.mg rfl rfl hg1 (Step.call body32 rfl rfl (by decide) rfl (CallsV.mono (containsC C (fun i => decide (8 < (gW C i).l.length)) 38 #[] p c _ _ body38 (hh.below hB) rfl (by omega) (fun i hi w hw => Check1_any _ _ _ w)) ?_))
    rintro _ w1 ⟨rfl, hb1⟩
    replace hM := hM.below hb1
    replace hB := hB.trans (hb1.mono hB.size)
    refine LS.vv rfl rfl (by decide) (Val.pickF rfl hg1 rfl) ?_
    refine LS.nil ?_
    first | refine W.condD rfl (fun hc2 => ?_) (fun hc2 => ?_) | refine W.cond rfl (fun hc2 => ?_) (fun hc2 => ?_)
    ·
      refine W.seqR ?_
      refine LS.vv rfl rfl (by decide) (Val.cast (v := .int .i64 ((1 : Nat) : Int)) (Val.assign rfl) rfl) ?_
      refine LS.nil ?_
      refine W.ret ?_
      refine thenP_ret ?_
      refine ret1 (by first | exact .inl rfl | exact .inr rfl) rfl ?_
      have hany : ∀ i, i < C.length → (List.range C.length).any (fun i => decide (8 < (gW C i).l.length)) = false → (gW C i).l.length ≤ 8 := fun i hi h => by { have := List.any_eq_false.1 h i (List.mem_range.2 hi); simp at this; exact this }
      have hany2 : (List.range C.length).any (fun i => decide (8 < (gW C i).l.length)) = true → ¬ ∀ i, i < C.length → (gW C i).l.length ≤ 8 := fun h hall => by { obtain ⟨i, hi, hi2⟩ := List.any_eq_true.1 h; rw [List.mem_range] at hi; have := hall i hi; simp at hi2; omega }
      first | exact ⟨1, rfl, ⟨fun h => absurd h (by decide), fun h => by exfalso; first | omega | exact hany2 (by assumption) h.2⟩, hB⟩ | exact ⟨0, rfl, ⟨fun _ => ⟨by omega, fun i hi => hany i hi (by assumption)⟩, fun _ => rfl⟩, hB⟩
    ·
      refine W.skip ?_
      refine thenP_normal ?_
      refine W.seqR ?_
      refine LS.vv rfl rfl (by decide) (Val.cast (v := .int .i64 ((0 : Nat) : Int)) (Val.assign rfl) rfl) ?_
      refine LS.nil ?_
      refine W.ret ?_
      refine ret1 (by first | exact .inl rfl | exact .inr rfl) rfl ?_
      have hany : ∀ i, i < C.length → (List.range C.length).any (fun i => decide (8 < (gW C i).l.length)) = false → (gW C i).l.length ≤ 8 := fun i hi h => by { have := List.any_eq_false.1 h i (List.mem_range.2 hi); simp at this; exact this }
      have hany2 : (List.range C.length).any (fun i => decide (8 < (gW C i).l.length)) = true → ¬ ∀ i, i < C.length → (gW C i).l.length ≤ 8 := fun h hall => by { obtain ⟨i, hi, hi2⟩ := List.any_eq_true.1 h; rw [List.mem_range] at hi; have := hall i hi; simp at hi2; omega }
      first | exact ⟨1, rfl, ⟨fun h => absurd h (by decide), fun h => by exfalso; first | omega | exact hany2 (by assumption) h.2⟩, hB⟩ | exact ⟨0, rfl, ⟨fun _ => ⟨by omega, fun i hi => hany i hi (by assumption)⟩, fun _ => rfl⟩, hB⟩

end Go.Proofs.Ytbfcmfjdjldepaa
