/-
  The statement AlphaRises.
-/
import Derived.Test.YtohflgcbpmoinaaAlphaR
import Derived.Test.YtohflgcbpmoinaaAlphaL
namespace Go.Proofs.Ytohflgcbpmoinaa
open Go Go.RowKit V
set_option linter.unusedVariables false
set_option linter.unusedSimpArgs false

theorem intsEq_any (xs ys : List Int) (p q : Option Addr) (c d : Nat) (w0 : World) (hr1 : Rd w0 p (iv xs)) (hr2 : Rd w0 q (iv ys)) (hl1 : xs.length ≤ 9223372036854775807) :
    CallsV Try.prog 15 #[.slice p xs.length c, .slice q ys.length d] w0 (fun v w => v = .bool (decide (xs = ys)) ∧ Below w0.heap.size w0 w) := by
  refine enter1 Try.func15 rfl Try.ntmps15 (by simp) rfl ?_
  have hB := Below.refl w0.heap.size w0
  simp only [argLoc, Nat.zero_add]
  refine W.seqR ?_
  refine LS.vv rfl rfl (by decide) (Val.assign rfl) ?_
  refine LS.nil ?_
  refine W.seq ?_
  refine W.seqR ?_
  refine LS.vv rfl rfl (by decide) (Val.move rfl) ?_
  refine LS.vv rfl rfl (by decide) (Val.len Try.underlying23 rfl) ?_
  refine LS.vv rfl rfl (by decide) (Val.move rfl) ?_
  refine LS.vv rfl rfl (by decide) (Val.len Try.underlying23 rfl) ?_
  refine LS.vv rfl rfl (by decide) (Val.neq rfl rfl) ?_
  refine LS.nil ?_
  first | refine W.condD rfl (fun hc1 => ?_) (fun hc1 => ?_) | refine W.cond rfl (fun hc1 => ?_) (fun hc1 => ?_)
  ·
    refine W.seqR ?_
    refine LS.vv rfl rfl (by decide) (Val.assign rfl) ?_
    refine LS.nil ?_
    refine W.ret ?_
    refine thenP_ret ?_
    refine ret1 (by first | exact .inl rfl | exact .inr rfl) rfl ?_
    refine ⟨congrArg Value.bool (decide_eq_false fun h => ?_).symm, hB⟩
    exact absurd (congrArg List.length h) (by omega)
  ·
    refine W.skip ?_
    refine thenP_normal ?_
    refine W.seq ?_
    refine W.seqR ?_
    refine LS.vv rfl rfl (by decide) (Val.cast (v := .int .i64 ((0 : Nat) : Int)) (Val.assign rfl) rfl) ?_
    refine LS.nil ?_
    refine W.block ?_
    refine W.loop (α := Nat) (fun k => [(5, .int .i64 (k : Int))]) [(0, _), (1, _)] (fun k w => (k ≤ xs.length ∧ ∀ j, j < k → gz xs j = gz ys j) ∧ Below w0.heap.size w0 w) (fun k => xs.length - k) (0) (Sub.cons rfl (Sub.nil _)) (Sub.cons rfl (Sub.cons rfl (Sub.nil _))) ?_ ?_
    · exact ⟨⟨Nat.zero_le _, by omega⟩, hB⟩
    rintro k w1 ⟨⟨hk, hall⟩, hB⟩
    simp only [List.cons_append, List.nil_append]
    have hlen : xs.length = ys.length := by omega
    refine W.seq ?_
    refine W.seqR ?_
    refine LS.vv rfl rfl (by decide) (Val.move rfl) ?_
    refine LS.vv rfl rfl (by decide) (Val.move rfl) ?_
    refine LS.vv rfl rfl (by decide) (Val.len Try.underlying23 rfl) ?_
    refine LS.vv rfl rfl (by decide) (Val.lss rfl rfl) ?_
    refine LS.nil ?_
    first | refine W.condD rfl (fun hc2 => ?_) (fun hc2 => ?_) | refine W.cond rfl (fun hc2 => ?_) (fun hc2 => ?_)
    ·
      refine W.skip ?_
      refine thenP_normal ?_
      refine W.seq ?_
      refine W.block ?_
      refine W.seqD (S := fun w => Below w0.heap.size w0 w) [(0, true), (1, true), (2, true), (3, true), (4, true), (5, true), (6, true), (7, true), (8, true)] mixed (by kernel_rfl) hB.drew ?_
      replace hB := hB.drew
      refine DX.vv rfl rfl rfl (by decide) (Val.move rfl) ?_
      refine DX.vv rfl rfl rfl (by decide) (Val.move rfl) ?_
      refine DX.vv rfl rfl rfl (by decide) (Val.index1 Try.underlying23 elem3 rfl rfl (by omega) hr1 (iv_lt (by omega))) ?_
      refine DX.vv rfl rfl rfl (by decide) (Val.load flat3 rfl (fun _ h => hr1.below h) (iv_at (by omega))) ?_
      refine DX.vv rfl rfl rfl (by decide) (Val.move rfl) ?_
      refine DX.vv rfl rfl rfl (by decide) (Val.move rfl) ?_
      refine DX.vv rfl rfl rfl (by decide) (Val.index1 Try.underlying23 elem3 rfl rfl (by omega) hr2 (iv_lt (by omega))) ?_
      refine DX.vv rfl rfl rfl (by decide) (Val.load flat3 rfl (fun _ h => hr2.below h) (iv_at (by omega))) ?_
      refine DX.vv rfl rfl rfl (by decide) (Val.neq rfl rfl) ?_
      refine DX.nil ?_
      first | refine W.condD rfl (fun hc3 => ?_) (fun hc3 => ?_) | refine W.cond rfl (fun hc3 => ?_) (fun hc3 => ?_)
      ·
        refine W.seqR ?_
        refine LS.vv rfl rfl (by decide) (Val.assign rfl) ?_
        refine LS.nil ?_
        refine W.ret ?_
        refine inBlk_ret ?_
        refine thenP_ret ?_
        refine thenP_ret ?_
        refine inBlk_ret ?_
        refine thenP_ret ?_
        refine ret1 (by first | exact .inl rfl | exact .inr rfl) rfl ?_
        refine ⟨congrArg Value.bool (decide_eq_false fun h => ?_).symm, hB⟩
        simp_all
      ·
        refine W.skip ?_
        refine inBlk_normal ?_
        refine thenP_normal ?_
        refine W.reg ?_
        refine LS.vv rfl rfl (by decide) (Val.move rfl) ?_
        first | refine LS.vv rfl rfl (by decide) (Val.addN (j := 1) rfl rfl (by omega)) ?_ | refine LS.vv rfl rfl (by decide) (Val.add64 rfl rfl (by omega)) ?_
        refine LS.vv rfl rfl (by decide) (Val.assign rfl) ?_
        refine LS.nil ?_
        refine thenP_normal ?_
        have hkk : gz xs k = gz ys k := by first | omega | simp_all
        refine ⟨k + 1, ?_, ?_, ⟨⟨by omega, ?_⟩, hB⟩, by omega⟩
        · exact Sub.cons rfl (Sub.nil _)
        · repeat (first | exact Sub.nil _ | refine Sub.cons rfl ?_)
        · intro j hj
          by_cases e : j = k
          · subst e; exact hkk
          · exact hall j (by omega)
    ·
      refine W.exit ?_
      refine thenP_exit ?_
      refine thenP_exit ?_
      refine inBlk_exit ?_
      refine thenP_normal ?_
      refine W.seqR ?_
      refine LS.vv rfl rfl (by decide) (Val.assign rfl) ?_
      refine LS.nil ?_
      refine W.ret ?_
      refine ret1 (by first | exact .inl rfl | exact .inr rfl) rfl ?_
      refine ⟨congrArg Value.bool (decide_eq_true (gz_eq_of hlen fun j hj => hall j (by omega))).symm, hB⟩

theorem intsEqN (xs ys : List Int) (p q : Option Addr) (c d n m : Nat) (w0 : World) (hr1 : Rd w0 p (iv xs)) (hr2 : Rd w0 q (iv ys)) (hx : xs.length = n) (hy : ys.length = m) (hl : n ≤ 9223372036854775807) : CallsV Try.prog 15 #[.slice p n c, .slice q m d] w0 (fun v w => v = .bool (decide (xs = ys)) ∧ Below w0.heap.size w0 w) := by
  subst hx; subst hy
  exact intsEq_any xs ys p q c d w0 hr1 hr2 hl

theorem alphaRises_any (zs : List Int) (p : Option Addr) (c m : Nat) (w0 : World) (hr : Rd w0 p (iv zs)) (hm : zs.length = m) (hmc : m ≤ c) :
    CallsV Try.prog 3 #[.slice p m c] w0 (fun v w => v = .bool true ∧ Below w0.heap.size w0 w) := by
  refine enter1 Try.func3 rfl Try.ntmps3 (by simp) rfl ?_
  have hB := Below.refl w0.heap.size w0
  simp only [argLoc]
  have hM := Mem.nil w0 w0.heap.size
  subst hm
  refine W.seqR ?_
  refine LS.vv rfl rfl (by decide) (Val.assign rfl) ?_
  refine LS.nil ?_
  refine W.seqR ?_
  refine LS.vv rfl rfl (by decide) (Val.move rfl) ?_
  refine LS.m rfl (Step.call body9 rfl rfl (by decide) rfl (CallsV.mono (alensW_any zs _ _ _ _ (hr.below hB) rfl hmc) ?_))
  rintro _ w1 ⟨e, p2, c2, l, rfl, he, hln, hOl, hb1⟩
  replace hM := hM.add hB.size hb1 hOl
  replace hB := hB.trans (hb1.mono hB.size)
  refine LS.vv rfl rfl (by decide) (Val.move rfl) ?_
  refine LS.vv rfl rfl (by decide) (Val.extract rfl rfl) ?_
  refine LS.vv rfl rfl (by decide) (Val.extract rfl rfl) ?_
  refine LS.vv rfl rfl (by decide) (Val.assign rfl) ?_
  refine LS.vv rfl rfl (by decide) (Val.assign rfl) ?_
  refine LS.nil ?_
  refine W.seqR ?_
  refine LS.vv rfl rfl (by decide) (Val.move rfl) ?_
  refine LS.m rfl (Step.call body10 rfl rfl (by decide) rfl (CallsV.mono (acost_any zs _ _ _ _ (hr.below hB) rfl hmc) ?_))
  rintro _ w2 ⟨f, x, rfl, hf, hco, hb2⟩
  replace hM := hM.below hb2
  replace hB := hB.trans (hb2.mono hB.size)
  refine LS.vv rfl rfl (by decide) (Val.move rfl) ?_
  refine LS.vv rfl rfl (by decide) (Val.extract rfl rfl) ?_
  refine LS.vv rfl rfl (by decide) (Val.extract rfl rfl) ?_
  refine LS.vv rfl rfl (by decide) (Val.assign rfl) ?_
  refine LS.vv rfl rfl (by decide) (Val.assign rfl) ?_
  refine LS.nil ?_
  refine W.seq ?_
  refine W.seqR ?_
  refine LS.vv rfl rfl (by decide) (Val.move rfl) ?_
  refine LS.m rfl (Step.call body11 rfl rfl (by decide) rfl (CallsV.mono (weighed_any zs _ _ _ _ (hr.below hB) rfl) ?_))
  rintro _ w3 ⟨b, rfl, hwd, hb3⟩
  replace hM := hM.below hb3
  replace hB := hB.trans (hb3.mono hB.size)
  refine LS.vv rfl rfl (by decide) (Val.not rfl) ?_
  refine LS.nil ?_
  first | refine W.condD rfl (fun hc1 => ?_) (fun hc1 => ?_) | refine W.cond rfl (fun hc1 => ?_) (fun hc1 => ?_)
  ·
    refine W.seqR ?_
    refine LS.vv rfl rfl (by decide) (Val.move rfl) ?_
    refine LS.vv rfl rfl (by decide) (Val.neq rfl rfl) ?_
    refine LS.vv rfl rfl (by decide) (Val.move rfl) ?_
    refine LS.split 2 rfl (fun hg2 => ?_) (fun hg2 => ?_)
    ·
      first | (have hg2p := of_decide_eq_true hg2) | skip
      refine LS.vg rfl rfl rfl hg2 (by decide) (Val.move rfl) ?_
      refine LS.vg rfl rfl rfl hg2 (by decide) (Val.neq rfl rfl) ?_
      have hen : e ≠ 0 := fun h => by have := hwd.2 (he.1 h); simp_all
      have hfn : f ≠ 0 := fun h => by have := hwd.2 (hf.1 h); simp_all
      refine LS.vv rfl rfl (by decide) (Val.cast (v := .bool true) (Val.pickT rfl hg2 rfl) (by first | rfl | (exfalso; omega) | (refine congrArg Value.bool (decide_eq_true ?_); omega))) ?_
      refine LS.vv rfl rfl (by decide) (Val.assign rfl) ?_
      refine LS.nil ?_
      refine W.ret ?_
      refine thenP_ret ?_
      refine ret1 (by first | exact .inl rfl | exact .inr rfl) rfl ?_
      first | exact ⟨rfl, hB⟩ | (exfalso; omega)
    ·
      first | (have hg2p := of_decide_eq_false hg2) | skip
      refine LS.s rfl rfl rfl hg2 (by decide) ?_
      refine LS.s rfl rfl rfl hg2 (by decide) ?_
      have hen : e ≠ 0 := fun h => by have := hwd.2 (he.1 h); simp_all
      have hfn : f ≠ 0 := fun h => by have := hwd.2 (hf.1 h); simp_all
      refine LS.vv rfl rfl (by decide) (Val.cast (v := .bool true) (Val.pickF rfl hg2 rfl) (by first | rfl | (exfalso; omega) | (refine congrArg Value.bool (decide_eq_true ?_); omega))) ?_
      refine LS.vv rfl rfl (by decide) (Val.assign rfl) ?_
      refine LS.nil ?_
      refine W.ret ?_
      refine thenP_ret ?_
      refine ret1 (by first | exact .inl rfl | exact .inr rfl) rfl ?_
      first | exact ⟨rfl, hB⟩ | (exfalso; omega)
  ·
    have hok := hwd.1 (by simp_all)
    have he0 := he.2 hok
    have hf0 := hf.2 hok
    obtain ⟨T, hdp, hll, hLn⟩ := hln he0
    obtain ⟨T2, hdp2, hx⟩ := hco hf0
    have hr2 : Rd w0 p (nv (zs.map Int.toNat)) := by rw [← iv_toNat (fun z h => (hok.2 z h).1)]; exact hr
    have hwn := okW_nat hok.2
    have hwl : (zs.map Int.toNat).length = zs.length := by rw [List.length_map]
    have hws8 : (zs.map Int.toNat).length ≤ 8 := by rw [hwl]; exact hok.1
    have hal : Al l := LnO.al hLn hll hok.1
    have hl8 : ∀ x ∈ l, x ≤ 8 := fun y hy => by obtain ⟨i, hi, rfl⟩ := List.getElem_of_mem hy; rw [← gn_lt hi]; exact hal.eight i hi
    have hcx : cost (zs.map Int.toNat) l = x := LnO.cost hLn hdp hdp2 hwl hll hx
    clear hln hco
    refine W.skip ?_
    refine thenP_normal ?_
    refine W.seqR ?_
    refine LS.vv rfl rfl (by decide) (Val.move rfl) ?_
    refine LS.m rfl (Step.call body12 rfl rfl (by decide) rfl (CallsV.mono (amake_any l _ _ _ _ hM.o0.rd rfl (by omega) hal) ?_))
    rintro _ w4 ⟨p3, c3, C, rfl, hMk, hC, hCw, hb4⟩
    replace hM := (hM.adds hB.size hb4 hMk).perm (List.perm_append_comm (l₁ := [⟨3, p2, l.length, c2, nv l⟩]) (l₂ := ⟨35, p3, C.length, c3, wv C⟩ :: tb 4 C))
    try simp only [List.cons_append, List.nil_append] at hM
    have hRC : RdW _ p3 C := hM.tail.rdW (fun o h => h)
    replace hB := hB.trans (hb4.mono hB.size)
    refine LS.vv rfl rfl (by decide) (Val.move rfl) ?_
    refine LS.vv rfl rfl (by decide) (Val.extract rfl rfl) ?_
    refine LS.vv rfl rfl (by decide) (Val.extract rfl rfl) ?_
    refine LS.vv rfl rfl (by decide) (Val.assign rfl) ?_
    refine LS.vv rfl rfl (by decide) (Val.assign rfl) ?_
    refine LS.nil ?_
    refine W.seq ?_
    refine W.seqR ?_
    refine LS.vv rfl rfl (by decide) (Val.move rfl) ?_
    refine LS.vv rfl rfl (by decide) (Val.neq rfl rfl) ?_
    refine LS.vv rfl rfl (by decide) (Val.move rfl) ?_
    refine LS.split 2 rfl (fun hg3 => ?_) (fun hg3 => ?_)
    ·
      first | (have hg3p := of_decide_eq_true hg3) | skip
      refine LS.s rfl rfl rfl hg3 (by decide) ?_
      refine LS.s rfl rfl rfl hg3 (by decide) ?_
      refine LS.vv rfl rfl (by decide) (Val.cast (v := .bool false) (Val.pickT rfl hg3 rfl) (by first | rfl | (exfalso; omega) | (refine congrArg Value.bool (decide_eq_false ?_); omega))) ?_
      refine LS.vv rfl rfl (by decide) (Val.move rfl) ?_
      refine LS.vg rfl rfl rfl rfl (by decide) (Val.move rfl) ?_
      refine LS.vg rfl rfl rfl rfl (by decide) (Val.neq rfl rfl) ?_
      refine LS.vv rfl rfl (by decide) (Val.cast (v := .bool false) (Val.pickF rfl rfl rfl) (by first | rfl | (exfalso; omega) | (refine congrArg Value.bool (decide_eq_false ?_); omega))) ?_
      refine LS.vv rfl rfl (by decide) (Val.move rfl) ?_
      refine LS.vg rfl rfl rfl rfl (by decide) (Val.move rfl) ?_
      refine LS.vg rfl rfl rfl rfl (by decide) (Val.len Try.underlying30 rfl) ?_
      refine LS.vg rfl rfl rfl rfl (by decide) (Val.move rfl) ?_
      refine LS.vg rfl rfl rfl rfl (by decide) (Val.len Try.underlying22 rfl) ?_
      refine LS.vg rfl rfl rfl rfl (by decide) (Val.neq rfl rfl) ?_
      refine LS.vv rfl rfl (by decide) (Val.cast (v := .bool false) (Val.pickF rfl rfl rfl) (by first | rfl | (exfalso; omega) | (refine congrArg Value.bool (decide_eq_false ?_); omega))) ?_
      refine LS.vv rfl rfl (by decide) (Val.move rfl) ?_
      refine LS.vg rfl rfl rfl rfl (by decide) (Val.move rfl) ?_
      refine LS.vg rfl rfl rfl rfl (by decide) (Val.move rfl) ?_
      refine LS.mg rfl rfl rfl (Step.call body13 rfl rfl (by decide) rfl (CallsV.mono (refCosts_any (zs.map Int.toNat) l _ _ _ _ _ _ _ (hr2.below hB) (hM.o0.rd) (by rw [List.length_map]) rfl (by omega) hwn hl8 hws8) ?_))
      rintro _ w5 ⟨rfl, hb5⟩
      replace hM := hM.below hb5
      replace hB := hB.trans (hb5.mono hB.size)
      refine LS.vg rfl rfl rfl rfl (by decide) (Val.move rfl) ?_
      refine LS.vg rfl rfl rfl rfl (by decide) (Val.neq rfl rfl) ?_
      refine LS.vv rfl rfl (by decide) (Val.cast (v := .bool false) (Val.pickF rfl rfl rfl) (by first | rfl | (exfalso; omega) | (refine congrArg Value.bool (decide_eq_false ?_); omega))) ?_
      refine LS.nil ?_
      refine W.condF rfl ?_
      refine W.skip ?_
      refine thenP_normal ?_
      refine W.seq ?_
      refine W.seqR ?_
      refine LS.vv rfl rfl (by decide) (Val.cast (v := .int .i64 ((1 : Nat) : Int)) (Val.assign rfl) rfl) ?_
      refine LS.nil ?_
      refine W.block ?_
      refine W.loop (α := Nat) (fun i => [(9, .int .i64 (i : Int))]) [(3, _), (7, _)] (fun i w => (1 ≤ i) ∧ Mem w w0.heap.size (⟨3, p2, l.length, c2, nv l⟩ :: ⟨35, p3, C.length, c3, wv C⟩ :: (tb 4 C)) ∧ Below w0.heap.size w0 w) (fun i => C.length - i) (1) (Sub.cons rfl (Sub.nil _)) (Sub.cons rfl (Sub.cons rfl (Sub.nil _))) ?_ ?_
      · exact ⟨Nat.le_refl _, hM, hB⟩
      rintro i w6 ⟨hi1, hM, hB⟩
      try simp only at hM
      simp only [List.cons_append, List.nil_append]
      refine W.seq ?_
      refine W.seqR ?_
      refine LS.vv rfl rfl (by decide) (Val.move rfl) ?_
      refine LS.vv rfl rfl (by decide) (Val.move rfl) ?_
      refine LS.vv rfl rfl (by decide) (Val.len Try.underlying30 rfl) ?_
      refine LS.vv rfl rfl (by decide) (Val.lss rfl rfl) ?_
      refine LS.nil ?_
      first | refine W.condD rfl (fun hc4 => ?_) (fun hc4 => ?_) | refine W.cond rfl (fun hc4 => ?_) (fun hc4 => ?_)
      ·
        refine W.skip ?_
        refine thenP_normal ?_
        refine W.seq ?_
        refine W.block ?_
        refine W.seqF 11 [(0, true), (1, true), (2, true), (3, true), (4, true), (5, true), (6, true), (7, true), (8, true), (9, false), (10, true)] mixed (by kernel_rfl) hB hM ?_
        replace hB := hB.drew
        replace hM := hM.drew
        refine DF.vv rfl rfl rfl (by decide) (Val.move rfl) ?_
        refine DF.vv rfl rfl rfl (by decide) (Val.move rfl) ?_
        first | refine DF.vv rfl rfl rfl (by decide) (Val.subN (j := 1) rfl rfl (by omega) (by omega)) ?_ | refine DF.vv rfl rfl rfl (by decide) (Val.sub64 rfl rfl (by omega)) ?_
        refine DF.vv rfl rfl rfl (by decide) (Val.index1 Try.underlying30 elem35 rfl rfl (by omega) (hM.o1.rd) (wv_lt (by omega))) ?_
        refine DF.vv rfl rfl rfl (by decide) (Val.load flat35 rfl (fun _ h => h.2.o1.rd) (wv_at (by omega))) ?_
        refine DF.vv rfl rfl rfl (by decide) (Val.move rfl) ?_
        refine DF.vv rfl rfl rfl (by decide) (Val.move rfl) ?_
        refine DF.vv rfl rfl rfl (by decide) (Val.index1 Try.underlying30 elem35 rfl rfl (by omega) (hM.o1.rd) (wv_lt (by omega))) ?_
        refine DF.vv rfl rfl rfl (by decide) (Val.load flat35 rfl (fun _ h => h.2.o1.rd) (wv_at (by omega))) ?_
        have hw1 : (gW C (i - 1)).l.length ≤ 1000 := by rw [hCw _ (by omega), mw_len]; have := hal.eight (i - 1) (by omega); omega
        have hri : rs (gW C (i - 1)).l (gW C i).l = true := by rw [hCw _ (by omega), hCw _ (by omega)]; have := hal.rises (k := i - 1) (by omega); rwa [show i - 1 + 1 = i by omega] at this
        refine DF.m rfl rfl (Step.call body14 rfl rfl (by decide) rfl (CallsV.mono (rises_any (gW C (i - 1)).l (gW C i).l _ _ _ _ _ _ _ ((Mem.rdW hM.tail (fun o h => h)).at (k := i - 1) (by omega)) ((Mem.rdW hM.tail (fun o h => h)).at (k := i) (by omega)) rfl rfl hw1) ?_))
        rintro _ w7 ⟨rfl, hb7⟩
        replace hM := hM.below hb7
        replace hB := hB.trans (hb7.mono hB.size)
        rw [hri] at *
        refine ⟨fun _ => ⟨hB, hM⟩, ?_⟩
        refine DF.vv rfl rfl rfl (by decide) (Val.not rfl) ?_
        refine DF.nil ?_
        first | refine W.condD rfl (fun hc5 => ?_) (fun hc5 => ?_) | refine W.cond rfl (fun hc5 => ?_) (fun hc5 => ?_)
        ·
          simp_all
        ·
          refine W.skip ?_
          refine inBlk_normal ?_
          refine thenP_normal ?_
          refine W.reg ?_
          refine LS.vv rfl rfl (by decide) (Val.move rfl) ?_
          first | refine LS.vv rfl rfl (by decide) (Val.addN (j := 1) rfl rfl (by omega)) ?_ | refine LS.vv rfl rfl (by decide) (Val.add64 rfl rfl (by omega)) ?_
          refine LS.vv rfl rfl (by decide) (Val.assign rfl) ?_
          refine LS.nil ?_
          refine thenP_normal ?_
          refine ⟨i + 1, ?_, ?_, ⟨by omega, hM, hB⟩, by omega⟩
          · exact (Sub.cons rfl (Sub.nil _))
          · repeat (first | exact Sub.nil _ | refine Sub.cons rfl ?_)
      ·
        refine W.exit ?_
        refine thenP_exit ?_
        refine thenP_exit ?_
        refine inBlk_exit ?_
        refine thenP_normal ?_
        refine W.seqR ?_
        refine LS.vv rfl rfl (by decide) (Val.move rfl) ?_
        refine LS.m rfl (Step.call body16 rfl rfl (by decide) rfl (CallsV.mono (lensC_any C _ _ _ _ (Mem.rdW hM.tail (fun o h => h)) rfl (by omega)) ?_))
        rintro _ w8 ⟨p9, c9, rfl, hO9, hb8⟩
        replace hM := hM.add hB.size hb8 hO9
        replace hB := hB.trans (hb8.mono hB.size)
        have hle : lensTo (codeOf C) C.length = l := by { refine List.ext_getElem (by rw [lensTo_len]; exact hC) fun i h1 h2 => ?_; rw [lensTo_len] at h1; have h3 := lensTo_gn (codeOf C) (k := i) (n := C.length) h1; rw [gn_lt (by rw [lensTo_len]; exact h1), codeOf_gw, hCw i (by omega), mw_len, gn_lt h2] at h3; exact h3 }
        rw [hle] at hM
        refine LS.vv rfl rfl (by decide) (Val.move rfl) ?_
        refine LS.m rfl (Step.call body15 rfl rfl (by decide) rfl (CallsV.mono (intsEqN (l.map fun x : Nat => (x : Int)) (l.map fun x : Nat => (x : Int)) _ _ _ _ _ _ _ (by rw [iv_cast]; exact hM.o0.rd) (by rw [iv_cast]; exact hM.o1.rd) (by rw [List.length_map]; exact hC.symm) (by rw [List.length_map]) (by omega)) ?_))
        rintro _ w9 ⟨hie, hb9⟩
        replace hM := hM.below hb9
        replace hB := hB.trans (hb9.mono hB.size)
        rw [decide_eq_true rfl] at hie
        subst hie
        refine LS.vv rfl rfl (by decide) (Val.assign rfl) ?_
        refine LS.nil ?_
        refine W.ret ?_
        refine ret1 (by first | exact .inl rfl | exact .inr rfl) rfl ?_
        first | exact ⟨rfl, hB⟩ | (exfalso; omega)
    ·
      first | (have hg3p := of_decide_eq_false hg3) | skip
      refine LS.vg rfl rfl rfl hg3 (by decide) (Val.move rfl) ?_
      refine LS.vg rfl rfl rfl hg3 (by decide) (Val.neq rfl rfl) ?_
      refine LS.vv rfl rfl (by decide) (Val.cast (v := .bool false) (Val.pickF rfl hg3 rfl) (by first | rfl | (exfalso; omega) | (refine congrArg Value.bool (decide_eq_false ?_); omega))) ?_
      refine LS.vv rfl rfl (by decide) (Val.move rfl) ?_
      refine LS.vg rfl rfl rfl rfl (by decide) (Val.move rfl) ?_
      refine LS.vg rfl rfl rfl rfl (by decide) (Val.neq rfl rfl) ?_
      refine LS.vv rfl rfl (by decide) (Val.cast (v := .bool false) (Val.pickF rfl rfl rfl) (by first | rfl | (exfalso; omega) | (refine congrArg Value.bool (decide_eq_false ?_); omega))) ?_
      refine LS.vv rfl rfl (by decide) (Val.move rfl) ?_
      refine LS.vg rfl rfl rfl rfl (by decide) (Val.move rfl) ?_
      refine LS.vg rfl rfl rfl rfl (by decide) (Val.len Try.underlying30 rfl) ?_
      refine LS.vg rfl rfl rfl rfl (by decide) (Val.move rfl) ?_
      refine LS.vg rfl rfl rfl rfl (by decide) (Val.len Try.underlying22 rfl) ?_
      refine LS.vg rfl rfl rfl rfl (by decide) (Val.neq rfl rfl) ?_
      refine LS.vv rfl rfl (by decide) (Val.cast (v := .bool false) (Val.pickF rfl rfl rfl) (by first | rfl | (exfalso; omega) | (refine congrArg Value.bool (decide_eq_false ?_); omega))) ?_
      refine LS.vv rfl rfl (by decide) (Val.move rfl) ?_
      refine LS.vg rfl rfl rfl rfl (by decide) (Val.move rfl) ?_
      refine LS.vg rfl rfl rfl rfl (by decide) (Val.move rfl) ?_
      refine LS.mg rfl rfl rfl (Step.call body13 rfl rfl (by decide) rfl (CallsV.mono (refCosts_any (zs.map Int.toNat) l _ _ _ _ _ _ _ (hr2.below hB) (hM.o0.rd) (by rw [List.length_map]) rfl (by omega) hwn hl8 hws8) ?_))
      rintro _ w10 ⟨rfl, hb10⟩
      replace hM := hM.below hb10
      replace hB := hB.trans (hb10.mono hB.size)
      refine LS.vg rfl rfl rfl rfl (by decide) (Val.move rfl) ?_
      refine LS.vg rfl rfl rfl rfl (by decide) (Val.neq rfl rfl) ?_
      refine LS.vv rfl rfl (by decide) (Val.cast (v := .bool false) (Val.pickF rfl rfl rfl) (by first | rfl | (exfalso; omega) | (refine congrArg Value.bool (decide_eq_false ?_); omega))) ?_
      refine LS.nil ?_
      refine W.condF rfl ?_
      refine W.skip ?_
      refine thenP_normal ?_
      refine W.seq ?_
      refine W.seqR ?_
      refine LS.vv rfl rfl (by decide) (Val.cast (v := .int .i64 ((1 : Nat) : Int)) (Val.assign rfl) rfl) ?_
      refine LS.nil ?_
      refine W.block ?_
      refine W.loop (α := Nat) (fun i => [(9, .int .i64 (i : Int))]) [(3, _), (7, _)] (fun i w => (1 ≤ i) ∧ Mem w w0.heap.size (⟨3, p2, l.length, c2, nv l⟩ :: ⟨35, p3, C.length, c3, wv C⟩ :: (tb 4 C)) ∧ Below w0.heap.size w0 w) (fun i => C.length - i) (1) (Sub.cons rfl (Sub.nil _)) (Sub.cons rfl (Sub.cons rfl (Sub.nil _))) ?_ ?_
      · exact ⟨Nat.le_refl _, hM, hB⟩
      rintro i w11 ⟨hi1, hM, hB⟩
      try simp only at hM
      simp only [List.cons_append, List.nil_append]
      refine W.seq ?_
      refine W.seqR ?_
      refine LS.vv rfl rfl (by decide) (Val.move rfl) ?_
      refine LS.vv rfl rfl (by decide) (Val.move rfl) ?_
      refine LS.vv rfl rfl (by decide) (Val.len Try.underlying30 rfl) ?_
      refine LS.vv rfl rfl (by decide) (Val.lss rfl rfl) ?_
      refine LS.nil ?_
      first | refine W.condD rfl (fun hc6 => ?_) (fun hc6 => ?_) | refine W.cond rfl (fun hc6 => ?_) (fun hc6 => ?_)
      ·
        refine W.skip ?_
        refine thenP_normal ?_
        refine W.seq ?_
        refine W.block ?_
        refine W.seqF 11 [(0, true), (1, true), (2, true), (3, true), (4, true), (5, true), (6, true), (7, true), (8, true), (9, false), (10, true)] mixed (by kernel_rfl) hB hM ?_
        replace hB := hB.drew
        replace hM := hM.drew
        refine DF.vv rfl rfl rfl (by decide) (Val.move rfl) ?_
        refine DF.vv rfl rfl rfl (by decide) (Val.move rfl) ?_
        first | refine DF.vv rfl rfl rfl (by decide) (Val.subN (j := 1) rfl rfl (by omega) (by omega)) ?_ | refine DF.vv rfl rfl rfl (by decide) (Val.sub64 rfl rfl (by omega)) ?_
        refine DF.vv rfl rfl rfl (by decide) (Val.index1 Try.underlying30 elem35 rfl rfl (by omega) (hM.o1.rd) (wv_lt (by omega))) ?_
        refine DF.vv rfl rfl rfl (by decide) (Val.load flat35 rfl (fun _ h => h.2.o1.rd) (wv_at (by omega))) ?_
        refine DF.vv rfl rfl rfl (by decide) (Val.move rfl) ?_
        refine DF.vv rfl rfl rfl (by decide) (Val.move rfl) ?_
        refine DF.vv rfl rfl rfl (by decide) (Val.index1 Try.underlying30 elem35 rfl rfl (by omega) (hM.o1.rd) (wv_lt (by omega))) ?_
        refine DF.vv rfl rfl rfl (by decide) (Val.load flat35 rfl (fun _ h => h.2.o1.rd) (wv_at (by omega))) ?_
        have hw1 : (gW C (i - 1)).l.length ≤ 1000 := by rw [hCw _ (by omega), mw_len]; have := hal.eight (i - 1) (by omega); omega
        have hri : rs (gW C (i - 1)).l (gW C i).l = true := by rw [hCw _ (by omega), hCw _ (by omega)]; have := hal.rises (k := i - 1) (by omega); rwa [show i - 1 + 1 = i by omega] at this
        refine DF.m rfl rfl (Step.call body14 rfl rfl (by decide) rfl (CallsV.mono (rises_any (gW C (i - 1)).l (gW C i).l _ _ _ _ _ _ _ ((Mem.rdW hM.tail (fun o h => h)).at (k := i - 1) (by omega)) ((Mem.rdW hM.tail (fun o h => h)).at (k := i) (by omega)) rfl rfl hw1) ?_))
        rintro _ w12 ⟨rfl, hb12⟩
        replace hM := hM.below hb12
        replace hB := hB.trans (hb12.mono hB.size)
        rw [hri] at *
        refine ⟨fun _ => ⟨hB, hM⟩, ?_⟩
        refine DF.vv rfl rfl rfl (by decide) (Val.not rfl) ?_
        refine DF.nil ?_
        first | refine W.condD rfl (fun hc7 => ?_) (fun hc7 => ?_) | refine W.cond rfl (fun hc7 => ?_) (fun hc7 => ?_)
        ·
          simp_all
        ·
          refine W.skip ?_
          refine inBlk_normal ?_
          refine thenP_normal ?_
          refine W.reg ?_
          refine LS.vv rfl rfl (by decide) (Val.move rfl) ?_
          first | refine LS.vv rfl rfl (by decide) (Val.addN (j := 1) rfl rfl (by omega)) ?_ | refine LS.vv rfl rfl (by decide) (Val.add64 rfl rfl (by omega)) ?_
          refine LS.vv rfl rfl (by decide) (Val.assign rfl) ?_
          refine LS.nil ?_
          refine thenP_normal ?_
          refine ⟨i + 1, ?_, ?_, ⟨by omega, hM, hB⟩, by omega⟩
          · exact (Sub.cons rfl (Sub.nil _))
          · repeat (first | exact Sub.nil _ | refine Sub.cons rfl ?_)
      ·
        refine W.exit ?_
        refine thenP_exit ?_
        refine thenP_exit ?_
        refine inBlk_exit ?_
        refine thenP_normal ?_
        refine W.seqR ?_
        refine LS.vv rfl rfl (by decide) (Val.move rfl) ?_
        refine LS.m rfl (Step.call body16 rfl rfl (by decide) rfl (CallsV.mono (lensC_any C _ _ _ _ (Mem.rdW hM.tail (fun o h => h)) rfl (by omega)) ?_))
        rintro _ w13 ⟨p9, c9, rfl, hO9, hb13⟩
        replace hM := hM.add hB.size hb13 hO9
        replace hB := hB.trans (hb13.mono hB.size)
        have hle : lensTo (codeOf C) C.length = l := by { refine List.ext_getElem (by rw [lensTo_len]; exact hC) fun i h1 h2 => ?_; rw [lensTo_len] at h1; have h3 := lensTo_gn (codeOf C) (k := i) (n := C.length) h1; rw [gn_lt (by rw [lensTo_len]; exact h1), codeOf_gw, hCw i (by omega), mw_len, gn_lt h2] at h3; exact h3 }
        rw [hle] at hM
        refine LS.vv rfl rfl (by decide) (Val.move rfl) ?_
        refine LS.m rfl (Step.call body15 rfl rfl (by decide) rfl (CallsV.mono (intsEqN (l.map fun x : Nat => (x : Int)) (l.map fun x : Nat => (x : Int)) _ _ _ _ _ _ _ (by rw [iv_cast]; exact hM.o0.rd) (by rw [iv_cast]; exact hM.o1.rd) (by rw [List.length_map]; exact hC.symm) (by rw [List.length_map]) (by omega)) ?_))
        rintro _ w14 ⟨hie, hb14⟩
        replace hM := hM.below hb14
        replace hB := hB.trans (hb14.mono hB.size)
        rw [decide_eq_true rfl] at hie
        subst hie
        refine LS.vv rfl rfl (by decide) (Val.assign rfl) ?_
        refine LS.nil ?_
        refine W.ret ?_
        refine ret1 (by first | exact .inl rfl | exact .inr rfl) rfl ?_
        first | exact ⟨rfl, hB⟩ | (exfalso; omega)

end Go.Proofs.Ytohflgcbpmoinaa
