/-
  alpha.Cost; the statements AlphaBetween and AlphaSorted.
-/
import Derived.Test.YtohflgcbpmoinaaAlpha
namespace Go.Proofs.Ytohflgcbpmoinaa
open Go Go.RowKit V
set_option linter.unusedVariables false
set_option linter.unusedSimpArgs false

theorem take_sum {zs : List Int} {k : Nat} (hk : k < zs.length) (hz : 0 ≤ gz zs k) : ((((zs.map Int.toNat).take (k + 1)).sum : Nat) : Int) = (((zs.map Int.toNat).take k).sum : Nat) + gz zs k := by
  rw [List.take_succ_eq_append_getElem (by rw [List.length_map]; exact hk), List.sum_append, List.getElem_map, ← gz_lt hk]
  simp only [List.sum_cons, List.sum_nil, Nat.add_zero]
  omega
theorem sum_cap {zs : List Int} {k : Nat} (hw : ∀ x ∈ zs.map Int.toNat, x ≤ 1048576) (h8 : zs.length ≤ 8) : ((zs.map Int.toNat).take k).sum ≤ 8388608 := by
  have h1 := sum_small ((zs.map Int.toNat).take k) fun x hx => hw x (List.mem_of_mem_take hx)
  have h2 : ((zs.map Int.toNat).take k).length ≤ 8 := by rw [List.length_take, List.length_map]; omega
  have h3 := Nat.mul_le_mul_right 1048576 h2
  omega
def upsB (zs : List Int) (i : Nat) : Bool := (List.range (i - 1)).all fun a => decide (gz zs a ≤ gz zs (a + 1))
theorem upsB_succ {zs : List Int} {i : Nat} (hi : 1 ≤ i) : upsB zs (i + 1) = (upsB zs i && decide (gz zs (i - 1) ≤ gz zs i)) := by
  obtain ⟨j, rfl⟩ : ∃ j, i = j + 1 := ⟨i - 1, by omega⟩
  unfold upsB
  rw [Nat.add_sub_cancel, Nat.add_sub_cancel, List.range_succ, List.all_append, List.all_cons, List.all_nil, Bool.and_true]
theorem upsB_one (zs : List Int) : upsB zs 1 = true := rfl
theorem upsB_all {zs : List Int} {i : Nat} (h : upsB zs i = true) : ∀ a, a + 1 < i → gz zs a ≤ gz zs (a + 1) := fun a ha => of_decide_eq_true (List.all_eq_true.1 h a (List.mem_range.2 (by omega)))
theorem adj_le {ws : List Nat} (h : ∀ a, a + 1 < ws.length → gn ws a ≤ gn ws (a + 1)) : ws.Pairwise (· ≤ ·) := by
  have hm : ∀ k a, a + k < ws.length → gn ws a ≤ gn ws (a + k) := by
    intro k
    induction k with
    | zero => intro a _; exact Nat.le_refl _
    | succ k ih => intro a ha; exact Nat.le_trans (ih a (by omega)) (h (a + k) (by omega))
  rw [List.pairwise_iff_getElem]
  intro i j hi hj hij
  have := hm (j - i) i (by omega)
  rw [show i + (j - i) = j by omega, gn_lt hi, gn_lt hj] at this
  exact this
theorem adj_nat {zs : List Int} (h0 : ∀ z ∈ zs, 0 ≤ z) (h : ∀ a, a + 1 < zs.length → gz zs a ≤ gz zs (a + 1)) : (zs.map Int.toNat).Pairwise (· ≤ ·) := by
  refine adj_le fun a ha => ?_
  rw [List.length_map] at ha
  rw [gn_toNat (by omega), gn_toNat ha]
  have := h a ha; omega

theorem acost_any (zs : List Int) (p : Option Addr) (c m : Nat) (w0 : World) (hr : Rd w0 p (iv zs)) (hm : zs.length = m) (hmc : m ≤ c) :
    CallsV Try.prog 10 #[.slice p m c] w0 (fun v w => ∃ e x : Nat, v = .tuple #[.int .i64 (x : Int), .int .i64 (e : Int)] ∧ (e = 0 ↔ (zs.length ≤ 8 ∧ ∀ z ∈ zs, 0 ≤ z ∧ z ≤ 1048576)) ∧ (e = 0 → ∃ T, Dp (zs.map Int.toNat) zs.length T (zs.length + 1) ∧ x = T 0 zs.length) ∧ Below w0.heap.size w0 w) := by
  refine enter2 Try.func10 rfl Try.ntmps10 (by simp) rfl ?_
  have hB := Below.refl w0.heap.size w0
  simp only [argLoc]
  have hM := Mz.nil w0 w0.heap.size
  subst hm
  refine W.seqR ?_
  refine LS.vv rfl rfl (by decide) (Val.cast (v := .int .i64 ((0 : Nat) : Int)) (Val.assign rfl) rfl) ?_
  refine LS.vv rfl rfl (by decide) (Val.cast (v := .int .i64 ((0 : Nat) : Int)) (Val.assign rfl) rfl) ?_
  refine LS.nil ?_
  refine W.seq ?_
  refine W.seqR ?_
  refine LS.vv rfl rfl (by decide) (Val.move rfl) ?_
  refine LS.m rfl (Step.call body22 rfl rfl (by decide) rfl (CallsV.mono (check_any zs _ _ _ _ (hr.below hB) rfl) ?_))
  rintro _ w1 ⟨e, rfl, he, hb1⟩
  replace hM := hM.below hb1
  replace hB := hB.trans (hb1.mono hB.size)
  refine LS.vv rfl rfl (by decide) (Val.assign rfl) ?_
  refine LS.nil ?_
  refine W.seqR ?_
  refine LS.vv rfl rfl (by decide) (Val.move rfl) ?_
  refine LS.vv rfl rfl (by decide) (Val.neq rfl rfl) ?_
  refine LS.nil ?_
  first | refine W.condD rfl (fun hc1 => ?_) (fun hc1 => ?_) | refine W.cond rfl (fun hc1 => ?_) (fun hc1 => ?_)
  ·
    refine W.seqR ?_
    refine LS.vv rfl rfl (by decide) (Val.move rfl) ?_
    refine LS.vv rfl rfl (by decide) (Val.cast (v := .int .i64 ((0 : Nat) : Int)) (Val.assign rfl) rfl) ?_
    refine LS.vv rfl rfl (by decide) (Val.assign rfl) ?_
    refine LS.nil ?_
    refine W.ret ?_
    refine thenP_ret ?_
    refine ret2 (by first | exact .inl rfl | exact .inr rfl) rfl rfl ?_
    first | exact ⟨e, 0, rfl, he, fun h => absurd h (by omega), hB⟩ | exact ⟨0, _, rfl, ⟨fun _ => hok, fun _ => rfl⟩, fun _ => ⟨tab T, hdp, rfl⟩, hB⟩
  ·
    refine W.skip ?_
    refine thenP_normal ?_
    refine W.seqR ?_
    refine LS.vv rfl rfl (by decide) (Val.move rfl) ?_
    have hok := he.1 (by omega)
    have hr2 : Rd w0 p (nv (zs.map Int.toNat)) := by rw [← iv_toNat (fun z h => (hok.2 z h).1)]; exact hr
    have hwn := okW_nat hok.2
    refine LS.m rfl (Step.call body23 rfl rfl (by decide) rfl (CallsV.mono (reckon_any (zs.map Int.toNat) _ _ _ _ (hr2.below hB) (by rw [List.length_map]) hmc hok.1 hwn) ?_))
    rintro _ w2 ⟨g, co, po, T, rfl, hMr, hdp, hTl, hrows, hb2⟩
    replace hM := hM.below hb2
    replace hB := hB.trans (hb2.mono hB.size)
    have hr0 := hrows 0 (by omega)
    first | refine LS.vv rfl rfl (by decide) (Val.nilCheck rfl) ?_ | refine LS.vv rfl rfl (by decide) (Val.nilCheckP rfl) ?_
    refine LS.vv rfl rfl (by decide) (Val.fieldAddr0 fld47_1 rfl) ?_
    refine LS.m rfl (Step.load rfl rfl (by decide) flat45 rfl (hMr.o0.rd) (rfl) ?_)
    refine LS.vv rfl rfl (by decide) (Val.index1 (j := 0) Try.underlying45 elem22 rfl rfl (by omega) (hMr.o1.rd) (by rw [tv_len]; omega)) ?_
    refine LS.m rfl (Step.load rfl rfl (by decide) flat22 rfl (hMr.o1.rd) (tv_at (by omega)) ?_)
    refine LS.vv rfl rfl (by decide) (Val.move rfl) ?_
    refine LS.vv rfl rfl (by decide) (Val.len Try.underlying22 rfl) ?_
    refine LS.vv rfl rfl (by decide) (Val.index1 Try.underlying22 elem2 rfl rfl (by omega) ((txR hMr (k := 0) (by omega))) (nv_lt (by omega))) ?_
    refine LS.m rfl (Step.load rfl rfl (by decide) flat2 rfl ((txR hMr (k := 0) (by omega))) (nv_at (by omega)) ?_)
    refine LS.vv rfl rfl (by decide) (Val.assign rfl) ?_
    refine LS.vv rfl rfl (by decide) (Val.cast (v := .int .i64 ((0 : Nat) : Int)) (Val.assign rfl) rfl) ?_
    refine LS.nil ?_
    refine W.ret ?_
    refine ret2 (by first | exact .inl rfl | exact .inr rfl) rfl rfl ?_
    first | exact ⟨e, 0, rfl, he, fun h => absurd h (by omega), hB⟩ | exact ⟨0, _, rfl, ⟨fun _ => hok, fun _ => rfl⟩, fun _ => ⟨tab T, hdp, rfl⟩, hB⟩

theorem between_any (zs : List Int) (p : Option Addr) (c m : Nat) (w0 : World) (hr : Rd w0 p (iv zs)) (hm : zs.length = m) (hmc : m ≤ c) :
    CallsV Try.prog 4 #[.slice p m c] w0 (fun v w => v = .bool true ∧ Below w0.heap.size w0 w) := by
  refine enter1 Try.func4 rfl Try.ntmps4 (by simp) rfl ?_
  have hB := Below.refl w0.heap.size w0
  simp only [argLoc]
  have hM := Mem.nil w0 w0.heap.size
  subst hm
  refine W.seqR ?_
  refine LS.vv rfl rfl (by decide) (Val.assign rfl) ?_
  refine LS.nil ?_
  refine W.seqR ?_
  refine LS.vv rfl rfl (by decide) (Val.move rfl) ?_
  refine LS.m rfl (Step.call body10 rfl rfl (by decide) rfl (CallsV.mono (acost_any zs _ _ _ _ (hr.below hB) rfl hmc) ?_))
  rintro _ w1 ⟨e, a, rfl, he, hea, hb1⟩
  replace hM := hM.below hb1
  replace hB := hB.trans (hb1.mono hB.size)
  refine LS.vv rfl rfl (by decide) (Val.move rfl) ?_
  refine LS.vv rfl rfl (by decide) (Val.extract rfl rfl) ?_
  refine LS.vv rfl rfl (by decide) (Val.extract rfl rfl) ?_
  refine LS.vv rfl rfl (by decide) (Val.assign rfl) ?_
  refine LS.vv rfl rfl (by decide) (Val.assign rfl) ?_
  refine LS.nil ?_
  refine W.seqR ?_
  refine LS.vv rfl rfl (by decide) (Val.move rfl) ?_
  refine LS.m rfl (Step.call body17 rfl rfl (by decide) rfl (CallsV.mono (cost_any zs _ _ _ _ (hr.below hB) rfl) ?_))
  rintro _ w2 ⟨f, x, rfl, hf, hop, hb2⟩
  replace hM := hM.below hb2
  replace hB := hB.trans (hb2.mono hB.size)
  refine LS.vv rfl rfl (by decide) (Val.move rfl) ?_
  refine LS.vv rfl rfl (by decide) (Val.extract rfl rfl) ?_
  refine LS.vv rfl rfl (by decide) (Val.extract rfl rfl) ?_
  refine LS.vv rfl rfl (by decide) (Val.assign rfl) ?_
  refine LS.vv rfl rfl (by decide) (Val.assign rfl) ?_
  refine LS.nil ?_
  refine W.seq ?_
  refine W.seqR ?_
  refine LS.vv rfl rfl (by decide) (Val.move rfl) ?_
  refine LS.m rfl (Step.call body11 rfl rfl (by decide) rfl (CallsV.mono (weighed_any zs _ _ _ _ (hr.below hB) rfl) ?_))
  rintro _ w3 ⟨b, rfl, hwd, hb3⟩
  replace hM := hM.below hb3
  replace hB := hB.trans (hb3.mono hB.size)
  refine LS.vv rfl rfl (by decide) (Val.not rfl) ?_
  refine LS.nil ?_
  first | refine W.condD rfl (fun hc1 => ?_) (fun hc1 => ?_) | refine W.cond rfl (fun hc1 => ?_) (fun hc1 => ?_)
  ·
    refine W.seqR ?_
    refine LS.vv rfl rfl (by decide) (Val.move rfl) ?_
    refine LS.vv rfl rfl (by decide) (Val.neq rfl rfl) ?_
    refine LS.vv rfl rfl (by decide) (Val.move rfl) ?_
    refine LS.split 2 rfl (fun hg2 => ?_) (fun hg2 => ?_)
    ·
      first | (have hg2p := of_decide_eq_true hg2) | skip
      refine LS.vg rfl rfl rfl hg2 (by decide) (Val.move rfl) ?_
      refine LS.vg rfl rfl rfl hg2 (by decide) (Val.neq rfl rfl) ?_
      have hen : e ≠ 0 := fun h => by have := hwd.2 (he.1 h); simp_all
      have hfn : f ≠ 0 := fun h => by have := hwd.2 (hf.1 h); simp_all
      refine LS.vv rfl rfl (by decide) (Val.cast (v := .bool true) (Val.pickT rfl hg2 rfl) (by first | rfl | (exfalso; omega) | (refine congrArg Value.bool (decide_eq_true ?_); omega))) ?_
      refine LS.vv rfl rfl (by decide) (Val.assign rfl) ?_
      refine LS.nil ?_
      refine W.ret ?_
      refine thenP_ret ?_
      refine ret1 (by first | exact .inl rfl | exact .inr rfl) rfl ?_
      first | exact ⟨rfl, hB⟩ | (exfalso; omega)
    ·
      first | (have hg2p := of_decide_eq_false hg2) | skip
      refine LS.s rfl rfl rfl hg2 (by decide) ?_
      refine LS.s rfl rfl rfl hg2 (by decide) ?_
      have hen : e ≠ 0 := fun h => by have := hwd.2 (he.1 h); simp_all
      have hfn : f ≠ 0 := fun h => by have := hwd.2 (hf.1 h); simp_all
      refine LS.vv rfl rfl (by decide) (Val.cast (v := .bool true) (Val.pickF rfl hg2 rfl) (by first | rfl | (exfalso; omega) | (refine congrArg Value.bool (decide_eq_true ?_); omega))) ?_
      refine LS.vv rfl rfl (by decide) (Val.assign rfl) ?_
      refine LS.nil ?_
      refine W.ret ?_
      refine thenP_ret ?_
      refine ret1 (by first | exact .inl rfl | exact .inr rfl) rfl ?_
      first | exact ⟨rfl, hB⟩ | (exfalso; omega)
  ·
    have hok := hwd.1 (by simp_all)
    have he0 := he.2 hok
    have hf0 := hf.2 hok
    obtain ⟨T, hdp, ha⟩ := hea he0
    obtain ⟨l, hl, hx⟩ := hop hf0
    have hr2 : Rd w0 p (nv (zs.map Int.toNat)) := by rw [← iv_toNat (fun z h => (hok.2 z h).1)]; exact hr
    have hwn := okW_nat hok.2
    have hwl : (zs.map Int.toNat).length = zs.length := by rw [List.length_map]
    have hws8 : (zs.map Int.toNat).length ≤ 8 := by rw [hwl]; exact hok.1
    clear hea hop
    have hlow := hdp.low hl hwl hok.1
    rw [← ha, ← hx] at hlow
    have hbd := cost_bound _ l hwn (hl.l8 hws8)
    rw [← hx] at hbd
    have hup := hdp.gm hl hwl hok.1
    rw [← ha, ← hx] at hup
    refine W.skip ?_
    refine thenP_normal ?_
    refine W.seqR ?_
    refine LS.vv rfl rfl (by decide) (Val.cast (v := .int .i64 ((0 : Nat) : Int)) (Val.assign rfl) rfl) ?_
    refine LS.nil ?_
    refine W.seq ?_
    refine W.seqR ?_
    refine LS.vv rfl rfl (by decide) (Val.move rfl) ?_
    refine LS.vv rfl rfl (by decide) (Val.len Try.underlying22 rfl) ?_
    refine LS.vv rfl rfl (by decide) (Val.cast (v := .int .i64 ((0 : Nat) : Int)) (Val.move rfl) rfl) ?_
    refine LS.nil ?_
    refine W.block ?_
    refine W.loop (α := Nat) (fun k => [(7, .int .i64 ((((zs.map Int.toNat).take k).sum : Nat) : Int)), (31, .int .i64 (k : Int))]) [(3, _), (4, _), (5, _), (6, _), (29, _), (30, _)] (fun k w => (k ≤ zs.length) ∧ Mem w w0.heap.size [] ∧ Below w0.heap.size w0 w) (fun k => zs.length - k) (0) (Sub.cons rfl (Sub.cons rfl (Sub.nil _))) (Sub.cons rfl (Sub.cons rfl (Sub.cons rfl (Sub.cons rfl (Sub.cons rfl (Sub.cons rfl (Sub.nil _))))))) ?_ ?_
    · exact ⟨Nat.zero_le _, hM, hB⟩
    rintro k w4 ⟨hk, hM, hB⟩
    try simp only at hM
    simp only [List.cons_append, List.nil_append]
    refine W.seqR ?_
    refine LS.vv rfl rfl (by decide) (Val.lss rfl rfl) ?_
    refine LS.nil ?_
    refine W.seq ?_
    first | refine W.condD rfl (fun hc3 => ?_) (fun hc3 => ?_) | refine W.cond rfl (fun hc3 => ?_) (fun hc3 => ?_)
    ·
      have hzk := hok.2 (gz zs k) (by rw [gz_lt (show k < zs.length by omega)]; exact List.getElem_mem _)
      have hcap := sum_cap (k := k) hwn hok.1
      refine W.skip ?_
      refine thenP_normal ?_
      refine W.seq ?_
      refine W.block ?_
      refine W.seqR ?_
      refine LS.vv rfl rfl (by decide) (Val.index1 Try.underlying22 elem2 rfl rfl (by omega) ((hr.below hB)) (iv_lt (by omega))) ?_
      refine LS.m rfl (Step.load rfl rfl (by decide) flat2 rfl ((hr.below hB)) (iv_at (by omega)) ?_)
      refine LS.vv rfl rfl (by decide) (Val.assign rfl) ?_
      refine LS.nil ?_
      refine W.reg ?_
      refine LS.vv rfl rfl (by decide) (Val.move rfl) ?_
      refine LS.vv rfl rfl (by decide) (Val.move rfl) ?_
      first | refine LS.vv rfl rfl (by decide) (Val.addN rfl rfl (by omega)) ?_ | refine LS.vv rfl rfl (by decide) (Val.add64 rfl rfl (by omega)) ?_
      refine LS.vv rfl rfl (by decide) (Val.assign rfl) ?_
      refine LS.nil ?_
      refine inBlk_normal ?_
      refine thenP_normal ?_
      refine W.reg ?_
      first | refine LS.vv rfl rfl (by decide) (Val.addN (j := 1) rfl rfl (by omega)) ?_ | refine LS.vv rfl rfl (by decide) (Val.add64 rfl rfl (by omega)) ?_
      refine LS.vv rfl rfl (by decide) (Val.move rfl) ?_
      refine LS.nil ?_
      refine thenP_normal ?_
      have hts := take_sum (zs := zs) (k := k) (by omega) hzk.1
      refine ⟨k + 1, ?_, ?_, ⟨by omega, hM, hB⟩, by omega⟩
      · exact Sub.cons' rfl (by rw [hts]) (Sub.cons rfl (Sub.nil _))
      · repeat (first | exact Sub.nil _ | refine Sub.cons rfl ?_)
    ·
      obtain rfl : k = zs.length := by omega
      have hcap := sum_cap (k := zs.length) hwn hok.1
      have htk : (zs.map Int.toNat).take zs.length = zs.map Int.toNat := List.take_of_length_le (by omega)
      rw [← htk] at hup
      refine W.exit ?_
      refine thenP_exit ?_
      refine thenP_exit ?_
      refine inBlk_exit ?_
      refine thenP_normal ?_
      refine W.seqR ?_
      refine LS.vv rfl rfl (by decide) (Val.move rfl) ?_
      refine LS.vv rfl rfl (by decide) (Val.eql rfl rfl) ?_
      refine LS.vv rfl rfl (by decide) (Val.move rfl) ?_
      refine LS.split 2 rfl (fun hg4 => ?_) (fun hg4 => ?_)
      ·
        first | (have hg4p := of_decide_eq_true hg4) | skip
        refine LS.vg rfl rfl rfl hg4 (by decide) (Val.move rfl) ?_
        refine LS.vg rfl rfl rfl hg4 (by decide) (Val.eql rfl rfl) ?_
        refine LS.vv rfl rfl (by decide) (Val.cast (v := .bool true) (Val.pickT rfl hg4 rfl) (by first | rfl | (exfalso; omega) | (refine congrArg Value.bool (decide_eq_true ?_); omega))) ?_
        refine LS.vv rfl rfl (by decide) (Val.move rfl) ?_
        refine LS.vg rfl rfl rfl rfl (by decide) (Val.move rfl) ?_
        refine LS.vg rfl rfl rfl rfl (by decide) (Val.move rfl) ?_
        refine LS.vg rfl rfl rfl rfl (by decide) (Val.geq rfl rfl) ?_
        refine LS.vv rfl rfl (by decide) (Val.cast (v := .bool true) (Val.pickT rfl rfl rfl) (by first | rfl | (exfalso; omega) | (refine congrArg Value.bool (decide_eq_true ?_); omega))) ?_
        refine LS.vv rfl rfl (by decide) (Val.move rfl) ?_
        refine LS.vg rfl rfl rfl rfl (by decide) (Val.move rfl) ?_
        refine LS.vg rfl rfl rfl rfl (by decide) (Val.move rfl) ?_
        refine LS.vg rfl rfl rfl rfl (by decide) (Val.move rfl) ?_
        first | refine LS.vg rfl rfl rfl rfl (by decide) (Val.addN rfl rfl (by omega)) ?_ | refine LS.vg rfl rfl rfl rfl (by decide) (Val.add64 rfl rfl (by omega)) ?_
        refine LS.vg rfl rfl rfl rfl (by decide) (Val.leq rfl rfl) ?_
        refine LS.vv rfl rfl (by decide) (Val.cast (v := .bool true) (Val.pickT rfl rfl rfl) (by first | rfl | (exfalso; omega) | (refine congrArg Value.bool (decide_eq_true ?_); omega))) ?_
        refine LS.vv rfl rfl (by decide) (Val.assign rfl) ?_
        refine LS.nil ?_
        refine W.ret ?_
        refine ret1 (by first | exact .inl rfl | exact .inr rfl) rfl ?_
        first | exact ⟨rfl, hB⟩ | (exfalso; omega)
      ·
        first | (have hg4p := of_decide_eq_false hg4) | skip
        refine LS.s rfl rfl rfl hg4 (by decide) ?_
        refine LS.s rfl rfl rfl hg4 (by decide) ?_
        refine LS.vv rfl rfl (by decide) (Val.cast (v := .bool true) (Val.pickF rfl hg4 rfl) (by first | rfl | (exfalso; omega) | (refine congrArg Value.bool (decide_eq_true ?_); omega))) ?_
        refine LS.vv rfl rfl (by decide) (Val.move rfl) ?_
        refine LS.vg rfl rfl rfl rfl (by decide) (Val.move rfl) ?_
        refine LS.vg rfl rfl rfl rfl (by decide) (Val.move rfl) ?_
        refine LS.vg rfl rfl rfl rfl (by decide) (Val.geq rfl rfl) ?_
        refine LS.vv rfl rfl (by decide) (Val.cast (v := .bool true) (Val.pickT rfl rfl rfl) (by first | rfl | (exfalso; omega) | (refine congrArg Value.bool (decide_eq_true ?_); omega))) ?_
        refine LS.vv rfl rfl (by decide) (Val.move rfl) ?_
        refine LS.vg rfl rfl rfl rfl (by decide) (Val.move rfl) ?_
        refine LS.vg rfl rfl rfl rfl (by decide) (Val.move rfl) ?_
        refine LS.vg rfl rfl rfl rfl (by decide) (Val.move rfl) ?_
        first | refine LS.vg rfl rfl rfl rfl (by decide) (Val.addN rfl rfl (by omega)) ?_ | refine LS.vg rfl rfl rfl rfl (by decide) (Val.add64 rfl rfl (by omega)) ?_
        refine LS.vg rfl rfl rfl rfl (by decide) (Val.leq rfl rfl) ?_
        refine LS.vv rfl rfl (by decide) (Val.cast (v := .bool true) (Val.pickT rfl rfl rfl) (by first | rfl | (exfalso; omega) | (refine congrArg Value.bool (decide_eq_true ?_); omega))) ?_
        refine LS.vv rfl rfl (by decide) (Val.assign rfl) ?_
        refine LS.nil ?_
        refine W.ret ?_
        refine ret1 (by first | exact .inl rfl | exact .inr rfl) rfl ?_
        first | exact ⟨rfl, hB⟩ | (exfalso; omega)

theorem sorted_any (zs : List Int) (p : Option Addr) (c m : Nat) (w0 : World) (hr : Rd w0 p (iv zs)) (hm : zs.length = m) (hmc : m ≤ c) :
    CallsV Try.prog 5 #[.slice p m c] w0 (fun v w => v = .bool true ∧ Below w0.heap.size w0 w) := by
  refine enter1 Try.func5 rfl Try.ntmps5 (by simp) rfl ?_
  have hB := Below.refl w0.heap.size w0
  simp only [argLoc]
  have hM := Mem.nil w0 w0.heap.size
  subst hm
  refine W.seqR ?_
  refine LS.vv rfl rfl (by decide) (Val.assign rfl) ?_
  refine LS.nil ?_
  refine W.seqR ?_
  refine LS.vv rfl rfl (by decide) (Val.move rfl) ?_
  refine LS.m rfl (Step.call body10 rfl rfl (by decide) rfl (CallsV.mono (acost_any zs _ _ _ _ (hr.below hB) rfl hmc) ?_))
  rintro _ w1 ⟨e, a, rfl, he, hea, hb1⟩
  replace hM := hM.below hb1
  replace hB := hB.trans (hb1.mono hB.size)
  refine LS.vv rfl rfl (by decide) (Val.move rfl) ?_
  refine LS.vv rfl rfl (by decide) (Val.extract rfl rfl) ?_
  refine LS.vv rfl rfl (by decide) (Val.extract rfl rfl) ?_
  refine LS.vv rfl rfl (by decide) (Val.assign rfl) ?_
  refine LS.vv rfl rfl (by decide) (Val.assign rfl) ?_
  refine LS.nil ?_
  refine W.seqR ?_
  refine LS.vv rfl rfl (by decide) (Val.move rfl) ?_
  refine LS.m rfl (Step.call body17 rfl rfl (by decide) rfl (CallsV.mono (cost_any zs _ _ _ _ (hr.below hB) rfl) ?_))
  rintro _ w2 ⟨f, x, rfl, hf, hop, hb2⟩
  replace hM := hM.below hb2
  replace hB := hB.trans (hb2.mono hB.size)
  refine LS.vv rfl rfl (by decide) (Val.move rfl) ?_
  refine LS.vv rfl rfl (by decide) (Val.extract rfl rfl) ?_
  refine LS.vv rfl rfl (by decide) (Val.extract rfl rfl) ?_
  refine LS.vv rfl rfl (by decide) (Val.assign rfl) ?_
  refine LS.vv rfl rfl (by decide) (Val.assign rfl) ?_
  refine LS.nil ?_
  refine W.seq ?_
  refine W.seqR ?_
  refine LS.vv rfl rfl (by decide) (Val.move rfl) ?_
  refine LS.m rfl (Step.call body11 rfl rfl (by decide) rfl (CallsV.mono (weighed_any zs _ _ _ _ (hr.below hB) rfl) ?_))
  rintro _ w3 ⟨b, rfl, hwd, hb3⟩
  replace hM := hM.below hb3
  replace hB := hB.trans (hb3.mono hB.size)
  refine LS.vv rfl rfl (by decide) (Val.not rfl) ?_
  refine LS.nil ?_
  first | refine W.condD rfl (fun hc1 => ?_) (fun hc1 => ?_) | refine W.cond rfl (fun hc1 => ?_) (fun hc1 => ?_)
  ·
    refine W.seqR ?_
    refine LS.vv rfl rfl (by decide) (Val.move rfl) ?_
    refine LS.vv rfl rfl (by decide) (Val.neq rfl rfl) ?_
    refine LS.vv rfl rfl (by decide) (Val.move rfl) ?_
    refine LS.split 2 rfl (fun hg2 => ?_) (fun hg2 => ?_)
    ·
      first | (have hg2p := of_decide_eq_true hg2) | skip
      refine LS.vg rfl rfl rfl hg2 (by decide) (Val.move rfl) ?_
      refine LS.vg rfl rfl rfl hg2 (by decide) (Val.neq rfl rfl) ?_
      have hen : e ≠ 0 := fun h => by have := hwd.2 (he.1 h); simp_all
      have hfn : f ≠ 0 := fun h => by have := hwd.2 (hf.1 h); simp_all
      refine LS.vv rfl rfl (by decide) (Val.cast (v := .bool true) (Val.pickT rfl hg2 rfl) (by first | rfl | (exfalso; omega) | (refine congrArg Value.bool (decide_eq_true ?_); omega))) ?_
      refine LS.vv rfl rfl (by decide) (Val.assign rfl) ?_
      refine LS.nil ?_
      refine W.ret ?_
      refine thenP_ret ?_
      refine ret1 (by first | exact .inl rfl | exact .inr rfl) rfl ?_
      first | exact ⟨rfl, hB⟩ | (exfalso; omega)
    ·
      first | (have hg2p := of_decide_eq_false hg2) | skip
      refine LS.s rfl rfl rfl hg2 (by decide) ?_
      refine LS.s rfl rfl rfl hg2 (by decide) ?_
      have hen : e ≠ 0 := fun h => by have := hwd.2 (he.1 h); simp_all
      have hfn : f ≠ 0 := fun h => by have := hwd.2 (hf.1 h); simp_all
      refine LS.vv rfl rfl (by decide) (Val.cast (v := .bool true) (Val.pickF rfl hg2 rfl) (by first | rfl | (exfalso; omega) | (refine congrArg Value.bool (decide_eq_true ?_); omega))) ?_
      refine LS.vv rfl rfl (by decide) (Val.assign rfl) ?_
      refine LS.nil ?_
      refine W.ret ?_
      refine thenP_ret ?_
      refine ret1 (by first | exact .inl rfl | exact .inr rfl) rfl ?_
      first | exact ⟨rfl, hB⟩ | (exfalso; omega)
  ·
    have hok := hwd.1 (by simp_all)
    have he0 := he.2 hok
    have hf0 := hf.2 hok
    obtain ⟨T, hdp, ha⟩ := hea he0
    obtain ⟨l, hl, hx⟩ := hop hf0
    have hr2 : Rd w0 p (nv (zs.map Int.toNat)) := by rw [← iv_toNat (fun z h => (hok.2 z h).1)]; exact hr
    have hwn := okW_nat hok.2
    have hwl : (zs.map Int.toNat).length = zs.length := by rw [List.length_map]
    have hws8 : (zs.map Int.toNat).length ≤ 8 := by rw [hwl]; exact hok.1
    clear hea hop
    have hlow := hdp.low hl hwl hok.1
    rw [← ha, ← hx] at hlow
    have hbd := cost_bound _ l hwn (hl.l8 hws8)
    rw [← hx] at hbd
    have hso : (∀ a, a + 1 < zs.length → gz zs a ≤ gz zs (a + 1)) → a = x := fun h => by rw [ha, hx]; exact hdp.sorted hl hwl hok.1 (adj_nat (fun z hz => (hok.2 z hz).1) h)
    have hfi : 2 ≤ zs.length → a = 0 → gz zs 0 = 0 := fun h1 h2 => by have h3 := hdp.first h1 (by omega); rw [gn_toNat (by omega)] at h3; have h4 := hok.2 (gz zs 0) (by rw [gz_lt (show 0 < zs.length by omega)]; exact List.getElem_mem _); omega
    refine W.skip ?_
    refine thenP_normal ?_
    refine W.seqR ?_
    refine LS.vv rfl rfl (by decide) (Val.assign rfl) ?_
    refine LS.nil ?_
    refine W.seq ?_
    refine W.seqR ?_
    refine LS.vv rfl rfl (by decide) (Val.cast (v := .int .i64 ((1 : Nat) : Int)) (Val.assign rfl) rfl) ?_
    refine LS.nil ?_
    refine W.block ?_
    refine W.loop (α := Nat) (fun i => [(7, .bool (upsB zs i)), (8, .int .i64 (i : Int))]) [(0, _), (3, _), (4, _), (5, _), (6, _)] (fun i w => (1 ≤ i ∧ (i ≤ zs.length ∨ i = 1)) ∧ Mem w w0.heap.size [] ∧ Below w0.heap.size w0 w) (fun i => zs.length - i) (1) (Sub.cons' rfl (congrArg Value.bool (upsB_one zs).symm) (Sub.cons rfl (Sub.nil _))) (Sub.cons rfl (Sub.cons rfl (Sub.cons rfl (Sub.cons rfl (Sub.cons rfl (Sub.nil _)))))) ?_ ?_
    · exact ⟨⟨Nat.le_refl _, .inr rfl⟩, hM, hB⟩
    rintro i w4 ⟨⟨hi1, hi⟩, hM, hB⟩
    try simp only at hM
    simp only [List.cons_append, List.nil_append]
    refine W.seq ?_
    refine W.seqR ?_
    refine LS.vv rfl rfl (by decide) (Val.move rfl) ?_
    refine LS.vv rfl rfl (by decide) (Val.move rfl) ?_
    refine LS.vv rfl rfl (by decide) (Val.len Try.underlying22 rfl) ?_
    refine LS.vv rfl rfl (by decide) (Val.lss rfl rfl) ?_
    refine LS.nil ?_
    first | refine W.condD rfl (fun hc3 => ?_) (fun hc3 => ?_) | refine W.cond rfl (fun hc3 => ?_) (fun hc3 => ?_)
    ·
      refine W.skip ?_
      refine thenP_normal ?_
      refine W.seq ?_
      refine W.block ?_
      refine W.regF 14 [(0, true), (1, true), (2, true), (3, true), (4, true), (5, true), (6, true), (7, true), (8, true), (9, true), (10, true), (11, true), (12, true), (13, true)] mixed (by kernel_rfl) hB hM ?_
      replace hB := hB.drew
      replace hM := hM.drew
      refine DF.vv rfl rfl rfl (by decide) (Val.move rfl) ?_
      refine DF.vv rfl rfl rfl (by decide) (Val.move rfl) ?_
      refine DF.split 1 rfl (fun hg4 => ?_) (fun hg4 => ?_)
      ·
        first | (have hg4p := of_decide_eq_true hg4) | skip
        refine DF.vg rfl rfl rfl rfl hg4 (by decide) (Val.move rfl) ?_
        refine DF.vg rfl rfl rfl rfl hg4 (by decide) (Val.move rfl) ?_
        first | refine DF.vg rfl rfl rfl rfl hg4 (by decide) (Val.subN (j := 1) rfl rfl (by omega) (by omega)) ?_ | refine DF.vg rfl rfl rfl rfl hg4 (by decide) (Val.sub64 rfl rfl (by omega)) ?_
        refine DF.vg rfl rfl rfl rfl hg4 (by decide) (Val.index1 Try.underlying22 elem2 rfl rfl (by omega) ((hr.below hB)) (iv_lt (by omega))) ?_
        refine DF.vg rfl rfl rfl rfl hg4 (by decide) (Val.load flat2 rfl (fun _ h => (hr.below h.1)) (iv_at (by omega))) ?_
        refine DF.vg rfl rfl rfl rfl hg4 (by decide) (Val.move rfl) ?_
        refine DF.vg rfl rfl rfl rfl hg4 (by decide) (Val.move rfl) ?_
        refine DF.vg rfl rfl rfl rfl hg4 (by decide) (Val.index1 Try.underlying22 elem2 rfl rfl (by omega) ((hr.below hB)) (iv_lt (by omega))) ?_
        refine DF.vg rfl rfl rfl rfl hg4 (by decide) (Val.load flat2 rfl (fun _ h => (hr.below h.1)) (iv_at (by omega))) ?_
        refine DF.vg rfl rfl rfl rfl hg4 (by decide) (Val.leq rfl rfl) ?_
        refine DF.vv rfl rfl rfl (by decide) (Val.pickT rfl hg4 rfl) ?_
        refine DF.vv rfl rfl rfl (by decide) (Val.assign rfl) ?_
        refine DF.nil ?_
        refine inBlk_normal ?_
        refine thenP_normal ?_
        refine W.reg ?_
        refine LS.vv rfl rfl (by decide) (Val.move rfl) ?_
        first | refine LS.vv rfl rfl (by decide) (Val.addN (j := 1) rfl rfl (by omega)) ?_ | refine LS.vv rfl rfl (by decide) (Val.add64 rfl rfl (by omega)) ?_
        refine LS.vv rfl rfl (by decide) (Val.assign rfl) ?_
        refine LS.nil ?_
        refine thenP_normal ?_
        refine ⟨i + 1, ?_, ?_, ⟨⟨by omega, .inl (by omega)⟩, hM, hB⟩, by omega⟩
        · exact Sub.cons' rfl (congrArg Value.bool (by rw [upsB_succ hi1]; simp_all)) (Sub.cons rfl (Sub.nil _))
        · repeat (first | exact Sub.nil _ | refine Sub.cons rfl ?_)
      ·
        first | (have hg4p := of_decide_eq_false hg4) | skip
        refine DF.s rfl rfl rfl rfl hg4 (by decide) ?_
        refine DF.s rfl rfl rfl rfl hg4 (by decide) ?_
        refine DF.s rfl rfl rfl rfl hg4 (by decide) ?_
        refine DF.s rfl rfl rfl rfl hg4 (by decide) ?_
        refine DF.s rfl rfl rfl rfl hg4 (by decide) ?_
        refine DF.s rfl rfl rfl rfl hg4 (by decide) ?_
        refine DF.s rfl rfl rfl rfl hg4 (by decide) ?_
        refine DF.s rfl rfl rfl rfl hg4 (by decide) ?_
        refine DF.s rfl rfl rfl rfl hg4 (by decide) ?_
        refine DF.s rfl rfl rfl rfl hg4 (by decide) ?_
        refine DF.vv rfl rfl rfl (by decide) (Val.pickF rfl hg4 rfl) ?_
        refine DF.vv rfl rfl rfl (by decide) (Val.assign rfl) ?_
        refine DF.nil ?_
        refine inBlk_normal ?_
        refine thenP_normal ?_
        refine W.reg ?_
        refine LS.vv rfl rfl (by decide) (Val.move rfl) ?_
        first | refine LS.vv rfl rfl (by decide) (Val.addN (j := 1) rfl rfl (by omega)) ?_ | refine LS.vv rfl rfl (by decide) (Val.add64 rfl rfl (by omega)) ?_
        refine LS.vv rfl rfl (by decide) (Val.assign rfl) ?_
        refine LS.nil ?_
        refine thenP_normal ?_
        refine ⟨i + 1, ?_, ?_, ⟨⟨by omega, .inl (by omega)⟩, hM, hB⟩, by omega⟩
        · exact Sub.cons' rfl (congrArg Value.bool (by rw [upsB_succ hi1]; simp_all)) (Sub.cons rfl (Sub.nil _))
        · repeat (first | exact Sub.nil _ | refine Sub.cons rfl ?_)
    ·
      have hso2 : upsB zs i = true → a = x := fun h => hso fun a2 h2 => upsB_all h a2 (by omega)
      refine W.exit ?_
      refine thenP_exit ?_
      refine thenP_exit ?_
      refine inBlk_exit ?_
      refine thenP_normal ?_
      refine W.seqR ?_
      refine LS.vv rfl rfl (by decide) (Val.move rfl) ?_
      refine LS.vv rfl rfl (by decide) (Val.eql rfl rfl) ?_
      refine LS.vv rfl rfl (by decide) (Val.move rfl) ?_
      refine LS.split 2 rfl (fun hg5 => ?_) (fun hg5 => ?_)
      ·
        first | (have hg5p := of_decide_eq_true hg5) | skip
        refine LS.vg rfl rfl rfl hg5 (by decide) (Val.move rfl) ?_
        refine LS.vg rfl rfl rfl hg5 (by decide) (Val.eql rfl rfl) ?_
        refine LS.vv rfl rfl (by decide) (Val.cast (v := .bool true) (Val.pickT rfl hg5 rfl) (by first | rfl | (exfalso; omega) | (refine congrArg Value.bool (decide_eq_true ?_); omega))) ?_
        refine LS.vv rfl rfl (by decide) (Val.move rfl) ?_
        refine LS.vg rfl rfl rfl rfl (by decide) (Val.move rfl) ?_
        refine LS.vg rfl rfl rfl rfl (by decide) (Val.not rfl) ?_
        refine LS.vg rfl rfl rfl rfl (by decide) (Val.move rfl) ?_
        refine LS.split 9 rfl (fun hg6 => ?_) (fun hg6 => ?_)
        ·
          first | (have hg6p := of_decide_eq_true hg6) | skip
          refine LS.s rfl rfl rfl hg6 (by decide) ?_
          refine LS.s rfl rfl rfl hg6 (by decide) ?_
          refine LS.s rfl rfl rfl hg6 (by decide) ?_
          refine LS.vg rfl rfl rfl rfl (by decide) (Val.cast (v := .bool true) (Val.pickT rfl hg6 rfl) (by first | rfl | (exfalso; omega) | (refine congrArg Value.bool (decide_eq_true ?_); omega))) ?_
          refine LS.vv rfl rfl (by decide) (Val.cast (v := .bool true) (Val.pickT rfl rfl rfl) (by first | rfl | (exfalso; omega) | (refine congrArg Value.bool (decide_eq_true ?_); omega))) ?_
          refine LS.vv rfl rfl (by decide) (Val.move rfl) ?_
          refine LS.vg rfl rfl rfl rfl (by decide) (Val.move rfl) ?_
          refine LS.vg rfl rfl rfl rfl (by decide) (Val.len Try.underlying22 rfl) ?_
          refine LS.vg rfl rfl rfl rfl (by decide) (Val.lss rfl rfl) ?_
          refine LS.vg rfl rfl rfl rfl (by decide) (Val.move rfl) ?_
          refine LS.split 19 rfl (fun hg7 => ?_) (fun hg7 => ?_)
          ·
            first | (have hg7p := of_decide_eq_true hg7) | skip
            refine LS.s rfl rfl rfl hg7 (by decide) ?_
            refine LS.s rfl rfl rfl hg7 (by decide) ?_
            refine LS.vg rfl rfl rfl rfl (by decide) (Val.pickT rfl hg7 rfl) ?_
            refine LS.vg rfl rfl rfl rfl (by decide) (Val.move rfl) ?_
            refine LS.s rfl rfl rfl rfl (by decide) ?_
            refine LS.s rfl rfl rfl rfl (by decide) ?_
            refine LS.s rfl rfl rfl rfl (by decide) ?_
            refine LS.s rfl rfl rfl rfl (by decide) ?_
            refine LS.vg rfl rfl rfl rfl (by decide) (Val.cast (v := .bool true) (Val.pickT rfl rfl rfl) (by first | rfl | (exfalso; omega) | (refine congrArg Value.bool (decide_eq_true ?_); omega))) ?_
            refine LS.vv rfl rfl (by decide) (Val.cast (v := .bool true) (Val.pickT rfl rfl rfl) (by first | rfl | (exfalso; omega) | (refine congrArg Value.bool (decide_eq_true ?_); omega))) ?_
            refine LS.vv rfl rfl (by decide) (Val.assign rfl) ?_
            refine LS.nil ?_
            refine W.ret ?_
            refine ret1 (by first | exact .inl rfl | exact .inr rfl) rfl ?_
            first | exact ⟨rfl, hB⟩ | (exfalso; omega)
          ·
            first | (have hg7p := of_decide_eq_false hg7) | skip
            refine LS.vg rfl rfl rfl hg7 (by decide) (Val.move rfl) ?_
            refine LS.vg rfl rfl rfl hg7 (by decide) (Val.gtr rfl rfl) ?_
            refine LS.vg rfl rfl rfl rfl (by decide) (Val.pickF rfl hg7 rfl) ?_
            refine LS.vg rfl rfl rfl rfl (by decide) (Val.move rfl) ?_
            refine LS.split 23 rfl (fun hg8 => ?_) (fun hg8 => ?_)
            ·
              first | (have hg8p := of_decide_eq_true hg8) | skip
              refine LS.s rfl rfl rfl hg8 (by decide) ?_
              refine LS.s rfl rfl rfl hg8 (by decide) ?_
              refine LS.s rfl rfl rfl hg8 (by decide) ?_
              refine LS.s rfl rfl rfl hg8 (by decide) ?_
              refine LS.vg rfl rfl rfl rfl (by decide) (Val.cast (v := .bool true) (Val.pickT rfl hg8 rfl) (by first | rfl | (exfalso; omega) | (refine congrArg Value.bool (decide_eq_true ?_); omega))) ?_
              refine LS.vv rfl rfl (by decide) (Val.cast (v := .bool true) (Val.pickT rfl rfl rfl) (by first | rfl | (exfalso; omega) | (refine congrArg Value.bool (decide_eq_true ?_); omega))) ?_
              refine LS.vv rfl rfl (by decide) (Val.assign rfl) ?_
              refine LS.nil ?_
              refine W.ret ?_
              refine ret1 (by first | exact .inl rfl | exact .inr rfl) rfl ?_
              first | exact ⟨rfl, hB⟩ | (exfalso; omega)
            ·
              first | (have hg8p := of_decide_eq_false hg8) | skip
              refine LS.vg rfl rfl rfl hg8 (by decide) (Val.move rfl) ?_
              refine LS.vg rfl rfl rfl hg8 (by decide) (Val.index1 (j := 0) Try.underlying22 elem2 rfl rfl (by omega) ((hr.below hB)) (iv_lt (by omega))) ?_
              refine LS.mg rfl rfl hg8 (Step.load rfl rfl (by decide) flat2 rfl ((hr.below hB)) (iv_at (by omega)) ?_)
              refine LS.vg rfl rfl rfl hg8 (by decide) (Val.eql rfl rfl) ?_
              refine LS.vg rfl rfl rfl rfl (by decide) (Val.cast (v := .bool true) (Val.pickF rfl hg8 rfl) (by first | rfl | (exfalso; omega) | (refine congrArg Value.bool (decide_eq_true ?_); omega))) ?_
              refine LS.vv rfl rfl (by decide) (Val.cast (v := .bool true) (Val.pickT rfl rfl rfl) (by first | rfl | (exfalso; omega) | (refine congrArg Value.bool (decide_eq_true ?_); omega))) ?_
              refine LS.vv rfl rfl (by decide) (Val.assign rfl) ?_
              refine LS.nil ?_
              refine W.ret ?_
              refine ret1 (by first | exact .inl rfl | exact .inr rfl) rfl ?_
              first | exact ⟨rfl, hB⟩ | (exfalso; omega)
        ·
          first | (have hg6p := of_decide_eq_false hg6) | skip
          refine LS.vg rfl rfl rfl hg6 (by decide) (Val.move rfl) ?_
          refine LS.vg rfl rfl rfl hg6 (by decide) (Val.move rfl) ?_
          have hax : a = x := hso2 (by simpa using (by assumption : (!upsB zs i) = false))
          refine LS.vg rfl rfl rfl hg6 (by decide) (Val.eql rfl rfl) ?_
          refine LS.vg rfl rfl rfl rfl (by decide) (Val.cast (v := .bool true) (Val.pickF rfl hg6 rfl) (by first | rfl | (exfalso; omega) | (refine congrArg Value.bool (decide_eq_true ?_); omega))) ?_
          refine LS.vv rfl rfl (by decide) (Val.cast (v := .bool true) (Val.pickT rfl rfl rfl) (by first | rfl | (exfalso; omega) | (refine congrArg Value.bool (decide_eq_true ?_); omega))) ?_
          refine LS.vv rfl rfl (by decide) (Val.move rfl) ?_
          refine LS.vg rfl rfl rfl rfl (by decide) (Val.move rfl) ?_
          refine LS.vg rfl rfl rfl rfl (by decide) (Val.len Try.underlying22 rfl) ?_
          refine LS.vg rfl rfl rfl rfl (by decide) (Val.lss rfl rfl) ?_
          refine LS.vg rfl rfl rfl rfl (by decide) (Val.move rfl) ?_
          refine LS.split 19 rfl (fun hg9 => ?_) (fun hg9 => ?_)
          ·
            first | (have hg9p := of_decide_eq_true hg9) | skip
            refine LS.s rfl rfl rfl hg9 (by decide) ?_
            refine LS.s rfl rfl rfl hg9 (by decide) ?_
            refine LS.vg rfl rfl rfl rfl (by decide) (Val.pickT rfl hg9 rfl) ?_
            refine LS.vg rfl rfl rfl rfl (by decide) (Val.move rfl) ?_
            refine LS.s rfl rfl rfl rfl (by decide) ?_
            refine LS.s rfl rfl rfl rfl (by decide) ?_
            refine LS.s rfl rfl rfl rfl (by decide) ?_
            refine LS.s rfl rfl rfl rfl (by decide) ?_
            refine LS.vg rfl rfl rfl rfl (by decide) (Val.cast (v := .bool true) (Val.pickT rfl rfl rfl) (by first | rfl | (exfalso; omega) | (refine congrArg Value.bool (decide_eq_true ?_); omega))) ?_
            refine LS.vv rfl rfl (by decide) (Val.cast (v := .bool true) (Val.pickT rfl rfl rfl) (by first | rfl | (exfalso; omega) | (refine congrArg Value.bool (decide_eq_true ?_); omega))) ?_
            refine LS.vv rfl rfl (by decide) (Val.assign rfl) ?_
            refine LS.nil ?_
            refine W.ret ?_
            refine ret1 (by first | exact .inl rfl | exact .inr rfl) rfl ?_
            first | exact ⟨rfl, hB⟩ | (exfalso; omega)
          ·
            first | (have hg9p := of_decide_eq_false hg9) | skip
            refine LS.vg rfl rfl rfl hg9 (by decide) (Val.move rfl) ?_
            refine LS.vg rfl rfl rfl hg9 (by decide) (Val.gtr rfl rfl) ?_
            refine LS.vg rfl rfl rfl rfl (by decide) (Val.pickF rfl hg9 rfl) ?_
            refine LS.vg rfl rfl rfl rfl (by decide) (Val.move rfl) ?_
            refine LS.split 23 rfl (fun hg10 => ?_) (fun hg10 => ?_)
            ·
              first | (have hg10p := of_decide_eq_true hg10) | skip
              refine LS.s rfl rfl rfl hg10 (by decide) ?_
              refine LS.s rfl rfl rfl hg10 (by decide) ?_
              refine LS.s rfl rfl rfl hg10 (by decide) ?_
              refine LS.s rfl rfl rfl hg10 (by decide) ?_
              refine LS.vg rfl rfl rfl rfl (by decide) (Val.cast (v := .bool true) (Val.pickT rfl hg10 rfl) (by first | rfl | (exfalso; omega) | (refine congrArg Value.bool (decide_eq_true ?_); omega))) ?_
              refine LS.vv rfl rfl (by decide) (Val.cast (v := .bool true) (Val.pickT rfl rfl rfl) (by first | rfl | (exfalso; omega) | (refine congrArg Value.bool (decide_eq_true ?_); omega))) ?_
              refine LS.vv rfl rfl (by decide) (Val.assign rfl) ?_
              refine LS.nil ?_
              refine W.ret ?_
              refine ret1 (by first | exact .inl rfl | exact .inr rfl) rfl ?_
              first | exact ⟨rfl, hB⟩ | (exfalso; omega)
            ·
              first | (have hg10p := of_decide_eq_false hg10) | skip
              refine LS.vg rfl rfl rfl hg10 (by decide) (Val.move rfl) ?_
              refine LS.vg rfl rfl rfl hg10 (by decide) (Val.index1 (j := 0) Try.underlying22 elem2 rfl rfl (by omega) ((hr.below hB)) (iv_lt (by omega))) ?_
              refine LS.mg rfl rfl hg10 (Step.load rfl rfl (by decide) flat2 rfl ((hr.below hB)) (iv_at (by omega)) ?_)
              refine LS.vg rfl rfl rfl hg10 (by decide) (Val.eql rfl rfl) ?_
              refine LS.vg rfl rfl rfl rfl (by decide) (Val.cast (v := .bool true) (Val.pickF rfl hg10 rfl) (by first | rfl | (exfalso; omega) | (refine congrArg Value.bool (decide_eq_true ?_); omega))) ?_
              refine LS.vv rfl rfl (by decide) (Val.cast (v := .bool true) (Val.pickT rfl rfl rfl) (by first | rfl | (exfalso; omega) | (refine congrArg Value.bool (decide_eq_true ?_); omega))) ?_
              refine LS.vv rfl rfl (by decide) (Val.assign rfl) ?_
              refine LS.nil ?_
              refine W.ret ?_
              refine ret1 (by first | exact .inl rfl | exact .inr rfl) rfl ?_
              first | exact ⟨rfl, hB⟩ | (exfalso; omega)
      ·
        first | (have hg5p := of_decide_eq_false hg5) | skip
        refine LS.s rfl rfl rfl hg5 (by decide) ?_
        refine LS.s rfl rfl rfl hg5 (by decide) ?_
        refine LS.vv rfl rfl (by decide) (Val.cast (v := .bool true) (Val.pickF rfl hg5 rfl) (by first | rfl | (exfalso; omega) | (refine congrArg Value.bool (decide_eq_true ?_); omega))) ?_
        refine LS.vv rfl rfl (by decide) (Val.move rfl) ?_
        refine LS.vg rfl rfl rfl rfl (by decide) (Val.move rfl) ?_
        refine LS.vg rfl rfl rfl rfl (by decide) (Val.not rfl) ?_
        refine LS.vg rfl rfl rfl rfl (by decide) (Val.move rfl) ?_
        refine LS.split 9 rfl (fun hg11 => ?_) (fun hg11 => ?_)
        ·
          first | (have hg11p := of_decide_eq_true hg11) | skip
          refine LS.s rfl rfl rfl hg11 (by decide) ?_
          refine LS.s rfl rfl rfl hg11 (by decide) ?_
          refine LS.s rfl rfl rfl hg11 (by decide) ?_
          refine LS.vg rfl rfl rfl rfl (by decide) (Val.cast (v := .bool true) (Val.pickT rfl hg11 rfl) (by first | rfl | (exfalso; omega) | (refine congrArg Value.bool (decide_eq_true ?_); omega))) ?_
          refine LS.vv rfl rfl (by decide) (Val.cast (v := .bool true) (Val.pickT rfl rfl rfl) (by first | rfl | (exfalso; omega) | (refine congrArg Value.bool (decide_eq_true ?_); omega))) ?_
          refine LS.vv rfl rfl (by decide) (Val.move rfl) ?_
          refine LS.vg rfl rfl rfl rfl (by decide) (Val.move rfl) ?_
          refine LS.vg rfl rfl rfl rfl (by decide) (Val.len Try.underlying22 rfl) ?_
          refine LS.vg rfl rfl rfl rfl (by decide) (Val.lss rfl rfl) ?_
          refine LS.vg rfl rfl rfl rfl (by decide) (Val.move rfl) ?_
          refine LS.split 19 rfl (fun hg12 => ?_) (fun hg12 => ?_)
          ·
            first | (have hg12p := of_decide_eq_true hg12) | skip
            refine LS.s rfl rfl rfl hg12 (by decide) ?_
            refine LS.s rfl rfl rfl hg12 (by decide) ?_
            refine LS.vg rfl rfl rfl rfl (by decide) (Val.pickT rfl hg12 rfl) ?_
            refine LS.vg rfl rfl rfl rfl (by decide) (Val.move rfl) ?_
            refine LS.s rfl rfl rfl rfl (by decide) ?_
            refine LS.s rfl rfl rfl rfl (by decide) ?_
            refine LS.s rfl rfl rfl rfl (by decide) ?_
            refine LS.s rfl rfl rfl rfl (by decide) ?_
            refine LS.vg rfl rfl rfl rfl (by decide) (Val.cast (v := .bool true) (Val.pickT rfl rfl rfl) (by first | rfl | (exfalso; omega) | (refine congrArg Value.bool (decide_eq_true ?_); omega))) ?_
            refine LS.vv rfl rfl (by decide) (Val.cast (v := .bool true) (Val.pickT rfl rfl rfl) (by first | rfl | (exfalso; omega) | (refine congrArg Value.bool (decide_eq_true ?_); omega))) ?_
            refine LS.vv rfl rfl (by decide) (Val.assign rfl) ?_
            refine LS.nil ?_
            refine W.ret ?_
            refine ret1 (by first | exact .inl rfl | exact .inr rfl) rfl ?_
            first | exact ⟨rfl, hB⟩ | (exfalso; omega)
          ·
            first | (have hg12p := of_decide_eq_false hg12) | skip
            refine LS.vg rfl rfl rfl hg12 (by decide) (Val.move rfl) ?_
            refine LS.vg rfl rfl rfl hg12 (by decide) (Val.gtr rfl rfl) ?_
            refine LS.vg rfl rfl rfl rfl (by decide) (Val.pickF rfl hg12 rfl) ?_
            refine LS.vg rfl rfl rfl rfl (by decide) (Val.move rfl) ?_
            refine LS.split 23 rfl (fun hg13 => ?_) (fun hg13 => ?_)
            ·
              first | (have hg13p := of_decide_eq_true hg13) | skip
              refine LS.s rfl rfl rfl hg13 (by decide) ?_
              refine LS.s rfl rfl rfl hg13 (by decide) ?_
              refine LS.s rfl rfl rfl hg13 (by decide) ?_
              refine LS.s rfl rfl rfl hg13 (by decide) ?_
              refine LS.vg rfl rfl rfl rfl (by decide) (Val.cast (v := .bool true) (Val.pickT rfl hg13 rfl) (by first | rfl | (exfalso; omega) | (refine congrArg Value.bool (decide_eq_true ?_); omega))) ?_
              refine LS.vv rfl rfl (by decide) (Val.cast (v := .bool true) (Val.pickT rfl rfl rfl) (by first | rfl | (exfalso; omega) | (refine congrArg Value.bool (decide_eq_true ?_); omega))) ?_
              refine LS.vv rfl rfl (by decide) (Val.assign rfl) ?_
              refine LS.nil ?_
              refine W.ret ?_
              refine ret1 (by first | exact .inl rfl | exact .inr rfl) rfl ?_
              first | exact ⟨rfl, hB⟩ | (exfalso; omega)
            ·
              first | (have hg13p := of_decide_eq_false hg13) | skip
              refine LS.vg rfl rfl rfl hg13 (by decide) (Val.move rfl) ?_
              refine LS.vg rfl rfl rfl hg13 (by decide) (Val.index1 (j := 0) Try.underlying22 elem2 rfl rfl (by omega) ((hr.below hB)) (iv_lt (by omega))) ?_
              refine LS.mg rfl rfl hg13 (Step.load rfl rfl (by decide) flat2 rfl ((hr.below hB)) (iv_at (by omega)) ?_)
              refine LS.vg rfl rfl rfl hg13 (by decide) (Val.eql rfl rfl) ?_
              refine LS.vg rfl rfl rfl rfl (by decide) (Val.cast (v := .bool true) (Val.pickF rfl hg13 rfl) (by first | rfl | (exfalso; omega) | (refine congrArg Value.bool (decide_eq_true ?_); omega))) ?_
              refine LS.vv rfl rfl (by decide) (Val.cast (v := .bool true) (Val.pickT rfl rfl rfl) (by first | rfl | (exfalso; omega) | (refine congrArg Value.bool (decide_eq_true ?_); omega))) ?_
              refine LS.vv rfl rfl (by decide) (Val.assign rfl) ?_
              refine LS.nil ?_
              refine W.ret ?_
              refine ret1 (by first | exact .inl rfl | exact .inr rfl) rfl ?_
              first | exact ⟨rfl, hB⟩ | (exfalso; omega)
        ·
          first | (have hg11p := of_decide_eq_false hg11) | skip
          refine LS.vg rfl rfl rfl hg11 (by decide) (Val.move rfl) ?_
          refine LS.vg rfl rfl rfl hg11 (by decide) (Val.move rfl) ?_
          have hax : a = x := hso2 (by simpa using (by assumption : (!upsB zs i) = false))
          refine LS.vg rfl rfl rfl hg11 (by decide) (Val.eql rfl rfl) ?_
          refine LS.vg rfl rfl rfl rfl (by decide) (Val.cast (v := .bool true) (Val.pickF rfl hg11 rfl) (by first | rfl | (exfalso; omega) | (refine congrArg Value.bool (decide_eq_true ?_); omega))) ?_
          refine LS.vv rfl rfl (by decide) (Val.cast (v := .bool true) (Val.pickT rfl rfl rfl) (by first | rfl | (exfalso; omega) | (refine congrArg Value.bool (decide_eq_true ?_); omega))) ?_
          refine LS.vv rfl rfl (by decide) (Val.move rfl) ?_
          refine LS.vg rfl rfl rfl rfl (by decide) (Val.move rfl) ?_
          refine LS.vg rfl rfl rfl rfl (by decide) (Val.len Try.underlying22 rfl) ?_
          refine LS.vg rfl rfl rfl rfl (by decide) (Val.lss rfl rfl) ?_
          refine LS.vg rfl rfl rfl rfl (by decide) (Val.move rfl) ?_
          refine LS.split 19 rfl (fun hg14 => ?_) (fun hg14 => ?_)
          ·
            first | (have hg14p := of_decide_eq_true hg14) | skip
            refine LS.s rfl rfl rfl hg14 (by decide) ?_
            refine LS.s rfl rfl rfl hg14 (by decide) ?_
            refine LS.vg rfl rfl rfl rfl (by decide) (Val.pickT rfl hg14 rfl) ?_
            refine LS.vg rfl rfl rfl rfl (by decide) (Val.move rfl) ?_
            refine LS.s rfl rfl rfl rfl (by decide) ?_
            refine LS.s rfl rfl rfl rfl (by decide) ?_
            refine LS.s rfl rfl rfl rfl (by decide) ?_
            refine LS.s rfl rfl rfl rfl (by decide) ?_
            refine LS.vg rfl rfl rfl rfl (by decide) (Val.cast (v := .bool true) (Val.pickT rfl rfl rfl) (by first | rfl | (exfalso; omega) | (refine congrArg Value.bool (decide_eq_true ?_); omega))) ?_
            refine LS.vv rfl rfl (by decide) (Val.cast (v := .bool true) (Val.pickT rfl rfl rfl) (by first | rfl | (exfalso; omega) | (refine congrArg Value.bool (decide_eq_true ?_); omega))) ?_
            refine LS.vv rfl rfl (by decide) (Val.assign rfl) ?_
            refine LS.nil ?_
            refine W.ret ?_
            refine ret1 (by first | exact .inl rfl | exact .inr rfl) rfl ?_
            first | exact ⟨rfl, hB⟩ | (exfalso; omega)
          ·
            first | (have hg14p := of_decide_eq_false hg14) | skip
            refine LS.vg rfl rfl rfl hg14 (by decide) (Val.move rfl) ?_
            refine LS.vg rfl rfl rfl hg14 (by decide) (Val.gtr rfl rfl) ?_
            refine LS.vg rfl rfl rfl rfl (by decide) (Val.pickF rfl hg14 rfl) ?_
            refine LS.vg rfl rfl rfl rfl (by decide) (Val.move rfl) ?_
            refine LS.split 23 rfl (fun hg15 => ?_) (fun hg15 => ?_)
            ·
              first | (have hg15p := of_decide_eq_true hg15) | skip
              refine LS.s rfl rfl rfl hg15 (by decide) ?_
              refine LS.s rfl rfl rfl hg15 (by decide) ?_
              refine LS.s rfl rfl rfl hg15 (by decide) ?_
              refine LS.s rfl rfl rfl hg15 (by decide) ?_
              refine LS.vg rfl rfl rfl rfl (by decide) (Val.cast (v := .bool true) (Val.pickT rfl hg15 rfl) (by first | rfl | (exfalso; omega) | (refine congrArg Value.bool (decide_eq_true ?_); omega))) ?_
              refine LS.vv rfl rfl (by decide) (Val.cast (v := .bool true) (Val.pickT rfl rfl rfl) (by first | rfl | (exfalso; omega) | (refine congrArg Value.bool (decide_eq_true ?_); omega))) ?_
              refine LS.vv rfl rfl (by decide) (Val.assign rfl) ?_
              refine LS.nil ?_
              refine W.ret ?_
              refine ret1 (by first | exact .inl rfl | exact .inr rfl) rfl ?_
              first | exact ⟨rfl, hB⟩ | (exfalso; omega)
            ·
              first | (have hg15p := of_decide_eq_false hg15) | skip
              refine LS.vg rfl rfl rfl hg15 (by decide) (Val.move rfl) ?_
              refine LS.vg rfl rfl rfl hg15 (by decide) (Val.index1 (j := 0) Try.underlying22 elem2 rfl rfl (by omega) ((hr.below hB)) (iv_lt (by omega))) ?_
              refine LS.mg rfl rfl hg15 (Step.load rfl rfl (by decide) flat2 rfl ((hr.below hB)) (iv_at (by omega)) ?_)
              refine LS.vg rfl rfl rfl hg15 (by decide) (Val.eql rfl rfl) ?_
              refine LS.vg rfl rfl rfl rfl (by decide) (Val.cast (v := .bool true) (Val.pickF rfl hg15 rfl) (by first | rfl | (exfalso; omega) | (refine congrArg Value.bool (decide_eq_true ?_); omega))) ?_
              refine LS.vv rfl rfl (by decide) (Val.cast (v := .bool true) (Val.pickT rfl rfl rfl) (by first | rfl | (exfalso; omega) | (refine congrArg Value.bool (decide_eq_true ?_); omega))) ?_
              refine LS.vv rfl rfl (by decide) (Val.assign rfl) ?_
              refine LS.nil ?_
              refine W.ret ?_
              refine ret1 (by first | exact .inl rfl | exact .inr rfl) rfl ?_
              first | exact ⟨rfl, hB⟩ | (exfalso; omega)

end Go.Proofs.Ytohflgcbpmoinaa
