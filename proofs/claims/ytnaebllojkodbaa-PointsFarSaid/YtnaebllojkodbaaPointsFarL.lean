/-
  The statement PointsFar.
-/
import Derived.Test.YtnaebllojkodbaaPoints
namespace Go.Proofs.Ytnaebllojkodbaa
open Go Go.RowKit V
set_option linter.unusedVariables false
set_option linter.unusedSimpArgs false

theorem pointsFar_any (n : Int) (a b : List Int) (p q : Option Addr) (c d m k : Nat) (w0 : World) (hr1 : Rd w0 p (iv a)) (hr2 : Rd w0 q (iv b)) (hm : a.length = m) (hk : b.length = k) (hl1 : m * 8 ≤ 140737488351232) (hl2 : k * 8 ≤ 140737488351232) :
    CallsV Try.prog 7 #[.int .i64 n, .slice p m c, .slice q k d] w0 (fun v w => v = .bool true ∧ Below w0.heap.size w0 w) := by
  refine enter1 Try.func7 rfl Try.ntmps7 (by simp) rfl ?_
  have hB := Below.refl w0.heap.size w0
  simp only [argLoc, Nat.zero_add, Nat.reduceAdd]
  have hM := Mem.nil w0 w0.heap.size
  subst hm
  subst hk
  refine W.seqR ?_
  refine LS.vv rfl rfl (by decide) (Val.assign rfl) ?_
  refine LS.nil ?_
  refine W.seqR ?_
  refine LS.vv rfl rfl (by decide) (Val.move rfl) ?_
  refine LS.vv rfl rfl (by decide) (Val.move rfl) ?_
  refine LS.m rfl (Step.call body18 rfl rfl (by decide) rfl (CallsV.mono (Put_any a _ _ _ _ (hr1.below hB) rfl n hl1) ?_))
  rintro _ w1 ⟨p1, c1, L1, e1, rfl, he1, hL1, hz1, xs, hxl, hxe, hOx, hb1⟩
  replace hM := hM.add hB.size hb1 hOx
  replace hB := hB.trans (hb1.mono hB.size)
  refine LS.vv rfl rfl (by decide) (Val.move rfl) ?_
  refine LS.vv rfl rfl (by decide) (Val.extract rfl rfl) ?_
  refine LS.vv rfl rfl (by decide) (Val.extract rfl rfl) ?_
  refine LS.vv rfl rfl (by decide) (Val.assign rfl) ?_
  refine LS.vv rfl rfl (by decide) (Val.assign rfl) ?_
  refine LS.nil ?_
  refine W.seqR ?_
  refine LS.vv rfl rfl (by decide) (Val.move rfl) ?_
  refine LS.vv rfl rfl (by decide) (Val.move rfl) ?_
  refine LS.m rfl (Step.call body18 rfl rfl (by decide) rfl (CallsV.mono (Put_any b _ _ _ _ (hr2.below hB) rfl n hl2) ?_))
  rintro _ w2 ⟨p2, c2, L2, e2, rfl, he2, hL2, hz2, ys, hyl, hye, hOy, hb2⟩
  replace hM := hM.add hB.size hb2 hOy
  replace hB := hB.trans (hb2.mono hB.size)
  refine LS.vv rfl rfl (by decide) (Val.move rfl) ?_
  refine LS.vv rfl rfl (by decide) (Val.extract rfl rfl) ?_
  refine LS.vv rfl rfl (by decide) (Val.extract rfl rfl) ?_
  refine LS.vv rfl rfl (by decide) (Val.assign rfl) ?_
  refine LS.vv rfl rfl (by decide) (Val.assign rfl) ?_
  refine LS.nil ?_
  refine W.seq ?_
  refine W.seqR ?_
  refine LS.vv rfl rfl (by decide) (Val.move rfl) ?_
  refine LS.vv rfl rfl (by decide) (Val.neq rfl rfl) ?_
  refine LS.vv rfl rfl (by decide) (Val.move rfl) ?_
  refine LS.split 2 rfl (fun hg1 => ?_) (fun hg1 => ?_)
  ·
    first | (have hg1p := of_decide_eq_true hg1) | skip
    refine LS.s rfl rfl rfl hg1 (by decide) ?_
    refine LS.s rfl rfl rfl hg1 (by decide) ?_
    refine LS.vv rfl rfl (by decide) (Val.pickT rfl hg1 rfl) ?_
    refine LS.vv rfl rfl (by decide) (Val.move rfl) ?_
    refine LS.s rfl rfl rfl rfl (by decide) ?_
    refine LS.s rfl rfl rfl rfl (by decide) ?_
    refine LS.s rfl rfl rfl rfl (by decide) ?_
    refine LS.s rfl rfl rfl rfl (by decide) ?_
    refine LS.s rfl rfl rfl rfl (by decide) ?_
    refine LS.vv rfl rfl (by decide) (Val.pickT rfl rfl rfl) ?_
    refine LS.nil ?_
    refine W.condT rfl ?_
    refine W.seqR ?_
    refine LS.vv rfl rfl (by decide) (Val.move rfl) ?_
    refine LS.vv rfl rfl (by decide) (Val.eql rfl rfl) ?_
    refine LS.vv rfl rfl (by decide) (Val.move rfl) ?_
    refine LS.split 2 rfl (fun hg2 => ?_) (fun hg2 => ?_)
    ·
      first | (have hg2p := of_decide_eq_true hg2) | skip
      refine LS.s rfl rfl rfl hg2 (by decide) ?_
      refine LS.s rfl rfl rfl hg2 (by decide) ?_
      refine LS.s rfl rfl rfl hg2 (by decide) ?_
      refine LS.vv rfl rfl (by decide) (Val.pickT rfl hg2 rfl) ?_
      refine LS.vv rfl rfl (by decide) (Val.move rfl) ?_
      refine LS.vg rfl rfl rfl rfl (by decide) (Val.move rfl) ?_
      refine LS.vg rfl rfl rfl rfl (by decide) (Val.eql rfl rfl) ?_
      refine LS.vg rfl rfl rfl rfl (by decide) (Val.move rfl) ?_
      refine LS.split 10 rfl (fun hg3 => ?_) (fun hg3 => ?_)
      ·
        first | (have hg3p := of_decide_eq_true hg3) | skip
        refine LS.s rfl rfl rfl hg3 (by decide) ?_
        refine LS.s rfl rfl rfl hg3 (by decide) ?_
        refine LS.s rfl rfl rfl hg3 (by decide) ?_
        refine LS.vg rfl rfl rfl rfl (by decide) (Val.pickT rfl hg3 rfl) ?_
        refine LS.vv rfl rfl (by decide) (Val.pickT rfl rfl rfl) ?_
        refine LS.vv rfl rfl (by decide) (Val.assign rfl) ?_
        refine LS.nil ?_
        refine W.ret ?_
        refine thenP_ret ?_
        refine ret1 (by first | exact .inl rfl | exact .inr rfl) rfl ?_
        first
          | exact ⟨rfl, hB⟩
          | (exfalso; first | omega | (have := hz1 (by omega); omega) | (have := hz2 (by omega); omega))
          | exact ⟨congrArg Value.bool (decide_eq_true (by have := hz2 (by omega); omega)), hB⟩
          | (by_cases hab : a = b
             · have hxy : ci xs = ci ys := by rw [hxe, hye, hab]
               first
                 | exact ⟨congrArg Value.bool (decide_eq_true hxy), hB⟩
                 | exact absurd hxy (of_decide_eq_false (by assumption))
                 | exact absurd hab (of_decide_eq_false (by assumption))
                 | (exfalso; simp_all; done)
             · have hf := far (a := a.map Int.toNat) (b := b.map Int.toNat) (n := L1) (by simp only [List.length_map]; omega) (by omega) (okF_iff_small oka).1 (okF_iff_small okb).1 (by rw [List.length_map]; omega) (fun h => hab (toNat_inj oka okb h))
               rw [← hxe, ← hye, List.length_map] at hf
               first
                 | exact ⟨congrArg Value.bool (decide_eq_true (by omega)), hB⟩
                 | exact absurd (of_decide_eq_true (by assumption)) hab
                 | (exfalso; simp_all; done))
      ·
        first | (have hg3p := of_decide_eq_false hg3) | skip
        refine LS.vg rfl rfl rfl hg3 (by decide) (Val.move rfl) ?_
        refine LS.vg rfl rfl rfl hg3 (by decide) (Val.len Try.underlying27 rfl) ?_
        refine LS.vg rfl rfl rfl hg3 (by decide) (Val.eql rfl rfl) ?_
        refine LS.vg rfl rfl rfl rfl (by decide) (Val.pickF rfl hg3 rfl) ?_
        refine LS.vv rfl rfl (by decide) (Val.pickT rfl rfl rfl) ?_
        refine LS.vv rfl rfl (by decide) (Val.assign rfl) ?_
        refine LS.nil ?_
        refine W.ret ?_
        refine thenP_ret ?_
        refine ret1 (by first | exact .inl rfl | exact .inr rfl) rfl ?_
        first
          | exact ⟨rfl, hB⟩
          | (exfalso; first | omega | (have := hz1 (by omega); omega) | (have := hz2 (by omega); omega))
          | exact ⟨congrArg Value.bool (decide_eq_true (by have := hz2 (by omega); omega)), hB⟩
          | (by_cases hab : a = b
             · have hxy : ci xs = ci ys := by rw [hxe, hye, hab]
               first
                 | exact ⟨congrArg Value.bool (decide_eq_true hxy), hB⟩
                 | exact absurd hxy (of_decide_eq_false (by assumption))
                 | exact absurd hab (of_decide_eq_false (by assumption))
                 | (exfalso; simp_all; done)
             · have hf := far (a := a.map Int.toNat) (b := b.map Int.toNat) (n := L1) (by simp only [List.length_map]; omega) (by omega) (okF_iff_small oka).1 (okF_iff_small okb).1 (by rw [List.length_map]; omega) (fun h => hab (toNat_inj oka okb h))
               rw [← hxe, ← hye, List.length_map] at hf
               first
                 | exact ⟨congrArg Value.bool (decide_eq_true (by omega)), hB⟩
                 | exact absurd (of_decide_eq_true (by assumption)) hab
                 | (exfalso; simp_all; done))
    ·
      first | (have hg2p := of_decide_eq_false hg2) | skip
      refine LS.vg rfl rfl rfl hg2 (by decide) (Val.move rfl) ?_
      refine LS.vg rfl rfl rfl hg2 (by decide) (Val.len Try.underlying27 rfl) ?_
      refine LS.vg rfl rfl rfl hg2 (by decide) (Val.eql rfl rfl) ?_
      refine LS.vv rfl rfl (by decide) (Val.pickF rfl hg2 rfl) ?_
      refine LS.vv rfl rfl (by decide) (Val.move rfl) ?_
      refine LS.split 7 rfl (fun hg4 => ?_) (fun hg4 => ?_)
      ·
        first | (have hg4p := of_decide_eq_true hg4) | skip
        refine LS.vg rfl rfl rfl hg4 (by decide) (Val.move rfl) ?_
        refine LS.vg rfl rfl rfl hg4 (by decide) (Val.eql rfl rfl) ?_
        refine LS.vg rfl rfl rfl hg4 (by decide) (Val.move rfl) ?_
        refine LS.split 10 rfl (fun hg5 => ?_) (fun hg5 => ?_)
        ·
          first | (have hg5p := of_decide_eq_true hg5) | skip
          refine LS.s rfl rfl rfl hg5 (by decide) ?_
          refine LS.s rfl rfl rfl hg5 (by decide) ?_
          refine LS.s rfl rfl rfl hg5 (by decide) ?_
          refine LS.vg rfl rfl rfl hg4 (by decide) (Val.pickT rfl hg5 rfl) ?_
          refine LS.vv rfl rfl (by decide) (Val.pickT rfl hg4 rfl) ?_
          refine LS.vv rfl rfl (by decide) (Val.assign rfl) ?_
          refine LS.nil ?_
          refine W.ret ?_
          refine thenP_ret ?_
          refine ret1 (by first | exact .inl rfl | exact .inr rfl) rfl ?_
          first
            | exact ⟨rfl, hB⟩
            | (exfalso; first | omega | (have := hz1 (by omega); omega) | (have := hz2 (by omega); omega))
            | exact ⟨congrArg Value.bool (decide_eq_true (by have := hz2 (by omega); omega)), hB⟩
            | (by_cases hab : a = b
               · have hxy : ci xs = ci ys := by rw [hxe, hye, hab]
                 first
                   | exact ⟨congrArg Value.bool (decide_eq_true hxy), hB⟩
                   | exact absurd hxy (of_decide_eq_false (by assumption))
                   | exact absurd hab (of_decide_eq_false (by assumption))
                   | (exfalso; simp_all; done)
               · have hf := far (a := a.map Int.toNat) (b := b.map Int.toNat) (n := L1) (by simp only [List.length_map]; omega) (by omega) (okF_iff_small oka).1 (okF_iff_small okb).1 (by rw [List.length_map]; omega) (fun h => hab (toNat_inj oka okb h))
                 rw [← hxe, ← hye, List.length_map] at hf
                 first
                   | exact ⟨congrArg Value.bool (decide_eq_true (by omega)), hB⟩
                   | exact absurd (of_decide_eq_true (by assumption)) hab
                   | (exfalso; simp_all; done))
        ·
          first | (have hg5p := of_decide_eq_false hg5) | skip
          refine LS.vg rfl rfl rfl hg5 (by decide) (Val.move rfl) ?_
          refine LS.vg rfl rfl rfl hg5 (by decide) (Val.len Try.underlying27 rfl) ?_
          refine LS.vg rfl rfl rfl hg5 (by decide) (Val.eql rfl rfl) ?_
          refine LS.vg rfl rfl rfl hg4 (by decide) (Val.pickF rfl hg5 rfl) ?_
          refine LS.vv rfl rfl (by decide) (Val.pickT rfl hg4 rfl) ?_
          refine LS.vv rfl rfl (by decide) (Val.assign rfl) ?_
          refine LS.nil ?_
          refine W.ret ?_
          refine thenP_ret ?_
          refine ret1 (by first | exact .inl rfl | exact .inr rfl) rfl ?_
          first
            | exact ⟨rfl, hB⟩
            | (exfalso; first | omega | (have := hz1 (by omega); omega) | (have := hz2 (by omega); omega))
            | exact ⟨congrArg Value.bool (decide_eq_true (by have := hz2 (by omega); omega)), hB⟩
            | (by_cases hab : a = b
               · have hxy : ci xs = ci ys := by rw [hxe, hye, hab]
                 first
                   | exact ⟨congrArg Value.bool (decide_eq_true hxy), hB⟩
                   | exact absurd hxy (of_decide_eq_false (by assumption))
                   | exact absurd hab (of_decide_eq_false (by assumption))
                   | (exfalso; simp_all; done)
               · have hf := far (a := a.map Int.toNat) (b := b.map Int.toNat) (n := L1) (by simp only [List.length_map]; omega) (by omega) (okF_iff_small oka).1 (okF_iff_small okb).1 (by rw [List.length_map]; omega) (fun h => hab (toNat_inj oka okb h))
                 rw [← hxe, ← hye, List.length_map] at hf
                 first
                   | exact ⟨congrArg Value.bool (decide_eq_true (by omega)), hB⟩
                   | exact absurd (of_decide_eq_true (by assumption)) hab
                   | (exfalso; simp_all; done))
      ·
        first | (have hg4p := of_decide_eq_false hg4) | skip
        refine LS.s rfl rfl rfl hg4 (by decide) ?_
        refine LS.s rfl rfl rfl hg4 (by decide) ?_
        refine LS.s rfl rfl rfl hg4 (by decide) ?_
        refine LS.skipU rfl rfl rfl (by decide) ?_
        refine LS.skipU rfl rfl rfl (by decide) ?_
        refine LS.skipU rfl rfl rfl (by decide) ?_
        refine LS.s rfl rfl rfl hg4 (by decide) ?_
        refine LS.vv rfl rfl (by decide) (Val.pickF rfl hg4 rfl) ?_
        refine LS.vv rfl rfl (by decide) (Val.assign rfl) ?_
        refine LS.nil ?_
        refine W.ret ?_
        refine thenP_ret ?_
        refine ret1 (by first | exact .inl rfl | exact .inr rfl) rfl ?_
        first
          | exact ⟨rfl, hB⟩
          | (exfalso; first | omega | (have := hz1 (by omega); omega) | (have := hz2 (by omega); omega))
          | exact ⟨congrArg Value.bool (decide_eq_true (by have := hz2 (by omega); omega)), hB⟩
          | (by_cases hab : a = b
             · have hxy : ci xs = ci ys := by rw [hxe, hye, hab]
               first
                 | exact ⟨congrArg Value.bool (decide_eq_true hxy), hB⟩
                 | exact absurd hxy (of_decide_eq_false (by assumption))
                 | exact absurd hab (of_decide_eq_false (by assumption))
                 | (exfalso; simp_all; done)
             · have hf := far (a := a.map Int.toNat) (b := b.map Int.toNat) (n := L1) (by simp only [List.length_map]; omega) (by omega) (okF_iff_small oka).1 (okF_iff_small okb).1 (by rw [List.length_map]; omega) (fun h => hab (toNat_inj oka okb h))
               rw [← hxe, ← hye, List.length_map] at hf
               first
                 | exact ⟨congrArg Value.bool (decide_eq_true (by omega)), hB⟩
                 | exact absurd (of_decide_eq_true (by assumption)) hab
                 | (exfalso; simp_all; done))
  ·
    first | (have hg1p := of_decide_eq_false hg1) | skip
    refine LS.vg rfl rfl rfl hg1 (by decide) (Val.move rfl) ?_
    refine LS.vg rfl rfl rfl hg1 (by decide) (Val.neq rfl rfl) ?_
    refine LS.vv rfl rfl (by decide) (Val.pickF rfl hg1 rfl) ?_
    refine LS.vv rfl rfl (by decide) (Val.move rfl) ?_
    refine LS.split 6 rfl (fun hg6 => ?_) (fun hg6 => ?_)
    ·
      first | (have hg6p := of_decide_eq_true hg6) | skip
      refine LS.s rfl rfl rfl hg6 (by decide) ?_
      refine LS.s rfl rfl rfl hg6 (by decide) ?_
      refine LS.s rfl rfl rfl hg6 (by decide) ?_
      refine LS.s rfl rfl rfl hg6 (by decide) ?_
      refine LS.s rfl rfl rfl hg6 (by decide) ?_
      refine LS.vv rfl rfl (by decide) (Val.pickT rfl hg6 rfl) ?_
      refine LS.nil ?_
      refine W.condT rfl ?_
      refine W.seqR ?_
      refine LS.vv rfl rfl (by decide) (Val.move rfl) ?_
      refine LS.vv rfl rfl (by decide) (Val.eql rfl rfl) ?_
      refine LS.vv rfl rfl (by decide) (Val.move rfl) ?_
      refine LS.split 2 rfl (fun hg7 => ?_) (fun hg7 => ?_)
      ·
        first | (have hg7p := of_decide_eq_true hg7) | skip
        refine LS.s rfl rfl rfl hg7 (by decide) ?_
        refine LS.s rfl rfl rfl hg7 (by decide) ?_
        refine LS.s rfl rfl rfl hg7 (by decide) ?_
        refine LS.vv rfl rfl (by decide) (Val.pickT rfl hg7 rfl) ?_
        refine LS.vv rfl rfl (by decide) (Val.move rfl) ?_
        refine LS.vg rfl rfl rfl rfl (by decide) (Val.move rfl) ?_
        refine LS.vg rfl rfl rfl rfl (by decide) (Val.eql rfl rfl) ?_
        refine LS.vg rfl rfl rfl rfl (by decide) (Val.move rfl) ?_
        refine LS.split 10 rfl (fun hg8 => ?_) (fun hg8 => ?_)
        ·
          first | (have hg8p := of_decide_eq_true hg8) | skip
          refine LS.s rfl rfl rfl hg8 (by decide) ?_
          refine LS.s rfl rfl rfl hg8 (by decide) ?_
          refine LS.s rfl rfl rfl hg8 (by decide) ?_
          refine LS.vg rfl rfl rfl rfl (by decide) (Val.pickT rfl hg8 rfl) ?_
          refine LS.vv rfl rfl (by decide) (Val.pickT rfl rfl rfl) ?_
          refine LS.vv rfl rfl (by decide) (Val.assign rfl) ?_
          refine LS.nil ?_
          refine W.ret ?_
          refine thenP_ret ?_
          refine ret1 (by first | exact .inl rfl | exact .inr rfl) rfl ?_
          first
            | exact ⟨rfl, hB⟩
            | (exfalso; first | omega | (have := hz1 (by omega); omega) | (have := hz2 (by omega); omega))
            | exact ⟨congrArg Value.bool (decide_eq_true (by have := hz2 (by omega); omega)), hB⟩
            | (by_cases hab : a = b
               · have hxy : ci xs = ci ys := by rw [hxe, hye, hab]
                 first
                   | exact ⟨congrArg Value.bool (decide_eq_true hxy), hB⟩
                   | exact absurd hxy (of_decide_eq_false (by assumption))
                   | exact absurd hab (of_decide_eq_false (by assumption))
                   | (exfalso; simp_all; done)
               · have hf := far (a := a.map Int.toNat) (b := b.map Int.toNat) (n := L1) (by simp only [List.length_map]; omega) (by omega) (okF_iff_small oka).1 (okF_iff_small okb).1 (by rw [List.length_map]; omega) (fun h => hab (toNat_inj oka okb h))
                 rw [← hxe, ← hye, List.length_map] at hf
                 first
                   | exact ⟨congrArg Value.bool (decide_eq_true (by omega)), hB⟩
                   | exact absurd (of_decide_eq_true (by assumption)) hab
                   | (exfalso; simp_all; done))
        ·
          first | (have hg8p := of_decide_eq_false hg8) | skip
          refine LS.vg rfl rfl rfl hg8 (by decide) (Val.move rfl) ?_
          refine LS.vg rfl rfl rfl hg8 (by decide) (Val.len Try.underlying27 rfl) ?_
          refine LS.vg rfl rfl rfl hg8 (by decide) (Val.eql rfl rfl) ?_
          refine LS.vg rfl rfl rfl rfl (by decide) (Val.pickF rfl hg8 rfl) ?_
          refine LS.vv rfl rfl (by decide) (Val.pickT rfl rfl rfl) ?_
          refine LS.vv rfl rfl (by decide) (Val.assign rfl) ?_
          refine LS.nil ?_
          refine W.ret ?_
          refine thenP_ret ?_
          refine ret1 (by first | exact .inl rfl | exact .inr rfl) rfl ?_
          first
            | exact ⟨rfl, hB⟩
            | (exfalso; first | omega | (have := hz1 (by omega); omega) | (have := hz2 (by omega); omega))
            | exact ⟨congrArg Value.bool (decide_eq_true (by have := hz2 (by omega); omega)), hB⟩
            | (by_cases hab : a = b
               · have hxy : ci xs = ci ys := by rw [hxe, hye, hab]
                 first
                   | exact ⟨congrArg Value.bool (decide_eq_true hxy), hB⟩
                   | exact absurd hxy (of_decide_eq_false (by assumption))
                   | exact absurd hab (of_decide_eq_false (by assumption))
                   | (exfalso; simp_all; done)
               · have hf := far (a := a.map Int.toNat) (b := b.map Int.toNat) (n := L1) (by simp only [List.length_map]; omega) (by omega) (okF_iff_small oka).1 (okF_iff_small okb).1 (by rw [List.length_map]; omega) (fun h => hab (toNat_inj oka okb h))
                 rw [← hxe, ← hye, List.length_map] at hf
                 first
                   | exact ⟨congrArg Value.bool (decide_eq_true (by omega)), hB⟩
                   | exact absurd (of_decide_eq_true (by assumption)) hab
                   | (exfalso; simp_all; done))
      ·
        first | (have hg7p := of_decide_eq_false hg7) | skip
        refine LS.vg rfl rfl rfl hg7 (by decide) (Val.move rfl) ?_
        refine LS.vg rfl rfl rfl hg7 (by decide) (Val.len Try.underlying27 rfl) ?_
        refine LS.vg rfl rfl rfl hg7 (by decide) (Val.eql rfl rfl) ?_
        refine LS.vv rfl rfl (by decide) (Val.pickF rfl hg7 rfl) ?_
        refine LS.vv rfl rfl (by decide) (Val.move rfl) ?_
        refine LS.split 7 rfl (fun hg9 => ?_) (fun hg9 => ?_)
        ·
          first | (have hg9p := of_decide_eq_true hg9) | skip
          refine LS.vg rfl rfl rfl hg9 (by decide) (Val.move rfl) ?_
          refine LS.vg rfl rfl rfl hg9 (by decide) (Val.eql rfl rfl) ?_
          refine LS.vg rfl rfl rfl hg9 (by decide) (Val.move rfl) ?_
          refine LS.split 10 rfl (fun hg10 => ?_) (fun hg10 => ?_)
          ·
            first | (have hg10p := of_decide_eq_true hg10) | skip
            refine LS.s rfl rfl rfl hg10 (by decide) ?_
            refine LS.s rfl rfl rfl hg10 (by decide) ?_
            refine LS.s rfl rfl rfl hg10 (by decide) ?_
            refine LS.vg rfl rfl rfl hg9 (by decide) (Val.pickT rfl hg10 rfl) ?_
            refine LS.vv rfl rfl (by decide) (Val.pickT rfl hg9 rfl) ?_
            refine LS.vv rfl rfl (by decide) (Val.assign rfl) ?_
            refine LS.nil ?_
            refine W.ret ?_
            refine thenP_ret ?_
            refine ret1 (by first | exact .inl rfl | exact .inr rfl) rfl ?_
            first
              | exact ⟨rfl, hB⟩
              | (exfalso; first | omega | (have := hz1 (by omega); omega) | (have := hz2 (by omega); omega))
              | exact ⟨congrArg Value.bool (decide_eq_true (by have := hz2 (by omega); omega)), hB⟩
              | (by_cases hab : a = b
                 · have hxy : ci xs = ci ys := by rw [hxe, hye, hab]
                   first
                     | exact ⟨congrArg Value.bool (decide_eq_true hxy), hB⟩
                     | exact absurd hxy (of_decide_eq_false (by assumption))
                     | exact absurd hab (of_decide_eq_false (by assumption))
                     | (exfalso; simp_all; done)
                 · have hf := far (a := a.map Int.toNat) (b := b.map Int.toNat) (n := L1) (by simp only [List.length_map]; omega) (by omega) (okF_iff_small oka).1 (okF_iff_small okb).1 (by rw [List.length_map]; omega) (fun h => hab (toNat_inj oka okb h))
                   rw [← hxe, ← hye, List.length_map] at hf
                   first
                     | exact ⟨congrArg Value.bool (decide_eq_true (by omega)), hB⟩
                     | exact absurd (of_decide_eq_true (by assumption)) hab
                     | (exfalso; simp_all; done))
          ·
            first | (have hg10p := of_decide_eq_false hg10) | skip
            refine LS.vg rfl rfl rfl hg10 (by decide) (Val.move rfl) ?_
            refine LS.vg rfl rfl rfl hg10 (by decide) (Val.len Try.underlying27 rfl) ?_
            refine LS.vg rfl rfl rfl hg10 (by decide) (Val.eql rfl rfl) ?_
            refine LS.vg rfl rfl rfl hg9 (by decide) (Val.pickF rfl hg10 rfl) ?_
            refine LS.vv rfl rfl (by decide) (Val.pickT rfl hg9 rfl) ?_
            refine LS.vv rfl rfl (by decide) (Val.assign rfl) ?_
            refine LS.nil ?_
            refine W.ret ?_
            refine thenP_ret ?_
            refine ret1 (by first | exact .inl rfl | exact .inr rfl) rfl ?_
            first
              | exact ⟨rfl, hB⟩
              | (exfalso; first | omega | (have := hz1 (by omega); omega) | (have := hz2 (by omega); omega))
              | exact ⟨congrArg Value.bool (decide_eq_true (by have := hz2 (by omega); omega)), hB⟩
              | (by_cases hab : a = b
                 · have hxy : ci xs = ci ys := by rw [hxe, hye, hab]
                   first
                     | exact ⟨congrArg Value.bool (decide_eq_true hxy), hB⟩
                     | exact absurd hxy (of_decide_eq_false (by assumption))
                     | exact absurd hab (of_decide_eq_false (by assumption))
                     | (exfalso; simp_all; done)
                 · have hf := far (a := a.map Int.toNat) (b := b.map Int.toNat) (n := L1) (by simp only [List.length_map]; omega) (by omega) (okF_iff_small oka).1 (okF_iff_small okb).1 (by rw [List.length_map]; omega) (fun h => hab (toNat_inj oka okb h))
                   rw [← hxe, ← hye, List.length_map] at hf
                   first
                     | exact ⟨congrArg Value.bool (decide_eq_true (by omega)), hB⟩
                     | exact absurd (of_decide_eq_true (by assumption)) hab
                     | (exfalso; simp_all; done))
        ·
          first | (have hg9p := of_decide_eq_false hg9) | skip
          refine LS.s rfl rfl rfl hg9 (by decide) ?_
          refine LS.s rfl rfl rfl hg9 (by decide) ?_
          refine LS.s rfl rfl rfl hg9 (by decide) ?_
          refine LS.skipU rfl rfl rfl (by decide) ?_
          refine LS.skipU rfl rfl rfl (by decide) ?_
          refine LS.skipU rfl rfl rfl (by decide) ?_
          refine LS.s rfl rfl rfl hg9 (by decide) ?_
          refine LS.vv rfl rfl (by decide) (Val.pickF rfl hg9 rfl) ?_
          refine LS.vv rfl rfl (by decide) (Val.assign rfl) ?_
          refine LS.nil ?_
          refine W.ret ?_
          refine thenP_ret ?_
          refine ret1 (by first | exact .inl rfl | exact .inr rfl) rfl ?_
          first
            | exact ⟨rfl, hB⟩
            | (exfalso; first | omega | (have := hz1 (by omega); omega) | (have := hz2 (by omega); omega))
            | exact ⟨congrArg Value.bool (decide_eq_true (by have := hz2 (by omega); omega)), hB⟩
            | (by_cases hab : a = b
               · have hxy : ci xs = ci ys := by rw [hxe, hye, hab]
                 first
                   | exact ⟨congrArg Value.bool (decide_eq_true hxy), hB⟩
                   | exact absurd hxy (of_decide_eq_false (by assumption))
                   | exact absurd hab (of_decide_eq_false (by assumption))
                   | (exfalso; simp_all; done)
               · have hf := far (a := a.map Int.toNat) (b := b.map Int.toNat) (n := L1) (by simp only [List.length_map]; omega) (by omega) (okF_iff_small oka).1 (okF_iff_small okb).1 (by rw [List.length_map]; omega) (fun h => hab (toNat_inj oka okb h))
                 rw [← hxe, ← hye, List.length_map] at hf
                 first
                   | exact ⟨congrArg Value.bool (decide_eq_true (by omega)), hB⟩
                   | exact absurd (of_decide_eq_true (by assumption)) hab
                   | (exfalso; simp_all; done))
    ·
      first | (have hg6p := of_decide_eq_false hg6) | skip
      refine LS.vg rfl rfl rfl hg6 (by decide) (Val.move rfl) ?_
      refine LS.vg rfl rfl rfl hg6 (by decide) (Val.len Try.underlying27 rfl) ?_
      refine LS.vg rfl rfl rfl hg6 (by decide) (Val.move rfl) ?_
      refine LS.vg rfl rfl rfl hg6 (by decide) (Val.len Try.underlying27 rfl) ?_
      refine LS.vg rfl rfl rfl hg6 (by decide) (Val.neq rfl rfl) ?_
      refine LS.vv rfl rfl (by decide) (Val.pickF rfl hg6 rfl) ?_
      refine LS.nil ?_
      first | refine W.condD rfl (fun hc11 => ?_) (fun hc11 => ?_) | refine W.cond rfl (fun hc11 => ?_) (fun hc11 => ?_)
      ·
        refine W.seqR ?_
        refine LS.vv rfl rfl (by decide) (Val.move rfl) ?_
        refine LS.vv rfl rfl (by decide) (Val.eql rfl rfl) ?_
        refine LS.vv rfl rfl (by decide) (Val.move rfl) ?_
        refine LS.split 2 rfl (fun hg12 => ?_) (fun hg12 => ?_)
        ·
          first | (have hg12p := of_decide_eq_true hg12) | skip
          refine LS.s rfl rfl rfl hg12 (by decide) ?_
          refine LS.s rfl rfl rfl hg12 (by decide) ?_
          refine LS.s rfl rfl rfl hg12 (by decide) ?_
          refine LS.vv rfl rfl (by decide) (Val.pickT rfl hg12 rfl) ?_
          refine LS.vv rfl rfl (by decide) (Val.move rfl) ?_
          refine LS.vg rfl rfl rfl rfl (by decide) (Val.move rfl) ?_
          refine LS.vg rfl rfl rfl rfl (by decide) (Val.eql rfl rfl) ?_
          refine LS.vg rfl rfl rfl rfl (by decide) (Val.move rfl) ?_
          refine LS.split 10 rfl (fun hg13 => ?_) (fun hg13 => ?_)
          ·
            first | (have hg13p := of_decide_eq_true hg13) | skip
            refine LS.s rfl rfl rfl hg13 (by decide) ?_
            refine LS.s rfl rfl rfl hg13 (by decide) ?_
            refine LS.s rfl rfl rfl hg13 (by decide) ?_
            refine LS.vg rfl rfl rfl rfl (by decide) (Val.pickT rfl hg13 rfl) ?_
            refine LS.vv rfl rfl (by decide) (Val.pickT rfl rfl rfl) ?_
            refine LS.vv rfl rfl (by decide) (Val.assign rfl) ?_
            refine LS.nil ?_
            refine W.ret ?_
            refine thenP_ret ?_
            refine ret1 (by first | exact .inl rfl | exact .inr rfl) rfl ?_
            first
              | exact ⟨rfl, hB⟩
              | (exfalso; first | omega | (have := hz1 (by omega); omega) | (have := hz2 (by omega); omega))
              | exact ⟨congrArg Value.bool (decide_eq_true (by have := hz2 (by omega); omega)), hB⟩
              | (by_cases hab : a = b
                 · have hxy : ci xs = ci ys := by rw [hxe, hye, hab]
                   first
                     | exact ⟨congrArg Value.bool (decide_eq_true hxy), hB⟩
                     | exact absurd hxy (of_decide_eq_false (by assumption))
                     | exact absurd hab (of_decide_eq_false (by assumption))
                     | (exfalso; simp_all; done)
                 · have hf := far (a := a.map Int.toNat) (b := b.map Int.toNat) (n := L1) (by simp only [List.length_map]; omega) (by omega) (okF_iff_small oka).1 (okF_iff_small okb).1 (by rw [List.length_map]; omega) (fun h => hab (toNat_inj oka okb h))
                   rw [← hxe, ← hye, List.length_map] at hf
                   first
                     | exact ⟨congrArg Value.bool (decide_eq_true (by omega)), hB⟩
                     | exact absurd (of_decide_eq_true (by assumption)) hab
                     | (exfalso; simp_all; done))
          ·
            first | (have hg13p := of_decide_eq_false hg13) | skip
            refine LS.vg rfl rfl rfl hg13 (by decide) (Val.move rfl) ?_
            refine LS.vg rfl rfl rfl hg13 (by decide) (Val.len Try.underlying27 rfl) ?_
            refine LS.vg rfl rfl rfl hg13 (by decide) (Val.eql rfl rfl) ?_
            refine LS.vg rfl rfl rfl rfl (by decide) (Val.pickF rfl hg13 rfl) ?_
            refine LS.vv rfl rfl (by decide) (Val.pickT rfl rfl rfl) ?_
            refine LS.vv rfl rfl (by decide) (Val.assign rfl) ?_
            refine LS.nil ?_
            refine W.ret ?_
            refine thenP_ret ?_
            refine ret1 (by first | exact .inl rfl | exact .inr rfl) rfl ?_
            first
              | exact ⟨rfl, hB⟩
              | (exfalso; first | omega | (have := hz1 (by omega); omega) | (have := hz2 (by omega); omega))
              | exact ⟨congrArg Value.bool (decide_eq_true (by have := hz2 (by omega); omega)), hB⟩
              | (by_cases hab : a = b
                 · have hxy : ci xs = ci ys := by rw [hxe, hye, hab]
                   first
                     | exact ⟨congrArg Value.bool (decide_eq_true hxy), hB⟩
                     | exact absurd hxy (of_decide_eq_false (by assumption))
                     | exact absurd hab (of_decide_eq_false (by assumption))
                     | (exfalso; simp_all; done)
                 · have hf := far (a := a.map Int.toNat) (b := b.map Int.toNat) (n := L1) (by simp only [List.length_map]; omega) (by omega) (okF_iff_small oka).1 (okF_iff_small okb).1 (by rw [List.length_map]; omega) (fun h => hab (toNat_inj oka okb h))
                   rw [← hxe, ← hye, List.length_map] at hf
                   first
                     | exact ⟨congrArg Value.bool (decide_eq_true (by omega)), hB⟩
                     | exact absurd (of_decide_eq_true (by assumption)) hab
                     | (exfalso; simp_all; done))
        ·
          first | (have hg12p := of_decide_eq_false hg12) | skip
          refine LS.vg rfl rfl rfl hg12 (by decide) (Val.move rfl) ?_
          refine LS.vg rfl rfl rfl hg12 (by decide) (Val.len Try.underlying27 rfl) ?_
          refine LS.vg rfl rfl rfl hg12 (by decide) (Val.eql rfl rfl) ?_
          refine LS.vv rfl rfl (by decide) (Val.pickF rfl hg12 rfl) ?_
          refine LS.vv rfl rfl (by decide) (Val.move rfl) ?_
          refine LS.split 7 rfl (fun hg14 => ?_) (fun hg14 => ?_)
          ·
            first | (have hg14p := of_decide_eq_true hg14) | skip
            refine LS.vg rfl rfl rfl hg14 (by decide) (Val.move rfl) ?_
            refine LS.vg rfl rfl rfl hg14 (by decide) (Val.eql rfl rfl) ?_
            refine LS.vg rfl rfl rfl hg14 (by decide) (Val.move rfl) ?_
            refine LS.split 10 rfl (fun hg15 => ?_) (fun hg15 => ?_)
            ·
              first | (have hg15p := of_decide_eq_true hg15) | skip
              refine LS.s rfl rfl rfl hg15 (by decide) ?_
              refine LS.s rfl rfl rfl hg15 (by decide) ?_
              refine LS.s rfl rfl rfl hg15 (by decide) ?_
              refine LS.vg rfl rfl rfl hg14 (by decide) (Val.pickT rfl hg15 rfl) ?_
              refine LS.vv rfl rfl (by decide) (Val.pickT rfl hg14 rfl) ?_
              refine LS.vv rfl rfl (by decide) (Val.assign rfl) ?_
              refine LS.nil ?_
              refine W.ret ?_
              refine thenP_ret ?_
              refine ret1 (by first | exact .inl rfl | exact .inr rfl) rfl ?_
              first
                | exact ⟨rfl, hB⟩
                | (exfalso; first | omega | (have := hz1 (by omega); omega) | (have := hz2 (by omega); omega))
                | exact ⟨congrArg Value.bool (decide_eq_true (by have := hz2 (by omega); omega)), hB⟩
                | (by_cases hab : a = b
                   · have hxy : ci xs = ci ys := by rw [hxe, hye, hab]
                     first
                       | exact ⟨congrArg Value.bool (decide_eq_true hxy), hB⟩
                       | exact absurd hxy (of_decide_eq_false (by assumption))
                       | exact absurd hab (of_decide_eq_false (by assumption))
                       | (exfalso; simp_all; done)
                   · have hf := far (a := a.map Int.toNat) (b := b.map Int.toNat) (n := L1) (by simp only [List.length_map]; omega) (by omega) (okF_iff_small oka).1 (okF_iff_small okb).1 (by rw [List.length_map]; omega) (fun h => hab (toNat_inj oka okb h))
                     rw [← hxe, ← hye, List.length_map] at hf
                     first
                       | exact ⟨congrArg Value.bool (decide_eq_true (by omega)), hB⟩
                       | exact absurd (of_decide_eq_true (by assumption)) hab
                       | (exfalso; simp_all; done))
            ·
              first | (have hg15p := of_decide_eq_false hg15) | skip
              refine LS.vg rfl rfl rfl hg15 (by decide) (Val.move rfl) ?_
              refine LS.vg rfl rfl rfl hg15 (by decide) (Val.len Try.underlying27 rfl) ?_
              refine LS.vg rfl rfl rfl hg15 (by decide) (Val.eql rfl rfl) ?_
              refine LS.vg rfl rfl rfl hg14 (by decide) (Val.pickF rfl hg15 rfl) ?_
              refine LS.vv rfl rfl (by decide) (Val.pickT rfl hg14 rfl) ?_
              refine LS.vv rfl rfl (by decide) (Val.assign rfl) ?_
              refine LS.nil ?_
              refine W.ret ?_
              refine thenP_ret ?_
              refine ret1 (by first | exact .inl rfl | exact .inr rfl) rfl ?_
              first
                | exact ⟨rfl, hB⟩
                | (exfalso; first | omega | (have := hz1 (by omega); omega) | (have := hz2 (by omega); omega))
                | exact ⟨congrArg Value.bool (decide_eq_true (by have := hz2 (by omega); omega)), hB⟩
                | (by_cases hab : a = b
                   · have hxy : ci xs = ci ys := by rw [hxe, hye, hab]
                     first
                       | exact ⟨congrArg Value.bool (decide_eq_true hxy), hB⟩
                       | exact absurd hxy (of_decide_eq_false (by assumption))
                       | exact absurd hab (of_decide_eq_false (by assumption))
                       | (exfalso; simp_all; done)
                   · have hf := far (a := a.map Int.toNat) (b := b.map Int.toNat) (n := L1) (by simp only [List.length_map]; omega) (by omega) (okF_iff_small oka).1 (okF_iff_small okb).1 (by rw [List.length_map]; omega) (fun h => hab (toNat_inj oka okb h))
                     rw [← hxe, ← hye, List.length_map] at hf
                     first
                       | exact ⟨congrArg Value.bool (decide_eq_true (by omega)), hB⟩
                       | exact absurd (of_decide_eq_true (by assumption)) hab
                       | (exfalso; simp_all; done))
          ·
            first | (have hg14p := of_decide_eq_false hg14) | skip
            refine LS.s rfl rfl rfl hg14 (by decide) ?_
            refine LS.s rfl rfl rfl hg14 (by decide) ?_
            refine LS.s rfl rfl rfl hg14 (by decide) ?_
            refine LS.skipU rfl rfl rfl (by decide) ?_
            refine LS.skipU rfl rfl rfl (by decide) ?_
            refine LS.skipU rfl rfl rfl (by decide) ?_
            refine LS.s rfl rfl rfl hg14 (by decide) ?_
            refine LS.vv rfl rfl (by decide) (Val.pickF rfl hg14 rfl) ?_
            refine LS.vv rfl rfl (by decide) (Val.assign rfl) ?_
            refine LS.nil ?_
            refine W.ret ?_
            refine thenP_ret ?_
            refine ret1 (by first | exact .inl rfl | exact .inr rfl) rfl ?_
            first
              | exact ⟨rfl, hB⟩
              | (exfalso; first | omega | (have := hz1 (by omega); omega) | (have := hz2 (by omega); omega))
              | exact ⟨congrArg Value.bool (decide_eq_true (by have := hz2 (by omega); omega)), hB⟩
              | (by_cases hab : a = b
                 · have hxy : ci xs = ci ys := by rw [hxe, hye, hab]
                   first
                     | exact ⟨congrArg Value.bool (decide_eq_true hxy), hB⟩
                     | exact absurd hxy (of_decide_eq_false (by assumption))
                     | exact absurd hab (of_decide_eq_false (by assumption))
                     | (exfalso; simp_all; done)
                 · have hf := far (a := a.map Int.toNat) (b := b.map Int.toNat) (n := L1) (by simp only [List.length_map]; omega) (by omega) (okF_iff_small oka).1 (okF_iff_small okb).1 (by rw [List.length_map]; omega) (fun h => hab (toNat_inj oka okb h))
                   rw [← hxe, ← hye, List.length_map] at hf
                   first
                     | exact ⟨congrArg Value.bool (decide_eq_true (by omega)), hB⟩
                     | exact absurd (of_decide_eq_true (by assumption)) hab
                     | (exfalso; simp_all; done))
      ·
        obtain rfl : e1 = 0 := by omega
        obtain rfl : e2 = 0 := by omega
        obtain ⟨g1, g2, g3, g4, oka⟩ := he1.1 rfl
        obtain ⟨_, _, _, _, okb⟩ := he2.1 rfl
        have hxe := hxe rfl
        have hye := hye rfl
        have hL1 := hL1 rfl
        have hL2 := hL2 rfl
        have hLL : L2 = L1 := by omega
        rw [hLL] at hye
        refine W.skip ?_
        refine thenP_normal ?_
        refine W.seq ?_
        refine W.seqR ?_
        refine LS.vv rfl rfl (by decide) (Val.move rfl) ?_
        refine LS.vv rfl rfl (by decide) (Val.len Try.underlying27 rfl) ?_
        refine LS.vv rfl rfl (by decide) (Val.move rfl) ?_
        refine LS.vv rfl rfl (by decide) (Val.neq rfl rfl) ?_
        refine LS.vv rfl rfl (by decide) (Val.move rfl) ?_
        refine LS.split 4 rfl (fun hg16 => ?_) (fun hg16 => ?_)
        ·
          first | (have hg16p := of_decide_eq_true hg16) | skip
          refine LS.s rfl rfl rfl hg16 (by decide) ?_
          refine LS.s rfl rfl rfl hg16 (by decide) ?_
          refine LS.s rfl rfl rfl hg16 (by decide) ?_
          refine LS.s rfl rfl rfl hg16 (by decide) ?_
          refine LS.vv rfl rfl (by decide) (Val.pickT rfl hg16 rfl) ?_
          refine LS.nil ?_
          refine W.condT rfl ?_
          refine W.seqR ?_
          refine LS.vv rfl rfl (by decide) (Val.assign rfl) ?_
          refine LS.nil ?_
          refine W.ret ?_
          refine thenP_ret ?_
          refine ret1 (by first | exact .inl rfl | exact .inr rfl) rfl ?_
          first
            | exact ⟨rfl, hB⟩
            | (exfalso; first | omega | (have := hz1 (by omega); omega) | (have := hz2 (by omega); omega))
            | exact ⟨congrArg Value.bool (decide_eq_true (by have := hz2 (by omega); omega)), hB⟩
            | (by_cases hab : a = b
               · have hxy : ci xs = ci ys := by rw [hxe, hye, hab]
                 first
                   | exact ⟨congrArg Value.bool (decide_eq_true hxy), hB⟩
                   | exact absurd hxy (of_decide_eq_false (by assumption))
                   | exact absurd hab (of_decide_eq_false (by assumption))
                   | (exfalso; simp_all; done)
               · have hf := far (a := a.map Int.toNat) (b := b.map Int.toNat) (n := L1) (by simp only [List.length_map]; omega) (by omega) (okF_iff_small oka).1 (okF_iff_small okb).1 (by rw [List.length_map]; omega) (fun h => hab (toNat_inj oka okb h))
                 rw [← hxe, ← hye, List.length_map] at hf
                 first
                   | exact ⟨congrArg Value.bool (decide_eq_true (by omega)), hB⟩
                   | exact absurd (of_decide_eq_true (by assumption)) hab
                   | (exfalso; simp_all; done))
        ·
          first | (have hg16p := of_decide_eq_false hg16) | skip
          refine LS.vg rfl rfl rfl hg16 (by decide) (Val.move rfl) ?_
          refine LS.vg rfl rfl rfl hg16 (by decide) (Val.len Try.underlying27 rfl) ?_
          refine LS.vg rfl rfl rfl hg16 (by decide) (Val.move rfl) ?_
          refine LS.vg rfl rfl rfl hg16 (by decide) (Val.neq rfl rfl) ?_
          refine LS.vv rfl rfl (by decide) (Val.pickF rfl hg16 rfl) ?_
          refine LS.nil ?_
          first | refine W.condD rfl (fun hc17 => ?_) (fun hc17 => ?_) | refine W.cond rfl (fun hc17 => ?_) (fun hc17 => ?_)
          ·
            refine W.seqR ?_
            refine LS.vv rfl rfl (by decide) (Val.assign rfl) ?_
            refine LS.nil ?_
            refine W.ret ?_
            refine thenP_ret ?_
            refine ret1 (by first | exact .inl rfl | exact .inr rfl) rfl ?_
            first
              | exact ⟨rfl, hB⟩
              | (exfalso; first | omega | (have := hz1 (by omega); omega) | (have := hz2 (by omega); omega))
              | exact ⟨congrArg Value.bool (decide_eq_true (by have := hz2 (by omega); omega)), hB⟩
              | (by_cases hab : a = b
                 · have hxy : ci xs = ci ys := by rw [hxe, hye, hab]
                   first
                     | exact ⟨congrArg Value.bool (decide_eq_true hxy), hB⟩
                     | exact absurd hxy (of_decide_eq_false (by assumption))
                     | exact absurd hab (of_decide_eq_false (by assumption))
                     | (exfalso; simp_all; done)
                 · have hf := far (a := a.map Int.toNat) (b := b.map Int.toNat) (n := L1) (by simp only [List.length_map]; omega) (by omega) (okF_iff_small oka).1 (okF_iff_small okb).1 (by rw [List.length_map]; omega) (fun h => hab (toNat_inj oka okb h))
                   rw [← hxe, ← hye, List.length_map] at hf
                   first
                     | exact ⟨congrArg Value.bool (decide_eq_true (by omega)), hB⟩
                     | exact absurd (of_decide_eq_true (by assumption)) hab
                     | (exfalso; simp_all; done))
          ·
            refine W.skip ?_
            refine thenP_normal ?_
            refine W.seqR ?_
            refine LS.vv rfl rfl (by decide) (Val.move rfl) ?_
            refine LS.vv rfl rfl (by decide) (Val.move rfl) ?_
            refine LS.m rfl (Step.call body21 rfl rfl (by decide) rfl (CallsV.mono (intsEqN a b _ _ _ _ _ _ _ (hr1.below hB) (hr2.below hB) rfl rfl (by omega)) ?_))
            rintro _ w3 ⟨rfl, hb3⟩
            replace hM := hM.below hb3
            replace hB := hB.trans (hb3.mono hB.size)
            refine LS.vv rfl rfl (by decide) (Val.move rfl) ?_
            refine LS.split 3 rfl (fun hg18 => ?_) (fun hg18 => ?_)
            ·
              first | (have hg18p := of_decide_eq_true hg18) | skip
              refine LS.vg rfl rfl rfl hg18 (by decide) (Val.move rfl) ?_
              refine LS.vg rfl rfl rfl hg18 (by decide) (Val.move rfl) ?_
              refine LS.mg rfl rfl hg18 (Step.call body21 rfl rfl (by decide) rfl (CallsV.mono (intsEqN (ci xs) (ci ys) _ _ _ _ _ _ _ (by rw [← nv_ci]; exact hM.o1.rd) (by rw [← nv_ci]; exact hM.o0.rd) (by rw [ci_len, hxl]) (by rw [ci_len, hyl]) (by omega)) ?_))
              rintro _ w4 ⟨rfl, hb4⟩
              replace hM := hM.below hb4
              replace hB := hB.trans (hb4.mono hB.size)
              refine LS.vv rfl rfl (by decide) (Val.pickT rfl hg18 rfl) ?_
              refine LS.vv rfl rfl (by decide) (Val.move rfl) ?_
              refine LS.split 8 rfl (fun hg19 => ?_) (fun hg19 => ?_)
              ·
                first | (have hg19p := of_decide_eq_true hg19) | skip
                refine LS.s rfl rfl rfl hg19 (by decide) ?_
                refine LS.s rfl rfl rfl hg19 (by decide) ?_
                refine LS.s rfl rfl rfl hg19 (by decide) ?_
                refine LS.s rfl rfl rfl hg19 (by decide) ?_
                refine LS.s rfl rfl rfl hg19 (by decide) ?_
                refine LS.skipU rfl rfl rfl (by decide) ?_
                refine LS.skipU rfl rfl rfl (by decide) ?_
                refine LS.skipU rfl rfl rfl (by decide) ?_
                refine LS.skipU rfl rfl rfl (by decide) ?_
                refine LS.skipU rfl rfl rfl (by decide) ?_
                refine LS.skipU rfl rfl rfl (by decide) ?_
                refine LS.skipU rfl rfl rfl (by decide) ?_
                refine LS.skipU rfl rfl rfl (by decide) ?_
                refine LS.s rfl rfl rfl hg19 (by decide) ?_
                refine LS.vv rfl rfl (by decide) (Val.pickT rfl hg19 rfl) ?_
                refine LS.vv rfl rfl (by decide) (Val.assign rfl) ?_
                refine LS.nil ?_
                refine W.ret ?_
                refine ret1 (by first | exact .inl rfl | exact .inr rfl) rfl ?_
                first
                  | exact ⟨rfl, hB⟩
                  | (exfalso; first | omega | (have := hz1 (by omega); omega) | (have := hz2 (by omega); omega))
                  | exact ⟨congrArg Value.bool (decide_eq_true (by have := hz2 (by omega); omega)), hB⟩
                  | (by_cases hab : a = b
                     · have hxy : ci xs = ci ys := by rw [hxe, hye, hab]
                       first
                         | exact ⟨congrArg Value.bool (decide_eq_true hxy), hB⟩
                         | exact absurd hxy (of_decide_eq_false (by assumption))
                         | exact absurd hab (of_decide_eq_false (by assumption))
                         | (exfalso; simp_all; done)
                     · have hf := far (a := a.map Int.toNat) (b := b.map Int.toNat) (n := L1) (by simp only [List.length_map]; omega) (by omega) (okF_iff_small oka).1 (okF_iff_small okb).1 (by rw [List.length_map]; omega) (fun h => hab (toNat_inj oka okb h))
                       rw [← hxe, ← hye, List.length_map] at hf
                       first
                         | exact ⟨congrArg Value.bool (decide_eq_true (by omega)), hB⟩
                         | exact absurd (of_decide_eq_true (by assumption)) hab
                         | (exfalso; simp_all; done))
              ·
                first | (have hg19p := of_decide_eq_false hg19) | skip
                refine LS.vg rfl rfl rfl hg19 (by decide) (Val.move rfl) ?_
                refine LS.vg rfl rfl rfl hg19 (by decide) (Val.move rfl) ?_
                refine LS.mg rfl rfl hg19 (Step.call body21 rfl rfl (by decide) rfl (CallsV.mono (intsEqN a b _ _ _ _ _ _ _ (hr1.below hB) (hr2.below hB) rfl rfl (by omega)) ?_))
                rintro _ w5 ⟨rfl, hb5⟩
                replace hM := hM.below hb5
                replace hB := hB.trans (hb5.mono hB.size)
                refine LS.vg rfl rfl rfl hg19 (by decide) (Val.not rfl) ?_
                refine LS.vg rfl rfl rfl hg19 (by decide) (Val.move rfl) ?_
                refine LS.split 13 rfl (fun hg20 => ?_) (fun hg20 => ?_)
                ·
                  first | (have hg20p := of_decide_eq_true hg20) | skip
                  refine LS.vg rfl rfl rfl hg20 (by decide) (Val.move rfl) ?_
                  refine LS.vg rfl rfl rfl hg20 (by decide) (Val.move rfl) ?_
                  refine LS.vg rfl rfl rfl hg20 (by decide) (Val.move rfl) ?_
                  refine LS.mg rfl rfl hg20 (Step.call body22 rfl rfl (by decide) rfl (CallsV.mono (differ_any (ci xs) (ci ys) _ _ _ _ _ _ _ (by rw [← nv_ci]; exact hM.o1.rd) (by rw [← nv_ci]; exact hM.o0.rd) (by rw [ci_len, hxl]) (by rw [ci_len, hyl]) (by omega) (by omega)) ?_))
                  rintro _ w6 ⟨rfl, hb6⟩
                  replace hM := hM.below hb6
                  replace hB := hB.trans (hb6.mono hB.size)
                  have hdl := dfTo_le (ci xs) (ci ys) L1
                  first | refine LS.vg rfl rfl rfl hg20 (by decide) (Val.subN rfl rfl (by omega) (by omega)) ?_ | refine LS.vg rfl rfl rfl hg20 (by decide) (Val.sub64 rfl rfl (by omega)) ?_
                  refine LS.vg rfl rfl rfl hg20 (by decide) (Val.move rfl) ?_
                  refine LS.vg rfl rfl rfl hg20 (by decide) (Val.len Try.underlying27 rfl) ?_
                  refine LS.vg rfl rfl rfl hg20 (by decide) (Val.lss rfl rfl) ?_
                  refine LS.vg rfl rfl rfl hg19 (by decide) (Val.pickT rfl hg20 rfl) ?_
                  refine LS.vv rfl rfl (by decide) (Val.pickF rfl hg19 rfl) ?_
                  refine LS.vv rfl rfl (by decide) (Val.assign rfl) ?_
                  refine LS.nil ?_
                  refine W.ret ?_
                  refine ret1 (by first | exact .inl rfl | exact .inr rfl) rfl ?_
                  first
                    | exact ⟨rfl, hB⟩
                    | (exfalso; first | omega | (have := hz1 (by omega); omega) | (have := hz2 (by omega); omega))
                    | exact ⟨congrArg Value.bool (decide_eq_true (by have := hz2 (by omega); omega)), hB⟩
                    | (by_cases hab : a = b
                       · have hxy : ci xs = ci ys := by rw [hxe, hye, hab]
                         first
                           | exact ⟨congrArg Value.bool (decide_eq_true hxy), hB⟩
                           | exact absurd hxy (of_decide_eq_false (by assumption))
                           | exact absurd hab (of_decide_eq_false (by assumption))
                           | (exfalso; simp_all; done)
                       · have hf := far (a := a.map Int.toNat) (b := b.map Int.toNat) (n := L1) (by simp only [List.length_map]; omega) (by omega) (okF_iff_small oka).1 (okF_iff_small okb).1 (by rw [List.length_map]; omega) (fun h => hab (toNat_inj oka okb h))
                         rw [← hxe, ← hye, List.length_map] at hf
                         first
                           | exact ⟨congrArg Value.bool (decide_eq_true (by omega)), hB⟩
                           | exact absurd (of_decide_eq_true (by assumption)) hab
                           | (exfalso; simp_all; done))
                ·
                  first | (have hg20p := of_decide_eq_false hg20) | skip
                  refine LS.s rfl rfl rfl hg20 (by decide) ?_
                  refine LS.s rfl rfl rfl hg20 (by decide) ?_
                  refine LS.s rfl rfl rfl hg20 (by decide) ?_
                  refine LS.s rfl rfl rfl hg20 (by decide) ?_
                  refine LS.s rfl rfl rfl hg20 (by decide) ?_
                  refine LS.s rfl rfl rfl hg20 (by decide) ?_
                  refine LS.s rfl rfl rfl hg20 (by decide) ?_
                  refine LS.s rfl rfl rfl hg20 (by decide) ?_
                  refine LS.vg rfl rfl rfl hg19 (by decide) (Val.pickF rfl hg20 rfl) ?_
                  refine LS.vv rfl rfl (by decide) (Val.pickF rfl hg19 rfl) ?_
                  refine LS.vv rfl rfl (by decide) (Val.assign rfl) ?_
                  refine LS.nil ?_
                  refine W.ret ?_
                  refine ret1 (by first | exact .inl rfl | exact .inr rfl) rfl ?_
                  first
                    | exact ⟨rfl, hB⟩
                    | (exfalso; first | omega | (have := hz1 (by omega); omega) | (have := hz2 (by omega); omega))
                    | exact ⟨congrArg Value.bool (decide_eq_true (by have := hz2 (by omega); omega)), hB⟩
                    | (by_cases hab : a = b
                       · have hxy : ci xs = ci ys := by rw [hxe, hye, hab]
                         first
                           | exact ⟨congrArg Value.bool (decide_eq_true hxy), hB⟩
                           | exact absurd hxy (of_decide_eq_false (by assumption))
                           | exact absurd hab (of_decide_eq_false (by assumption))
                           | (exfalso; simp_all; done)
                       · have hf := far (a := a.map Int.toNat) (b := b.map Int.toNat) (n := L1) (by simp only [List.length_map]; omega) (by omega) (okF_iff_small oka).1 (okF_iff_small okb).1 (by rw [List.length_map]; omega) (fun h => hab (toNat_inj oka okb h))
                         rw [← hxe, ← hye, List.length_map] at hf
                         first
                           | exact ⟨congrArg Value.bool (decide_eq_true (by omega)), hB⟩
                           | exact absurd (of_decide_eq_true (by assumption)) hab
                           | (exfalso; simp_all; done))
            ·
              first | (have hg18p := of_decide_eq_false hg18) | skip
              refine LS.s rfl rfl rfl hg18 (by decide) ?_
              refine LS.s rfl rfl rfl hg18 (by decide) ?_
              refine LS.s rfl rfl rfl hg18 (by decide) ?_
              refine LS.vv rfl rfl (by decide) (Val.pickF rfl hg18 rfl) ?_
              refine LS.vv rfl rfl (by decide) (Val.move rfl) ?_
              refine LS.vg rfl rfl rfl rfl (by decide) (Val.move rfl) ?_
              refine LS.vg rfl rfl rfl rfl (by decide) (Val.move rfl) ?_
              refine LS.mg rfl rfl rfl (Step.call body21 rfl rfl (by decide) rfl (CallsV.mono (intsEqN a b _ _ _ _ _ _ _ (hr1.below hB) (hr2.below hB) rfl rfl (by omega)) ?_))
              rintro _ w7 ⟨rfl, hb7⟩
              replace hM := hM.below hb7
              replace hB := hB.trans (hb7.mono hB.size)
              refine LS.vg rfl rfl rfl rfl (by decide) (Val.not rfl) ?_
              refine LS.vg rfl rfl rfl rfl (by decide) (Val.move rfl) ?_
              refine LS.split 13 rfl (fun hg21 => ?_) (fun hg21 => ?_)
              ·
                first | (have hg21p := of_decide_eq_true hg21) | skip
                refine LS.vg rfl rfl rfl hg21 (by decide) (Val.move rfl) ?_
                refine LS.vg rfl rfl rfl hg21 (by decide) (Val.move rfl) ?_
                refine LS.vg rfl rfl rfl hg21 (by decide) (Val.move rfl) ?_
                refine LS.mg rfl rfl hg21 (Step.call body22 rfl rfl (by decide) rfl (CallsV.mono (differ_any (ci xs) (ci ys) _ _ _ _ _ _ _ (by rw [← nv_ci]; exact hM.o1.rd) (by rw [← nv_ci]; exact hM.o0.rd) (by rw [ci_len, hxl]) (by rw [ci_len, hyl]) (by omega) (by omega)) ?_))
                rintro _ w8 ⟨rfl, hb8⟩
                replace hM := hM.below hb8
                replace hB := hB.trans (hb8.mono hB.size)
                have hdl := dfTo_le (ci xs) (ci ys) L1
                first | refine LS.vg rfl rfl rfl hg21 (by decide) (Val.subN rfl rfl (by omega) (by omega)) ?_ | refine LS.vg rfl rfl rfl hg21 (by decide) (Val.sub64 rfl rfl (by omega)) ?_
                refine LS.vg rfl rfl rfl hg21 (by decide) (Val.move rfl) ?_
                refine LS.vg rfl rfl rfl hg21 (by decide) (Val.len Try.underlying27 rfl) ?_
                refine LS.vg rfl rfl rfl hg21 (by decide) (Val.lss rfl rfl) ?_
                refine LS.vg rfl rfl rfl rfl (by decide) (Val.pickT rfl hg21 rfl) ?_
                refine LS.vv rfl rfl (by decide) (Val.pickF rfl rfl rfl) ?_
                refine LS.vv rfl rfl (by decide) (Val.assign rfl) ?_
                refine LS.nil ?_
                refine W.ret ?_
                refine ret1 (by first | exact .inl rfl | exact .inr rfl) rfl ?_
                first
                  | exact ⟨rfl, hB⟩
                  | (exfalso; first | omega | (have := hz1 (by omega); omega) | (have := hz2 (by omega); omega))
                  | exact ⟨congrArg Value.bool (decide_eq_true (by have := hz2 (by omega); omega)), hB⟩
                  | (by_cases hab : a = b
                     · have hxy : ci xs = ci ys := by rw [hxe, hye, hab]
                       first
                         | exact ⟨congrArg Value.bool (decide_eq_true hxy), hB⟩
                         | exact absurd hxy (of_decide_eq_false (by assumption))
                         | exact absurd hab (of_decide_eq_false (by assumption))
                         | (exfalso; simp_all; done)
                     · have hf := far (a := a.map Int.toNat) (b := b.map Int.toNat) (n := L1) (by simp only [List.length_map]; omega) (by omega) (okF_iff_small oka).1 (okF_iff_small okb).1 (by rw [List.length_map]; omega) (fun h => hab (toNat_inj oka okb h))
                       rw [← hxe, ← hye, List.length_map] at hf
                       first
                         | exact ⟨congrArg Value.bool (decide_eq_true (by omega)), hB⟩
                         | exact absurd (of_decide_eq_true (by assumption)) hab
                         | (exfalso; simp_all; done))
              ·
                first | (have hg21p := of_decide_eq_false hg21) | skip
                refine LS.s rfl rfl rfl hg21 (by decide) ?_
                refine LS.s rfl rfl rfl hg21 (by decide) ?_
                refine LS.s rfl rfl rfl hg21 (by decide) ?_
                refine LS.s rfl rfl rfl hg21 (by decide) ?_
                refine LS.s rfl rfl rfl hg21 (by decide) ?_
                refine LS.s rfl rfl rfl hg21 (by decide) ?_
                refine LS.s rfl rfl rfl hg21 (by decide) ?_
                refine LS.s rfl rfl rfl hg21 (by decide) ?_
                refine LS.vg rfl rfl rfl rfl (by decide) (Val.pickF rfl hg21 rfl) ?_
                refine LS.vv rfl rfl (by decide) (Val.pickF rfl rfl rfl) ?_
                refine LS.vv rfl rfl (by decide) (Val.assign rfl) ?_
                refine LS.nil ?_
                refine W.ret ?_
                refine ret1 (by first | exact .inl rfl | exact .inr rfl) rfl ?_
                first
                  | exact ⟨rfl, hB⟩
                  | (exfalso; first | omega | (have := hz1 (by omega); omega) | (have := hz2 (by omega); omega))
                  | exact ⟨congrArg Value.bool (decide_eq_true (by have := hz2 (by omega); omega)), hB⟩
                  | (by_cases hab : a = b
                     · have hxy : ci xs = ci ys := by rw [hxe, hye, hab]
                       first
                         | exact ⟨congrArg Value.bool (decide_eq_true hxy), hB⟩
                         | exact absurd hxy (of_decide_eq_false (by assumption))
                         | exact absurd hab (of_decide_eq_false (by assumption))
                         | (exfalso; simp_all; done)
                     · have hf := far (a := a.map Int.toNat) (b := b.map Int.toNat) (n := L1) (by simp only [List.length_map]; omega) (by omega) (okF_iff_small oka).1 (okF_iff_small okb).1 (by rw [List.length_map]; omega) (fun h => hab (toNat_inj oka okb h))
                       rw [← hxe, ← hye, List.length_map] at hf
                       first
                         | exact ⟨congrArg Value.bool (decide_eq_true (by omega)), hB⟩
                         | exact absurd (of_decide_eq_true (by assumption)) hab
                         | (exfalso; simp_all; done))

end Go.Proofs.Ytnaebllojkodbaa
