/-
  The statement KraftFits.
-/
import Derived.Test.YtbfcmfjdjldepaaKraft
namespace Go.Proofs.Ytbfcmfjdjldepaa
open Go Go.RowKit V
set_option linter.unusedVariables false
set_option linter.unusedSimpArgs false

theorem lensCheck_any (zs : List Int) (p : Option Addr) (c m : Nat) (w0 : World) (hr : Rd w0 p (iv zs)) (hm : zs.length = m) :
    CallsV Try.prog 16 #[.slice p m c] w0 (fun v w => ∃ e : Nat, v = .int .i64 (e : Int) ∧ (e = 0 ↔ (zs.length ≤ 8 ∧ ∀ z ∈ zs, 0 ≤ z ∧ z ≤ 8)) ∧ Below w0.heap.size w0 w) := by
  refine enter1 Try.func16 rfl Try.ntmps16 (by simp) rfl ?_
  have hB := Below.refl w0.heap.size w0
  simp only [argLoc]
  have hM := Mem.nil w0 w0.heap.size
  subst hm
  refine W.seqR ?_
  refine LS.vv rfl rfl (by decide) (Val.cast (v := .int .i64 ((0 : Nat) : Int)) (Val.assign rfl) rfl) ?_
  refine LS.nil ?_
  refine W.seq ?_
  refine W.seqR ?_
  refine LS.vv rfl rfl (by decide) (Val.move rfl) ?_
  refine LS.vv rfl rfl (by decide) (Val.len Try.underlying28 rfl) ?_
  refine LS.vv rfl rfl (by decide) (Val.gtr rfl rfl) ?_
  refine LS.nil ?_
  first | refine W.condD rfl (fun hc1 => ?_) (fun hc1 => ?_) | refine W.cond rfl (fun hc1 => ?_) (fun hc1 => ?_)
  ·
    refine W.seqR ?_
    refine LS.vv rfl rfl (by decide) (Val.cast (v := .int .i64 ((1 : Nat) : Int)) (Val.assign rfl) rfl) ?_
    refine LS.nil ?_
    refine W.ret ?_
    refine thenP_ret ?_
    refine ret1 (by first | exact .inl rfl | exact .inr rfl) rfl ?_
    first | exact ⟨1, rfl, ⟨fun h => (by cases h), fun h => by omega⟩, hB⟩ | (have hzm : gz zs k ∈ zs := (by { rw [gz_lt (show k < zs.length by omega)]; exact List.getElem_mem _ }); exact ⟨4, rfl, ⟨fun h => (by cases h), fun h => by have := h.2 _ hzm; omega⟩, hB⟩) | (obtain rfl : k = zs.length := (by omega); exact ⟨0, rfl, ⟨fun _ => ⟨by omega, fun z hz => by obtain ⟨j, hj, rfl⟩ := List.getElem_of_mem hz; rw [← gz_lt hj]; exact hall j hj⟩, fun _ => rfl⟩, hB⟩)
  ·
    refine W.skip ?_
    refine thenP_normal ?_
    refine W.seq ?_
    refine W.seqR ?_
    refine LS.vv rfl rfl (by decide) (Val.move rfl) ?_
    refine LS.vv rfl rfl (by decide) (Val.len Try.underlying28 rfl) ?_
    refine LS.vv rfl rfl (by decide) (Val.cast (v := .int .i64 ((0 : Nat) : Int)) (Val.move rfl) rfl) ?_
    refine LS.nil ?_
    refine W.block ?_
    refine W.loop (α := Nat) (fun k => [(10, .int .i64 (k : Int))]) [(8, _), (9, _)] (fun k w => (k ≤ zs.length ∧ ∀ j, j < k → 0 ≤ gz zs j ∧ gz zs j ≤ 8) ∧ Mem w w0.heap.size [] ∧ Below w0.heap.size w0 w) (fun k => zs.length - k) (0) (Sub.cons rfl (Sub.nil _)) (Sub.cons rfl (Sub.cons rfl (Sub.nil _))) ?_ ?_
    · exact ⟨⟨Nat.zero_le _, fun j h => absurd h (by omega)⟩, hM, hB⟩
    rintro k w1 ⟨⟨hk, hall⟩, hM, hB⟩
    try simp only at hM
    simp only [List.cons_append, List.nil_append]
    refine W.seqR ?_
    refine LS.vv rfl rfl (by decide) (Val.lss rfl rfl) ?_
    refine LS.nil ?_
    refine W.seq ?_
    first | refine W.condD rfl (fun hc2 => ?_) (fun hc2 => ?_) | refine W.cond rfl (fun hc2 => ?_) (fun hc2 => ?_)
    ·
      refine W.skip ?_
      refine thenP_normal ?_
      refine W.seq ?_
      refine W.block ?_
      refine W.seqR ?_
      refine LS.vv rfl rfl (by decide) (Val.index1 Try.underlying28 elem3 rfl rfl (by omega) ((hr.below hB)) (iv_lt (by omega))) ?_
      refine LS.m rfl (Step.load rfl rfl (by decide) flat3 rfl ((hr.below hB)) (iv_at (by omega)) ?_)
      refine LS.vv rfl rfl (by decide) (Val.assign rfl) ?_
      refine LS.nil ?_
      refine W.seqR ?_
      refine LS.vv rfl rfl (by decide) (Val.move rfl) ?_
      refine LS.vv rfl rfl (by decide) (Val.lss rfl rfl) ?_
      refine LS.vv rfl rfl (by decide) (Val.move rfl) ?_
      refine LS.split 2 rfl (fun hg3 => ?_) (fun hg3 => ?_)
      ·
        first | (have hg3p := of_decide_eq_true hg3) | skip
        refine LS.s rfl rfl rfl hg3 (by decide) ?_
        refine LS.s rfl rfl rfl hg3 (by decide) ?_
        refine LS.vv rfl rfl (by decide) (Val.pickT rfl hg3 rfl) ?_
        refine LS.nil ?_
        refine W.condT rfl ?_
        refine W.seqR ?_
        refine LS.vv rfl rfl (by decide) (Val.cast (v := .int .i64 ((4 : Nat) : Int)) (Val.assign rfl) rfl) ?_
        refine LS.nil ?_
        refine W.ret ?_
        refine inBlk_ret ?_
        refine thenP_ret ?_
        refine thenP_ret ?_
        refine inBlk_ret ?_
        refine thenP_ret ?_
        refine ret1 (by first | exact .inl rfl | exact .inr rfl) rfl ?_
        first | exact ⟨1, rfl, ⟨fun h => (by cases h), fun h => by omega⟩, hB⟩ | (have hzm : gz zs k ∈ zs := (by { rw [gz_lt (show k < zs.length by omega)]; exact List.getElem_mem _ }); exact ⟨4, rfl, ⟨fun h => (by cases h), fun h => by have := h.2 _ hzm; omega⟩, hB⟩) | (obtain rfl : k = zs.length := (by omega); exact ⟨0, rfl, ⟨fun _ => ⟨by omega, fun z hz => by obtain ⟨j, hj, rfl⟩ := List.getElem_of_mem hz; rw [← gz_lt hj]; exact hall j hj⟩, fun _ => rfl⟩, hB⟩)
      ·
        first | (have hg3p := of_decide_eq_false hg3) | skip
        refine LS.vg rfl rfl rfl hg3 (by decide) (Val.move rfl) ?_
        refine LS.vg rfl rfl rfl hg3 (by decide) (Val.gtr rfl rfl) ?_
        refine LS.vv rfl rfl (by decide) (Val.pickF rfl hg3 rfl) ?_
        refine LS.nil ?_
        first | refine W.condD rfl (fun hc4 => ?_) (fun hc4 => ?_) | refine W.cond rfl (fun hc4 => ?_) (fun hc4 => ?_)
        ·
          refine W.seqR ?_
          refine LS.vv rfl rfl (by decide) (Val.cast (v := .int .i64 ((4 : Nat) : Int)) (Val.assign rfl) rfl) ?_
          refine LS.nil ?_
          refine W.ret ?_
          refine inBlk_ret ?_
          refine thenP_ret ?_
          refine thenP_ret ?_
          refine inBlk_ret ?_
          refine thenP_ret ?_
          refine ret1 (by first | exact .inl rfl | exact .inr rfl) rfl ?_
          first | exact ⟨1, rfl, ⟨fun h => (by cases h), fun h => by omega⟩, hB⟩ | (have hzm : gz zs k ∈ zs := (by { rw [gz_lt (show k < zs.length by omega)]; exact List.getElem_mem _ }); exact ⟨4, rfl, ⟨fun h => (by cases h), fun h => by have := h.2 _ hzm; omega⟩, hB⟩) | (obtain rfl : k = zs.length := (by omega); exact ⟨0, rfl, ⟨fun _ => ⟨by omega, fun z hz => by obtain ⟨j, hj, rfl⟩ := List.getElem_of_mem hz; rw [← gz_lt hj]; exact hall j hj⟩, fun _ => rfl⟩, hB⟩)
        ·
          refine W.skip ?_
          refine inBlk_normal ?_
          refine thenP_normal ?_
          refine W.reg ?_
          first | refine LS.vv rfl rfl (by decide) (Val.addN (j := 1) rfl rfl (by omega)) ?_ | refine LS.vv rfl rfl (by decide) (Val.add64 rfl rfl (by omega)) ?_
          refine LS.vv rfl rfl (by decide) (Val.move rfl) ?_
          refine LS.nil ?_
          refine thenP_normal ?_
          refine ⟨k + 1, ?_, ?_, ⟨⟨by omega, fun j hj => ?_⟩, hM, hB⟩, by omega⟩
          · exact (Sub.cons rfl (Sub.nil _))
          · repeat (first | exact Sub.nil _ | refine Sub.cons rfl ?_)
          · by_cases e : j = k
            · subst e; omega
            · exact hall j (by omega)
    ·
      refine W.exit ?_
      refine thenP_exit ?_
      refine thenP_exit ?_
      refine inBlk_exit ?_
      refine thenP_normal ?_
      refine W.seqR ?_
      refine LS.vv rfl rfl (by decide) (Val.cast (v := .int .i64 ((0 : Nat) : Int)) (Val.assign rfl) rfl) ?_
      refine LS.nil ?_
      refine W.ret ?_
      refine ret1 (by first | exact .inl rfl | exact .inr rfl) rfl ?_
      first | exact ⟨1, rfl, ⟨fun h => (by cases h), fun h => by omega⟩, hB⟩ | (have hzm : gz zs k ∈ zs := (by { rw [gz_lt (show k < zs.length by omega)]; exact List.getElem_mem _ }); exact ⟨4, rfl, ⟨fun h => (by cases h), fun h => by have := h.2 _ hzm; omega⟩, hB⟩) | (obtain rfl : k = zs.length := (by omega); exact ⟨0, rfl, ⟨fun _ => ⟨by omega, fun z hz => by obtain ⟨j, hj, rfl⟩ := List.getElem_of_mem hz; rw [← gz_lt hj]; exact hall j hj⟩, fun _ => rfl⟩, hB⟩)

theorem kraftFits_any (zs : List Int) (p : Option Addr) (c m : Nat) (w0 : World) (hr : Rd w0 p (iv zs)) (hm : zs.length = m) (hl : m ≤ 9223372036854775807) :
    CallsV Try.prog 4 #[.slice p m c] w0 (fun v w => v = .bool true ∧ Below w0.heap.size w0 w) := by
  refine enter1 Try.func4 rfl Try.ntmps4 (by simp) rfl ?_
  have hB := Below.refl w0.heap.size w0
  simp only [argLoc]
  have hM := Mem.nil w0 w0.heap.size
  subst hm
  refine W.seqR ?_
  refine LS.vv rfl rfl (by decide) (Val.assign rfl) ?_
  refine LS.nil ?_
  refine W.seqR ?_
  refine LS.vv rfl rfl (by decide) (Val.move rfl) ?_
  refine LS.m rfl (Step.call body11 rfl rfl (by decide) rfl (CallsV.mono (sum_any zs _ _ _ _ (hr.below hB) rfl hl) ?_))
  rintro _ w1 ⟨sn, e, rfl, he, hsn, hsn0, hb1⟩
  replace hM := hM.below hb1
  replace hB := hB.trans (hb1.mono hB.size)
  refine LS.vv rfl rfl (by decide) (Val.move rfl) ?_
  refine LS.vv rfl rfl (by decide) (Val.extract rfl rfl) ?_
  refine LS.vv rfl rfl (by decide) (Val.extract rfl rfl) ?_
  refine LS.vv rfl rfl (by decide) (Val.assign rfl) ?_
  refine LS.vv rfl rfl (by decide) (Val.assign rfl) ?_
  refine LS.nil ?_
  refine W.seqR ?_
  refine LS.vv rfl rfl (by decide) (Val.move rfl) ?_
  refine LS.m rfl (Step.call body15 rfl rfl (by decide) rfl (CallsV.mono (make_any zs _ _ _ _ (hr.below hB) rfl hl) ?_))
  rintro _ w2 ⟨pc, cc, C, f, rfl, hMk, hf, hC0, hC1, hb2⟩
  replace hM := hM.below hb2
  replace hB := hB.trans (hb2.mono hB.size)
  have hRC : RdW _ pc C := Mem.rdW hMk (fun o h => h)
  refine LS.vv rfl rfl (by decide) (Val.move rfl) ?_
  refine LS.vv rfl rfl (by decide) (Val.extract rfl rfl) ?_
  refine LS.vv rfl rfl (by decide) (Val.extract rfl rfl) ?_
  refine LS.vv rfl rfl (by decide) (Val.assign rfl) ?_
  refine LS.vv rfl rfl (by decide) (Val.assign rfl) ?_
  refine LS.nil ?_
  refine W.seq ?_
  refine W.seqR ?_
  refine LS.vv rfl rfl (by decide) (Val.move rfl) ?_
  refine LS.m rfl (Step.call body16 rfl rfl (by decide) rfl (CallsV.mono (lensCheck_any zs _ _ _ _ (hr.below hB) rfl) ?_))
  rintro _ w3 ⟨g, rfl, hg, hb3⟩
  replace hM := hM.below hb3
  replace hB := hB.trans (hb3.mono hB.size)
  replace hRC := hRC.below hb3
  refine LS.vv rfl rfl (by decide) (Val.neq rfl rfl) ?_
  refine LS.nil ?_
  first | refine W.condD rfl (fun hc1 => ?_) (fun hc1 => ?_) | refine W.cond rfl (fun hc1 => ?_) (fun hc1 => ?_)
  ·
    refine W.seqR ?_
    refine LS.vv rfl rfl (by decide) (Val.move rfl) ?_
    have hen : e ≠ 0 := fun h => by have := hg.2 (he.1 h); omega
    have hfn : f ≠ 0 := fun h => by have := hg.2 (hf.1 h).1; omega
    refine LS.vv rfl rfl (by decide) (Val.cast (v := .bool true) (Val.neq rfl rfl) (by refine congrArg Value.bool (decide_eq_true ?_); omega)) ?_
    refine LS.vv rfl rfl (by decide) (Val.move rfl) ?_
    refine LS.vg rfl rfl rfl rfl (by decide) (Val.move rfl) ?_
    refine LS.vg rfl rfl rfl rfl (by decide) (Val.cast (v := .bool true) (Val.neq rfl rfl) (by refine congrArg Value.bool (decide_eq_true ?_); omega)) ?_
    refine LS.vv rfl rfl (by decide) (Val.pickT rfl rfl rfl) ?_
    refine LS.vv rfl rfl (by decide) (Val.assign rfl) ?_
    refine LS.nil ?_
    refine W.ret ?_
    refine thenP_ret ?_
    refine ret1 (by first | exact .inl rfl | exact .inr rfl) rfl ?_
    first | exact ⟨rfl, hB⟩ | contradiction | (exfalso; omega)
  ·
    refine W.skip ?_
    refine thenP_normal ?_
    refine W.seq ?_
    refine W.seqR ?_
    refine LS.vv rfl rfl (by decide) (Val.move rfl) ?_
    have hok := hg.1 (by omega)
    have hsn1 := hsn (he.2 hok)
    have he00 := he.2 hok
    have hff : f = 0 ↔ sn ≤ 256 := by rw [hf, hsn1]; exact ⟨fun h => h.2, fun h => ⟨hok, h⟩⟩
    refine LS.vv rfl rfl (by decide) (Val.cast (v := .bool false) (Val.neq rfl rfl) (by refine congrArg Value.bool (decide_eq_false ?_); omega)) ?_
    refine LS.vv rfl rfl (by decide) (Val.move rfl) ?_
    refine LS.vg rfl rfl rfl rfl (by decide) (Val.move rfl) ?_
    refine LS.vg rfl rfl rfl rfl (by decide) (Val.eql rfl rfl) ?_
    refine LS.vg rfl rfl rfl rfl (by decide) (Val.move rfl) ?_
    refine LS.vg rfl rfl rfl rfl (by decide) (Val.leq rfl rfl) ?_
    refine LS.vg rfl rfl rfl rfl (by decide) (Val.cast (v := .bool false) (Val.neqB Try.underlying4 rfl rfl) (by refine congrArg Value.bool (decide_eq_false fun h => h (decide_eq_decide.2 ?_)); omega)) ?_
    refine LS.vv rfl rfl (by decide) (Val.pickF rfl rfl rfl) ?_
    refine LS.nil ?_
    refine W.condF rfl ?_
    refine W.skip ?_
    refine thenP_normal ?_
    refine W.seq ?_
    refine W.seqR ?_
    refine LS.vv rfl rfl (by decide) (Val.move rfl) ?_
    refine LS.vv rfl rfl (by decide) (Val.neq rfl rfl) ?_
    refine LS.nil ?_
    first | refine W.condD rfl (fun hc2 => ?_) (fun hc2 => ?_) | refine W.cond rfl (fun hc2 => ?_) (fun hc2 => ?_)
    ·
      refine W.seqR ?_
      refine LS.vv rfl rfl (by decide) (Val.move rfl) ?_
      refine LS.vv rfl rfl (by decide) (Val.len Try.underlying22 rfl) ?_
      obtain rfl := hC0 (by omega)
      refine LS.vv rfl rfl (by decide) (Val.cast (v := .bool true) (Val.eql rfl rfl) (by rfl)) ?_
      refine LS.vv rfl rfl (by decide) (Val.assign rfl) ?_
      refine LS.nil ?_
      refine W.ret ?_
      refine thenP_ret ?_
      refine ret1 (by first | exact .inl rfl | exact .inr rfl) rfl ?_
      first | exact ⟨rfl, hB⟩ | contradiction | (exfalso; omega)
    ·
      refine W.skip ?_
      refine thenP_normal ?_
      refine W.seqR ?_
      refine LS.vv rfl rfl (by decide) (Val.move rfl) ?_
      obtain ⟨hcl, hfree, hlens⟩ := hC1 (by omega)
      have hl8 : ∀ i, i < C.length → (gW C i).l.length ≤ 8 := fun i hi => by rw [hlens i hi, gn_toNat (by omega), gz_lt (by omega)]; have := hok.2 _ (List.getElem_mem (show i < zs.length by omega)); omega
      have hcod : Coded (codeOf C) := (coded_iff C).2 ⟨by omega, hl8⟩
      refine LS.m rfl (Step.call body10 rfl rfl (by decide) rfl (CallsV.mono (prefix_any C _ _ _ _ hRC rfl) ?_))
      rintro _ w4 ⟨is, e2, rfl, he2, hif, hb4⟩
      replace hM := hM.below hb4
      replace hB := hB.trans (hb4.mono hB.size)
      replace hRC := hRC.below hb4
      have he20 := he2.2 hcod
      obtain rfl : is = true := (hif he20).2 hfree
      refine LS.vv rfl rfl (by decide) (Val.move rfl) ?_
      refine LS.vv rfl rfl (by decide) (Val.extract rfl rfl) ?_
      refine LS.vv rfl rfl (by decide) (Val.extract rfl rfl) ?_
      refine LS.vv rfl rfl (by decide) (Val.assign rfl) ?_
      refine LS.vv rfl rfl (by decide) (Val.assign rfl) ?_
      refine LS.nil ?_
      refine W.seqR ?_
      refine LS.vv rfl rfl (by decide) (Val.move rfl) ?_
      refine LS.vv rfl rfl (by decide) (Val.cast (v := .bool true) (Val.eql rfl rfl) (by refine congrArg Value.bool (decide_eq_true ?_); omega)) ?_
      refine LS.vv rfl rfl (by decide) (Val.move rfl) ?_
      refine LS.vg rfl rfl rfl rfl (by decide) (Val.move rfl) ?_
      refine LS.vv rfl rfl (by decide) (Val.pickT rfl rfl rfl) ?_
      refine LS.vv rfl rfl (by decide) (Val.move rfl) ?_
      refine LS.split 5 rfl (fun hg3 => ?_) (fun hg3 => ?_)
      ·
        first | (have hg3p := of_decide_eq_true hg3) | skip
        refine LS.vg rfl rfl rfl hg3 (by decide) (Val.move rfl) ?_
        refine LS.mg rfl rfl hg3 (Step.call body12 rfl rfl (by decide) rfl (CallsV.mono (lens_any C _ _ _ _ hRC rfl (by omega)) ?_))
        rintro _ w5 ⟨pl, cl, rfl, hOl, hb5⟩
        replace hM := hM.below hb5
        replace hB := hB.trans (hb5.mono hB.size)
        have hle : lensTo (codeOf C) C.length = zs.map Int.toNat := by { refine List.ext_getElem (by rw [lensTo_len, List.length_map, hcl]) fun i h1 h2 => ?_; rw [lensTo_len] at h1; have h3 := lensTo_gn (codeOf C) (k := i) (n := C.length) h1; rw [gn_lt (by rw [lensTo_len]; exact h1), codeOf_gw, hlens i h1, gn_lt h2] at h3; exact h3 }
        have hRl := hOl.rd
        rw [hle, ← iv_toNat (fun z h => (hok.2 z h).1)] at hRl
        refine LS.vg rfl rfl rfl hg3 (by decide) (Val.move rfl) ?_
        refine LS.mg rfl rfl hg3 (Step.call body17 rfl rfl (by decide) rfl (CallsV.mono (intsEqN zs zs _ _ _ _ _ _ _ hRl (hr.below hB) hcl.symm rfl (by omega)) ?_))
        rintro _ w6 ⟨rfl, hb6⟩
        replace hM := hM.below hb6
        replace hB := hB.trans (hb6.mono hB.size)
        rw [show decide (zs = zs) = true from decide_eq_true rfl]
        refine LS.vv rfl rfl (by decide) (Val.pickT rfl hg3 rfl) ?_
        refine LS.vv rfl rfl (by decide) (Val.assign rfl) ?_
        refine LS.nil ?_
        refine W.ret ?_
        refine ret1 (by first | exact .inl rfl | exact .inr rfl) rfl ?_
        first | exact ⟨rfl, hB⟩ | contradiction | (exfalso; omega)
      ·
        first | (have hg3p := of_decide_eq_false hg3) | skip
        refine LS.s rfl rfl rfl hg3 (by decide) ?_
        refine LS.s rfl rfl rfl hg3 (by decide) ?_
        refine LS.s rfl rfl rfl hg3 (by decide) ?_
        refine LS.s rfl rfl rfl hg3 (by decide) ?_
        refine LS.vv rfl rfl (by decide) (Val.pickF rfl hg3 rfl) ?_
        refine LS.vv rfl rfl (by decide) (Val.assign rfl) ?_
        refine LS.nil ?_
        refine W.ret ?_
        refine ret1 (by first | exact .inl rfl | exact .inr rfl) rfl ?_
        first | exact ⟨rfl, hB⟩ | contradiction | (exfalso; omega)

end Go.Proofs.Ytbfcmfjdjldepaa
