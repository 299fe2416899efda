/-
  The statement UniqueTexts.
-/
import Derived.Test.YtbfcmfjdjldepaaUnique3
import Derived.Test.YtbfcmfjdjldepaaPrefix3
namespace Go.Proofs.Ytbfcmfjdjldepaa
open Go Go.RowKit V
set_option linter.unusedVariables false
set_option linter.unusedSimpArgs false

theorem uniqueTexts_any (C : List Wd) (za zb : List Int) (p q r : Option Addr) (c d d2 : Nat) (w0 : World) (hr : RdW w0 p C) (hra : Rd w0 q (iv za)) (hrb : Rd w0 r (iv zb)) (hmx : C.length ≤ 9223372036854775807) (hla : za.length ≤ 9223372036854775807) (hlb : zb.length ≤ 9223372036854775807) :
    CallsV Try.prog 9 #[.slice p C.length c, .slice q za.length d, .slice r zb.length d2] w0 (fun v w => v = .bool true ∧ Below w0.heap.size w0 w) := by
  refine enter1 Try.func9 rfl Try.ntmps9 (by simp) rfl ?_
  have hB := Below.refl w0.heap.size w0
  simp only [argLoc, Nat.zero_add, Nat.reduceAdd]
  have hM := Mem.nil w0 w0.heap.size
  have hh := hr.head
  refine W.seqR ?_
  refine LS.vv rfl rfl (by decide) (Val.assign rfl) ?_
  refine LS.nil ?_
  refine W.seqR ?_
  refine LS.vv rfl rfl (by decide) (Val.move rfl) ?_
  refine LS.m rfl (Step.call body22 rfl rfl (by decide) rfl (CallsV.mono (uniq_any C _ _ _ _ (hr.below hB) rfl) ?_))
  rintro _ w1 ⟨is, e, rfl, he, hif, hb1⟩
  replace hM := hM.below hb1
  replace hB := hB.trans (hb1.mono hB.size)
  refine LS.vv rfl rfl (by decide) (Val.move rfl) ?_
  refine LS.vv rfl rfl (by decide) (Val.extract rfl rfl) ?_
  refine LS.vv rfl rfl (by decide) (Val.extract rfl rfl) ?_
  refine LS.vv rfl rfl (by decide) (Val.assign rfl) ?_
  refine LS.vv rfl rfl (by decide) (Val.assign rfl) ?_
  refine LS.nil ?_
  refine W.seqR ?_
  refine LS.vv rfl rfl (by decide) (Val.move rfl) ?_
  refine LS.m rfl (Step.call body23 rfl rfl (by decide) rfl (CallsV.mono (twice_any C _ _ _ _ (hr.below hB) rfl) ?_))
  rintro _ w2 ⟨pa, pb, ca, cc, a, b, f, rfl, hRa, hRb, hf, hab, hal, hbl, hb2⟩
  replace hM := hM.below hb2
  replace hB := hB.trans (hb2.mono hB.size)
  refine LS.vv rfl rfl (by decide) (Val.move rfl) ?_
  refine LS.vv rfl rfl (by decide) (Val.extract rfl rfl) ?_
  refine LS.vv rfl rfl (by decide) (Val.extract rfl rfl) ?_
  refine LS.vv rfl rfl (by decide) (Val.extract rfl rfl) ?_
  refine LS.vv rfl rfl (by decide) (Val.assign rfl) ?_
  refine LS.vv rfl rfl (by decide) (Val.assign rfl) ?_
  refine LS.vv rfl rfl (by decide) (Val.assign rfl) ?_
  refine LS.nil ?_
  refine W.seq ?_
  refine W.seqR ?_
  refine LS.vv rfl rfl (by decide) (Val.move rfl) ?_
  refine LS.m rfl (Step.call body13 rfl rfl (by decide) rfl (CallsV.mono (codedB_any C _ _ _ _ (hr.below hB) rfl) ?_))
  rintro _ w3 ⟨cb, rfl, hcb, hb3⟩
  replace hM := hM.below hb3
  replace hB := hB.trans (hb3.mono hB.size)
  replace hRa := hRa.below hb3
  replace hRb := hRb.below hb3
  refine LS.vv rfl rfl (by decide) (Val.not rfl) ?_
  refine LS.nil ?_
  first | refine W.condD rfl (fun hc1 => ?_) (fun hc1 => ?_) | refine W.cond rfl (fun hc1 => ?_) (fun hc1 => ?_)
  ·
    refine W.seqR ?_
    refine LS.vv rfl rfl (by decide) (Val.move rfl) ?_
    have hnc : ¬ Coded (codeOf C) := fun h => by have := hcb.2 h; simp_all
    have he9 : e ≠ 0 := fun h => hnc (he.1 h)
    have hf9 : f ≠ 0 := fun h => hnc (hf.1 h).1
    refine LS.vv rfl rfl (by decide) (Val.cast (v := .bool true) (Val.neq rfl rfl) (by refine congrArg Value.bool (decide_eq_true ?_); first | omega | (simp; omega))) ?_
    refine LS.vv rfl rfl (by decide) (Val.move rfl) ?_
    refine LS.vg rfl rfl rfl rfl (by decide) (Val.move rfl) ?_
    refine LS.vg rfl rfl rfl rfl (by decide) (Val.cast (v := .bool true) (Val.neq rfl rfl) (by refine congrArg Value.bool (decide_eq_true ?_); first | omega | (simp; omega))) ?_
    refine LS.vv rfl rfl (by decide) (Val.pickT rfl rfl rfl) ?_
    refine LS.vv rfl rfl (by decide) (Val.assign rfl) ?_
    refine LS.nil ?_
    refine W.ret ?_
    refine thenP_ret ?_
    refine ret1 (by first | exact .inl rfl | exact .inr rfl) rfl ?_
    first | exact ⟨rfl, hB⟩ | contradiction | (exfalso; omega) | (exfalso; simp_all; done)
  ·
    refine W.skip ?_
    refine thenP_normal ?_
    refine W.seq ?_
    refine W.seqR ?_
    refine LS.vv rfl rfl (by decide) (Val.move rfl) ?_
    have hcd : Coded (codeOf C) := hcb.1 (by simp_all)
    have hc8 := ((coded_iff C).1 hcd).1
    have he0 := he.2 hcd
    have hiu := hif he0
    have hfu : f = 0 ↔ ¬ UD (codeOf C) := hf.trans ⟨fun h => h.2, fun h => ⟨hcd, h⟩⟩
    refine LS.vv rfl rfl (by decide) (Val.cast (v := .bool false) (Val.neq rfl rfl) (by first | (simp; done) | (simp; omega) | (refine congrArg Value.bool (decide_eq_false ?_); omega))) ?_
    refine LS.vv rfl rfl (by decide) (Val.move rfl) ?_
    refine LS.vg rfl rfl rfl rfl (by decide) (Val.move rfl) ?_
    refine LS.vg rfl rfl rfl rfl (by decide) (Val.move rfl) ?_
    refine LS.vg rfl rfl rfl rfl (by decide) (Val.eql rfl rfl) ?_
    refine LS.vg rfl rfl rfl rfl (by decide) (Val.cast (v := .bool false) (Val.eqlB Try.underlying4 rfl rfl) (by refine congrArg Value.bool (decide_eq_false fun h => ?_); by_cases hu : UD (codeOf C); (have h1 := hiu.2 hu; rw [h1] at h; have h2 := of_decide_eq_true h.symm; exact hfu.1 (by omega) hu); (have h3 := hfu.2 hu; rw [h3] at h; exact hu (hiu.1 (h.trans (by simp)))))) ?_
    refine LS.vv rfl rfl (by decide) (Val.pickF rfl rfl rfl) ?_
    refine LS.vv rfl rfl (by decide) (Val.move rfl) ?_
    refine LS.vg rfl rfl rfl rfl (by decide) (Val.move rfl) ?_
    refine LS.vg rfl rfl rfl rfl (by decide) (Val.eql rfl rfl) ?_
    refine LS.vg rfl rfl rfl rfl (by decide) (Val.move rfl) ?_
    refine LS.split 11 rfl (fun hg2 => ?_) (fun hg2 => ?_)
    ·
      first | (have hg2p := of_decide_eq_true hg2) | skip
      refine LS.vg rfl rfl rfl hg2 (by decide) (Val.move rfl) ?_
      refine LS.vg rfl rfl rfl hg2 (by decide) (Val.move rfl) ?_
      refine LS.mg rfl rfl hg2 (Step.call body17 rfl rfl (by decide) rfl (CallsV.mono (intsEqN (a.map fun x : Nat => (x : Int)) (b.map fun x : Nat => (x : Int)) _ _ _ _ _ _ _ (by rw [← nv_iv]; exact hRa) (by rw [← nv_iv]; exact hRb) (by rw [List.length_map]) (by rw [List.length_map]) (by omega)) ?_))
      rintro _ w4 ⟨hbe, hb4⟩
      replace hM := hM.below hb4
      replace hB := hB.trans (hb4.mono hB.size)
      rw [decide_eq_false (fun h => hab (by omega) (map_cast h))] at hbe
      subst hbe
      refine LS.vg rfl rfl rfl rfl (by decide) (Val.pickT rfl hg2 rfl) ?_
      refine LS.vv rfl rfl (by decide) (Val.pickF rfl rfl rfl) ?_
      refine LS.nil ?_
      refine W.condF rfl ?_
      refine W.skip ?_
      refine thenP_normal ?_
      refine W.seqR ?_
      refine LS.vv rfl rfl (by decide) (Val.move rfl) ?_
      refine LS.vv rfl rfl (by decide) (Val.move rfl) ?_
      refine LS.m rfl (Step.call body20 rfl rfl (by decide) rfl (CallsV.mono (write_any C za _ _ _ _ _ _ _ (hr.below hB) (hra.below hB) rfl rfl hla) ?_))
      rintro _ w5 ⟨p1, c1, L, g, rfl, hO1, hg, hg1, hg2, hb5⟩
      replace hM := hM.add hB.size hb5 hO1
      replace hB := hB.trans (hb5.mono hB.size)
      refine LS.vv rfl rfl (by decide) (Val.move rfl) ?_
      refine LS.vv rfl rfl (by decide) (Val.extract rfl rfl) ?_
      refine LS.vv rfl rfl (by decide) (Val.extract rfl rfl) ?_
      refine LS.vv rfl rfl (by decide) (Val.assign rfl) ?_
      refine LS.vv rfl rfl (by decide) (Val.assign rfl) ?_
      refine LS.nil ?_
      refine W.seqR ?_
      refine LS.vv rfl rfl (by decide) (Val.move rfl) ?_
      refine LS.vv rfl rfl (by decide) (Val.move rfl) ?_
      refine LS.m rfl (Step.call body20 rfl rfl (by decide) rfl (CallsV.mono (write_any C zb _ _ _ _ _ _ _ (hr.below hB) (hrb.below hB) rfl rfl hlb) ?_))
      rintro _ w6 ⟨p2, c2, L2, h, rfl, hO2, hh1, hh2, hh3, hb6⟩
      replace hM := hM.add hB.size hb6 hO2
      replace hB := hB.trans (hb6.mono hB.size)
      refine LS.vv rfl rfl (by decide) (Val.move rfl) ?_
      refine LS.vv rfl rfl (by decide) (Val.extract rfl rfl) ?_
      refine LS.vv rfl rfl (by decide) (Val.extract rfl rfl) ?_
      refine LS.vv rfl rfl (by decide) (Val.assign rfl) ?_
      refine LS.vv rfl rfl (by decide) (Val.assign rfl) ?_
      refine LS.nil ?_
      refine W.seqR ?_
      refine LS.vv rfl rfl (by decide) (Val.move rfl) ?_
      refine LS.vv rfl rfl (by decide) (Val.neq rfl rfl) ?_
      refine LS.vv rfl rfl (by decide) (Val.move rfl) ?_
      refine LS.split 2 rfl (fun hg3 => ?_) (fun hg3 => ?_)
      ·
        first | (have hg3p := of_decide_eq_true hg3) | skip
        refine LS.s rfl rfl rfl hg3 (by decide) ?_
        refine LS.s rfl rfl rfl hg3 (by decide) ?_
        refine LS.vv rfl rfl (by decide) (Val.pickT rfl hg3 rfl) ?_
        refine LS.vv rfl rfl (by decide) (Val.move rfl) ?_
        refine LS.s rfl rfl rfl rfl (by decide) ?_
        refine LS.s rfl rfl rfl rfl (by decide) ?_
        refine LS.vv rfl rfl (by decide) (Val.pickT rfl rfl rfl) ?_
        refine LS.vv rfl rfl (by decide) (Val.move rfl) ?_
        refine LS.s rfl rfl rfl rfl (by decide) ?_
        refine LS.s rfl rfl rfl rfl (by decide) ?_
        refine LS.s rfl rfl rfl rfl (by decide) ?_
        refine LS.s rfl rfl rfl rfl (by decide) ?_
        refine LS.vv rfl rfl (by decide) (Val.pickT rfl rfl rfl) ?_
        refine LS.vv rfl rfl (by decide) (Val.move rfl) ?_
        refine LS.s rfl rfl rfl rfl (by decide) ?_
        refine LS.s rfl rfl rfl rfl (by decide) ?_
        refine LS.s rfl rfl rfl rfl (by decide) ?_
        refine LS.vv rfl rfl (by decide) (Val.pickT rfl rfl rfl) ?_
        refine LS.vv rfl rfl (by decide) (Val.assign rfl) ?_
        refine LS.nil ?_
        refine W.ret ?_
        refine ret1 (by first | exact .inl rfl | exact .inr rfl) rfl ?_
        first | exact ⟨rfl, hB⟩ | contradiction | (exfalso; omega) | (exfalso; simp_all; done)
      ·
        first | (have hg3p := of_decide_eq_false hg3) | skip
        refine LS.vg rfl rfl rfl hg3 (by decide) (Val.move rfl) ?_
        refine LS.vg rfl rfl rfl hg3 (by decide) (Val.neq rfl rfl) ?_
        refine LS.vv rfl rfl (by decide) (Val.pickF rfl hg3 rfl) ?_
        refine LS.vv rfl rfl (by decide) (Val.move rfl) ?_
        refine LS.split 6 rfl (fun hg4 => ?_) (fun hg4 => ?_)
        ·
          first | (have hg4p := of_decide_eq_true hg4) | skip
          refine LS.s rfl rfl rfl hg4 (by decide) ?_
          refine LS.s rfl rfl rfl hg4 (by decide) ?_
          refine LS.vv rfl rfl (by decide) (Val.pickT rfl hg4 rfl) ?_
          refine LS.vv rfl rfl (by decide) (Val.move rfl) ?_
          refine LS.s rfl rfl rfl rfl (by decide) ?_
          refine LS.s rfl rfl rfl rfl (by decide) ?_
          refine LS.s rfl rfl rfl rfl (by decide) ?_
          refine LS.s rfl rfl rfl rfl (by decide) ?_
          refine LS.vv rfl rfl (by decide) (Val.pickT rfl rfl rfl) ?_
          refine LS.vv rfl rfl (by decide) (Val.move rfl) ?_
          refine LS.s rfl rfl rfl rfl (by decide) ?_
          refine LS.s rfl rfl rfl rfl (by decide) ?_
          refine LS.s rfl rfl rfl rfl (by decide) ?_
          refine LS.vv rfl rfl (by decide) (Val.pickT rfl rfl rfl) ?_
          refine LS.vv rfl rfl (by decide) (Val.assign rfl) ?_
          refine LS.nil ?_
          refine W.ret ?_
          refine ret1 (by first | exact .inl rfl | exact .inr rfl) rfl ?_
          first | exact ⟨rfl, hB⟩ | contradiction | (exfalso; omega) | (exfalso; simp_all; done)
        ·
          first | (have hg4p := of_decide_eq_false hg4) | skip
          refine LS.vg rfl rfl rfl hg4 (by decide) (Val.move rfl) ?_
          refine LS.vg rfl rfl rfl hg4 (by decide) (Val.not rfl) ?_
          refine LS.vv rfl rfl (by decide) (Val.pickF rfl hg4 rfl) ?_
          refine LS.vv rfl rfl (by decide) (Val.move rfl) ?_
          refine LS.split 10 rfl (fun hg5 => ?_) (fun hg5 => ?_)
          ·
            first | (have hg5p := of_decide_eq_true hg5) | skip
            refine LS.s rfl rfl rfl hg5 (by decide) ?_
            refine LS.s rfl rfl rfl hg5 (by decide) ?_
            refine LS.s rfl rfl rfl hg5 (by decide) ?_
            refine LS.s rfl rfl rfl hg5 (by decide) ?_
            refine LS.vv rfl rfl (by decide) (Val.pickT rfl hg5 rfl) ?_
            refine LS.vv rfl rfl (by decide) (Val.move rfl) ?_
            refine LS.s rfl rfl rfl rfl (by decide) ?_
            refine LS.s rfl rfl rfl rfl (by decide) ?_
            refine LS.s rfl rfl rfl rfl (by decide) ?_
            refine LS.vv rfl rfl (by decide) (Val.pickT rfl rfl rfl) ?_
            refine LS.vv rfl rfl (by decide) (Val.assign rfl) ?_
            refine LS.nil ?_
            refine W.ret ?_
            refine ret1 (by first | exact .inl rfl | exact .inr rfl) rfl ?_
            first | exact ⟨rfl, hB⟩ | contradiction | (exfalso; omega) | (exfalso; simp_all; done)
          ·
            first | (have hg5p := of_decide_eq_false hg5) | skip
            refine LS.vg rfl rfl rfl hg5 (by decide) (Val.move rfl) ?_
            refine LS.vg rfl rfl rfl hg5 (by decide) (Val.move rfl) ?_
            have hL9 := wrtn_len hcd.2 (za.map Int.toNat)
            rw [List.length_map] at hL9
            have hLe := (hg1 (by omega)).1
            have hz64 := (hg.1 (by omega)).2.1
            refine LS.mg rfl rfl hg5 (Step.call body21 rfl rfl (by decide) rfl (CallsV.mono (boolsEqN L L2 _ _ _ _ _ _ _ hM.o1.rd hM.o0.rd rfl rfl (by rw [hLe]; omega)) ?_))
            rintro _ w7 ⟨rfl, hb7⟩
            replace hM := hM.below hb7
            replace hB := hB.trans (hb7.mono hB.size)
            refine LS.vg rfl rfl rfl hg5 (by decide) (Val.not rfl) ?_
            refine LS.vv rfl rfl (by decide) (Val.pickF rfl hg5 rfl) ?_
            refine LS.vv rfl rfl (by decide) (Val.move rfl) ?_
            refine LS.split 16 rfl (fun hg6 => ?_) (fun hg6 => ?_)
            ·
              first | (have hg6p := of_decide_eq_true hg6) | skip
              refine LS.s rfl rfl rfl hg6 (by decide) ?_
              refine LS.s rfl rfl rfl hg6 (by decide) ?_
              refine LS.s rfl rfl rfl hg6 (by decide) ?_
              refine LS.vv rfl rfl (by decide) (Val.pickT rfl hg6 rfl) ?_
              refine LS.vv rfl rfl (by decide) (Val.assign rfl) ?_
              refine LS.nil ?_
              refine W.ret ?_
              refine ret1 (by first | exact .inl rfl | exact .inr rfl) rfl ?_
              first | exact ⟨rfl, hB⟩ | contradiction | (exfalso; omega) | (exfalso; simp_all; done)
            ·
              first | (have hg6p := of_decide_eq_false hg6) | skip
              refine LS.vg rfl rfl rfl hg6 (by decide) (Val.move rfl) ?_
              refine LS.vg rfl rfl rfl hg6 (by decide) (Val.move rfl) ?_
              have hud : UD (codeOf C) := hiu.1 (by simp_all)
              skip
              refine LS.mg rfl rfl hg6 (Step.call body17 rfl rfl (by decide) rfl (CallsV.mono (intsEqN za zb _ _ _ _ _ _ _ (hra.below hB) (hrb.below hB) rfl rfl hla) ?_))
              rintro _ w8 ⟨hbe, hb8⟩
              replace hM := hM.below hb8
              replace hB := hB.trans (hb8.mono hB.size)
              have hgz := (hg.1 (by omega)).2.2
              have hhz := (hh1.1 (by omega)).2.2
              obtain ⟨e1, s1⟩ := hg1 (by omega)
              obtain ⟨e2, s2⟩ := hh2 (by omega)
              have hLL : L = L2 := of_decide_eq_true (by simpa using (by assumption : (!decide (L = L2)) = false))
              have hab9 := hud _ _ s1 s2 (by rw [← e1, ← e2, hLL])
              have hback : ∀ {zs : List Int}, (∀ z ∈ zs, 0 ≤ z ∧ z < C.length) → (zs.map Int.toNat).map (fun x : Nat => (x : Int)) = zs := fun {zs} hz => by { rw [List.map_map]; conv => { rhs; rw [← List.map_id zs] }; exact List.map_congr_left fun x hx => by { have := hz x hx; simp [Int.toNat_of_nonneg this.1] } }
              have hzz : za = zb := by rw [← hback hgz, ← hback hhz, hab9]
              rw [decide_eq_true hzz] at hbe
              subst hbe
              refine LS.vv rfl rfl (by decide) (Val.pickF rfl hg6 rfl) ?_
              refine LS.vv rfl rfl (by decide) (Val.assign rfl) ?_
              refine LS.nil ?_
              refine W.ret ?_
              refine ret1 (by first | exact .inl rfl | exact .inr rfl) rfl ?_
              first | exact ⟨rfl, hB⟩ | contradiction | (exfalso; omega) | (exfalso; simp_all; done)
    ·
      first | (have hg2p := of_decide_eq_false hg2) | skip
      refine LS.s rfl rfl rfl hg2 (by decide) ?_
      refine LS.s rfl rfl rfl hg2 (by decide) ?_
      refine LS.s rfl rfl rfl hg2 (by decide) ?_
      refine LS.vg rfl rfl rfl rfl (by decide) (Val.pickF rfl hg2 rfl) ?_
      refine LS.vv rfl rfl (by decide) (Val.pickF rfl rfl rfl) ?_
      refine LS.nil ?_
      refine W.condF rfl ?_
      refine W.skip ?_
      refine thenP_normal ?_
      refine W.seqR ?_
      refine LS.vv rfl rfl (by decide) (Val.move rfl) ?_
      refine LS.vv rfl rfl (by decide) (Val.move rfl) ?_
      refine LS.m rfl (Step.call body20 rfl rfl (by decide) rfl (CallsV.mono (write_any C za _ _ _ _ _ _ _ (hr.below hB) (hra.below hB) rfl rfl hla) ?_))
      rintro _ w9 ⟨p1, c1, L, g, rfl, hO1, hg, hg1, hg2, hb9⟩
      replace hM := hM.add hB.size hb9 hO1
      replace hB := hB.trans (hb9.mono hB.size)
      refine LS.vv rfl rfl (by decide) (Val.move rfl) ?_
      refine LS.vv rfl rfl (by decide) (Val.extract rfl rfl) ?_
      refine LS.vv rfl rfl (by decide) (Val.extract rfl rfl) ?_
      refine LS.vv rfl rfl (by decide) (Val.assign rfl) ?_
      refine LS.vv rfl rfl (by decide) (Val.assign rfl) ?_
      refine LS.nil ?_
      refine W.seqR ?_
      refine LS.vv rfl rfl (by decide) (Val.move rfl) ?_
      refine LS.vv rfl rfl (by decide) (Val.move rfl) ?_
      refine LS.m rfl (Step.call body20 rfl rfl (by decide) rfl (CallsV.mono (write_any C zb _ _ _ _ _ _ _ (hr.below hB) (hrb.below hB) rfl rfl hlb) ?_))
      rintro _ w10 ⟨p2, c2, L2, h, rfl, hO2, hh1, hh2, hh3, hb10⟩
      replace hM := hM.add hB.size hb10 hO2
      replace hB := hB.trans (hb10.mono hB.size)
      refine LS.vv rfl rfl (by decide) (Val.move rfl) ?_
      refine LS.vv rfl rfl (by decide) (Val.extract rfl rfl) ?_
      refine LS.vv rfl rfl (by decide) (Val.extract rfl rfl) ?_
      refine LS.vv rfl rfl (by decide) (Val.assign rfl) ?_
      refine LS.vv rfl rfl (by decide) (Val.assign rfl) ?_
      refine LS.nil ?_
      refine W.seqR ?_
      refine LS.vv rfl rfl (by decide) (Val.move rfl) ?_
      refine LS.vv rfl rfl (by decide) (Val.neq rfl rfl) ?_
      refine LS.vv rfl rfl (by decide) (Val.move rfl) ?_
      refine LS.split 2 rfl (fun hg7 => ?_) (fun hg7 => ?_)
      ·
        first | (have hg7p := of_decide_eq_true hg7) | skip
        refine LS.s rfl rfl rfl hg7 (by decide) ?_
        refine LS.s rfl rfl rfl hg7 (by decide) ?_
        refine LS.vv rfl rfl (by decide) (Val.pickT rfl hg7 rfl) ?_
        refine LS.vv rfl rfl (by decide) (Val.move rfl) ?_
        refine LS.s rfl rfl rfl rfl (by decide) ?_
        refine LS.s rfl rfl rfl rfl (by decide) ?_
        refine LS.vv rfl rfl (by decide) (Val.pickT rfl rfl rfl) ?_
        refine LS.vv rfl rfl (by decide) (Val.move rfl) ?_
        refine LS.s rfl rfl rfl rfl (by decide) ?_
        refine LS.s rfl rfl rfl rfl (by decide) ?_
        refine LS.s rfl rfl rfl rfl (by decide) ?_
        refine LS.s rfl rfl rfl rfl (by decide) ?_
        refine LS.vv rfl rfl (by decide) (Val.pickT rfl rfl rfl) ?_
        refine LS.vv rfl rfl (by decide) (Val.move rfl) ?_
        refine LS.s rfl rfl rfl rfl (by decide) ?_
        refine LS.s rfl rfl rfl rfl (by decide) ?_
        refine LS.s rfl rfl rfl rfl (by decide) ?_
        refine LS.vv rfl rfl (by decide) (Val.pickT rfl rfl rfl) ?_
        refine LS.vv rfl rfl (by decide) (Val.assign rfl) ?_
        refine LS.nil ?_
        refine W.ret ?_
        refine ret1 (by first | exact .inl rfl | exact .inr rfl) rfl ?_
        first | exact ⟨rfl, hB⟩ | contradiction | (exfalso; omega) | (exfalso; simp_all; done)
      ·
        first | (have hg7p := of_decide_eq_false hg7) | skip
        refine LS.vg rfl rfl rfl hg7 (by decide) (Val.move rfl) ?_
        refine LS.vg rfl rfl rfl hg7 (by decide) (Val.neq rfl rfl) ?_
        refine LS.vv rfl rfl (by decide) (Val.pickF rfl hg7 rfl) ?_
        refine LS.vv rfl rfl (by decide) (Val.move rfl) ?_
        refine LS.split 6 rfl (fun hg8 => ?_) (fun hg8 => ?_)
        ·
          first | (have hg8p := of_decide_eq_true hg8) | skip
          refine LS.s rfl rfl rfl hg8 (by decide) ?_
          refine LS.s rfl rfl rfl hg8 (by decide) ?_
          refine LS.vv rfl rfl (by decide) (Val.pickT rfl hg8 rfl) ?_
          refine LS.vv rfl rfl (by decide) (Val.move rfl) ?_
          refine LS.s rfl rfl rfl rfl (by decide) ?_
          refine LS.s rfl rfl rfl rfl (by decide) ?_
          refine LS.s rfl rfl rfl rfl (by decide) ?_
          refine LS.s rfl rfl rfl rfl (by decide) ?_
          refine LS.vv rfl rfl (by decide) (Val.pickT rfl rfl rfl) ?_
          refine LS.vv rfl rfl (by decide) (Val.move rfl) ?_
          refine LS.s rfl rfl rfl rfl (by decide) ?_
          refine LS.s rfl rfl rfl rfl (by decide) ?_
          refine LS.s rfl rfl rfl rfl (by decide) ?_
          refine LS.vv rfl rfl (by decide) (Val.pickT rfl rfl rfl) ?_
          refine LS.vv rfl rfl (by decide) (Val.assign rfl) ?_
          refine LS.nil ?_
          refine W.ret ?_
          refine ret1 (by first | exact .inl rfl | exact .inr rfl) rfl ?_
          first | exact ⟨rfl, hB⟩ | contradiction | (exfalso; omega) | (exfalso; simp_all; done)
        ·
          first | (have hg8p := of_decide_eq_false hg8) | skip
          refine LS.vg rfl rfl rfl hg8 (by decide) (Val.move rfl) ?_
          refine LS.vg rfl rfl rfl hg8 (by decide) (Val.not rfl) ?_
          refine LS.vv rfl rfl (by decide) (Val.pickF rfl hg8 rfl) ?_
          refine LS.vv rfl rfl (by decide) (Val.move rfl) ?_
          refine LS.split 10 rfl (fun hg9 => ?_) (fun hg9 => ?_)
          ·
            first | (have hg9p := of_decide_eq_true hg9) | skip
            refine LS.s rfl rfl rfl hg9 (by decide) ?_
            refine LS.s rfl rfl rfl hg9 (by decide) ?_
            refine LS.s rfl rfl rfl hg9 (by decide) ?_
            refine LS.s rfl rfl rfl hg9 (by decide) ?_
            refine LS.vv rfl rfl (by decide) (Val.pickT rfl hg9 rfl) ?_
            refine LS.vv rfl rfl (by decide) (Val.move rfl) ?_
            refine LS.s rfl rfl rfl rfl (by decide) ?_
            refine LS.s rfl rfl rfl rfl (by decide) ?_
            refine LS.s rfl rfl rfl rfl (by decide) ?_
            refine LS.vv rfl rfl (by decide) (Val.pickT rfl rfl rfl) ?_
            refine LS.vv rfl rfl (by decide) (Val.assign rfl) ?_
            refine LS.nil ?_
            refine W.ret ?_
            refine ret1 (by first | exact .inl rfl | exact .inr rfl) rfl ?_
            first | exact ⟨rfl, hB⟩ | contradiction | (exfalso; omega) | (exfalso; simp_all; done)
          ·
            first | (have hg9p := of_decide_eq_false hg9) | skip
            refine LS.vg rfl rfl rfl hg9 (by decide) (Val.move rfl) ?_
            refine LS.vg rfl rfl rfl hg9 (by decide) (Val.move rfl) ?_
            have hL9 := wrtn_len hcd.2 (za.map Int.toNat)
            rw [List.length_map] at hL9
            have hLe := (hg1 (by omega)).1
            have hz64 := (hg.1 (by omega)).2.1
            refine LS.mg rfl rfl hg9 (Step.call body21 rfl rfl (by decide) rfl (CallsV.mono (boolsEqN L L2 _ _ _ _ _ _ _ hM.o1.rd hM.o0.rd rfl rfl (by rw [hLe]; omega)) ?_))
            rintro _ w11 ⟨rfl, hb11⟩
            replace hM := hM.below hb11
            replace hB := hB.trans (hb11.mono hB.size)
            refine LS.vg rfl rfl rfl hg9 (by decide) (Val.not rfl) ?_
            refine LS.vv rfl rfl (by decide) (Val.pickF rfl hg9 rfl) ?_
            refine LS.vv rfl rfl (by decide) (Val.move rfl) ?_
            refine LS.split 16 rfl (fun hg10 => ?_) (fun hg10 => ?_)
            ·
              first | (have hg10p := of_decide_eq_true hg10) | skip
              refine LS.s rfl rfl rfl hg10 (by decide) ?_
              refine LS.s rfl rfl rfl hg10 (by decide) ?_
              refine LS.s rfl rfl rfl hg10 (by decide) ?_
              refine LS.vv rfl rfl (by decide) (Val.pickT rfl hg10 rfl) ?_
              refine LS.vv rfl rfl (by decide) (Val.assign rfl) ?_
              refine LS.nil ?_
              refine W.ret ?_
              refine ret1 (by first | exact .inl rfl | exact .inr rfl) rfl ?_
              first | exact ⟨rfl, hB⟩ | contradiction | (exfalso; omega) | (exfalso; simp_all; done)
            ·
              first | (have hg10p := of_decide_eq_false hg10) | skip
              refine LS.vg rfl rfl rfl hg10 (by decide) (Val.move rfl) ?_
              refine LS.vg rfl rfl rfl hg10 (by decide) (Val.move rfl) ?_
              have hud : UD (codeOf C) := hiu.1 (by simp_all)
              skip
              refine LS.mg rfl rfl hg10 (Step.call body17 rfl rfl (by decide) rfl (CallsV.mono (intsEqN za zb _ _ _ _ _ _ _ (hra.below hB) (hrb.below hB) rfl rfl hla) ?_))
              rintro _ w12 ⟨hbe, hb12⟩
              replace hM := hM.below hb12
              replace hB := hB.trans (hb12.mono hB.size)
              have hgz := (hg.1 (by omega)).2.2
              have hhz := (hh1.1 (by omega)).2.2
              obtain ⟨e1, s1⟩ := hg1 (by omega)
              obtain ⟨e2, s2⟩ := hh2 (by omega)
              have hLL : L = L2 := of_decide_eq_true (by simpa using (by assumption : (!decide (L = L2)) = false))
              have hab9 := hud _ _ s1 s2 (by rw [← e1, ← e2, hLL])
              have hback : ∀ {zs : List Int}, (∀ z ∈ zs, 0 ≤ z ∧ z < C.length) → (zs.map Int.toNat).map (fun x : Nat => (x : Int)) = zs := fun {zs} hz => by { rw [List.map_map]; conv => { rhs; rw [← List.map_id zs] }; exact List.map_congr_left fun x hx => by { have := hz x hx; simp [Int.toNat_of_nonneg this.1] } }
              have hzz : za = zb := by rw [← hback hgz, ← hback hhz, hab9]
              rw [decide_eq_true hzz] at hbe
              subst hbe
              refine LS.vv rfl rfl (by decide) (Val.pickF rfl hg10 rfl) ?_
              refine LS.vv rfl rfl (by decide) (Val.assign rfl) ?_
              refine LS.nil ?_
              refine W.ret ?_
              refine ret1 (by first | exact .inl rfl | exact .inr rfl) rfl ?_
              first | exact ⟨rfl, hB⟩ | contradiction | (exfalso; omega) | (exfalso; simp_all; done)

end Go.Proofs.Ytbfcmfjdjldepaa
