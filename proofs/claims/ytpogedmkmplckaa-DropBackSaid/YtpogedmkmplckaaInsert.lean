/-
  slices.Insert of one bit.
-/
import Derived.Test.YtpogedmkmplckaaInsPlain
import Derived.Test.YtpogedmkmplckaaVins
import Derived.Test.YtpogedmkmplckaaVcopy
import Derived.Test.YtpogedmkmplckaaVcopy2
import Derived.Test.YtpogedmkmplckaaVfin
import Derived.Test.YtpogedmkmplckaaVfacts2
namespace Go.Proofs.Ytpogedmkmplckaa
open Go Go.RowKit V
set_option linter.unusedVariables false
set_option linter.unusedSimpArgs false

theorem extOverlaps : Ext Try.prog 51 (Extern.SlicesOverlaps.overlaps #[22, 22] #[4]) := ⟨⟨_, Try.func51, by kernel_rfl, rfl, by kernel_rfl, by kernel_rfl⟩⟩

theorem bv_ins (l : List Bool) (i : Nat) (b : Bool) : (bv l).take i ++ Value.bool b :: (bv l).drop i = bv (insAt l i b) := by simp [bv, insAt, List.map_take, List.map_drop]
theorem one_bv (l : List Bool) : ∀ u ∈ bv l, u.oneCell' = true := fun u hu => by obtain ⟨x, _, rfl⟩ := List.mem_map.1 hu; rfl

set_option maxRecDepth 20000 in
theorem insert_any (l : List Bool) (b : Bool) (i vb m c B : Nat) (p : Option Addr) (S : List Ob) (w0 : World) (hM0 : Mem w0 B (⟨4, some ⟨vb, 0, none⟩, 1, 1, bv [b]⟩ :: ⟨4, p, m, c, bv l⟩ :: S)) (hB0 : B ≤ w0.heap.size) (hm : l.length = m) (hi : i ≤ m) (hm9 : m ≤ 1000) :
    CallsV Try.prog 34 #[.slice p m c, .int .i64 (i : Int), .slice (some ⟨vb, 0, none⟩) 1 1] w0 (fun v w => ∃ (p2 : Option Addr) (c2 : Nat), v = .slice p2 (m + 1) c2 ∧ Rd w p2 (bv (insAt l i b)) ∧ Below B w0 w) := by
  refine enter1 Try.func34 rfl Try.ntmps34 (by simp) rfl ?_
  have hB := Below.refl B w0
  simp only [argLoc, Nat.zero_add, Nat.reduceAdd]
  have hM := hM0
  subst hm
  have hcp := hM0.o1.le_cap
  refine W.seqR ?_
  refine LS.vv rfl rfl (by decide) (Val.assign rfl) ?_
  refine LS.nil ?_
  refine W.seqR ?_
  refine LS.vv rfl rfl (by decide) (Val.move rfl) ?_
  refine LS.vv rfl rfl (by decide) (Val.move rfl) ?_
  refine LS.vv rfl rfl (by decide) (Val.sliceFrom Try.underlying22 elem4 rfl rfl (by omega) (by omega)) ?_
  refine LS.nil ?_
  refine W.seqR ?_
  refine LS.vv rfl rfl (by decide) (Val.move rfl) ?_
  refine LS.vv rfl rfl (by decide) (Val.len Try.underlying22 rfl) ?_
  refine LS.vv rfl rfl (by decide) (Val.assign rfl) ?_
  refine LS.nil ?_
  refine W.seq ?_
  refine W.seqR ?_
  refine LS.vv rfl rfl (by decide) (Val.move rfl) ?_
  refine LS.vv rfl rfl (by decide) (Val.eql rfl rfl) ?_
  refine LS.nil ?_
  first | refine W.condD rfl (fun hc1 => ?_) (fun hc1 => ?_) | refine W.cond rfl (fun hc1 => ?_) (fun hc1 => ?_)
  ·
    exfalso; omega
  ·
    refine W.skip ?_
    refine thenP_normal ?_
    refine W.seqR ?_
    refine LS.vv rfl rfl (by decide) (Val.move rfl) ?_
    refine LS.vv rfl rfl (by decide) (Val.len Try.underlying22 rfl) ?_
    refine LS.vv rfl rfl (by decide) (Val.assign rfl) ?_
    refine LS.nil ?_
    refine W.seq ?_
    refine W.seqR ?_
    refine LS.vv rfl rfl (by decide) (Val.move rfl) ?_
    refine LS.vv rfl rfl (by decide) (Val.move rfl) ?_
    refine LS.vv rfl rfl (by decide) (Val.eql rfl rfl) ?_
    refine LS.nil ?_
    first | refine W.condD rfl (fun hc2 => ?_) (fun hc2 => ?_) | refine W.cond rfl (fun hc2 => ?_) (fun hc2 => ?_)
    ·
      refine W.seqR ?_
      refine LS.vv rfl rfl (by decide) (Val.move rfl) ?_
      refine LS.vv rfl rfl (by decide) (Val.move rfl) ?_
      refine LS.m rfl (Step.append2 (B := B) rfl rfl (by decide) Try.underlying22 elem4 rfl rfl rfl rfl (hM.o1) (hM.o0.rd) (by first | rfl | (simp; done) | (simp; omega)) (by first | exact one_map _ (fun _ => rfl) _ | simp [Value.oneCell']) (by omega) (by omega) (Nat.le_trans hB0 hB.size) ?_)
      rintro p1 c1 w1 hO1 hg1 hbl1 hbk1
      replace hM := hM.s1 hg1 hO1 hbk1
      try simp only [bv_app1, bv_app, bv_set, bv_rep, bv_one, bv_cons, bv_take, bv_drop, List.nil_append] at hM
      replace hB := hB.trans hbl1
      refine LS.vv rfl rfl (by decide) (Val.assign rfl) ?_
      refine LS.nil ?_
      refine W.ret ?_
      refine thenP_ret ?_
      refine ret1 (by first | exact .inl rfl | exact .inr rfl) rfl ?_
      obtain rfl : i = l.length := by omega
      refine ⟨_, _, rfl, ?_, hB⟩
      have h9 := hM.o1.rd
      have e : insAt l l.length b = l ++ [b] := by simp [insAt]
      rw [e]; exact h9
    ·
      refine W.skip ?_
      refine thenP_normal ?_
      refine W.seq ?_
      refine W.seqR ?_
      refine LS.vv rfl rfl (by decide) (Val.move rfl) ?_
      refine LS.vv rfl rfl (by decide) (Val.move rfl) ?_
      first | refine LS.vv rfl rfl (by decide) (Val.addN rfl rfl (by omega)) ?_ | refine LS.vv rfl rfl (by decide) (Val.add64 rfl rfl (by omega)) ?_
      refine LS.vv rfl rfl (by decide) (Val.move rfl) ?_
      refine LS.vv rfl rfl (by decide) (Val.cap Try.underlying22 rfl) ?_
      refine LS.vv rfl rfl (by decide) (Val.gtr rfl rfl) ?_
      refine LS.nil ?_
      first | refine W.condD rfl (fun hc3 => ?_) (fun hc3 => ?_) | refine W.cond rfl (fun hc3 => ?_) (fun hc3 => ?_)
      ·
        refine W.seqR ?_
        refine LS.vv rfl rfl (by decide) (Val.move rfl) ?_
        refine LS.vv rfl rfl (by decide) (Val.move rfl) ?_
        refine LS.vv rfl rfl (by decide) (Val.sliceTo Try.underlying22 elem4 rfl rfl (by omega)) ?_
        refine LS.vv rfl rfl (by decide) (Val.move rfl) ?_
        refine LS.vv rfl rfl (by decide) (Val.move rfl) ?_
        first | refine LS.vv rfl rfl (by decide) (Val.addN rfl rfl (by omega)) ?_ | refine LS.vv rfl rfl (by decide) (Val.add64 rfl rfl (by omega)) ?_
        refine LS.vv rfl rfl (by decide) (Val.move rfl) ?_
        first | refine LS.vv rfl rfl (by decide) (Val.subN rfl rfl (by omega) (by omega)) ?_ | refine LS.vv rfl rfl (by decide) (Val.sub64 rfl rfl (by omega)) ?_
        refine LS.m rfl (Step.growOn (k := l.length + 1 - i) rfl rfl (by decide) Try.underlying22 Try.underlying3 elem4 rfl rfl rfl ((hM.o1.rd.take_bv (k := i))) (by simp [bv]; omega) (by omega) (by omega) (by omega) (by omega) ?_)
        rintro w2 G2 hO2 hbl2
        replace hM := hM.add (Nat.le_trans hB0 hB.size) hbl2 hO2
        replace hB := hB.trans (hbl2.mono (Nat.le_trans hB0 hB.size))
        skip
        have hG := hM.o0.le_cap
        refine LS.vv rfl rfl (by decide) (Val.assign rfl) ?_
        refine LS.nil ?_
        refine W.seqR ?_
        refine LS.vv rfl rfl (by decide) (Val.move rfl) ?_
        refine LS.vv rfl rfl (by decide) (Val.move rfl) ?_
        refine LS.vv rfl rfl (by decide) (Val.sliceFrom Try.underlying22 elem4 rfl rfl (by omega) (by omega)) ?_
        refine LS.vv rfl rfl (by decide) (Val.move rfl) ?_
        refine LS.m rfl (Step.copyOwn (l := i) rfl rfl (by decide) Try.underlying22 elem4 rfl rfl (hM.o1.rd) (by simp [bv]) (one_bv _) (by omega) (hM.o0) (Nat.le_trans hB0 hB.size) ?_)
        rintro w3 hO3 hg3 hbl3 hsz3
        replace hM := hM.s0 hg3 hO3 inl_block
        replace hB := hB.trans hbl3
        refine LS.nil ?_
        refine W.seqF 8 [(0, true), (1, true), (2, true), (3, true), (4, true), (5, true), (6, true), (7, true), (8, false)] mixed (by kernel_rfl) hB hM ?_
        replace hB := hB.drew
        replace hM := hM.drew
        refine DF.vv rfl rfl rfl (by decide) (Val.move rfl) ?_
        refine DF.vv rfl rfl rfl (by decide) (Val.move rfl) ?_
        refine DF.vv rfl rfl rfl (by decide) (Val.move rfl) ?_
        first | refine DF.vv rfl rfl rfl (by decide) (Val.addN rfl rfl (by omega)) ?_ | refine DF.vv rfl rfl rfl (by decide) (Val.add64 rfl rfl (by omega)) ?_
        refine DF.vv rfl rfl rfl (by decide) (Val.sliceFrom Try.underlying22 elem4 rfl rfl (by omega) (by omega)) ?_
        refine DF.vv rfl rfl rfl (by decide) (Val.move rfl) ?_
        refine DF.vv rfl rfl rfl (by decide) (Val.move rfl) ?_
        refine DF.vv rfl rfl rfl (by decide) (Val.sliceFrom Try.underlying22 elem4 rfl rfl (by omega) (by omega)) ?_
        refine DF.m rfl rfl (Step.copyOwn (l := i + 1) rfl rfl (by decide) Try.underlying22 elem4 rfl rfl ((hM.o2.rd.cut_bv hcp)) (by simp [bv]) (one_bv _) (by omega) (hM.o0) (Nat.le_trans hB0 hB.size) ?_)
        rintro w4 hO4 hg4 hbl4 hsz4
        replace hM := hM.s0 hg4 hO4 inl_block
        replace hB := hB.trans hbl4
        refine ⟨fun h => absurd rfl h, ?_⟩
        refine DF.nil ?_
        refine W.seqR ?_
        refine LS.vv rfl rfl (by decide) (Val.move rfl) ?_
        refine LS.vv rfl rfl (by decide) (Val.assign rfl) ?_
        refine LS.nil ?_
        refine W.ret ?_
        refine thenP_ret ?_
        refine ret1 (by first | exact .inl rfl | exact .inr rfl) rfl ?_
        have hfi := ins_first (X := bv (l.take i) ++ List.replicate (l.length + 1 - i) (Value.bool false)) (cs := bv [b]) (i := i) (dl := i + (l.length + 1 - i) - i) (b := .bool b) (A := (bv l).take i) (by rw [List.take_append_of_le_length (by simp [bv]; omega), List.take_of_length_le (by simp [bv]; omega)]; simp [bv]) (by simp [bv]; omega) (by omega) rfl
        have hth := ins_then (m := l.length) (dl := i + (l.length + 1 - i) - (i + 1)) (R := bv (l.drop i)) hfi.1 (by rw [hfi.2]; simp [bv]; omega) (by simp [bv]) hi (by omega)
        have h9 := hM.o0.rd
        rw [hth, show (bv l).take i ++ Value.bool b :: bv (l.drop i) = bv (insAt l i b) from by simp [bv, insAt, List.map_take, List.map_drop]] at h9
        exact ⟨_, _, by rw [show i + (l.length + 1 - i) = l.length + 1 by omega], h9, hB⟩
      ·
        refine W.skip ?_
        refine thenP_normal ?_
        refine W.seqR ?_
        refine LS.vv rfl rfl (by decide) (Val.move rfl) ?_
        refine LS.vv rfl rfl (by decide) (Val.move rfl) ?_
        refine LS.vv rfl rfl (by decide) (Val.move rfl) ?_
        first | refine LS.vv rfl rfl (by decide) (Val.addN rfl rfl (by omega)) ?_ | refine LS.vv rfl rfl (by decide) (Val.add64 rfl rfl (by omega)) ?_
        refine LS.vv rfl rfl (by decide) (Val.sliceTo Try.underlying22 elem4 rfl rfl (by omega)) ?_
        refine LS.vv rfl rfl (by decide) (Val.assign rfl) ?_
        refine LS.nil ?_
        refine W.seq ?_
        refine W.seqR ?_
        refine LS.vv rfl rfl (by decide) (Val.move rfl) ?_
        refine LS.vv rfl rfl (by decide) (Val.move rfl) ?_
        refine LS.vv rfl rfl (by decide) (Val.move rfl) ?_
        refine LS.vv rfl rfl (by decide) (Val.move rfl) ?_
        first | refine LS.vv rfl rfl (by decide) (Val.addN rfl rfl (by omega)) ?_ | refine LS.vv rfl rfl (by decide) (Val.add64 rfl rfl (by omega)) ?_
        refine LS.vv rfl rfl (by decide) (Val.sliceFrom Try.underlying22 elem4 rfl rfl (by omega) (by omega)) ?_
        have hc0 : 0 < c := by omega
        refine LS.m rfl (Step.overlaps (l := i + 1) extOverlaps rfl rfl (by decide) rfl Try.underlying22 elem4 hM (by omega) hc0 ?_)
        refine LS.vv rfl rfl (by decide) (Val.not rfl) ?_
        refine LS.nil ?_
        first | refine W.condD rfl (fun hc4 => ?_) (fun hc4 => ?_) | refine W.cond rfl (fun hc4 => ?_) (fun hc4 => ?_)
        ·
          refine W.seqF 8 [(0, true), (1, true), (2, true), (3, true), (4, true), (5, true), (6, true), (7, true), (8, false)] mixed (by kernel_rfl) hB hM ?_
          replace hB := hB.drew
          replace hM := hM.drew
          refine DF.vv rfl rfl rfl (by decide) (Val.move rfl) ?_
          refine DF.vv rfl rfl rfl (by decide) (Val.move rfl) ?_
          refine DF.vv rfl rfl rfl (by decide) (Val.move rfl) ?_
          first | refine DF.vv rfl rfl rfl (by decide) (Val.addN rfl rfl (by omega)) ?_ | refine DF.vv rfl rfl rfl (by decide) (Val.add64 rfl rfl (by omega)) ?_
          refine DF.vv rfl rfl rfl (by decide) (Val.sliceFrom Try.underlying22 elem4 rfl rfl (by omega) (by omega)) ?_
          refine DF.vv rfl rfl rfl (by decide) (Val.move rfl) ?_
          refine DF.vv rfl rfl rfl (by decide) (Val.move rfl) ?_
          refine DF.vv rfl rfl rfl (by decide) (Val.sliceFrom Try.underlying22 elem4 rfl rfl (by omega) (by omega)) ?_
          obtain ⟨ys, hyl, hOx⟩ := Own.extend hM.o1 (k := l.length + 1) (by omega) (by omega) hc0
          replace hM := Mem.re1 hM hOx
          have hyl1 : ys.length = 1 := by omega
          obtain ⟨y, rfl⟩ := List.length_eq_one_iff.1 hyl1
          refine DF.m rfl rfl (Step.copyOwn2 (l := i + 1) rfl rfl (by decide) Try.underlying22 elem4 rfl rfl ((hM.o1.rd.cut (l := i) (by first | (simp [bv]; done) | (simp [bv]; omega)))) (by first | (simp [bv]; done) | (simp [bv]; omega)) (by rw [List.drop_append_of_le_length (by first | (simp [bv]; done) | (simp [bv]; omega)), List.take_append_of_le_length (by first | (simp [bv]; done) | (simp [bv]; omega))]; exact fun u hu => one_bv l u (List.mem_of_mem_drop (List.mem_of_mem_take hu))) (by omega) (hM.o1) (Nat.le_trans hB0 hB.size) ?_)
          rintro w5 hO5 hg5 hbl5 hsz5
          replace hM := hM.s1 hg5 hO5 inl_block
          replace hB := hB.trans hbl5
          refine ⟨fun h => absurd rfl h, ?_⟩
          refine DF.nil ?_
          refine W.seqR ?_
          refine LS.vv rfl rfl (by decide) (Val.move rfl) ?_
          refine LS.vv rfl rfl (by decide) (Val.move rfl) ?_
          refine LS.vv rfl rfl (by decide) (Val.sliceFrom Try.underlying22 elem4 rfl rfl (by omega) (by omega)) ?_
          refine LS.vv rfl rfl (by decide) (Val.move rfl) ?_
          refine LS.m rfl (Step.copyOwn (l := i) rfl rfl (by decide) Try.underlying22 elem4 rfl rfl (hM.o0.rd) (by simp [bv]) (one_bv _) (by omega) (hM.o1) (Nat.le_trans hB0 hB.size) ?_)
          rintro w6 hO6 hg6 hbl6 hsz6
          replace hM := hM.s1 hg6 hO6 inl_block
          replace hB := hB.trans hbl6
          refine LS.nil ?_
          refine W.seqR ?_
          refine LS.vv rfl rfl (by decide) (Val.move rfl) ?_
          refine LS.vv rfl rfl (by decide) (Val.assign rfl) ?_
          refine LS.nil ?_
          refine W.ret ?_
          refine thenP_ret ?_
          refine ret1 (by first | exact .inl rfl | exact .inr rfl) rfl ?_
          have hpl := ins_place (X := bv l) (x := y) (b := .bool b) (i := i) (m := l.length) (dl := l.length + 1 - (i + 1)) (dl2 := l.length + 1 - i) (by simp [bv]) (by omega) (by omega) (by omega) _ rfl (by omega)
          rw [bv_ins] at hpl
          have h9 := hM.o1.rd
          refine ⟨_, _, rfl, ?_, hB⟩
          have e : bv [b] = [Value.bool b] := rfl
          rw [e] at h9
          rw [← hpl]
          exact h9
        ·
          exfalso; simp_all; done

end Go.Proofs.Ytpogedmkmplckaa
