/-
  The statement DoubleTells.
-/
import Derived.Test.YtnaebllojkodbaaDoubleL
namespace Go.Proofs.Ytnaebllojkodbaa
open Go Go.RowKit V
set_option linter.unusedVariables false

theorem doubleTells_any (zs : List Int) (p : Option Addr) (c : Nat) (I Y J : Nat) (w0 : World) (hr : Rd w0 p (iv zs)) (hI : I < 256) (hY : Y < 256) (hJ : J < 256) :
    CallsV Try.prog 12 #[.slice p zs.length c, .int .u8 (I : Int), .int .u8 (Y : Int), .int .u8 (J : Int)] w0 (fun v w => v = .bool true ∧ Below w0.heap.size w0 w) := by
  refine enter1 Try.func12 rfl Try.ntmps12 (by simp) rfl ?_
  have hB := Below.refl w0.heap.size w0
  simp only [argLoc, Nat.zero_add, Nat.reduceAdd]
  have hM := Mem.nil w0 w0.heap.size
  refine W.seqR ?_
  refine LS.vv rfl rfl (by decide) (Val.assign rfl) ?_
  refine LS.nil ?_
  refine W.seqR ?_
  refine LS.vv rfl rfl (by decide) (Val.move rfl) ?_
  refine LS.m rfl (Step.call body29 rfl rfl (by decide) rfl (CallsV.mono (dput_any zs _ _ _ (hr.below hB)) ?_))
  rintro _ w1 ⟨P, Q, e, rfl, he, hPQ, hb1⟩
  replace hM := hM.below hb1
  replace hB := hB.trans (hb1.mono hB.size)
  refine LS.vv rfl rfl (by decide) (Val.move rfl) ?_
  refine LS.vv rfl rfl (by decide) (Val.extract rfl rfl) ?_
  refine LS.vv rfl rfl (by decide) (Val.extract rfl rfl) ?_
  refine LS.vv rfl rfl (by decide) (Val.extract rfl rfl) ?_
  refine LS.vv rfl rfl (by decide) (Val.assign rfl) ?_
  refine LS.vv rfl rfl (by decide) (Val.assign rfl) ?_
  refine LS.vv rfl rfl (by decide) (Val.assign rfl) ?_
  refine LS.nil ?_
  refine W.seq ?_
  refine W.seqR ?_
  refine LS.vv rfl rfl (by decide) (Val.move rfl) ?_
  refine LS.vv rfl rfl (by decide) (Val.len Try.underlying27 rfl) ?_
  refine LS.vv rfl rfl (by decide) (Val.eql rfl rfl) ?_
  refine LS.vv rfl rfl (by decide) (Val.move rfl) ?_
  refine LS.split 3 rfl (fun hg1 => ?_) (fun hg1 => ?_)
  ·
    first | (have hg1p := of_decide_eq_true hg1) | skip
    refine LS.s rfl rfl rfl hg1 (by decide) ?_
    refine LS.s rfl rfl rfl hg1 (by decide) ?_
    refine LS.s rfl rfl rfl hg1 (by decide) ?_
    refine LS.vv rfl rfl (by decide) (Val.pickT rfl hg1 rfl) ?_
    refine LS.vv rfl rfl (by decide) (Val.move rfl) ?_
    refine LS.s rfl rfl rfl rfl (by decide) ?_
    refine LS.s rfl rfl rfl rfl (by decide) ?_
    refine LS.s rfl rfl rfl rfl (by decide) ?_
    refine LS.vv rfl rfl (by decide) (Val.pickT rfl rfl rfl) ?_
    refine LS.nil ?_
    refine W.condT rfl ?_
    refine W.seqR ?_
    refine LS.vv rfl rfl (by decide) (Val.move rfl) ?_
    refine LS.vv rfl rfl (by decide) (Val.cast (v := .bool true) (Val.neq rfl rfl) (by refine congrArg Value.bool (decide_eq_true ?_); intro h0; have hq := he.1 (by omega); first | omega | (have hq2 := hbn.2 hq.2.2; simp_all))) ?_
    refine LS.vv rfl rfl (by decide) (Val.assign rfl) ?_
    refine LS.nil ?_
    refine W.ret ?_
    refine thenP_ret ?_
    refine ret1 (by first | exact .inl rfl | exact .inr rfl) rfl ?_
    first | exact ⟨rfl, hB⟩ | contradiction | (exfalso; omega)
  ·
    first | (have hg1p := of_decide_eq_false hg1) | skip
    refine LS.vg rfl rfl rfl hg1 (by decide) (Val.move rfl) ?_
    refine LS.vg rfl rfl rfl hg1 (by decide) (Val.len Try.underlying27 rfl) ?_
    refine LS.vg rfl rfl rfl hg1 (by decide) (Val.gtr rfl rfl) ?_
    refine LS.vv rfl rfl (by decide) (Val.pickF rfl hg1 rfl) ?_
    refine LS.vv rfl rfl (by decide) (Val.move rfl) ?_
    refine LS.split 8 rfl (fun hg2 => ?_) (fun hg2 => ?_)
    ·
      first | (have hg2p := of_decide_eq_true hg2) | skip
      refine LS.s rfl rfl rfl hg2 (by decide) ?_
      refine LS.s rfl rfl rfl hg2 (by decide) ?_
      refine LS.s rfl rfl rfl hg2 (by decide) ?_
      refine LS.vv rfl rfl (by decide) (Val.pickT rfl hg2 rfl) ?_
      refine LS.nil ?_
      refine W.condT rfl ?_
      refine W.seqR ?_
      refine LS.vv rfl rfl (by decide) (Val.move rfl) ?_
      refine LS.vv rfl rfl (by decide) (Val.cast (v := .bool true) (Val.neq rfl rfl) (by refine congrArg Value.bool (decide_eq_true ?_); intro h0; have hq := he.1 (by omega); first | omega | (have hq2 := hbn.2 hq.2.2; simp_all))) ?_
      refine LS.vv rfl rfl (by decide) (Val.assign rfl) ?_
      refine LS.nil ?_
      refine W.ret ?_
      refine thenP_ret ?_
      refine ret1 (by first | exact .inl rfl | exact .inr rfl) rfl ?_
      first | exact ⟨rfl, hB⟩ | contradiction | (exfalso; omega)
    ·
      first | (have hg2p := of_decide_eq_false hg2) | skip
      refine LS.vg rfl rfl rfl hg2 (by decide) (Val.move rfl) ?_
      refine LS.mg rfl rfl hg2 (Step.call body14 rfl rfl (by decide) rfl (CallsV.mono (numbers_any zs _ _ _ (hr.below hB) (by omega)) ?_))
      rintro _ w2 ⟨b, rfl, hbn, hb2⟩
      replace hM := hM.below hb2
      replace hB := hB.trans (hb2.mono hB.size)
      refine LS.vg rfl rfl rfl hg2 (by decide) (Val.not rfl) ?_
      refine LS.vv rfl rfl (by decide) (Val.pickF rfl hg2 rfl) ?_
      refine LS.nil ?_
      first | refine W.condD rfl (fun hc3 => ?_) (fun hc3 => ?_) | refine W.cond rfl (fun hc3 => ?_) (fun hc3 => ?_)
      ·
        refine W.seqR ?_
        refine LS.vv rfl rfl (by decide) (Val.move rfl) ?_
        refine LS.vv rfl rfl (by decide) (Val.cast (v := .bool true) (Val.neq rfl rfl) (by refine congrArg Value.bool (decide_eq_true ?_); intro h0; have hq := he.1 (by omega); first | omega | (have hq2 := hbn.2 hq.2.2; simp_all))) ?_
        refine LS.vv rfl rfl (by decide) (Val.assign rfl) ?_
        refine LS.nil ?_
        refine W.ret ?_
        refine thenP_ret ?_
        refine ret1 (by first | exact .inl rfl | exact .inr rfl) rfl ?_
        first | exact ⟨rfl, hB⟩ | contradiction | (exfalso; omega)
      ·
        have hok := hbn.1 (by simp_all)
        have hE : e = 0 := he.2 ⟨by omega, by omega, hok⟩
        obtain ⟨rfl, rfl⟩ := hPQ hE
        have hwc := word_cast hok
        have hsm := sm_toNat hok
        have hzb := toNat_back hok
        obtain ⟨d, hd⟩ : ∃ d, d = zs.map Int.toNat := ⟨_, rfl⟩
        have hdl : d.length = zs.length := by rw [hd]; simp
        rw [← hd] at hwc hsm hzb ⊢
        have hwl := word_len d
        refine W.skip ?_
        refine thenP_normal ?_
        refine W.seqR ?_
        refine LS.m rfl (Step.lit rfl rfl (by decide) Try.underlying27 elem3 rfl rfl (by omega) (by simp [Value.oneCell']) (Nat.le_refl _) ?_)
        rintro w3 hO3 hg3 hbl3 hsz3
        replace hM := hM.add hB.size hbl3 hO3
        try simp only [iv_app1, iv_app, iv_set, iv_rep, iv_one, iv_cons, iv_take, iv_drop, List.nil_append] at hM
        replace hB := hB.trans (hbl3.mono hB.size)
        generalize w2.heap.size = gg3 at *
        refine LS.vv rfl rfl (by decide) (Val.move rfl) ?_
        refine LS.m rfl (Step.append2 (B := w0.heap.size) rfl rfl (by decide) Try.underlying27 elem3 rfl rfl rfl rfl (hM.o0) ((hr.below hB)) (by first | rfl | (simp; done) | (simp; omega)) (by first | exact one_map _ (fun _ => rfl) _ | simp [Value.oneCell']) (by first | omega | (simp only [List.length_set, List.length_replicate]; omega)) (by first | omega | (simp only [List.length_set, List.length_replicate]; omega)) hB.size ?_)
        rintro p4 c4 w4 hO4 hg4 hbl4 hbk4
        replace hM := hM.s0 hg4 hO4 hbk4
        try simp only [iv_app1, iv_app, iv_set, iv_rep, iv_one, iv_cons, iv_take, iv_drop, List.nil_append] at hM
        replace hB := hB.trans hbl4
        refine LS.vv rfl rfl (by decide) (Val.move rfl) ?_
        refine LS.vv rfl rfl (by decide) (Val.move rfl) ?_
        refine LS.m rfl (Step.lit rfl rfl (by decide) Try.underlying27 elem3 rfl rfl (by omega) (by simp [Value.oneCell']) (Nat.le_refl _) ?_)
        rintro w5 hO5 hg5 hbl5 hsz5
        replace hM := hM.add hB.size hbl5 hO5
        try simp only [iv_app1, iv_app, iv_set, iv_rep, iv_one, iv_cons, iv_take, iv_drop, List.nil_append] at hM
        replace hB := hB.trans (hbl5.mono hB.size)
        generalize w4.heap.size = gg5 at *
        refine LS.m rfl (Step.append2 (B := w0.heap.size) rfl rfl (by decide) Try.underlying27 elem3 rfl rfl rfl rfl (hM.o1) (hM.o0.rd) (by first | rfl | (simp; done) | (simp; omega)) (by first | exact one_map _ (fun _ => rfl) _ | simp [Value.oneCell']) (by first | omega | (simp only [List.length_set, List.length_replicate]; omega)) (by first | omega | (simp only [List.length_set, List.length_replicate]; omega)) hB.size ?_)
        rintro p6 c6 w6 hO6 hg6 hbl6 hbk6
        replace hM := hM.s1 hg6 hO6 hbk6
        replace hM := hM.tail
        try simp only [iv_app1, iv_app, iv_set, iv_rep, iv_one, iv_cons, iv_take, iv_drop, List.nil_append] at hM
        replace hB := hB.trans hbl6
        have hN : 0 + zs.length + 2 = d.length + 2 := by omega
        rw [hN] at hM ⊢
        rw [hwc, ← nv_cast] at hM
        have hmi := Nat.mod_lt I (show 0 < d.length + 2 by omega)
        have hmj := Nat.mod_lt J (show 0 < d.length + 2 by omega)
        have hY16 := Nat.mod_lt Y (show 0 < 16 by omega)
        refine LS.vv rfl rfl (by decide) (Val.assign rfl) ?_
        refine LS.nil ?_
        refine W.seqR ?_
        refine LS.vv rfl rfl (by decide) (Val.move rfl) ?_
        refine LS.vv rfl rfl (by decide) (Val.len Try.underlying27 rfl) ?_
        refine LS.m rfl (Step.make rfl rfl (by decide) Try.underlying35 elem4 rfl rfl rfl (by first | omega | (simp only [List.length_set, List.length_replicate]; omega)) (by first | omega | (simp only [List.length_set, List.length_replicate]; omega)) (Nat.le_refl _) ?_)
        rintro w7 hO7 hg7 hbl7
        replace hM := hM.add hB.size hbl7 hO7
        try simp only [bv_app1, bv_app, bv_set, bv_rep, bv_one, bv_cons, bv_take, bv_drop, List.nil_append] at hM
        replace hB := hB.trans (hbl7.mono hB.size)
        generalize w6.heap.size = gg7 at *
        refine LS.vv rfl rfl (by decide) (Val.assign rfl) ?_
        refine LS.nil ?_
        refine W.seqR ?_
        refine LS.vv rfl rfl (by decide) (Val.move rfl) ?_
        refine LS.vv rfl rfl (by decide) (Val.conv rfl Try.underlying5 Try.underlying3 (IntWalk.i64_in _ (by first | omega | (simp only [List.length_set, List.length_replicate]; omega)))) ?_
        refine LS.vv rfl rfl (by decide) (Val.move rfl) ?_
        refine LS.vv rfl rfl (by decide) (Val.len Try.underlying27 rfl) ?_
        first | refine LS.vv rfl rfl (by decide) (Val.remN rfl rfl (by first | omega | (simp only [List.length_set, List.length_replicate]; omega))) ?_ | refine LS.vv rfl rfl (by decide) (Val.rem rfl rfl (by first | omega | (simp only [List.length_set, List.length_replicate]; omega)) (by first | omega | (simp only [List.length_set, List.length_replicate]; omega))) ?_ | refine LS.vv rfl rfl (by decide) (Val.remT rfl rfl (by first | omega | (simp only [List.length_set, List.length_replicate]; omega))) ?_
        refine LS.vv rfl rfl (by decide) (Val.assign rfl) ?_
        refine LS.nil ?_
        refine W.seqR ?_
        refine LS.vv rfl rfl (by decide) (Val.move rfl) ?_
        refine LS.vv rfl rfl (by decide) (Val.conv rfl Try.underlying5 Try.underlying3 (IntWalk.i64_in _ (by first | omega | (simp only [List.length_set, List.length_replicate]; omega)))) ?_
        refine LS.vv rfl rfl (by decide) (Val.move rfl) ?_
        refine LS.vv rfl rfl (by decide) (Val.len Try.underlying27 rfl) ?_
        first | refine LS.vv rfl rfl (by decide) (Val.remN rfl rfl (by first | omega | (simp only [List.length_set, List.length_replicate]; omega))) ?_ | refine LS.vv rfl rfl (by decide) (Val.rem rfl rfl (by first | omega | (simp only [List.length_set, List.length_replicate]; omega)) (by first | omega | (simp only [List.length_set, List.length_replicate]; omega))) ?_ | refine LS.vv rfl rfl (by decide) (Val.remT rfl rfl (by first | omega | (simp only [List.length_set, List.length_replicate]; omega))) ?_
        refine LS.vv rfl rfl (by decide) (Val.assign rfl) ?_
        refine LS.nil ?_
        refine W.seq ?_
        refine W.seqR ?_
        refine LS.vv rfl rfl (by decide) (Val.move rfl) ?_
        refine LS.vv rfl rfl (by decide) (Val.move rfl) ?_
        generalize hA : I % (d.length + 2) = A at *
        generalize hBm : J % (d.length + 2) = Bj at *
        refine LS.vv rfl rfl (by decide) (Val.neq rfl rfl) ?_
        refine LS.nil ?_
        first | refine W.condD rfl (fun hc4 => ?_) (fun hc4 => ?_) | refine W.cond rfl (fun hc4 => ?_) (fun hc4 => ?_)
        ·
          obtain ⟨ls, hlsd⟩ : ∃ ls, ls = (List.replicate (d.length + 2) false).set Bj true := ⟨_, rfl⟩
          have hlsb : ∀ k, gb ls k = true → k = Bj ∧ k ≠ A := fun k h => by
            rw [hlsd, gb_set (by simpa using hmj)] at h
            split at h
            · exact ⟨by assumption, by omega⟩
            · rw [gb_rep] at h; cases h
          have hlsl : ls.length = d.length + 2 := by rw [hlsd]; simp
          have hpos : (pos ls (d.length + 2)).length ≤ 1 := by have := pos_two (i := Bj) (j := Bj) (fun k h => .inl (hlsb k h).1) (d.length + 2); simp at this; split at this <;> omega
          have hal : gb ls A = false := by cases h : gb ls A with | false => rfl | true => exact absurd rfl (hlsb _ h).2
          have hwA := word_sm hsm A
          refine W.reg ?_
          refine LS.vv rfl rfl (by decide) (Val.move rfl) ?_
          refine LS.vv rfl rfl (by decide) (Val.move rfl) ?_
          refine LS.vv rfl rfl (by decide) (Val.index1 Try.underlying35 elem4 rfl rfl (by first | omega | (simp only [List.length_set, List.length_replicate]; omega)) (hM.o0.rd) (bv_lt (by first | omega | (simp only [List.length_set, List.length_replicate]; omega)))) ?_
          refine LS.m rfl (Step.store (B := w0.heap.size) rfl rfl flat4 elem4 rfl rfl rfl (hM.o0) (by first | omega | (simp only [List.length_set, List.length_replicate]; omega)) hB.size ?_)
          rintro w8 hO8 hg8 hbl8 hsz8
          replace hM := hM.s0 hg8 hO8 inl_block
          try simp only [bv_app1, bv_app, bv_set, bv_rep, bv_one, bv_cons, bv_take, bv_drop, List.nil_append] at hM
          replace hB := hB.trans hbl8
          refine LS.nil ?_
          refine thenP_normal ?_
          refine W.seqR ?_
          refine LS.vv rfl rfl (by decide) (Val.move rfl) ?_
          refine LS.vv rfl rfl (by decide) (Val.move rfl) ?_
          refine LS.vv rfl rfl (by decide) (Val.move rfl) ?_
          refine LS.vv rfl rfl (by decide) (Val.move rfl) ?_
          rw [← hlsd] at hM
          refine LS.vv rfl rfl (by decide) (Val.index1 Try.underlying27 elem3 rfl rfl (by first | omega | (simp only [List.length_set, List.length_replicate]; omega)) (hM.o1.rd) (nv_lt (by first | omega | (simp only [List.length_set, List.length_replicate]; omega)))) ?_
          refine LS.m rfl (Step.load rfl rfl (by decide) flat3 rfl (hM.o1.rd) (nv_at (by first | omega | (simp only [List.length_set, List.length_replicate]; omega))) ?_)
          refine LS.vv rfl rfl (by decide) (Val.move rfl) ?_
          refine LS.vv rfl rfl (by decide) (Val.conv rfl Try.underlying5 Try.underlying3 (IntWalk.i64_in _ (by first | omega | (simp only [List.length_set, List.length_replicate]; omega)))) ?_
          first | refine LS.vv rfl rfl (by decide) (Val.remN (j := 16) rfl rfl (by first | omega | (simp only [List.length_set, List.length_replicate]; omega))) ?_ | refine LS.vv rfl rfl (by decide) (Val.rem rfl rfl (by first | omega | (simp only [List.length_set, List.length_replicate]; omega)) (by first | omega | (simp only [List.length_set, List.length_replicate]; omega))) ?_ | refine LS.vv rfl rfl (by decide) (Val.remT rfl rfl (by first | omega | (simp only [List.length_set, List.length_replicate]; omega))) ?_
          refine LS.vv rfl rfl (by decide) (Val.xor64 rfl rfl (by first | omega | (simp only [List.length_set, List.length_replicate]; omega)) (by first | omega | (simp only [List.length_set, List.length_replicate]; omega))) ?_
          have hx16 := xor16 hwA hY16
          refine LS.vv rfl rfl (by decide) (Val.index1 Try.underlying27 elem3 rfl rfl (by first | omega | (simp only [List.length_set, List.length_replicate]; omega)) (hM.o1.rd) (nv_lt (by first | omega | (simp only [List.length_set, List.length_replicate]; omega)))) ?_
          refine LS.m rfl (Step.store (B := w0.heap.size) rfl rfl flat3 elem3 rfl rfl rfl (hM.o1) (by first | omega | (simp only [List.length_set, List.length_replicate]; omega)) hB.size ?_)
          rintro w9 hO9 hg9 hbl9 hsz9
          replace hM := hM.s1 hg9 hO9 inl_block
          try simp only [nv_app1, nv_app, nv_set, nv_rep, nv_one, nv_cons, nv_take, nv_drop, List.nil_append] at hM
          replace hB := hB.trans hbl9
          refine LS.nil ?_
          refine W.seqR ?_
          refine LS.vv rfl rfl (by decide) (Val.move rfl) ?_
          refine LS.vv rfl rfl (by decide) (Val.move rfl) ?_
          refine LS.m rfl (Step.call body30 rfl rfl (by decide) rfl (CallsV.mono (Fill_len ((word d).set A (gn (word d) A ^^^ Y % 16)) (((word d).set A (gn (word d) A ^^^ Y % 16)).map fun x : Nat => (x : Int)) ls d.length _ _ _ _ _ _ _ (by rw [← nv_cast]; exact hM.o1.rd) hM.o0.rd (by simp; omega) hlsl (by omega) (by omega) (by simp; omega) (by omega) (by omega) (sm_set (word_sm hsm) (by omega) hx16) (by omega) (fun j hj hb => gz_cast _ j)) ?_))
          rintro _ w10 ⟨p2, c2, D, f, rfl, hRD, hf1, hf2, hb10⟩
          replace hM := hM.below hb10
          replace hB := hB.trans (hb10.mono hB.size)
          refine LS.vv rfl rfl (by decide) (Val.move rfl) ?_
          refine LS.vv rfl rfl (by decide) (Val.extract rfl rfl) ?_
          refine LS.vv rfl rfl (by decide) (Val.extract rfl rfl) ?_
          refine LS.vv rfl rfl (by decide) (Val.assign rfl) ?_
          refine LS.vv rfl rfl (by decide) (Val.assign rfl) ?_
          refine LS.nil ?_
          refine W.seq ?_
          refine W.seqR ?_
          refine LS.vv rfl rfl (by decide) (Val.move rfl) ?_
          refine LS.vv rfl rfl (by decide) (Val.remN (j := 16) rfl rfl (by first | omega | (simp only [List.length_set, List.length_replicate]; omega))) ?_
          refine LS.vv rfl rfl (by decide) (Val.eql rfl rfl) ?_
          refine LS.nil ?_
          first | refine W.condD rfl (fun hc5 => ?_) (fun hc5 => ?_) | refine W.cond rfl (fun hc5 => ?_) (fun hc5 => ?_)
          ·
            have hy0 : Y % 16 = 0 := by omega
            rw [hy0, Nat.xor_zero, set_back (by omega)] at hf1
            obtain ⟨hb1, hb2⟩ := blot_word (ls := ls) hsm (by omega) (by omega)
            obtain ⟨rfl, hD⟩ := hf1 hb2
            rw [hb1] at hD
            subst hD
            refine W.seqR ?_
            refine LS.vv rfl rfl (by decide) (Val.move rfl) ?_
            refine LS.vv rfl rfl (by decide) (Val.cast (v := .bool true) (Val.eql rfl rfl) (by first | (simp; done) | (simp; omega))) ?_
            refine LS.vv rfl rfl (by decide) (Val.move rfl) ?_
            refine LS.vg rfl rfl rfl rfl (by decide) (Val.move rfl) ?_
            refine LS.vg rfl rfl rfl rfl (by decide) (Val.cast (v := .bool true) (Val.eql rfl rfl) (by first | (simp; done) | (simp; omega))) ?_
            refine LS.vv rfl rfl (by decide) (Val.pickT rfl rfl rfl) ?_
            refine LS.vv rfl rfl (by decide) (Val.move rfl) ?_
            refine LS.vg rfl rfl rfl rfl (by decide) (Val.move rfl) ?_
            refine LS.vg rfl rfl rfl rfl (by decide) (Val.move rfl) ?_
            refine LS.mg rfl rfl rfl (Step.call body21 rfl rfl (by decide) rfl (CallsV.mono (intsEq_len (D.map fun x : Nat => (x : Int)) zs _ _ _ _ _ _ _ (by rw [← nv_cast]; exact hRD) (hr.below hB) (by simp) rfl (by omega)) ?_))
            rintro _ w11 ⟨rfl, hb11⟩
            replace hM := hM.below hb11
            replace hB := hB.trans (hb11.mono hB.size)
            rw [show decide (D.map (fun x : Nat => (x : Int)) = zs) = true from decide_eq_true hzb]
            refine LS.vv rfl rfl (by decide) (Val.pickT rfl rfl rfl) ?_
            refine LS.vv rfl rfl (by decide) (Val.assign rfl) ?_
            refine LS.nil ?_
            refine W.ret ?_
            refine thenP_ret ?_
            refine ret1 (by first | exact .inl rfl | exact .inr rfl) rfl ?_
            first | exact ⟨rfl, hB⟩ | contradiction | (exfalso; omega)
          ·
            have hy0 : Y % 16 ≠ 0 := by omega
            obtain ⟨rfl, rfl⟩ := hf2 (blot_wrong hsm (by omega) (by omega) hal hpos hlsl hx16 (xor_ne hy0))
            refine W.skip ?_
            refine thenP_normal ?_
            refine W.seqR ?_
            refine LS.vv rfl rfl (by decide) (Val.move rfl) ?_
            refine LS.vv rfl rfl (by decide) (Val.cast (v := .bool true) (Val.eql rfl rfl) (by first | (simp; done) | (simp; omega))) ?_
            refine LS.vv rfl rfl (by decide) (Val.move rfl) ?_
            refine LS.vg rfl rfl rfl rfl (by decide) (Val.move rfl) ?_
            refine LS.vg rfl rfl rfl rfl (by decide) (Val.cast (v := .bool true) (Val.eql rfl rfl) (by first | (simp; done) | (simp; omega))) ?_
            refine LS.vv rfl rfl (by decide) (Val.pickT rfl rfl rfl) ?_
            refine LS.vv rfl rfl (by decide) (Val.move rfl) ?_
            refine LS.vg rfl rfl rfl rfl (by decide) (Val.move rfl) ?_
            refine LS.vg rfl rfl rfl rfl (by decide) (Val.len Try.underlying27 rfl) ?_
            refine LS.vg rfl rfl rfl rfl (by decide) (Val.cast (v := .bool true) (Val.eql rfl rfl) (by first | (simp; done) | (simp; omega))) ?_
            refine LS.vv rfl rfl (by decide) (Val.pickT rfl rfl rfl) ?_
            refine LS.vv rfl rfl (by decide) (Val.assign rfl) ?_
            refine LS.nil ?_
            refine W.ret ?_
            refine ret1 (by first | exact .inl rfl | exact .inr rfl) rfl ?_
            first | exact ⟨rfl, hB⟩ | contradiction | (exfalso; omega)
        ·
          obtain ⟨ls, hlsd⟩ : ∃ ls, ls = List.replicate (d.length + 2) false := ⟨_, rfl⟩
          have hlsb : ∀ k, gb ls k = true → k = Bj ∧ k ≠ A := fun k h => by
            rw [hlsd, gb_rep] at h; cases h
          have hlsl : ls.length = d.length + 2 := by rw [hlsd]; simp
          have hpos : (pos ls (d.length + 2)).length ≤ 1 := by have := pos_two (i := Bj) (j := Bj) (fun k h => .inl (hlsb k h).1) (d.length + 2); simp at this; split at this <;> omega
          have hal : gb ls A = false := by cases h : gb ls A with | false => rfl | true => exact absurd rfl (hlsb _ h).2
          have hwA := word_sm hsm A
          refine W.skip ?_
          refine thenP_normal ?_
          refine W.seqR ?_
          refine LS.vv rfl rfl (by decide) (Val.move rfl) ?_
          refine LS.vv rfl rfl (by decide) (Val.move rfl) ?_
          refine LS.vv rfl rfl (by decide) (Val.move rfl) ?_
          refine LS.vv rfl rfl (by decide) (Val.move rfl) ?_
          rw [← hlsd] at hM
          refine LS.vv rfl rfl (by decide) (Val.index1 Try.underlying27 elem3 rfl rfl (by first | omega | (simp only [List.length_set, List.length_replicate]; omega)) (hM.o1.rd) (nv_lt (by first | omega | (simp only [List.length_set, List.length_replicate]; omega)))) ?_
          refine LS.m rfl (Step.load rfl rfl (by decide) flat3 rfl (hM.o1.rd) (nv_at (by first | omega | (simp only [List.length_set, List.length_replicate]; omega))) ?_)
          refine LS.vv rfl rfl (by decide) (Val.move rfl) ?_
          refine LS.vv rfl rfl (by decide) (Val.conv rfl Try.underlying5 Try.underlying3 (IntWalk.i64_in _ (by first | omega | (simp only [List.length_set, List.length_replicate]; omega)))) ?_
          first | refine LS.vv rfl rfl (by decide) (Val.remN (j := 16) rfl rfl (by first | omega | (simp only [List.length_set, List.length_replicate]; omega))) ?_ | refine LS.vv rfl rfl (by decide) (Val.rem rfl rfl (by first | omega | (simp only [List.length_set, List.length_replicate]; omega)) (by first | omega | (simp only [List.length_set, List.length_replicate]; omega))) ?_ | refine LS.vv rfl rfl (by decide) (Val.remT rfl rfl (by first | omega | (simp only [List.length_set, List.length_replicate]; omega))) ?_
          refine LS.vv rfl rfl (by decide) (Val.xor64 rfl rfl (by first | omega | (simp only [List.length_set, List.length_replicate]; omega)) (by first | omega | (simp only [List.length_set, List.length_replicate]; omega))) ?_
          have hx16 := xor16 hwA hY16
          refine LS.vv rfl rfl (by decide) (Val.index1 Try.underlying27 elem3 rfl rfl (by first | omega | (simp only [List.length_set, List.length_replicate]; omega)) (hM.o1.rd) (nv_lt (by first | omega | (simp only [List.length_set, List.length_replicate]; omega)))) ?_
          refine LS.m rfl (Step.store (B := w0.heap.size) rfl rfl flat3 elem3 rfl rfl rfl (hM.o1) (by first | omega | (simp only [List.length_set, List.length_replicate]; omega)) hB.size ?_)
          rintro w12 hO12 hg12 hbl12 hsz12
          replace hM := hM.s1 hg12 hO12 inl_block
          try simp only [nv_app1, nv_app, nv_set, nv_rep, nv_one, nv_cons, nv_take, nv_drop, List.nil_append] at hM
          replace hB := hB.trans hbl12
          refine LS.nil ?_
          refine W.seqR ?_
          refine LS.vv rfl rfl (by decide) (Val.move rfl) ?_
          refine LS.vv rfl rfl (by decide) (Val.move rfl) ?_
          refine LS.m rfl (Step.call body30 rfl rfl (by decide) rfl (CallsV.mono (Fill_len ((word d).set A (gn (word d) A ^^^ Y % 16)) (((word d).set A (gn (word d) A ^^^ Y % 16)).map fun x : Nat => (x : Int)) ls d.length _ _ _ _ _ _ _ (by rw [← nv_cast]; exact hM.o1.rd) hM.o0.rd (by simp; omega) hlsl (by omega) (by omega) (by simp; omega) (by omega) (by omega) (sm_set (word_sm hsm) (by omega) hx16) (by omega) (fun j hj hb => gz_cast _ j)) ?_))
          rintro _ w13 ⟨p2, c2, D, f, rfl, hRD, hf1, hf2, hb13⟩
          replace hM := hM.below hb13
          replace hB := hB.trans (hb13.mono hB.size)
          refine LS.vv rfl rfl (by decide) (Val.move rfl) ?_
          refine LS.vv rfl rfl (by decide) (Val.extract rfl rfl) ?_
          refine LS.vv rfl rfl (by decide) (Val.extract rfl rfl) ?_
          refine LS.vv rfl rfl (by decide) (Val.assign rfl) ?_
          refine LS.vv rfl rfl (by decide) (Val.assign rfl) ?_
          refine LS.nil ?_
          refine W.seq ?_
          refine W.seqR ?_
          refine LS.vv rfl rfl (by decide) (Val.move rfl) ?_
          refine LS.vv rfl rfl (by decide) (Val.remN (j := 16) rfl rfl (by first | omega | (simp only [List.length_set, List.length_replicate]; omega))) ?_
          refine LS.vv rfl rfl (by decide) (Val.eql rfl rfl) ?_
          refine LS.nil ?_
          first | refine W.condD rfl (fun hc6 => ?_) (fun hc6 => ?_) | refine W.cond rfl (fun hc6 => ?_) (fun hc6 => ?_)
          ·
            have hy0 : Y % 16 = 0 := by omega
            rw [hy0, Nat.xor_zero, set_back (by omega)] at hf1
            obtain ⟨hb1, hb2⟩ := blot_word (ls := ls) hsm (by omega) (by omega)
            obtain ⟨rfl, hD⟩ := hf1 hb2
            rw [hb1] at hD
            subst hD
            refine W.seqR ?_
            refine LS.vv rfl rfl (by decide) (Val.move rfl) ?_
            refine LS.vv rfl rfl (by decide) (Val.cast (v := .bool true) (Val.eql rfl rfl) (by first | (simp; done) | (simp; omega))) ?_
            refine LS.vv rfl rfl (by decide) (Val.move rfl) ?_
            refine LS.vg rfl rfl rfl rfl (by decide) (Val.move rfl) ?_
            refine LS.vg rfl rfl rfl rfl (by decide) (Val.cast (v := .bool true) (Val.eql rfl rfl) (by first | (simp; done) | (simp; omega))) ?_
            refine LS.vv rfl rfl (by decide) (Val.pickT rfl rfl rfl) ?_
            refine LS.vv rfl rfl (by decide) (Val.move rfl) ?_
            refine LS.vg rfl rfl rfl rfl (by decide) (Val.move rfl) ?_
            refine LS.vg rfl rfl rfl rfl (by decide) (Val.move rfl) ?_
            refine LS.mg rfl rfl rfl (Step.call body21 rfl rfl (by decide) rfl (CallsV.mono (intsEq_len (D.map fun x : Nat => (x : Int)) zs _ _ _ _ _ _ _ (by rw [← nv_cast]; exact hRD) (hr.below hB) (by simp) rfl (by omega)) ?_))
            rintro _ w14 ⟨rfl, hb14⟩
            replace hM := hM.below hb14
            replace hB := hB.trans (hb14.mono hB.size)
            rw [show decide (D.map (fun x : Nat => (x : Int)) = zs) = true from decide_eq_true hzb]
            refine LS.vv rfl rfl (by decide) (Val.pickT rfl rfl rfl) ?_
            refine LS.vv rfl rfl (by decide) (Val.assign rfl) ?_
            refine LS.nil ?_
            refine W.ret ?_
            refine thenP_ret ?_
            refine ret1 (by first | exact .inl rfl | exact .inr rfl) rfl ?_
            first | exact ⟨rfl, hB⟩ | contradiction | (exfalso; omega)
          ·
            have hy0 : Y % 16 ≠ 0 := by omega
            obtain ⟨rfl, rfl⟩ := hf2 (blot_wrong hsm (by omega) (by omega) hal hpos hlsl hx16 (xor_ne hy0))
            refine W.skip ?_
            refine thenP_normal ?_
            refine W.seqR ?_
            refine LS.vv rfl rfl (by decide) (Val.move rfl) ?_
            refine LS.vv rfl rfl (by decide) (Val.cast (v := .bool true) (Val.eql rfl rfl) (by first | (simp; done) | (simp; omega))) ?_
            refine LS.vv rfl rfl (by decide) (Val.move rfl) ?_
            refine LS.vg rfl rfl rfl rfl (by decide) (Val.move rfl) ?_
            refine LS.vg rfl rfl rfl rfl (by decide) (Val.cast (v := .bool true) (Val.eql rfl rfl) (by first | (simp; done) | (simp; omega))) ?_
            refine LS.vv rfl rfl (by decide) (Val.pickT rfl rfl rfl) ?_
            refine LS.vv rfl rfl (by decide) (Val.move rfl) ?_
            refine LS.vg rfl rfl rfl rfl (by decide) (Val.move rfl) ?_
            refine LS.vg rfl rfl rfl rfl (by decide) (Val.len Try.underlying27 rfl) ?_
            refine LS.vg rfl rfl rfl rfl (by decide) (Val.cast (v := .bool true) (Val.eql rfl rfl) (by first | (simp; done) | (simp; omega))) ?_
            refine LS.vv rfl rfl (by decide) (Val.pickT rfl rfl rfl) ?_
            refine LS.vv rfl rfl (by decide) (Val.assign rfl) ?_
            refine LS.nil ?_
            refine W.ret ?_
            refine ret1 (by first | exact .inl rfl | exact .inr rfl) rfl ?_
            first | exact ⟨rfl, hB⟩ | contradiction | (exfalso; omega)

end Go.Proofs.Ytnaebllojkodbaa
