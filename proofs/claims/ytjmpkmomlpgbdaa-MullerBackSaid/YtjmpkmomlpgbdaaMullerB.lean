/-
  The statement MullerBack.
-/
import Derived.Test.YtjmpkmomlpgbdaaMullerG
import Derived.Test.YtjmpkmomlpgbdaaMullerF
namespace Go.Proofs.Ytjmpkmomlpgbdaa
open Go Go.RowKit V
set_option linter.unusedVariables false
set_option linter.unusedSimpArgs false

set_option maxRecDepth 20000 in
theorem mullerBack_any (r m : Int) (dt : List Bool) (pl : List Nat) (p q : Option Addr) (c d na nb : Nat) (w0 : World) (hr1 : Rd w0 p (bv dt)) (hr2 : Rd w0 q (yv pl)) (hna : dt.length = na) (hnb : pl.length = nb) (hla : na ≤ 9223372036854775807) (hlb : nb ≤ 9223372036854775807) (hpl : ∀ x ∈ pl, x < 256) :
    CallsV Try.prog 4 #[.int .i64 r, .int .i64 m, .slice p na c, .slice q nb d] w0 (fun v w => v = .bool true ∧ Below w0.heap.size w0 w) := by
  refine enter1 Try.func4 rfl Try.ntmps4 (by simp) rfl ?_
  have hB := Below.refl w0.heap.size w0
  simp only [argLoc, Nat.zero_add, Nat.reduceAdd]
  have hM := Mem.nil w0 w0.heap.size
  subst hnb
  refine W.seqR ?_
  refine LS.vv rfl rfl (by decide) (Val.assign rfl) ?_
  refine LS.nil ?_
  refine W.seqR ?_
  refine LS.vv rfl rfl (by decide) (Val.move rfl) ?_
  refine LS.vv rfl rfl (by decide) (Val.move rfl) ?_
  refine LS.vv rfl rfl (by decide) (Val.move rfl) ?_
  refine LS.m rfl (Step.call body9 rfl rfl (by decide) rfl (CallsV.mono (Put_any r m dt _ _ _ _ (hr1.below hB) hna hla) ?_))
  rintro _ w1 ⟨px, cx, X, e, rfl, hOx, he, hx, hz, hb1⟩
  replace hM := hM.add hB.size hb1 hOx
  replace hB := hB.trans (hb1.mono hB.size)
  refine LS.vv rfl rfl (by decide) (Val.move rfl) ?_
  refine LS.vv rfl rfl (by decide) (Val.extract rfl rfl) ?_
  refine LS.vv rfl rfl (by decide) (Val.extract rfl rfl) ?_
  refine LS.vv rfl rfl (by decide) (Val.assign rfl) ?_
  refine LS.vv rfl rfl (by decide) (Val.assign rfl) ?_
  refine LS.nil ?_
  refine W.seq ?_
  refine W.seqR ?_
  refine LS.vv rfl rfl (by decide) (Val.move rfl) ?_
  refine LS.vv rfl rfl (by decide) (Val.lss rfl rfl) ?_
  refine LS.vv rfl rfl (by decide) (Val.move rfl) ?_
  refine LS.split 2 rfl (fun hg1 => ?_) (fun hg1 => ?_)
  ·
    first | (have hg1p := of_decide_eq_true hg1) | skip
    refine LS.s rfl rfl rfl hg1 (by decide) ?_
    refine LS.s rfl rfl rfl hg1 (by decide) ?_
    refine LS.vv rfl rfl (by decide) (Val.pickT rfl hg1 rfl) ?_
    refine LS.vv rfl rfl (by decide) (Val.move rfl) ?_
    refine LS.s rfl rfl rfl rfl (by decide) ?_
    refine LS.s rfl rfl rfl rfl (by decide) ?_
    refine LS.vv rfl rfl (by decide) (Val.pickT rfl rfl rfl) ?_
    refine LS.vv rfl rfl (by decide) (Val.move rfl) ?_
    refine LS.s rfl rfl rfl rfl (by decide) ?_
    refine LS.s rfl rfl rfl rfl (by decide) ?_
    refine LS.s rfl rfl rfl rfl (by decide) ?_
    refine LS.vv rfl rfl (by decide) (Val.pickT rfl rfl rfl) ?_
    refine LS.nil ?_
    refine W.condT rfl ?_
    refine W.seqR ?_
    refine LS.vv rfl rfl (by decide) (Val.move rfl) ?_
    refine LS.vv rfl rfl (by decide) (Val.cast (v := .bool true) (Val.neq rfl rfl) (by refine congrArg Value.bool (decide_eq_true ?_); omega)) ?_
    refine LS.vv rfl rfl (by decide) (Val.assign rfl) ?_
    refine LS.nil ?_
    refine W.ret ?_
    refine thenP_ret ?_
    refine ret1 (by first | exact .inl rfl | exact .inr rfl) rfl ?_
    first | exact ⟨rfl, hB⟩ | contradiction | (exfalso; omega)
  ·
    first | (have hg1p := of_decide_eq_false hg1) | skip
    refine LS.vg rfl rfl rfl hg1 (by decide) (Val.move rfl) ?_
    refine LS.vg rfl rfl rfl hg1 (by decide) (Val.gtr rfl rfl) ?_
    refine LS.vv rfl rfl (by decide) (Val.pickF rfl hg1 rfl) ?_
    refine LS.vv rfl rfl (by decide) (Val.move rfl) ?_
    refine LS.split 6 rfl (fun hg2 => ?_) (fun hg2 => ?_)
    ·
      first | (have hg2p := of_decide_eq_true hg2) | skip
      refine LS.s rfl rfl rfl hg2 (by decide) ?_
      refine LS.s rfl rfl rfl hg2 (by decide) ?_
      refine LS.vv rfl rfl (by decide) (Val.pickT rfl hg2 rfl) ?_
      refine LS.vv rfl rfl (by decide) (Val.move rfl) ?_
      refine LS.s rfl rfl rfl rfl (by decide) ?_
      refine LS.s rfl rfl rfl rfl (by decide) ?_
      refine LS.s rfl rfl rfl rfl (by decide) ?_
      refine LS.vv rfl rfl (by decide) (Val.pickT rfl rfl rfl) ?_
      refine LS.nil ?_
      refine W.condT rfl ?_
      refine W.seqR ?_
      refine LS.vv rfl rfl (by decide) (Val.move rfl) ?_
      refine LS.vv rfl rfl (by decide) (Val.cast (v := .bool true) (Val.neq rfl rfl) (by refine congrArg Value.bool (decide_eq_true ?_); omega)) ?_
      refine LS.vv rfl rfl (by decide) (Val.assign rfl) ?_
      refine LS.nil ?_
      refine W.ret ?_
      refine thenP_ret ?_
      refine ret1 (by first | exact .inl rfl | exact .inr rfl) rfl ?_
      first | exact ⟨rfl, hB⟩ | contradiction | (exfalso; omega)
    ·
      first | (have hg2p := of_decide_eq_false hg2) | skip
      refine LS.vg rfl rfl rfl hg2 (by decide) (Val.move rfl) ?_
      refine LS.vg rfl rfl rfl hg2 (by decide) (Val.lss rfl rfl) ?_
      refine LS.vv rfl rfl (by decide) (Val.pickF rfl hg2 rfl) ?_
      refine LS.vv rfl rfl (by decide) (Val.move rfl) ?_
      refine LS.split 10 rfl (fun hg3 => ?_) (fun hg3 => ?_)
      ·
        first | (have hg3p := of_decide_eq_true hg3) | skip
        refine LS.s rfl rfl rfl hg3 (by decide) ?_
        refine LS.s rfl rfl rfl hg3 (by decide) ?_
        refine LS.s rfl rfl rfl hg3 (by decide) ?_
        refine LS.vv rfl rfl (by decide) (Val.pickT rfl hg3 rfl) ?_
        refine LS.nil ?_
        refine W.condT rfl ?_
        refine W.seqR ?_
        refine LS.vv rfl rfl (by decide) (Val.move rfl) ?_
        refine LS.vv rfl rfl (by decide) (Val.cast (v := .bool true) (Val.neq rfl rfl) (by refine congrArg Value.bool (decide_eq_true ?_); omega)) ?_
        refine LS.vv rfl rfl (by decide) (Val.assign rfl) ?_
        refine LS.nil ?_
        refine W.ret ?_
        refine thenP_ret ?_
        refine ret1 (by first | exact .inl rfl | exact .inr rfl) rfl ?_
        first | exact ⟨rfl, hB⟩ | contradiction | (exfalso; omega)
      ·
        first | (have hg3p := of_decide_eq_false hg3) | skip
        refine LS.vg rfl rfl rfl hg3 (by decide) (Val.move rfl) ?_
        refine LS.vg rfl rfl rfl hg3 (by decide) (Val.move rfl) ?_
        refine LS.vg rfl rfl rfl hg3 (by decide) (Val.gtr rfl rfl) ?_
        refine LS.vv rfl rfl (by decide) (Val.pickF rfl hg3 rfl) ?_
        refine LS.nil ?_
        first | refine W.condD rfl (fun hc4 => ?_) (fun hc4 => ?_) | refine W.cond rfl (fun hc4 => ?_) (fun hc4 => ?_)
        ·
          refine W.seqR ?_
          refine LS.vv rfl rfl (by decide) (Val.move rfl) ?_
          refine LS.vv rfl rfl (by decide) (Val.cast (v := .bool true) (Val.neq rfl rfl) (by refine congrArg Value.bool (decide_eq_true ?_); omega)) ?_
          refine LS.vv rfl rfl (by decide) (Val.assign rfl) ?_
          refine LS.nil ?_
          refine W.ret ?_
          refine thenP_ret ?_
          refine ret1 (by first | exact .inl rfl | exact .inr rfl) rfl ?_
          first | exact ⟨rfl, hB⟩ | contradiction | (exfalso; omega)
        ·
          refine W.skip ?_
          refine thenP_normal ?_
          refine W.seq ?_
          refine W.seqR ?_
          refine LS.vv rfl rfl (by decide) (Val.move rfl) ?_
          refine LS.vv rfl rfl (by decide) (Val.neq rfl rfl) ?_
          refine LS.nil ?_
          first | refine W.condD rfl (fun hc5 => ?_) (fun hc5 => ?_) | refine W.cond rfl (fun hc5 => ?_) (fun hc5 => ?_)
          ·
            refine W.seqR ?_
            refine LS.vv rfl rfl (by decide) (Val.move rfl) ?_
            refine LS.vv rfl rfl (by decide) (Val.len Try.underlying22 rfl) ?_
            obtain rfl := hz (by omega)
            refine LS.vv rfl rfl (by decide) (Val.cast (v := .bool true) (Val.eql rfl rfl) (by rfl)) ?_
            refine LS.vv rfl rfl (by decide) (Val.assign rfl) ?_
            refine LS.nil ?_
            refine W.ret ?_
            refine thenP_ret ?_
            refine ret1 (by first | exact .inl rfl | exact .inr rfl) rfl ?_
            first | exact ⟨rfl, hB⟩ | contradiction | (exfalso; omega)
          ·
            have he1 := he.1 (by omega)
            obtain rfl := hx (by omega)
            obtain ⟨R, rfl⟩ := Int.eq_ofNat_of_zero_le he1.1.1
            obtain ⟨M, rfl⟩ := Int.eq_ofNat_of_zero_le (show 0 ≤ m by omega)
            simp only [Int.toNat_natCast] at *
            have hv0 := he1.1
            obtain ⟨hp1, hp2⟩ := pow_le16 (m := M) (by omega)
            have hwa : (mword R M dt).length = 2 ^ M := cw_len _ _
            refine W.skip ?_
            refine thenP_normal ?_
            refine W.seq ?_
            refine W.seqR ?_
            refine LS.vv rfl rfl (by decide) (Val.move rfl) ?_
            refine LS.vv rfl rfl (by decide) (Val.len Try.underlying22 rfl) ?_
            refine LS.vv rfl rfl (by decide) (Val.move rfl) ?_
            refine LS.vv rfl rfl (by decide) (Val.conv rfl Try.underlying3 Try.underlying26 (IntWalk.u64_in _ (by omega))) ?_
            refine LS.vv rfl rfl (by decide) (Val.cast (v := .int .i64 ((2 ^ M : Nat) : Int)) (Val.shl64 (i := 1) rfl rfl (by omega) (by omega)) (by rw [hp1])) ?_
            refine LS.vv rfl rfl (by decide) (Val.cast (v := .bool false) (Val.neq rfl rfl) (by refine congrArg Value.bool (decide_eq_false ?_); omega)) ?_
            refine LS.nil ?_
            refine W.condF rfl ?_
            refine W.skip ?_
            refine thenP_normal ?_
            refine W.seqR ?_
            refine LS.m rfl (Step.lit rfl rfl (by decide) Try.underlying22 elem4 rfl rfl (by omega) (by simp [Value.oneCell']) (Nat.le_refl _) ?_)
            rintro w2 hO2 hg2 hbl2 hsz2
            replace hM := hM.add hB.size hbl2 hO2
            try simp only [bv_app1, bv_app, bv_set, bv_rep, bv_one, bv_cons, bv_take, bv_drop, List.nil_append] at hM
            replace hB := hB.trans (hbl2.mono hB.size)
            generalize w1.heap.size = gg2 at *
            replace hM := hM
            refine LS.vv rfl rfl (by decide) (Val.move rfl) ?_
            refine LS.m rfl (Step.append2 (B := w0.heap.size) rfl rfl (by decide) Try.underlying22 elem4 rfl rfl rfl rfl (hM.o0) (hM.o1.rd) (by first | rfl | (simp; done) | (simp; omega)) (by first | exact one_map _ (fun _ => rfl) _ | simp [Value.oneCell']) (by omega) (by omega) hB.size ?_)
            rintro p3 c3 w3 hO3 hg3 hbl3 hbk3
            replace hM := hM.s0 hg3 hO3 hbk3
            try simp only [bv_app1, bv_app, bv_set, bv_rep, bv_one, bv_cons, bv_take, bv_drop, List.nil_append] at hM
            replace hB := hB.trans hbl3
            simp only [hwa, Nat.zero_add] at hM
            simp only [hwa, Nat.zero_add]
            refine LS.vv rfl rfl (by decide) (Val.assign rfl) ?_
            refine LS.nil ?_
            refine W.seq ?_
            refine W.seqR ?_
            refine LS.vv rfl rfl (by decide) (Val.move rfl) ?_
            refine LS.vv rfl rfl (by decide) (Val.len Try.underlying30 rfl) ?_
            refine LS.vv rfl rfl (by decide) (Val.cast (v := .int .i64 ((0 : Nat) : Int)) (Val.move rfl) rfl) ?_
            refine LS.nil ?_
            refine W.block ?_
            refine W.loop (α := Nat × List Bool) (fun g => [(56, .int .i64 (g.1 : Int))]) [(0, _), (1, _), (2, _), (9, _), (11, _), (54, _), (55, _)] (fun g w => (g.1 ≤ pl.length ∧ g.2.length = 2 ^ M) ∧ Mem w w0.heap.size [⟨4, p3, 2 ^ M, c3, bv g.2⟩, ⟨4, px, 2 ^ M, cx, bv (mword R M dt)⟩] ∧ Below w0.heap.size w0 w) (fun g => pl.length - g.1) ((0, (mword R M dt))) (Sub.cons rfl (Sub.nil _)) (Sub.cons rfl (Sub.cons rfl (Sub.cons rfl (Sub.cons rfl (Sub.cons rfl (Sub.cons rfl (Sub.cons rfl (Sub.nil _)))))))) ?_ ?_
            · exact ⟨⟨Nat.zero_le _, hwa⟩, hM, hB⟩
            rintro ⟨k, Y⟩ w4 ⟨⟨hk, hY⟩, hM, hB⟩
            try simp only at hM
            simp only [List.cons_append, List.nil_append]
            simp only at hk hY
            refine W.seqR ?_
            refine LS.vv rfl rfl (by decide) (Val.lss rfl rfl) ?_
            refine LS.nil ?_
            refine W.seq ?_
            first | refine W.condD rfl (fun hc6 => ?_) (fun hc6 => ?_) | refine W.cond rfl (fun hc6 => ?_) (fun hc6 => ?_)
            ·
              refine W.skip ?_
              refine thenP_normal ?_
              refine W.seq ?_
              refine W.block ?_
              refine W.seqR ?_
              refine LS.vv rfl rfl (by decide) (Val.index1 Try.underlying30 elem5 rfl rfl (by omega) ((hr2.below hB)) (yv_lt (by omega))) ?_
              refine LS.m rfl (Step.load rfl rfl (by decide) flat5 rfl ((hr2.below hB)) (yv_at (by omega)) ?_)
              have hpk : gn pl k < 256 := by rw [gn_lt (show k < pl.length by omega)]; exact hpl _ (List.getElem_mem _)
              have hmd := Nat.mod_lt (gn pl k) (show 0 < 2 ^ M from Nat.two_pow_pos M)
              refine LS.vv rfl rfl (by decide) (Val.assign rfl) ?_
              refine LS.nil ?_
              refine W.regF 16 [(0, true), (1, true), (2, true), (3, true), (4, true), (5, true), (6, true), (7, true), (8, true), (9, true), (10, true), (11, true), (12, true), (13, true), (14, true), (15, true), (16, false)] mixed (by kernel_rfl) hB hM ?_
              replace hB := hB.drew
              replace hM := hM.drew
              refine DF.vv rfl rfl rfl (by decide) (Val.move rfl) ?_
              refine DF.vv rfl rfl rfl (by decide) (Val.move rfl) ?_
              refine DF.vv rfl rfl rfl (by decide) (Val.conv rfl Try.underlying5 Try.underlying3 (IntWalk.i64_in _ (by omega))) ?_
              refine DF.vv rfl rfl rfl (by decide) (Val.move rfl) ?_
              refine DF.vv rfl rfl rfl (by decide) (Val.len Try.underlying22 rfl) ?_
              first | refine DF.vv rfl rfl rfl (by decide) (Val.remN rfl rfl (by omega)) ?_ | refine DF.vv rfl rfl rfl (by decide) (Val.rem rfl rfl (by omega) (by omega)) ?_ | refine DF.vv rfl rfl rfl (by decide) (Val.remT rfl rfl (by omega)) ?_
              refine DF.vv rfl rfl rfl (by decide) (Val.move rfl) ?_
              refine DF.vv rfl rfl rfl (by decide) (Val.move rfl) ?_
              refine DF.vv rfl rfl rfl (by decide) (Val.conv rfl Try.underlying5 Try.underlying3 (IntWalk.i64_in _ (by omega))) ?_
              refine DF.vv rfl rfl rfl (by decide) (Val.move rfl) ?_
              refine DF.vv rfl rfl rfl (by decide) (Val.len Try.underlying22 rfl) ?_
              first | refine DF.vv rfl rfl rfl (by decide) (Val.remN rfl rfl (by omega)) ?_ | refine DF.vv rfl rfl rfl (by decide) (Val.rem rfl rfl (by omega) (by omega)) ?_ | refine DF.vv rfl rfl rfl (by decide) (Val.remT rfl rfl (by omega)) ?_
              refine DF.vv rfl rfl rfl (by decide) (Val.index1 Try.underlying22 elem4 rfl rfl (by omega) (hM.o0.rd) (bv_lt (by omega))) ?_
              refine DF.vv rfl rfl rfl (by decide) (Val.load flat4 rfl (fun _ h => h.2.o0.rd) (bv_at (by omega))) ?_
              refine DF.vv rfl rfl rfl (by decide) (Val.not rfl) ?_
              refine DF.vv rfl rfl rfl (by decide) (Val.index1 Try.underlying22 elem4 rfl rfl (by omega) (hM.o0.rd) (bv_lt (by omega))) ?_
              refine DF.m rfl rfl (Step.store (B := w0.heap.size) rfl rfl flat4 elem4 rfl rfl rfl (hM.o0) (by omega) hB.size ?_)
              rintro w5 hO5 hg5 hbl5 hsz5
              replace hM := hM.s0 hg5 hO5 inl_block
              try simp only [bv_app1, bv_app, bv_set, bv_rep, bv_one, bv_cons, bv_take, bv_drop, List.nil_append] at hM
              replace hB := hB.trans hbl5
              refine ⟨fun h => absurd rfl h, ?_⟩
              refine DF.nil ?_
              refine inBlk_normal ?_
              refine thenP_normal ?_
              refine W.reg ?_
              first | refine LS.vv rfl rfl (by decide) (Val.addN (j := 1) rfl rfl (by omega)) ?_ | refine LS.vv rfl rfl (by decide) (Val.add64 rfl rfl (by omega)) ?_
              refine LS.vv rfl rfl (by decide) (Val.move rfl) ?_
              refine LS.nil ?_
              refine thenP_normal ?_
              refine ⟨(k + 1, Y.set (gn pl k % 2 ^ M) (!gb Y (gn pl k % 2 ^ M))), ?_, ?_, ⟨⟨by simp only; omega, by simp only [List.length_set]; exact hY⟩, hM, hB⟩, by simp only; omega⟩
              · exact (Sub.cons rfl (Sub.nil _))
              · repeat (first | exact Sub.nil _ | refine Sub.cons rfl ?_)
            ·
              refine W.exit ?_
              refine thenP_exit ?_
              refine thenP_exit ?_
              refine inBlk_exit ?_
              refine thenP_normal ?_
              refine W.seqR ?_
              refine LS.vv rfl rfl (by decide) (Val.move rfl) ?_
              refine LS.vv rfl rfl (by decide) (Val.move rfl) ?_
              refine LS.vv rfl rfl (by decide) (Val.move rfl) ?_
              refine LS.m rfl (Step.call body12 rfl rfl (by decide) rfl (CallsV.mono (Get_any _ _ Y _ _ _ _ hM.o0.rd hY (by omega)) ?_))
              rintro _ w6 ⟨pd, cd, D2, f, rfl, hOd, hf, hD, hDl, hb6⟩
              replace hM := hM.add hB.size hb6 hOd
              replace hB := hB.trans (hb6.mono hB.size)
              have hf0 : f = 0 := hf.2 ⟨hv0, by simp only [Int.toNat_natCast]⟩
              have hD2 := hD hf0
              simp only [Int.toNat_natCast] at hD2
              refine LS.vv rfl rfl (by decide) (Val.move rfl) ?_
              refine LS.vv rfl rfl (by decide) (Val.extract rfl rfl) ?_
              refine LS.vv rfl rfl (by decide) (Val.extract rfl rfl) ?_
              refine LS.vv rfl rfl (by decide) (Val.assign rfl) ?_
              refine LS.vv rfl rfl (by decide) (Val.assign rfl) ?_
              refine LS.nil ?_
              refine W.seqR ?_
              refine LS.vv rfl rfl (by decide) (Val.move rfl) ?_
              refine LS.vv rfl rfl (by decide) (Val.cast (v := .bool true) (Val.eql rfl rfl) (by refine congrArg Value.bool (decide_eq_true ?_); omega)) ?_
              refine LS.vv rfl rfl (by decide) (Val.move rfl) ?_
              refine LS.vg rfl rfl rfl rfl (by decide) (Val.move rfl) ?_
              refine LS.vg rfl rfl rfl rfl (by decide) (Val.move rfl) ?_
              refine LS.mg rfl rfl rfl (Step.call body11 rfl rfl (by decide) rfl (CallsV.mono (differN (mword R M dt) Y _ _ _ _ 0 _ _ _ hM.o2.rd hM.o1.rd hwa hY rfl (by omega)) ?_))
              rintro _ w7 ⟨rfl, hb7⟩
              replace hM := hM.below hb7
              replace hB := hB.trans (hb7.mono hB.size)
              have hcs := cnt_self (fun i => xor (gb (mword R M dt) i) (gb Y i)) (2 ^ M)
              first | refine LS.vg rfl rfl rfl rfl (by decide) (Val.mulN (i := 2) rfl rfl (by omega)) ?_ | refine LS.vg rfl rfl rfl rfl (by decide) (Val.mul64 rfl rfl (by omega)) ?_
              refine LS.vg rfl rfl rfl rfl (by decide) (Val.move rfl) ?_
              refine LS.vg rfl rfl rfl rfl (by decide) (Val.move rfl) ?_
              refine LS.vg rfl rfl rfl rfl (by decide) (Val.subN rfl rfl (by omega) (by omega)) ?_
              refine LS.vg rfl rfl rfl rfl (by decide) (Val.conv rfl Try.underlying3 Try.underlying26 (IntWalk.u64_in _ (by omega))) ?_
              have hmr : 1 <<< (M - R) ≤ 16 := by rw [Nat.one_shiftLeft]; exact Nat.pow_le_pow_right (n := 2) (by omega) (show M - R ≤ 4 by omega)
              refine LS.vg rfl rfl rfl rfl (by decide) (Val.cast (v := .int .i64 ((2 ^ (M - R) : Nat) : Int)) (Val.shl64 (i := 1) rfl rfl (by omega) (by omega)) (by rw [Nat.one_shiftLeft])) ?_
              clear hmr
              refine LS.vg rfl rfl rfl rfl (by decide) (Val.geq rfl rfl) ?_
              refine LS.vg rfl rfl rfl rfl (by decide) (Val.move rfl) ?_
              refine LS.split 13 rfl (fun hg7 => ?_) (fun hg7 => ?_)
              ·
                first | (have hg7p := of_decide_eq_true hg7) | skip
                refine LS.s rfl rfl rfl hg7 (by decide) ?_
                refine LS.s rfl rfl rfl hg7 (by decide) ?_
                refine LS.s rfl rfl rfl hg7 (by decide) ?_
                refine LS.vg rfl rfl rfl rfl (by decide) (Val.pickT rfl hg7 rfl) ?_
                refine LS.vv rfl rfl (by decide) (Val.pickT rfl rfl rfl) ?_
                refine LS.vv rfl rfl (by decide) (Val.assign rfl) ?_
                refine LS.nil ?_
                refine W.ret ?_
                refine ret1 (by first | exact .inl rfl | exact .inr rfl) rfl ?_
                first | exact ⟨rfl, hB⟩ | contradiction | (exfalso; omega)
              ·
                first | (have hg7p := of_decide_eq_false hg7) | skip
                refine LS.vg rfl rfl rfl hg7 (by decide) (Val.move rfl) ?_
                refine LS.vg rfl rfl rfl hg7 (by decide) (Val.move rfl) ?_
                have hback := get_data (e := fun i => xor (gb (mword R M dt) i) (gb Y i)) (F0 := gb Y) (by omega) (prodsP (m := M) (r := R) (by omega) (by omega)) (hna.trans he1.2) (fun x hx => by rw [show gb (mword R M dt) x = mk (prods R M) (gb dt) x (prods R M).length from cw_gb hx]; cases mk (prods R M) (gb dt) x (prods R M).length <;> cases gb Y x <;> rfl) (by omega)
                refine LS.mg rfl rfl hg7 (Step.call body10 rfl rfl (by decide) rfl (CallsV.mono (boolsEqN D2 dt _ _ _ _ _ _ _ hM.o0.rd (hr1.below hB) rfl hna (by omega)) ?_))
                rintro _ w8 ⟨rfl, hb8⟩
                replace hM := hM.below hb8
                replace hB := hB.trans (hb8.mono hB.size)
                rw [show decide (D2 = dt) = true from decide_eq_true (hD2.trans hback)]
                refine LS.vg rfl rfl rfl rfl (by decide) (Val.pickF rfl hg7 rfl) ?_
                refine LS.vv rfl rfl (by decide) (Val.pickT rfl rfl rfl) ?_
                refine LS.vv rfl rfl (by decide) (Val.assign rfl) ?_
                refine LS.nil ?_
                refine W.ret ?_
                refine ret1 (by first | exact .inl rfl | exact .inr rfl) rfl ?_
                first | exact ⟨rfl, hB⟩ | contradiction | (exfalso; omega)

end Go.Proofs.Ytjmpkmomlpgbdaa
