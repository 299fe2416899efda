/-
  The statement TrellisBack.
-/
import Derived.Test.YtbbmgcmibgdkiaaTrellis2
import Derived.Test.YtbbmgcmibgdkiaaRefsB
namespace Go.Proofs.Ytbbmgcmibgdkiaa
open Go Go.RowKit V
set_option linter.unusedVariables false
set_option linter.unusedSimpArgs false

theorem two_lt (I J n : Nat) (hn : 0 < n) : ∀ j, j < 2 → gn [I % n, J % n] j < n
  | 0, _ => Nat.mod_lt _ hn
  | 1, _ => Nat.mod_lt _ hn
  | j + 2, h => by omega

theorem backL_any (ds : List Bool) (p : Option Addr) (c I J : Nat) (w0 : World) (hr : Rd w0 p (bv ds)) (hI : I < 256) (hJ : J < 256) :
    CallsV Try.prog 13 #[.slice p ds.length c, .int .u8 (I : Int), .int .u8 (J : Int)] w0 (fun v w => v = .bool true ∧ Below w0.heap.size w0 w) := by
  refine enter1 Try.func13 rfl Try.ntmps13 (by simp) rfl ?_
  have hB := Below.refl w0.heap.size w0
  simp only [argLoc, Nat.zero_add, Nat.reduceAdd]
  have hM := Mz.nil w0 w0.heap.size
  refine W.seqR ?_
  refine LS.vv rfl rfl (by decide) (Val.assign rfl) ?_
  refine LS.nil ?_
  refine W.seqR ?_
  refine LS.vv rfl rfl (by decide) (Val.move rfl) ?_
  refine LS.m rfl (Step.call body38 rfl rfl (by decide) rfl (CallsV.mono (tput_any ds _ _ _ _ (hr.below hB) rfl) ?_))
  rintro _ w1 ⟨p1, c1, L, e, rfl, hOL, he, hL, hb1⟩
  replace hM := hM.add hB.size hb1 hOL.toZ
  replace hB := hB.trans (hb1.mono hB.size)
  refine LS.vv rfl rfl (by decide) (Val.move rfl) ?_
  refine LS.vv rfl rfl (by decide) (Val.extract rfl rfl) ?_
  refine LS.vv rfl rfl (by decide) (Val.extract rfl rfl) ?_
  refine LS.vv rfl rfl (by decide) (Val.assign rfl) ?_
  refine LS.vv rfl rfl (by decide) (Val.assign rfl) ?_
  refine LS.nil ?_
  refine W.seq ?_
  refine W.seqR ?_
  refine LS.vv rfl rfl (by decide) (Val.move rfl) ?_
  refine LS.vv rfl rfl (by decide) (Val.len Try.underlying23 rfl) ?_
  refine LS.vv rfl rfl (by decide) (Val.gtr rfl rfl) ?_
  refine LS.nil ?_
  first | refine W.condD rfl (fun hc1 => ?_) (fun hc1 => ?_) | refine W.cond rfl (fun hc1 => ?_) (fun hc1 => ?_)
  ·
    refine W.seqR ?_
    refine LS.vv rfl rfl (by decide) (Val.move rfl) ?_
    refine LS.vv rfl rfl (by decide) (Val.cast (v := .bool true) (Val.neq rfl rfl) (by refine congrArg Value.bool (decide_eq_true ?_); intro h0; have hq := he.1 (by omega); omega)) ?_
    refine LS.vv rfl rfl (by decide) (Val.assign rfl) ?_
    refine LS.nil ?_
    refine W.ret ?_
    refine thenP_ret ?_
    refine ret1 (by first | exact .inl rfl | exact .inr rfl) rfl ?_
    first | exact ⟨rfl, hB⟩ | contradiction | (exfalso; omega)
  ·
    refine W.skip ?_
    refine thenP_normal ?_
    refine W.seq ?_
    refine W.seqR ?_
    refine LS.vv rfl rfl (by decide) (Val.move rfl) ?_
    have hd12 : ds.length ≤ 12 := by omega
    have hE : e = 0 := he.2 hd12
    obtain rfl := hL hE
    have hlx := putL_len ds
    rw [hlx] at hM ⊢
    have hps := two_lt I J (2 * ds.length + 4) (by omega)
    have hxl : (flT (putL ds) [I % (2 * ds.length + 4), J % (2 * ds.length + 4)] 2).length = (2 * ds.length + 4) := by rw [flT_len, hlx]
    have hxd := flT_dif (putL ds) [I % (2 * ds.length + 4), J % (2 * ds.length + 4)] 2
    have hma := hps 0 (by omega)
    have hmb := hps 1 (by omega)
    refine LS.vv rfl rfl (by decide) (Val.cast (v := .bool false) (Val.neq rfl rfl) (by refine congrArg Value.bool (decide_eq_false ?_); omega)) ?_
    refine LS.vv rfl rfl (by decide) (Val.move rfl) ?_
    refine LS.vg rfl rfl rfl rfl (by decide) (Val.move rfl) ?_
    refine LS.vg rfl rfl rfl rfl (by decide) (Val.len Try.underlying23 rfl) ?_
    refine LS.vg rfl rfl rfl rfl (by decide) (Val.move rfl) ?_
    refine LS.vg rfl rfl rfl rfl (by decide) (Val.len Try.underlying23 rfl) ?_
    first | refine LS.vg rfl rfl rfl rfl (by decide) (Val.mulN (i := 2) rfl rfl (by omega)) ?_ | refine LS.vg rfl rfl rfl rfl (by decide) (Val.mul64 rfl rfl (by omega)) ?_
    first | refine LS.vg rfl rfl rfl rfl (by decide) (Val.addN (j := 4) rfl rfl (by omega)) ?_ | refine LS.vg rfl rfl rfl rfl (by decide) (Val.add64 rfl rfl (by omega)) ?_
    refine LS.vg rfl rfl rfl rfl (by decide) (Val.cast (v := .bool false) (Val.neq rfl rfl) (by refine congrArg Value.bool (decide_eq_false ?_); omega)) ?_
    refine LS.vv rfl rfl (by decide) (Val.pickF rfl rfl rfl) ?_
    refine LS.nil ?_
    refine W.condF rfl ?_
    refine W.skip ?_
    refine thenP_normal ?_
    refine W.seqFz 14 [(0, true), (1, true), (2, true), (3, true), (4, true), (5, true), (6, true), (7, true), (8, true), (9, true), (10, true), (11, false), (12, false), (13, true)] mixed (by kernel_rfl) hB hM ?_
    replace hB := hB.drew
    replace hM := hM.drew
    refine DF.vv rfl rfl rfl (by decide) (Val.move rfl) ?_
    refine DF.vv rfl rfl rfl (by decide) (Val.move rfl) ?_
    refine DF.vv rfl rfl rfl (by decide) (Val.conv rfl Try.underlying5 Try.underlying3 (IntWalk.i64_in _ (by omega))) ?_
    refine DF.vv rfl rfl rfl (by decide) (Val.move rfl) ?_
    refine DF.vv rfl rfl rfl (by decide) (Val.len Try.underlying23 rfl) ?_
    first | refine DF.vv rfl rfl rfl (by decide) (Val.remN rfl rfl (by omega)) ?_ | refine DF.vv rfl rfl rfl (by decide) (Val.rem rfl rfl (by omega) (by omega)) ?_ | refine DF.vv rfl rfl rfl (by decide) (Val.remT rfl rfl (by omega)) ?_
    refine DF.vv rfl rfl rfl (by decide) (Val.move rfl) ?_
    refine DF.vv rfl rfl rfl (by decide) (Val.conv rfl Try.underlying5 Try.underlying3 (IntWalk.i64_in _ (by omega))) ?_
    refine DF.vv rfl rfl rfl (by decide) (Val.move rfl) ?_
    refine DF.vv rfl rfl rfl (by decide) (Val.len Try.underlying23 rfl) ?_
    first | refine DF.vv rfl rfl rfl (by decide) (Val.remN rfl rfl (by omega)) ?_ | refine DF.vv rfl rfl rfl (by decide) (Val.rem rfl rfl (by omega) (by omega)) ?_ | refine DF.vv rfl rfl rfl (by decide) (Val.remT rfl rfl (by omega)) ?_
    refine DF.m rfl rfl (Step.litZ rfl rfl (by decide) Try.underlying69 elem3 rfl (by decide) rfl rfl (by decide) ?_)
    rintro w2 hO2 hg2 hbl2 hsz2
    replace hM := hM.add hB.size hbl2 hO2
    try simp only [nv_app1, nv_app, nv_set, nv_rep, nv_one, nv_cons, nv_take, nv_drop, List.nil_append] at hM
    try simp only [List.length_cons, List.length_nil, Nat.zero_add, Nat.reduceAdd, Value.cells, List.toList_toArray, List.append_nil, List.set_cons_zero, List.set_cons_succ] at hM
    replace hB := hB.trans (hbl2.mono hB.size)
    generalize w1.drew.heap.size = gg2 at *
    refine ⟨fun _ => ⟨hB, hM.tail⟩, ?_⟩
    refine DF.m rfl rfl (Step.call body26 rfl rfl (by decide) rfl (CallsV.mono (tturned_any (putL ds) [I % (2 * ds.length + 4), J % (2 * ds.length + 4)] _ _ _ _ (2 * ds.length + 4) 2 _ hM.o1.rd hM.o0.rd hlx rfl (by omega) (by omega) hps) ?_))
    rintro _ w3 ⟨px, cx, rfl, hOx, hb3⟩
    replace hM := hM.add hB.size hb3 hOx.toZ
    replace hB := hB.trans (hb3.mono hB.size)
    refine ⟨fun _ => ⟨hB, hM.tail.tail⟩, ?_⟩
    refine DF.vv rfl rfl rfl (by decide) (Val.assign rfl) ?_
    refine DF.nil ?_
    refine W.seqR ?_
    refine LS.vv rfl rfl (by decide) (Val.move rfl) ?_
    refine LS.m rfl (Step.call body39 rfl rfl (by decide) rfl (CallsV.mono (tget_any (flT (putL ds) [I % (2 * ds.length + 4), J % (2 * ds.length + 4)] 2) _ _ (2 * ds.length + 4) ds.length _ hM.o0.rd hxl (by omega) (by omega)) ?_))
    rintro _ w4 ⟨pd, cd, dd, nn, f, rfl, hRd, hf, hbest, hnn, hdd, hb4⟩
    replace hM := hM.below hb4
    replace hB := hB.trans (hb4.mono hB.size)
    have hf0 : f = 0 := hf.2 ⟨by omega, by omega, hd12⟩
    obtain ⟨rfl, hno⟩ := (hbest hf0).back rfl hxl hxd
    refine LS.vv rfl rfl (by decide) (Val.move rfl) ?_
    refine LS.vv rfl rfl (by decide) (Val.extract rfl rfl) ?_
    refine LS.vv rfl rfl (by decide) (Val.extract rfl rfl) ?_
    refine LS.vv rfl rfl (by decide) (Val.extract rfl rfl) ?_
    refine LS.vv rfl rfl (by decide) (Val.assign rfl) ?_
    refine LS.vv rfl rfl (by decide) (Val.assign rfl) ?_
    refine LS.vv rfl rfl (by decide) (Val.assign rfl) ?_
    refine LS.nil ?_
    refine W.seqR ?_
    refine LS.vv rfl rfl (by decide) (Val.move rfl) ?_
    refine LS.vv rfl rfl (by decide) (Val.cast (v := .bool true) (Val.eql rfl rfl) (by refine congrArg Value.bool (decide_eq_true ?_); omega)) ?_
    refine LS.vv rfl rfl (by decide) (Val.move rfl) ?_
    refine LS.vg rfl rfl rfl rfl (by decide) (Val.move rfl) ?_
    refine LS.vg rfl rfl rfl rfl (by decide) (Val.move rfl) ?_
    refine LS.vg rfl rfl rfl rfl (by decide) (Val.move rfl) ?_
    refine LS.mg rfl rfl rfl (Step.call body40 rfl rfl (by decide) rfl (CallsV.mono (tdiffer_any (putL dd) (flT (putL dd) [I % (2 * dd.length + 4), J % (2 * dd.length + 4)] 2) _ _ _ _ _ _ _ hM.o2.rd hM.o0.rd hlx hxl rfl (by omega)) ?_))
    rintro _ w5 ⟨rfl, hb5⟩
    replace hM := hM.below hb5
    replace hB := hB.trans (hb5.mono hB.size)
    replace hRd := hRd.below hb5
    refine LS.vg rfl rfl rfl rfl (by decide) (Val.cast (v := .bool true) (Val.eql rfl rfl) (by refine congrArg Value.bool (decide_eq_true ?_); rw [hno])) ?_
    refine LS.vv rfl rfl (by decide) (Val.pickT rfl rfl rfl) ?_
    refine LS.vv rfl rfl (by decide) (Val.move rfl) ?_
    refine LS.vg rfl rfl rfl rfl (by decide) (Val.move rfl) ?_
    refine LS.vg rfl rfl rfl rfl (by decide) (Val.move rfl) ?_
    refine LS.mg rfl rfl rfl (Step.call body21 rfl rfl (by decide) rfl (CallsV.mono (boolsEq_any dd dd _ _ _ _ _ hRd (hr.below hB) (by omega)) ?_))
    rintro _ w6 ⟨rfl, hb6⟩
    replace hM := hM.below hb6
    replace hB := hB.trans (hb6.mono hB.size)
    rw [show decide (dd = dd) = true from decide_eq_true rfl]
    refine LS.vv rfl rfl (by decide) (Val.pickT rfl rfl rfl) ?_
    refine LS.vv rfl rfl (by decide) (Val.assign rfl) ?_
    refine LS.nil ?_
    refine W.ret ?_
    refine ret1 (by first | exact .inl rfl | exact .inr rfl) rfl ?_
    first | exact ⟨rfl, hB⟩ | contradiction | (exfalso; omega)

end Go.Proofs.Ytbbmgcmibgdkiaa
