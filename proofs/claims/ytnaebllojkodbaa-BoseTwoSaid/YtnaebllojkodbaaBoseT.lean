/-
  The statement BoseTwo.
-/
import Derived.Test.YtnaebllojkodbaaBose3
import Derived.Test.YtnaebllojkodbaaRefs
namespace Go.Proofs.Ytnaebllojkodbaa
open Go Go.RowKit V
set_option linter.unusedVariables false

theorem boolsEq_len2 (xs ys : List Bool) (p q : Option Addr) (c d m n : Nat) (w0 : World) (hr1 : Rd w0 p (bv xs)) (hr2 : Rd w0 q (bv ys)) (hl1 : xs.length ≤ 9223372036854775807) (hm : xs.length = m) (hn : ys.length = n) :
    CallsV Try.prog 25 #[.slice p m c, .slice q n d] w0 (fun v w => v = .bool (decide (xs = ys)) ∧ Below w0.heap.size w0 w) := by
  subst hm; subst hn; exact boolsEq_any xs ys p q c d w0 hr1 hr2 hl1
theorem Fix_told (l R : List Bool) (N : Nat) (p : Option Addr) (c : Nat) (hT : Told l R N) (w0 : World) (hr : Rd w0 p (bv l)) (hl : l.length = 15) (hcap : 15 ≤ c) :
    CallsV Try.prog 28 #[.slice p 15 c] w0 (fun v w => ∃ (p2 : Option Addr) (c2 : Nat), v = .tuple #[.slice p2 7 c2, .int .i64 (N : Int), .int .i64 ((0 : Nat) : Int)] ∧ Own w w0.heap.size 4 p2 7 c2 (bv (R.take 7)) ∧ Below w0.heap.size w0 w) := by
  rcases hT with ⟨h1, h2, rfl, rfl⟩ | ⟨I, J, h1, h2, h3, h4, rfl, rfl⟩
  · exact Fix0_any _ p c h1 h2 w0 hr hl hcap
  · exact Fix2_any l p c I J h1 h2 h3 h4 w0 hr hl hcap
theorem two_lt (I J : Nat) : ∀ j, j < 2 → gn [I % 15, J % 15] j < 15
  | 0, _ => Nat.mod_lt _ (by omega)
  | 1, _ => Nat.mod_lt _ (by omega)
  | j + 2, h => by omega

theorem boseTwo_any (d : List Bool) (p : Option Addr) (c I J : Nat) (w0 : World) (hr : Rd w0 p (bv d)) (hI : I < 256) (hJ : J < 256) :
    CallsV Try.prog 10 #[.slice p d.length c, .int .u8 (I : Int), .int .u8 (J : Int)] w0 (fun v w => v = .bool true ∧ Below w0.heap.size w0 w) := by
  refine enter1 Try.func10 rfl Try.ntmps10 (by simp) rfl ?_
  have hB := Below.refl w0.heap.size w0
  simp only [argLoc, Nat.zero_add, Nat.reduceAdd]
  have hM := Mem.nil w0 w0.heap.size
  refine W.seqR ?_
  refine LS.vv rfl rfl (by decide) (Val.assign rfl) ?_
  refine LS.nil ?_
  refine W.seqR ?_
  refine LS.vv rfl rfl (by decide) (Val.move rfl) ?_
  refine LS.m rfl (Step.call body24 rfl rfl (by decide) rfl (CallsV.mono (bosePut_any d _ _ _ _ (hr.below hB) rfl) ?_))
  rintro _ w1 ⟨p1, cc1, L, e, rfl, hO1, he, hL, hb1⟩
  replace hM := hM.add hB.size hb1 hO1
  replace hB := hB.trans (hb1.mono hB.size)
  refine LS.vv rfl rfl (by decide) (Val.move rfl) ?_
  refine LS.vv rfl rfl (by decide) (Val.extract rfl rfl) ?_
  refine LS.vv rfl rfl (by decide) (Val.extract rfl rfl) ?_
  refine LS.vv rfl rfl (by decide) (Val.assign rfl) ?_
  refine LS.vv rfl rfl (by decide) (Val.assign rfl) ?_
  refine LS.nil ?_
  refine W.seq ?_
  refine W.seqR ?_
  refine LS.vv rfl rfl (by decide) (Val.move rfl) ?_
  refine LS.vv rfl rfl (by decide) (Val.len Try.underlying35 rfl) ?_
  refine LS.vv rfl rfl (by decide) (Val.neq rfl rfl) ?_
  refine LS.nil ?_
  first | refine W.condD rfl (fun hc1 => ?_) (fun hc1 => ?_) | refine W.cond rfl (fun hc1 => ?_) (fun hc1 => ?_)
  ·
    refine W.seqR ?_
    refine LS.vv rfl rfl (by decide) (Val.move rfl) ?_
    refine LS.vv rfl rfl (by decide) (Val.cast (v := .bool true) (Val.neq rfl rfl) (by refine congrArg Value.bool (decide_eq_true ?_); intro h0; have hq := he.1 (by omega); omega)) ?_
    refine LS.vv rfl rfl (by decide) (Val.assign rfl) ?_
    refine LS.nil ?_
    refine W.ret ?_
    refine thenP_ret ?_
    refine ret1 (by first | exact .inl rfl | exact .inr rfl) rfl ?_
    first | exact ⟨rfl, hB⟩ | contradiction | (exfalso; omega)
  ·
    refine W.skip ?_
    refine thenP_normal ?_
    refine W.seq ?_
    refine W.seqR ?_
    refine LS.vv rfl rfl (by decide) (Val.move rfl) ?_
    have hd7 : d.length = 7 := by omega
    have hE : e = 0 := he.2 hd7
    obtain rfl := hL hE
    have hlx := bput_len d
    have h15 : (bput d).length = 15 := by omega
    rw [h15] at hM ⊢
    obtain ⟨hzA, hzB⟩ := put_zero hd7
    have hma := Nat.mod_lt I (show 0 < 15 by omega)
    have hmb := Nat.mod_lt J (show 0 < 15 by omega)
    refine LS.vv rfl rfl (by decide) (Val.cast (v := .bool false) (Val.neq rfl rfl) (by first | (simp; done) | (simp; omega))) ?_
    refine LS.vv rfl rfl (by decide) (Val.move rfl) ?_
    refine LS.vg rfl rfl rfl rfl (by decide) (Val.move rfl) ?_
    refine LS.vg rfl rfl rfl rfl (by decide) (Val.len Try.underlying35 rfl) ?_
    refine LS.vg rfl rfl rfl rfl (by decide) (Val.cast (v := .bool false) (Val.neq rfl rfl) (by first | (simp; done) | (simp; omega))) ?_
    refine LS.vv rfl rfl (by decide) (Val.pickF rfl rfl rfl) ?_
    refine LS.nil ?_
    refine W.condF rfl ?_
    refine W.skip ?_
    refine thenP_normal ?_
    refine W.seqR ?_
    refine LS.vv rfl rfl (by decide) (Val.move rfl) ?_
    refine LS.vv rfl rfl (by decide) (Val.move rfl) ?_
    refine LS.vv rfl rfl (by decide) (Val.conv rfl Try.underlying5 Try.underlying3 (IntWalk.i64_in _ (by omega))) ?_
    first | refine LS.vv rfl rfl (by decide) (Val.remN (j := 15) rfl rfl (by omega)) ?_ | refine LS.vv rfl rfl (by decide) (Val.rem rfl rfl (by omega) (by omega)) ?_ | refine LS.vv rfl rfl (by decide) (Val.remT rfl rfl (by omega)) ?_
    refine LS.vv rfl rfl (by decide) (Val.move rfl) ?_
    refine LS.vv rfl rfl (by decide) (Val.conv rfl Try.underlying5 Try.underlying3 (IntWalk.i64_in _ (by omega))) ?_
    first | refine LS.vv rfl rfl (by decide) (Val.remN (j := 15) rfl rfl (by omega)) ?_ | refine LS.vv rfl rfl (by decide) (Val.rem rfl rfl (by omega) (by omega)) ?_ | refine LS.vv rfl rfl (by decide) (Val.remT rfl rfl (by omega)) ?_
    refine LS.m rfl (Step.lit rfl rfl (by decide) Try.underlying27 elem3 rfl rfl (by omega) (by simp [Value.oneCell']) (Nat.le_refl _) ?_)
    rintro w2 hO2 hg2 hbl2 hsz2
    replace hM := hM.add hB.size hbl2 hO2
    try simp only [nv_app1, nv_app, nv_set, nv_rep, nv_one, nv_cons, nv_take, nv_drop, List.nil_append] at hM
    replace hB := hB.trans (hbl2.mono hB.size)
    generalize w1.heap.size = gg2 at *
    refine LS.m rfl (Step.call body27 rfl rfl (by decide) rfl (CallsV.mono (bturned_any (bput d) [I % 15, J % 15] _ _ _ _ 15 2 _ hM.o1.rd hM.o0.rd h15 rfl (by omega) (by omega) (two_lt I J)) ?_))
    rintro _ w3 ⟨px, cx, rfl, hOx, hb3⟩
    replace hM := hM.add hB.size hb3 hOx
    replace hB := hB.trans (hb3.mono hB.size)
    rw [show flTo (bput d) [I % 15, J % 15] 2 = fl (fl (bput d) (I % 15)) (J % 15) from rfl] at hM
    have hxc := hM.o0.le_cap
    have hxl : (fl (fl (bput d) (I % 15)) (J % 15)).length = 15 := by rw [fl_len, fl_len, h15]
    refine LS.vv rfl rfl (by decide) (Val.assign rfl) ?_
    refine LS.nil ?_
    refine W.seqR ?_
    refine LS.vv rfl rfl (by decide) (Val.move rfl) ?_
    refine LS.m rfl (Step.call body28 rfl rfl (by decide) rfl (CallsV.mono (Fix_told (fl (fl (bput d) (I % 15)) (J % 15)) (bput d) (if I % 15 = J % 15 then 0 else 2) _ _ (told_two h15 hzA hzB hma hmb) _ hM.o0.rd hxl hxc) ?_))
    rintro _ w4 ⟨pd, cd, rfl, hOd, hb4⟩
    replace hM := hM.add hB.size hb4 hOd
    replace hB := hB.trans (hb4.mono hB.size)
    rw [bput_take hd7] at hM
    refine LS.vv rfl rfl (by decide) (Val.move rfl) ?_
    refine LS.vv rfl rfl (by decide) (Val.extract rfl rfl) ?_
    refine LS.vv rfl rfl (by decide) (Val.extract rfl rfl) ?_
    refine LS.vv rfl rfl (by decide) (Val.extract rfl rfl) ?_
    refine LS.vv rfl rfl (by decide) (Val.assign rfl) ?_
    refine LS.vv rfl rfl (by decide) (Val.assign rfl) ?_
    refine LS.vv rfl rfl (by decide) (Val.assign rfl) ?_
    refine LS.nil ?_
    refine W.seqR ?_
    refine LS.vv rfl rfl (by decide) (Val.move rfl) ?_
    refine LS.vv rfl rfl (by decide) (Val.cast (v := .bool true) (Val.eql rfl rfl) (by first | (simp; done) | (simp; omega))) ?_
    refine LS.vv rfl rfl (by decide) (Val.move rfl) ?_
    refine LS.vg rfl rfl rfl rfl (by decide) (Val.move rfl) ?_
    refine LS.vg rfl rfl rfl rfl (by decide) (Val.move rfl) ?_
    refine LS.mg rfl rfl rfl (Step.call body25 rfl rfl (by decide) rfl (CallsV.mono (boolsEq_len2 d d _ _ _ _ _ _ _ hM.o0.rd (hr.below hB) (by omega) hd7 rfl) ?_))
    rintro _ w5 ⟨rfl, hb5⟩
    replace hM := hM.below hb5
    replace hB := hB.trans (hb5.mono hB.size)
    rw [show decide (d = d) = true from decide_eq_true rfl]
    refine LS.vv rfl rfl (by decide) (Val.pickT rfl rfl rfl) ?_
    refine LS.vv rfl rfl (by decide) (Val.move rfl) ?_
    refine LS.split 7 rfl (fun hg2 => ?_) (fun hg2 => ?_)
    ·
      first | (have hg2p := of_decide_eq_true hg2) | skip
      refine LS.vg rfl rfl rfl hg2 (by decide) (Val.move rfl) ?_
      refine LS.vg rfl rfl rfl hg2 (by decide) (Val.move rfl) ?_
      refine LS.vg rfl rfl rfl hg2 (by decide) (Val.move rfl) ?_
      refine LS.mg rfl rfl hg2 (Step.call body26 rfl rfl (by decide) rfl (CallsV.mono (differ_any (bput d) (fl (fl (bput d) (I % 15)) (J % 15)) _ _ _ _ _ _ _ hM.o3.rd hM.o1.rd h15 hxl rfl (by omega)) ?_))
      rintro _ w6 ⟨rfl, hb6⟩
      replace hM := hM.below hb6
      replace hB := hB.trans (hb6.mono hB.size)
      rw [diff_two (by omega) (by omega)]
      refine LS.vg rfl rfl rfl hg2 (by decide) (Val.cast (v := .bool true) (Val.eql rfl rfl) (by refine congrArg Value.bool (decide_eq_true ?_); by_cases hab : I % 15 = J % 15 <;> simp [hab, hma, hmb])) ?_
      refine LS.vv rfl rfl (by decide) (Val.pickT rfl hg2 rfl) ?_
      refine LS.vv rfl rfl (by decide) (Val.assign rfl) ?_
      refine LS.nil ?_
      refine W.ret ?_
      refine ret1 (by first | exact .inl rfl | exact .inr rfl) rfl ?_
      first | exact ⟨rfl, hB⟩ | contradiction | (exfalso; omega)
    ·
      first | (have hg2p := of_decide_eq_false hg2) | skip
      refine LS.s rfl rfl rfl hg2 (by decide) ?_
      refine LS.s rfl rfl rfl hg2 (by decide) ?_
      refine LS.s rfl rfl rfl hg2 (by decide) ?_
      refine LS.s rfl rfl rfl hg2 (by decide) ?_
      refine LS.s rfl rfl rfl hg2 (by decide) ?_
      refine LS.vv rfl rfl (by decide) (Val.pickF rfl hg2 rfl) ?_
      refine LS.vv rfl rfl (by decide) (Val.assign rfl) ?_
      refine LS.nil ?_
      refine W.ret ?_
      refine ret1 (by first | exact .inl rfl | exact .inr rfl) rfl ?_
      first | exact ⟨rfl, hB⟩ | contradiction | (exfalso; omega)

end Go.Proofs.Ytnaebllojkodbaa
