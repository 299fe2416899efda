/-
  The statement BookFixes.
-/
import Derived.Test.YtclobhnclogaoaaNear
namespace Go.Proofs.Ytclobhnclogaoaa
open Go Go.RowKit V
set_option linter.unusedVariables false

theorem fixes {m d x i j : Nat} {ws : List Nat} (h : LeastB m ws d) (hi : i < ws.length) (hj : j < ws.length) (hd : 2 * popc x < d) (hmin : popc (gn ws j ^^^ (gn ws i ^^^ x)) ≤ popc (gn ws i ^^^ (gn ws i ^^^ x))) : j = i ∧ popc (gn ws j ^^^ (gn ws i ^^^ x)) = popc x := by
  have e : gn ws i ^^^ (gn ws i ^^^ x) = x := by rw [← Nat.xor_assoc, Nat.xor_self, Nat.zero_xor]
  rw [e] at hmin
  have key : ∀ a b : Nat, d ≤ popc (gn ws a ^^^ gn ws b) → popc (gn ws a ^^^ (gn ws i ^^^ x)) ≤ popc x → popc (gn ws b ^^^ (gn ws i ^^^ x)) ≤ popc x → False := by
    intro a b h1 h2 h3
    have t := popc_tri (gn ws a) (gn ws i ^^^ x) (gn ws b)
    rw [popc_comm (gn ws i ^^^ x) (gn ws b)] at t
    omega
  have hi0 : popc (gn ws i ^^^ (gn ws i ^^^ x)) ≤ popc x := by rw [e]; exact Nat.le_refl _
  have hji : j = i := by
    rcases Nat.lt_trichotomy i j with hl | he | hg
    · exact (key j i (h.2.2 j hj i hl) hmin hi0).elim
    · exact he.symm
    · exact (key i j (h.2.2 i hi j hg) hi0 hmin).elim
  subst hji
  exact ⟨rfl, congrArg popc e⟩

theorem bookFixes_any (n : Int) (ws : List Nat) (p : Option Addr) (c : Nat) (kk tu : Nat) (w0 : World) (hr : Rd w0 p (uv ws)) (hc : ws.length ≤ c) (hl : ws.length ≤ 9223372036854775807) (hw : ∀ x ∈ ws, x < 4294967296) (hk : kk < 256) (htu : tu < 4294967296) :
    CallsV Try.prog 13 #[.int .i64 n, .slice p ws.length c, .int .u8 (kk : Int), .int .u32 (tu : Int)] w0 (fun v w => v = .bool true ∧ Below w0.heap.size w0 w) := by
  refine enter1 Try.func13 rfl Try.ntmps13 (by simp) rfl ?_
  have hB := Below.refl w0.heap.size w0
  simp only [argLoc, Nat.zero_add, Nat.reduceAdd]
  refine W.seqR ?_
  refine LS.vv rfl rfl (by decide) (Val.assign rfl) ?_
  refine LS.nil ?_
  refine W.seqR ?_
  refine LS.vv rfl rfl (by decide) (Val.move rfl) ?_
  refine LS.vv rfl rfl (by decide) (Val.move rfl) ?_
  refine LS.m rfl (Step.call body27 rfl rfl (by decide) rfl (CallsV.mono (least_any n ws _ _ _ (hr.below hB) hc hl hw) ?_))
  rintro _ w1 ⟨d, e, rfl, he, hd, hb1⟩
  replace hB := hB.trans (hb1.mono hB.size)
  refine LS.vv rfl rfl (by decide) (Val.move rfl) ?_
  refine LS.vv rfl rfl (by decide) (Val.extract rfl rfl) ?_
  refine LS.vv rfl rfl (by decide) (Val.extract rfl rfl) ?_
  refine LS.vv rfl rfl (by decide) (Val.assign rfl) ?_
  refine LS.vv rfl rfl (by decide) (Val.assign rfl) ?_
  refine LS.nil ?_
  refine W.seq ?_
  refine W.seqR ?_
  refine LS.vv rfl rfl (by decide) (Val.move rfl) ?_
  refine LS.vv rfl rfl (by decide) (Val.move rfl) ?_
  refine LS.m rfl (Step.call body28 rfl rfl (by decide) rfl (CallsV.mono (booked_any n ws _ _ _ (hr.below hB) hc hl hw) ?_))
  rintro _ w2 ⟨b, rfl, hbb, hb2⟩
  replace hB := hB.trans (hb2.mono hB.size)
  refine LS.vv rfl rfl (by decide) (Val.not rfl) ?_
  refine LS.vv rfl rfl (by decide) (Val.move rfl) ?_
  refine LS.split 4 rfl (fun hg1 => ?_) (fun hg1 => ?_)
  ·
    first | (have hg1p := of_decide_eq_true hg1) | skip
    refine LS.s rfl rfl rfl hg1 (by decide) ?_
    refine LS.s rfl rfl rfl hg1 (by decide) ?_
    refine LS.s rfl rfl rfl hg1 (by decide) ?_
    refine LS.vv rfl rfl (by decide) (Val.pickT rfl hg1 rfl) ?_
    refine LS.nil ?_
    refine W.condT rfl ?_
    refine W.seqR ?_
    refine LS.vv rfl rfl (by decide) (Val.move rfl) ?_
    refine LS.vv rfl rfl (by decide) (Val.cast (v := .bool true) (Val.neq rfl rfl) (by first | (refine congrArg Value.bool (decide_eq_true ?_); intro h0; obtain ⟨k1, k2⟩ := he.1 (by omega); first | (have := hbb.2 k1; simp_all; done) | omega))) ?_
    refine LS.vv rfl rfl (by decide) (Val.assign rfl) ?_
    refine LS.nil ?_
    refine W.ret ?_
    refine thenP_ret ?_
    refine ret1 (by first | exact .inl rfl | exact .inr rfl) rfl ?_
    first | exact ⟨rfl, hB⟩ | (exfalso; omega)
  ·
    first | (have hg1p := of_decide_eq_false hg1) | skip
    refine LS.vg rfl rfl rfl hg1 (by decide) (Val.move rfl) ?_
    refine LS.vg rfl rfl rfl hg1 (by decide) (Val.len Try.underlying44 rfl) ?_
    refine LS.vg rfl rfl rfl hg1 (by decide) (Val.lss rfl rfl) ?_
    refine LS.vv rfl rfl (by decide) (Val.pickF rfl hg1 rfl) ?_
    refine LS.nil ?_
    first | refine W.condD rfl (fun hc2 => ?_) (fun hc2 => ?_) | refine W.cond rfl (fun hc2 => ?_) (fun hc2 => ?_)
    ·
      refine W.seqR ?_
      refine LS.vv rfl rfl (by decide) (Val.move rfl) ?_
      refine LS.vv rfl rfl (by decide) (Val.cast (v := .bool true) (Val.neq rfl rfl) (by first | (refine congrArg Value.bool (decide_eq_true ?_); intro h0; obtain ⟨k1, k2⟩ := he.1 (by omega); first | (have := hbb.2 k1; simp_all; done) | omega))) ?_
      refine LS.vv rfl rfl (by decide) (Val.assign rfl) ?_
      refine LS.nil ?_
      refine W.ret ?_
      refine thenP_ret ?_
      refine ret1 (by first | exact .inl rfl | exact .inr rfl) rfl ?_
      first | exact ⟨rfl, hB⟩ | (exfalso; omega)
    ·
      have hbt : b = true := by simp_all
      have hok := hbb.1 hbt
      have hE : e = 0 := he.2 ⟨hok, by omega⟩
      have hL := hd hE
      have hok2 := hok
      obtain ⟨o1, o2, o3, o4, o5⟩ := hok
      obtain ⟨m, rfl⟩ := Int.eq_ofNat_of_zero_le o1
      simp only [Int.toNat_natCast] at hL o4
      have l1 := hL.1
      have l2 := hL.2.1
      have hmd := Nat.mod_lt kk (show 0 < ws.length by omega)
      have hlt : ∀ j, j < ws.length → gn ws j < 4294967296 := fun j hj => by rw [gn_lt hj]; exact hw _ (List.getElem_mem hj)
      refine W.skip ?_
      refine thenP_normal ?_
      refine W.seqR ?_
      refine LS.vv rfl rfl (by decide) (Val.move rfl) ?_
      refine LS.vv rfl rfl (by decide) (Val.conv rfl Try.underlying5 Try.underlying3 (IntWalk.i64_in _ (by omega))) ?_
      refine LS.vv rfl rfl (by decide) (Val.move rfl) ?_
      refine LS.vv rfl rfl (by decide) (Val.len Try.underlying44 rfl) ?_
      first | refine LS.vv rfl rfl (by decide) (Val.remN rfl rfl (by omega)) ?_ | refine LS.vv rfl rfl (by decide) (Val.rem rfl rfl (by omega) (by omega)) ?_ | refine LS.vv rfl rfl (by decide) (Val.remT rfl rfl (by omega)) ?_
      refine LS.vv rfl rfl (by decide) (Val.assign rfl) ?_
      refine LS.nil ?_
      refine W.seq ?_
      refine W.seqR ?_
      refine LS.vv rfl rfl (by decide) (Val.move rfl) ?_
      refine LS.vv rfl rfl (by decide) (Val.cast (v := .bool false) (Val.neq rfl rfl) (by simp; omega)) ?_
      refine LS.vv rfl rfl (by decide) (Val.move rfl) ?_
      refine LS.vg rfl rfl rfl rfl (by decide) (Val.move rfl) ?_
      refine LS.vg rfl rfl rfl rfl (by decide) (Val.cast (v := .bool false) (Val.lss rfl rfl) (by simp; omega)) ?_
      refine LS.vv rfl rfl (by decide) (Val.pickF rfl rfl rfl) ?_
      refine LS.nil ?_
      refine W.condF rfl ?_
      refine W.skip ?_
      refine thenP_normal ?_
      refine W.seq ?_
      refine W.seqR ?_
      refine LS.vv rfl rfl (by decide) (Val.move rfl) ?_
      refine LS.vv rfl rfl (by decide) (Val.move rfl) ?_
      refine LS.m rfl (Step.lit (B := w0.heap.size) rfl rfl (by decide) Try.underlying44 elem27 rfl rfl (by omega) (by simp [Value.oneCell']) hB.size ?_)
      rintro w3 hO3 hg3 hbl3 hsz3
      replace hB := hB.trans (hbl3.mono hB.size)
      refine LS.m rfl (Step.call body17 rfl rfl (by decide) rfl (CallsV.mono (below_any _ [tu] _ _ _ hO3.rd (by simp) (by simp; omega)) ?_))
      rintro _ w4 ⟨b2, rfl, hbb2, hb4⟩
      replace hB := hB.trans (hb4.mono hB.size)
      refine LS.vv rfl rfl (by decide) (Val.not rfl) ?_
      refine LS.vv rfl rfl (by decide) (Val.move rfl) ?_
      refine LS.split 5 rfl (fun hg3 => ?_) (fun hg3 => ?_)
      ·
        first | (have hg3p := of_decide_eq_true hg3) | skip
        refine LS.s rfl rfl rfl hg3 (by decide) ?_
        refine LS.s rfl rfl rfl hg3 (by decide) ?_
        refine LS.s rfl rfl rfl hg3 (by decide) ?_
        refine LS.s rfl rfl rfl hg3 (by decide) ?_
        refine LS.s rfl rfl rfl hg3 (by decide) ?_
        refine LS.vv rfl rfl (by decide) (Val.pickT rfl hg3 rfl) ?_
        refine LS.nil ?_
        refine W.condT rfl ?_
        refine W.seqR ?_
        refine LS.vv rfl rfl (by decide) (Val.assign rfl) ?_
        refine LS.nil ?_
        refine W.ret ?_
        refine thenP_ret ?_
        refine ret1 (by first | exact .inl rfl | exact .inr rfl) rfl ?_
        first | exact ⟨rfl, hB⟩ | (exfalso; omega)
      ·
        first | (have hg3p := of_decide_eq_false hg3) | skip
        refine LS.vg rfl rfl rfl hg3 (by decide) (Val.move rfl) ?_
        refine LS.mg rfl rfl hg3 (Step.call body19 rfl rfl (by decide) rfl (CallsV.mono (size_any tu _ htu) ?_))
        rintro _ w5 ⟨rfl, hb5⟩
        replace hB := hB.trans (hb5.mono hB.size)
        have hpt : popc tu ≤ 32 := popTo_le _ 32
        first | refine LS.vg rfl rfl rfl hg3 (by decide) (Val.mulN (i := 2) rfl rfl (by omega)) ?_ | refine LS.vg rfl rfl rfl hg3 (by decide) (Val.mul64 rfl rfl (by omega)) ?_
        refine LS.vg rfl rfl rfl hg3 (by decide) (Val.move rfl) ?_
        refine LS.vg rfl rfl rfl hg3 (by decide) (Val.geq rfl rfl) ?_
        refine LS.vv rfl rfl (by decide) (Val.pickF rfl hg3 rfl) ?_
        refine LS.nil ?_
        first | refine W.condD rfl (fun hc4 => ?_) (fun hc4 => ?_) | refine W.cond rfl (fun hc4 => ?_) (fun hc4 => ?_)
        ·
          refine W.seqR ?_
          refine LS.vv rfl rfl (by decide) (Val.assign rfl) ?_
          refine LS.nil ?_
          refine W.ret ?_
          refine thenP_ret ?_
          refine ret1 (by first | exact .inl rfl | exact .inr rfl) rfl ?_
          first | exact ⟨rfl, hB⟩ | (exfalso; omega)
        ·
          refine W.skip ?_
          refine thenP_normal ?_
          refine W.seqR ?_
          refine LS.vv rfl rfl (by decide) (Val.move rfl) ?_
          refine LS.vv rfl rfl (by decide) (Val.move rfl) ?_
          refine LS.vv rfl rfl (by decide) (Val.move rfl) ?_
          refine LS.vv rfl rfl (by decide) (Val.move rfl) ?_
          have htm : tu < 2 ^ m := by (have := (hbb2.1 (by simp_all)).2.2 tu (by simp); rw [Int.toNat_natCast] at this; exact this)
          have hlk := hlt (kk % ws.length) hmd
          have hxm : gn ws (kk % ws.length) ^^^ tu < 2 ^ m := Nat.xor_lt_two_pow (o4 _ hmd) htm
          have hx32 : gn ws (kk % ws.length) ^^^ tu < 2 ^ 32 := Nat.xor_lt_two_pow hlk htu
          refine LS.vv rfl rfl (by decide) (Val.index1 Try.underlying44 elem27 rfl rfl (by omega) hr (uv_lt (by omega))) ?_
          refine LS.m rfl (Step.load rfl rfl (by decide) flat27 rfl (hr.below hB) (uv_at (by omega)) ?_)
          refine LS.vv rfl rfl (by decide) (Val.move rfl) ?_
          refine LS.vv rfl rfl (by decide) (Val.xorU32 rfl rfl (by omega) (by omega)) ?_
          refine LS.m rfl (Step.call body30 rfl rfl (by decide) rfl (CallsV.mono (near_any _ ws _ _ (gn ws (kk % ws.length) ^^^ tu) _ (hr.below hB) hc hl hw hx32) ?_))
          rintro _ w6 ⟨j, far, f, rfl, hf, hn, hb6⟩
          replace hB := hB.trans (hb6.mono hB.size)
          have f0 : f = 0 := hf.2 ⟨hok2, by rw [Int.toNat_natCast]; exact hxm, by omega⟩
          obtain ⟨n1, rfl, n3, n4⟩ := hn f0
          obtain ⟨q1, q2⟩ := fixes hL hmd n1 (by omega) (n3 _ hmd)
          clear hn n3 n4
          refine LS.vv rfl rfl (by decide) (Val.move rfl) ?_
          refine LS.vv rfl rfl (by decide) (Val.extract rfl rfl) ?_
          refine LS.vv rfl rfl (by decide) (Val.extract rfl rfl) ?_
          refine LS.vv rfl rfl (by decide) (Val.extract rfl rfl) ?_
          refine LS.vv rfl rfl (by decide) (Val.assign rfl) ?_
          refine LS.vv rfl rfl (by decide) (Val.assign rfl) ?_
          refine LS.vv rfl rfl (by decide) (Val.assign rfl) ?_
          refine LS.nil ?_
          refine W.seqR ?_
          refine LS.vv rfl rfl (by decide) (Val.move rfl) ?_
          refine LS.vv rfl rfl (by decide) (Val.cast (v := .bool true) (Val.eql rfl rfl) (by simp; omega)) ?_
          refine LS.vv rfl rfl (by decide) (Val.move rfl) ?_
          refine LS.vg rfl rfl rfl rfl (by decide) (Val.move rfl) ?_
          refine LS.vg rfl rfl rfl rfl (by decide) (Val.move rfl) ?_
          refine LS.vg rfl rfl rfl rfl (by decide) (Val.cast (v := .bool true) (Val.eql rfl rfl) (by simp; omega)) ?_
          refine LS.vv rfl rfl (by decide) (Val.pickT rfl rfl rfl) ?_
          refine LS.vv rfl rfl (by decide) (Val.move rfl) ?_
          refine LS.vg rfl rfl rfl rfl (by decide) (Val.move rfl) ?_
          refine LS.vg rfl rfl rfl rfl (by decide) (Val.move rfl) ?_
          refine LS.mg rfl rfl rfl (Step.call body19 rfl rfl (by decide) rfl (CallsV.mono (size_any tu _ htu) ?_))
          rintro _ w7 ⟨rfl, hb7⟩
          replace hB := hB.trans (hb7.mono hB.size)
          refine LS.vg rfl rfl rfl rfl (by decide) (Val.cast (v := .bool true) (Val.eql rfl rfl) (by simp; omega)) ?_
          refine LS.vv rfl rfl (by decide) (Val.pickT rfl rfl rfl) ?_
          refine LS.vv rfl rfl (by decide) (Val.assign rfl) ?_
          refine LS.nil ?_
          refine W.ret ?_
          refine ret1 (by first | exact .inl rfl | exact .inr rfl) rfl ?_
          first | exact ⟨rfl, hB⟩ | (exfalso; omega)

end Go.Proofs.Ytclobhnclogaoaa
