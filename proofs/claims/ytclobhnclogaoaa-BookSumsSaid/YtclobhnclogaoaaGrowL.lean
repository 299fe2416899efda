/-
  The statements BookGilbert and BookSums.
-/
import Derived.Test.YtclobhnclogaoaaGrow
import Derived.Test.YtclobhnclogaoaaBallS
namespace Go.Proofs.Ytclobhnclogaoaa
open Go Go.RowKit V
set_option linter.unusedVariables false

theorem ballN_le (n r : Nat) : ballN n r ≤ 2 ^ n := by
  have := List.countP_le_length (p := fun w => decide (popc w ≤ r)) (l := List.range (2 ^ n))
  simpa [ballN] using this
theorem grow_ok {N dd : Nat} (hN : N ≤ 12) (hd : 1 ≤ dd) (h64 : (growTo dd (2 ^ N)).length ≤ 64) : OkB (N : Int) (growTo dd (2 ^ N)) := by
  refine ⟨by omega, by omega, h64, fun j hj => ?_, fun i hi j hj e => ?_⟩
  · rw [gn_lt hj, Int.toNat_natCast]; exact growTo_lt dd _ _ (List.getElem_mem hj)
  · have h := growTo_apart (d := dd) (k := 2 ^ N) (i := i) (j := j) hi (by omega) (by omega)
    rw [e, Nat.xor_self] at h
    have : popc 0 = 0 := popTo_of_zero 32
    omega
theorem grow_ne {N dd : Nat} (hd : 1 ≤ dd) : 1 ≤ (growTo dd (2 ^ N)).length := by
  obtain ⟨a, ha, _⟩ := growTo_cover hd (2 ^ N) 0 (Nat.two_pow_pos N)
  exact List.length_pos_of_mem ha

theorem bookGilbert_any (n d : Int) (x : Nat) (w0 : World) (hx : x < 4294967296) :
    CallsV Try.prog 11 #[.int .i64 n, .int .i64 d, .int .u32 (x : Int)] w0 (fun v w => v = .bool true ∧ Below w0.heap.size w0 w) := by
  refine enter1 Try.func11 rfl Try.ntmps11 (by simp) rfl ?_
  have hB := Below.refl w0.heap.size w0
  simp only [argLoc, Nat.zero_add, Nat.reduceAdd]
  have hM := Mem.nil w0 w0.heap.size
  refine W.seqR ?_
  refine LS.vv rfl rfl (by decide) (Val.assign rfl) ?_
  refine LS.nil ?_
  refine W.seqR ?_
  refine LS.vv rfl rfl (by decide) (Val.move rfl) ?_
  refine LS.vv rfl rfl (by decide) (Val.move rfl) ?_
  refine LS.m rfl (Step.call body29 rfl rfl (by decide) rfl (CallsV.mono (grow_any n d _) ?_))
  rintro _ w1 ⟨p1, c1, L, e, rfl, hO1, hE0, hE1, hV, hb1⟩
  replace hM := hM.add hB.size hb1 hO1
  replace hB := hB.trans (hb1.mono hB.size)
  refine LS.vv rfl rfl (by decide) (Val.move rfl) ?_
  refine LS.vv rfl rfl (by decide) (Val.extract rfl rfl) ?_
  refine LS.vv rfl rfl (by decide) (Val.extract rfl rfl) ?_
  refine LS.vv rfl rfl (by decide) (Val.assign rfl) ?_
  refine LS.vv rfl rfl (by decide) (Val.assign rfl) ?_
  refine LS.nil ?_
  refine W.seq ?_
  refine W.seqR ?_
  refine LS.vv rfl rfl (by decide) (Val.move rfl) ?_
  refine LS.m rfl (Step.call body15 rfl rfl (by decide) rfl (CallsV.mono (kbits_any n _) ?_))
  rintro _ w2 ⟨b, rfl, hbb, hb2⟩
  replace hM := hM.below hb2
  replace hB := hB.trans (hb2.mono hB.size)
  refine LS.vv rfl rfl (by decide) (Val.not rfl) ?_
  refine LS.vv rfl rfl (by decide) (Val.move rfl) ?_
  refine LS.split 3 rfl (fun hg1 => ?_) (fun hg1 => ?_)
  ·
    first | (have hg1p := of_decide_eq_true hg1) | skip
    refine LS.s rfl rfl rfl hg1 (by decide) ?_
    refine LS.s rfl rfl rfl hg1 (by decide) ?_
    refine LS.vv rfl rfl (by decide) (Val.pickT rfl hg1 rfl) ?_
    refine LS.vv rfl rfl (by decide) (Val.move rfl) ?_
    refine LS.s rfl rfl rfl rfl (by decide) ?_
    refine LS.s rfl rfl rfl rfl (by decide) ?_
    refine LS.s rfl rfl rfl rfl (by decide) ?_
    refine LS.vv rfl rfl (by decide) (Val.pickT rfl rfl rfl) ?_
    refine LS.nil ?_
    refine W.condT rfl ?_
    refine W.seqR ?_
    refine LS.vv rfl rfl (by decide) (Val.move rfl) ?_
    refine LS.vv rfl rfl (by decide) (Val.cast (v := .bool true) (Val.neq rfl rfl) (by refine congrArg Value.bool (decide_eq_true ?_); intro h0; obtain ⟨hv, _⟩ := hE0 (by omega); first | omega | (have := hbb.2 ⟨hv.1, hv.2.1⟩; simp_all))) ?_
    refine LS.vv rfl rfl (by decide) (Val.assign rfl) ?_
    refine LS.nil ?_
    refine W.ret ?_
    refine thenP_ret ?_
    refine ret1 (by first | exact .inl rfl | exact .inr rfl) rfl ?_
    first | exact ⟨rfl, hB⟩ | (exfalso; omega)
  ·
    first | (have hg1p := of_decide_eq_false hg1) | skip
    refine LS.vg rfl rfl rfl hg1 (by decide) (Val.move rfl) ?_
    refine LS.vg rfl rfl rfl hg1 (by decide) (Val.lss rfl rfl) ?_
    refine LS.vv rfl rfl (by decide) (Val.pickF rfl hg1 rfl) ?_
    refine LS.vv rfl rfl (by decide) (Val.move rfl) ?_
    refine LS.split 7 rfl (fun hg2 => ?_) (fun hg2 => ?_)
    ·
      first | (have hg2p := of_decide_eq_true hg2) | skip
      refine LS.s rfl rfl rfl hg2 (by decide) ?_
      refine LS.s rfl rfl rfl hg2 (by decide) ?_
      refine LS.s rfl rfl rfl hg2 (by decide) ?_
      refine LS.vv rfl rfl (by decide) (Val.pickT rfl hg2 rfl) ?_
      refine LS.nil ?_
      refine W.condT rfl ?_
      refine W.seqR ?_
      refine LS.vv rfl rfl (by decide) (Val.move rfl) ?_
      refine LS.vv rfl rfl (by decide) (Val.cast (v := .bool true) (Val.neq rfl rfl) (by refine congrArg Value.bool (decide_eq_true ?_); intro h0; obtain ⟨hv, _⟩ := hE0 (by omega); first | omega | (have := hbb.2 ⟨hv.1, hv.2.1⟩; simp_all))) ?_
      refine LS.vv rfl rfl (by decide) (Val.assign rfl) ?_
      refine LS.nil ?_
      refine W.ret ?_
      refine thenP_ret ?_
      refine ret1 (by first | exact .inl rfl | exact .inr rfl) rfl ?_
      first | exact ⟨rfl, hB⟩ | (exfalso; omega)
    ·
      first | (have hg2p := of_decide_eq_false hg2) | skip
      refine LS.vg rfl rfl rfl hg2 (by decide) (Val.move rfl) ?_
      refine LS.vg rfl rfl rfl hg2 (by decide) (Val.move rfl) ?_
      refine LS.vg rfl rfl rfl hg2 (by decide) (Val.gtr rfl rfl) ?_
      refine LS.vv rfl rfl (by decide) (Val.pickF rfl hg2 rfl) ?_
      refine LS.nil ?_
      first | refine W.condD rfl (fun hc3 => ?_) (fun hc3 => ?_) | refine W.cond rfl (fun hc3 => ?_) (fun hc3 => ?_)
      ·
        refine W.seqR ?_
        refine LS.vv rfl rfl (by decide) (Val.move rfl) ?_
        refine LS.vv rfl rfl (by decide) (Val.cast (v := .bool true) (Val.neq rfl rfl) (by refine congrArg Value.bool (decide_eq_true ?_); intro h0; obtain ⟨hv, _⟩ := hE0 (by omega); first | omega | (have := hbb.2 ⟨hv.1, hv.2.1⟩; simp_all))) ?_
        refine LS.vv rfl rfl (by decide) (Val.assign rfl) ?_
        refine LS.nil ?_
        refine W.ret ?_
        refine thenP_ret ?_
        refine ret1 (by first | exact .inl rfl | exact .inr rfl) rfl ?_
        first | exact ⟨rfl, hB⟩ | (exfalso; omega)
      ·
        refine W.skip ?_
        refine thenP_normal ?_
        refine W.seq ?_
        refine W.seqR ?_
        refine LS.vv rfl rfl (by decide) (Val.move rfl) ?_
        refine LS.vv rfl rfl (by decide) (Val.neq rfl rfl) ?_
        refine LS.nil ?_
        first | refine W.condD rfl (fun hc4 => ?_) (fun hc4 => ?_) | refine W.cond rfl (fun hc4 => ?_) (fun hc4 => ?_)
        ·
          have hbt : b = true := by simpa using ‹(!b) = false›
          have hbv := hbb.1 hbt
          have hv : e = 0 ∨ e = 1 := hV ⟨hbv.1, hbv.2, by omega, by omega⟩
          have hL0 := hE1 (by omega)
          subst hL0
          refine W.seqR ?_
          refine LS.vv rfl rfl (by decide) (Val.move rfl) ?_
          refine LS.vv rfl rfl (by decide) (Val.cast (v := .bool true) (Val.eql rfl rfl) (by first | (simp; done) | (simp; omega))) ?_
          refine LS.vv rfl rfl (by decide) (Val.move rfl) ?_
          refine LS.vg rfl rfl rfl rfl (by decide) (Val.move rfl) ?_
          refine LS.vg rfl rfl rfl rfl (by decide) (Val.len Try.underlying44 rfl) ?_
          refine LS.vg rfl rfl rfl rfl (by decide) (Val.cast (v := .bool true) (Val.eql rfl rfl) (by rfl)) ?_
          refine LS.vv rfl rfl (by decide) (Val.pickT rfl rfl rfl) ?_
          refine LS.vv rfl rfl (by decide) (Val.assign rfl) ?_
          refine LS.nil ?_
          refine W.ret ?_
          refine thenP_ret ?_
          refine ret1 (by first | exact .inl rfl | exact .inr rfl) rfl ?_
          first | exact ⟨rfl, hB⟩ | (exfalso; omega)
        ·
          have hbt : b = true := by simpa using ‹(!b) = false›
          have hbv := hbb.1 hbt
          have hE : e = 0 := by omega
          obtain ⟨hv, hL, h64⟩ := hE0 hE
          obtain ⟨N, rfl⟩ := Int.eq_ofNat_of_zero_le hv.1
          obtain ⟨dd, rfl⟩ := Int.eq_ofNat_of_zero_le (show 0 ≤ d by omega)
          simp only [Int.toNat_natCast] at hL
          subst hL
          have hN : N ≤ 12 := by omega
          have hdd : 1 ≤ dd := by omega
          have hok := grow_ok hN hdd h64
          have hne := grow_ne (N := N) hdd
          have hlt := growTo_lt dd (2 ^ N)
          have hpw : 2 ^ N ≤ 2 ^ 12 := Nat.pow_le_pow_right (by omega) hN
          have hw32 : ∀ x ∈ growTo dd (2 ^ N), x < 4294967296 := fun x hx => by have := hlt x hx; omega
          have hsl : 1 <<< N = 2 ^ N := by rw [Nat.shiftLeft_eq, Nat.one_mul]
          refine W.skip ?_
          refine thenP_normal ?_
          refine W.seqR ?_
          refine LS.vv rfl rfl (by decide) (Val.move rfl) ?_
          refine LS.vv rfl rfl (by decide) (Val.move rfl) ?_
          refine LS.vv rfl rfl (by decide) (Val.subN (j := 1) rfl rfl (by omega) (by omega)) ?_
          refine LS.m rfl (Step.call body26 rfl rfl (by decide) rfl (CallsV.mono (bsize_any (N : Int) ((dd - 1 : Nat) : Int) _) ?_))
          rintro _ w3 ⟨M, f, rfl, hf, hM0, hb3⟩
          replace hM := hM.below hb3
          replace hB := hB.trans (hb3.mono hB.size)
          have hF : f = 0 := hf.2 (by omega)
          have hMb := hM0 hF
          simp only [Int.toNat_natCast] at hMb
          have hbl := ballN_le N (dd - 1)
          have hgil := gilbert (n := N) hdd
          rw [← hMb] at hgil hbl
          have hmul : (growTo dd (2 ^ N)).length * M ≤ 64 * 4096 := Nat.mul_le_mul h64 (by omega)
          refine LS.vv rfl rfl (by decide) (Val.move rfl) ?_
          refine LS.vv rfl rfl (by decide) (Val.extract rfl rfl) ?_
          refine LS.vv rfl rfl (by decide) (Val.extract rfl rfl) ?_
          refine LS.vv rfl rfl (by decide) (Val.assign rfl) ?_
          refine LS.vv rfl rfl (by decide) (Val.assign rfl) ?_
          refine LS.nil ?_
          refine W.seq ?_
          refine W.seqR ?_
          refine LS.vv rfl rfl (by decide) (Val.move rfl) ?_
          refine LS.vv rfl rfl (by decide) (Val.cast (v := .bool false) (Val.neq rfl rfl) (by first | (simp; done) | (simp; omega))) ?_
          refine LS.vv rfl rfl (by decide) (Val.move rfl) ?_
          refine LS.vg rfl rfl rfl rfl (by decide) (Val.move rfl) ?_
          refine LS.vg rfl rfl rfl rfl (by decide) (Val.len Try.underlying44 rfl) ?_
          refine LS.vg rfl rfl rfl rfl (by decide) (Val.move rfl) ?_
          first | refine LS.vg rfl rfl rfl rfl (by decide) (Val.mulN rfl rfl (by omega)) ?_ | refine LS.vg rfl rfl rfl rfl (by decide) (Val.mul64 rfl rfl (by omega)) ?_
          refine LS.vg rfl rfl rfl rfl (by decide) (Val.move rfl) ?_
          refine LS.vg rfl rfl rfl rfl (by decide) (Val.conv rfl Try.underlying3 Try.underlying47 (IntWalk.u64_in _ (by omega))) ?_
          refine LS.vg rfl rfl rfl rfl (by decide) (Val.cast (v := .int .i64 ((2 ^ N : Nat) : Int)) (Val.shl64 (i := 1) rfl rfl (by omega) (by omega)) (by rw [hsl])) ?_
          refine LS.vg rfl rfl rfl rfl (by decide) (Val.cast (v := .bool false) (Val.lss rfl rfl) (by exact congrArg Value.bool (decide_eq_false (by omega)))) ?_
          refine LS.vv rfl rfl (by decide) (Val.pickF rfl rfl rfl) ?_
          refine LS.nil ?_
          refine W.condF rfl ?_
          refine W.skip ?_
          refine thenP_normal ?_
          refine W.seqR ?_
          refine LS.vv rfl rfl (by decide) (Val.move rfl) ?_
          refine LS.vv rfl rfl (by decide) (Val.move rfl) ?_
          refine LS.m rfl (Step.call body27 rfl rfl (by decide) rfl (CallsV.mono (least2_any (N : Int) (growTo dd (2 ^ N)) _ _ dd _ hM.o0.rd hM.o0.le_cap (by omega) hw32 (by omega) (fun i hi j hj => growTo_apart hi (by omega) (by omega))) ?_))
          rintro _ w4 ⟨least, f2, rfl, hf2, hls, hb4⟩
          replace hM := hM.below hb4
          replace hB := hB.trans (hb4.mono hB.size)
          refine LS.vv rfl rfl (by decide) (Val.move rfl) ?_
          refine LS.vv rfl rfl (by decide) (Val.extract rfl rfl) ?_
          refine LS.vv rfl rfl (by decide) (Val.extract rfl rfl) ?_
          refine LS.vv rfl rfl (by decide) (Val.assign rfl) ?_
          refine LS.vv rfl rfl (by decide) (Val.assign rfl) ?_
          refine LS.nil ?_
          refine W.seq ?_
          refine W.seqR ?_
          refine LS.vv rfl rfl (by decide) (Val.move rfl) ?_
          refine LS.vv rfl rfl (by decide) (Val.len Try.underlying44 rfl) ?_
          refine LS.vv rfl rfl (by decide) (Val.gtr rfl rfl) ?_
          refine LS.vv rfl rfl (by decide) (Val.move rfl) ?_
          refine LS.split 3 rfl (fun hg5 => ?_) (fun hg5 => ?_)
          ·
            first | (have hg5p := of_decide_eq_true hg5) | skip
            refine LS.vg rfl rfl rfl hg5 (by decide) (Val.move rfl) ?_
            refine LS.vg rfl rfl rfl hg5 (by decide) (Val.cast (v := .bool false) (Val.neq rfl rfl) (by refine congrArg Value.bool (decide_eq_false ?_); have := hf2.2 ⟨hok, by omega⟩; omega)) ?_
            refine LS.vg rfl rfl rfl hg5 (by decide) (Val.move rfl) ?_
            refine LS.vg rfl rfl rfl rfl (by decide) (Val.move rfl) ?_
            refine LS.vg rfl rfl rfl rfl (by decide) (Val.move rfl) ?_
            refine LS.vg rfl rfl rfl rfl (by decide) (Val.cast (v := .bool false) (Val.lss rfl rfl) (by refine congrArg Value.bool (decide_eq_false ?_); have h0 := hf2.2 ⟨hok, by omega⟩; have h1 := hls h0; omega)) ?_
            refine LS.vg rfl rfl rfl hg5 (by decide) (Val.pickF rfl rfl rfl) ?_
            refine LS.vv rfl rfl (by decide) (Val.pickT rfl hg5 rfl) ?_
            refine LS.nil ?_
            refine W.condF rfl ?_
            refine W.skip ?_
            refine thenP_normal ?_
            refine W.seq ?_
            refine W.seqR ?_
            refine LS.vv rfl rfl (by decide) (Val.move rfl) ?_
            refine LS.vv rfl rfl (by decide) (Val.move rfl) ?_
            refine LS.m rfl (Step.lit rfl rfl (by decide) Try.underlying44 elem27 rfl rfl (by omega) (by simp [Value.oneCell']) (Nat.le_refl _) ?_)
            rintro w5 hO5 hg5 hbl5 hsz5
            replace hM := hM.add hB.size hbl5 hO5
            replace hB := hB.trans (hbl5.mono hB.size)
            generalize w4.heap.size = gg5 at *
            refine LS.m rfl (Step.call body17 rfl rfl (by decide) rfl (CallsV.mono (below_any (N : Int) [x] _ _ _ hO5.rd (by simp) (by simp; omega)) ?_))
            rintro _ w6 ⟨b2, rfl, hbb2, hb6⟩
            replace hM := hM.below hb6
            replace hB := hB.trans (hb6.mono hB.size)
            refine LS.vv rfl rfl (by decide) (Val.not rfl) ?_
            refine LS.nil ?_
            first | refine W.condD rfl (fun hc6 => ?_) (fun hc6 => ?_) | refine W.cond rfl (fun hc6 => ?_) (fun hc6 => ?_)
            ·
              refine W.seqR ?_
              refine LS.vv rfl rfl (by decide) (Val.assign rfl) ?_
              refine LS.nil ?_
              refine W.ret ?_
              refine thenP_ret ?_
              refine ret1 (by first | exact .inl rfl | exact .inr rfl) rfl ?_
              first | exact ⟨rfl, hB⟩ | (exfalso; omega)
            ·
              refine W.skip ?_
              refine thenP_normal ?_
              refine W.seqR ?_
              refine LS.vv rfl rfl (by decide) (Val.move rfl) ?_
              refine LS.vv rfl rfl (by decide) (Val.move rfl) ?_
              refine LS.vv rfl rfl (by decide) (Val.move rfl) ?_
              have hxN : x < 2 ^ N := by have := (hbb2.1 (by simpa using ‹(!b2) = false›)).2.2 x (by simp); rwa [Int.toNat_natCast] at this
              obtain ⟨a, ha, hcov⟩ := growTo_cover hdd (2 ^ N) x hxN
              obtain ⟨ai, hai, hag⟩ := List.getElem_of_mem ha
              refine LS.m rfl (Step.call body30 rfl rfl (by decide) rfl (CallsV.mono (near_any (N : Int) (growTo dd (2 ^ N)) _ _ x _ hM.o1.rd hM.o1.le_cap (by omega) hw32 hx) ?_))
              rintro _ w7 ⟨j, far, f3, rfl, hf3, hnr, hb7⟩
              replace hM := hM.below hb7
              replace hB := hB.trans (hb7.mono hB.size)
              have hF3 : f3 = 0 := hf3.2 ⟨hok, by rw [Int.toNat_natCast]; exact hxN, hne⟩
              obtain ⟨n1, n2, n3, n4⟩ := hnr hF3
              have h5 := n3 ai hai
              rw [gn_lt hai, hag] at h5
              have hfd : far < dd := by omega
              refine LS.vv rfl rfl (by decide) (Val.move rfl) ?_
              refine LS.vv rfl rfl (by decide) (Val.extract rfl rfl) ?_
              refine LS.vv rfl rfl (by decide) (Val.extract rfl rfl) ?_
              refine LS.vv rfl rfl (by decide) (Val.extract rfl rfl) ?_
              refine LS.vv rfl rfl (by decide) (Val.assign rfl) ?_
              refine LS.vv rfl rfl (by decide) (Val.assign rfl) ?_
              refine LS.vv rfl rfl (by decide) (Val.assign rfl) ?_
              refine LS.nil ?_
              refine W.seqR ?_
              refine LS.vv rfl rfl (by decide) (Val.move rfl) ?_
              refine LS.vv rfl rfl (by decide) (Val.cast (v := .bool true) (Val.eql rfl rfl) (by first | (simp; done) | (simp; omega))) ?_
              refine LS.vv rfl rfl (by decide) (Val.move rfl) ?_
              refine LS.vg rfl rfl rfl rfl (by decide) (Val.move rfl) ?_
              refine LS.vg rfl rfl rfl rfl (by decide) (Val.move rfl) ?_
              refine LS.vg rfl rfl rfl rfl (by decide) (Val.cast (v := .bool true) (Val.lss rfl rfl) (by first | (simp; done) | (simp; omega))) ?_
              refine LS.vv rfl rfl (by decide) (Val.pickT rfl rfl rfl) ?_
              refine LS.vv rfl rfl (by decide) (Val.move rfl) ?_
              refine LS.vg rfl rfl rfl rfl (by decide) (Val.move rfl) ?_
              refine LS.vg rfl rfl rfl rfl (by decide) (Val.cast (v := .bool true) (Val.geq rfl rfl) (by first | (simp; done) | (simp; omega))) ?_
              refine LS.vv rfl rfl (by decide) (Val.pickT rfl rfl rfl) ?_
              refine LS.vv rfl rfl (by decide) (Val.move rfl) ?_
              refine LS.vg rfl rfl rfl rfl (by decide) (Val.move rfl) ?_
              refine LS.vg rfl rfl rfl rfl (by decide) (Val.move rfl) ?_
              refine LS.vg rfl rfl rfl rfl (by decide) (Val.len Try.underlying44 rfl) ?_
              refine LS.vg rfl rfl rfl rfl (by decide) (Val.cast (v := .bool true) (Val.lss rfl rfl) (by first | (simp; done) | (simp; omega))) ?_
              refine LS.vv rfl rfl (by decide) (Val.pickT rfl rfl rfl) ?_
              refine LS.vv rfl rfl (by decide) (Val.assign rfl) ?_
              refine LS.nil ?_
              refine W.ret ?_
              refine ret1 (by first | exact .inl rfl | exact .inr rfl) rfl ?_
              first | exact ⟨rfl, hB⟩ | (exfalso; omega)
          ·
            first | (have hg5p := of_decide_eq_false hg5) | skip
            refine LS.s rfl rfl rfl hg5 (by decide) ?_
            refine LS.s rfl rfl rfl hg5 (by decide) ?_
            refine LS.s rfl rfl rfl hg5 (by decide) ?_
            refine LS.skipU rfl rfl rfl (by decide) ?_
            refine LS.skipU rfl rfl rfl (by decide) ?_
            refine LS.skipU rfl rfl rfl (by decide) ?_
            refine LS.s rfl rfl rfl hg5 (by decide) ?_
            refine LS.vv rfl rfl (by decide) (Val.pickF rfl hg5 rfl) ?_
            refine LS.nil ?_
            refine W.condF rfl ?_
            refine W.skip ?_
            refine thenP_normal ?_
            refine W.seq ?_
            refine W.seqR ?_
            refine LS.vv rfl rfl (by decide) (Val.move rfl) ?_
            refine LS.vv rfl rfl (by decide) (Val.move rfl) ?_
            refine LS.m rfl (Step.lit rfl rfl (by decide) Try.underlying44 elem27 rfl rfl (by omega) (by simp [Value.oneCell']) (Nat.le_refl _) ?_)
            rintro w8 hO8 hg8 hbl8 hsz8
            replace hM := hM.add hB.size hbl8 hO8
            replace hB := hB.trans (hbl8.mono hB.size)
            generalize w4.heap.size = gg8 at *
            refine LS.m rfl (Step.call body17 rfl rfl (by decide) rfl (CallsV.mono (below_any (N : Int) [x] _ _ _ hO8.rd (by simp) (by simp; omega)) ?_))
            rintro _ w9 ⟨b2, rfl, hbb2, hb9⟩
            replace hM := hM.below hb9
            replace hB := hB.trans (hb9.mono hB.size)
            refine LS.vv rfl rfl (by decide) (Val.not rfl) ?_
            refine LS.nil ?_
            first | refine W.condD rfl (fun hc7 => ?_) (fun hc7 => ?_) | refine W.cond rfl (fun hc7 => ?_) (fun hc7 => ?_)
            ·
              refine W.seqR ?_
              refine LS.vv rfl rfl (by decide) (Val.assign rfl) ?_
              refine LS.nil ?_
              refine W.ret ?_
              refine thenP_ret ?_
              refine ret1 (by first | exact .inl rfl | exact .inr rfl) rfl ?_
              first | exact ⟨rfl, hB⟩ | (exfalso; omega)
            ·
              refine W.skip ?_
              refine thenP_normal ?_
              refine W.seqR ?_
              refine LS.vv rfl rfl (by decide) (Val.move rfl) ?_
              refine LS.vv rfl rfl (by decide) (Val.move rfl) ?_
              refine LS.vv rfl rfl (by decide) (Val.move rfl) ?_
              have hxN : x < 2 ^ N := by have := (hbb2.1 (by simpa using ‹(!b2) = false›)).2.2 x (by simp); rwa [Int.toNat_natCast] at this
              obtain ⟨a, ha, hcov⟩ := growTo_cover hdd (2 ^ N) x hxN
              obtain ⟨ai, hai, hag⟩ := List.getElem_of_mem ha
              refine LS.m rfl (Step.call body30 rfl rfl (by decide) rfl (CallsV.mono (near_any (N : Int) (growTo dd (2 ^ N)) _ _ x _ hM.o1.rd hM.o1.le_cap (by omega) hw32 hx) ?_))
              rintro _ w10 ⟨j, far, f3, rfl, hf3, hnr, hb10⟩
              replace hM := hM.below hb10
              replace hB := hB.trans (hb10.mono hB.size)
              have hF3 : f3 = 0 := hf3.2 ⟨hok, by rw [Int.toNat_natCast]; exact hxN, hne⟩
              obtain ⟨n1, n2, n3, n4⟩ := hnr hF3
              have h5 := n3 ai hai
              rw [gn_lt hai, hag] at h5
              have hfd : far < dd := by omega
              refine LS.vv rfl rfl (by decide) (Val.move rfl) ?_
              refine LS.vv rfl rfl (by decide) (Val.extract rfl rfl) ?_
              refine LS.vv rfl rfl (by decide) (Val.extract rfl rfl) ?_
              refine LS.vv rfl rfl (by decide) (Val.extract rfl rfl) ?_
              refine LS.vv rfl rfl (by decide) (Val.assign rfl) ?_
              refine LS.vv rfl rfl (by decide) (Val.assign rfl) ?_
              refine LS.vv rfl rfl (by decide) (Val.assign rfl) ?_
              refine LS.nil ?_
              refine W.seqR ?_
              refine LS.vv rfl rfl (by decide) (Val.move rfl) ?_
              refine LS.vv rfl rfl (by decide) (Val.cast (v := .bool true) (Val.eql rfl rfl) (by first | (simp; done) | (simp; omega))) ?_
              refine LS.vv rfl rfl (by decide) (Val.move rfl) ?_
              refine LS.vg rfl rfl rfl rfl (by decide) (Val.move rfl) ?_
              refine LS.vg rfl rfl rfl rfl (by decide) (Val.move rfl) ?_
              refine LS.vg rfl rfl rfl rfl (by decide) (Val.cast (v := .bool true) (Val.lss rfl rfl) (by first | (simp; done) | (simp; omega))) ?_
              refine LS.vv rfl rfl (by decide) (Val.pickT rfl rfl rfl) ?_
              refine LS.vv rfl rfl (by decide) (Val.move rfl) ?_
              refine LS.vg rfl rfl rfl rfl (by decide) (Val.move rfl) ?_
              refine LS.vg rfl rfl rfl rfl (by decide) (Val.cast (v := .bool true) (Val.geq rfl rfl) (by first | (simp; done) | (simp; omega))) ?_
              refine LS.vv rfl rfl (by decide) (Val.pickT rfl rfl rfl) ?_
              refine LS.vv rfl rfl (by decide) (Val.move rfl) ?_
              refine LS.vg rfl rfl rfl rfl (by decide) (Val.move rfl) ?_
              refine LS.vg rfl rfl rfl rfl (by decide) (Val.move rfl) ?_
              refine LS.vg rfl rfl rfl rfl (by decide) (Val.len Try.underlying44 rfl) ?_
              refine LS.vg rfl rfl rfl rfl (by decide) (Val.cast (v := .bool true) (Val.lss rfl rfl) (by first | (simp; done) | (simp; omega))) ?_
              refine LS.vv rfl rfl (by decide) (Val.pickT rfl rfl rfl) ?_
              refine LS.vv rfl rfl (by decide) (Val.assign rfl) ?_
              refine LS.nil ?_
              refine W.ret ?_
              refine ret1 (by first | exact .inl rfl | exact .inr rfl) rfl ?_
              first | exact ⟨rfl, hB⟩ | (exfalso; omega)

theorem bookSums_any (n d : Int) (x y : Nat) (w0 : World) (hx : x < 256) (hy : y < 256) :
    CallsV Try.prog 12 #[.int .i64 n, .int .i64 d, .int .u8 (x : Int), .int .u8 (y : Int)] w0 (fun v w => v = .bool true ∧ Below w0.heap.size w0 w) := by
  refine enter1 Try.func12 rfl Try.ntmps12 (by simp) rfl ?_
  have hB := Below.refl w0.heap.size w0
  simp only [argLoc, Nat.zero_add, Nat.reduceAdd]
  have hM := Mem.nil w0 w0.heap.size
  refine W.seqR ?_
  refine LS.vv rfl rfl (by decide) (Val.assign rfl) ?_
  refine LS.nil ?_
  refine W.seqR ?_
  refine LS.vv rfl rfl (by decide) (Val.move rfl) ?_
  refine LS.vv rfl rfl (by decide) (Val.move rfl) ?_
  refine LS.m rfl (Step.call body29 rfl rfl (by decide) rfl (CallsV.mono (grow_any n d _) ?_))
  rintro _ w1 ⟨p1, c1, L, e, rfl, hO1, hE0, hE1, hV, hb1⟩
  replace hM := hM.add hB.size hb1 hO1
  replace hB := hB.trans (hb1.mono hB.size)
  refine LS.vv rfl rfl (by decide) (Val.move rfl) ?_
  refine LS.vv rfl rfl (by decide) (Val.extract rfl rfl) ?_
  refine LS.vv rfl rfl (by decide) (Val.extract rfl rfl) ?_
  refine LS.vv rfl rfl (by decide) (Val.assign rfl) ?_
  refine LS.vv rfl rfl (by decide) (Val.assign rfl) ?_
  refine LS.nil ?_
  refine W.seq ?_
  refine W.seqR ?_
  refine LS.vv rfl rfl (by decide) (Val.move rfl) ?_
  refine LS.m rfl (Step.call body15 rfl rfl (by decide) rfl (CallsV.mono (kbits_any n _) ?_))
  rintro _ w2 ⟨b, rfl, hbb, hb2⟩
  replace hM := hM.below hb2
  replace hB := hB.trans (hb2.mono hB.size)
  refine LS.vv rfl rfl (by decide) (Val.not rfl) ?_
  refine LS.vv rfl rfl (by decide) (Val.move rfl) ?_
  refine LS.split 3 rfl (fun hg1 => ?_) (fun hg1 => ?_)
  ·
    first | (have hg1p := of_decide_eq_true hg1) | skip
    refine LS.s rfl rfl rfl hg1 (by decide) ?_
    refine LS.s rfl rfl rfl hg1 (by decide) ?_
    refine LS.vv rfl rfl (by decide) (Val.pickT rfl hg1 rfl) ?_
    refine LS.vv rfl rfl (by decide) (Val.move rfl) ?_
    refine LS.s rfl rfl rfl rfl (by decide) ?_
    refine LS.s rfl rfl rfl rfl (by decide) ?_
    refine LS.s rfl rfl rfl rfl (by decide) ?_
    refine LS.vv rfl rfl (by decide) (Val.pickT rfl rfl rfl) ?_
    refine LS.nil ?_
    refine W.condT rfl ?_
    refine W.seqR ?_
    refine LS.vv rfl rfl (by decide) (Val.move rfl) ?_
    refine LS.vv rfl rfl (by decide) (Val.cast (v := .bool true) (Val.neq rfl rfl) (by refine congrArg Value.bool (decide_eq_true ?_); intro h0; obtain ⟨hv, _⟩ := hE0 (by omega); first | omega | (have := hbb.2 ⟨hv.1, hv.2.1⟩; simp_all))) ?_
    refine LS.vv rfl rfl (by decide) (Val.assign rfl) ?_
    refine LS.nil ?_
    refine W.ret ?_
    refine thenP_ret ?_
    refine ret1 (by first | exact .inl rfl | exact .inr rfl) rfl ?_
    first | exact ⟨rfl, hB⟩ | (exfalso; omega)
  ·
    first | (have hg1p := of_decide_eq_false hg1) | skip
    refine LS.vg rfl rfl rfl hg1 (by decide) (Val.move rfl) ?_
    refine LS.vg rfl rfl rfl hg1 (by decide) (Val.lss rfl rfl) ?_
    refine LS.vv rfl rfl (by decide) (Val.pickF rfl hg1 rfl) ?_
    refine LS.vv rfl rfl (by decide) (Val.move rfl) ?_
    refine LS.split 7 rfl (fun hg2 => ?_) (fun hg2 => ?_)
    ·
      first | (have hg2p := of_decide_eq_true hg2) | skip
      refine LS.s rfl rfl rfl hg2 (by decide) ?_
      refine LS.s rfl rfl rfl hg2 (by decide) ?_
      refine LS.s rfl rfl rfl hg2 (by decide) ?_
      refine LS.vv rfl rfl (by decide) (Val.pickT rfl hg2 rfl) ?_
      refine LS.nil ?_
      refine W.condT rfl ?_
      refine W.seqR ?_
      refine LS.vv rfl rfl (by decide) (Val.move rfl) ?_
      refine LS.vv rfl rfl (by decide) (Val.cast (v := .bool true) (Val.neq rfl rfl) (by refine congrArg Value.bool (decide_eq_true ?_); intro h0; obtain ⟨hv, _⟩ := hE0 (by omega); first | omega | (have := hbb.2 ⟨hv.1, hv.2.1⟩; simp_all))) ?_
      refine LS.vv rfl rfl (by decide) (Val.assign rfl) ?_
      refine LS.nil ?_
      refine W.ret ?_
      refine thenP_ret ?_
      refine ret1 (by first | exact .inl rfl | exact .inr rfl) rfl ?_
      first | exact ⟨rfl, hB⟩ | (exfalso; omega)
    ·
      first | (have hg2p := of_decide_eq_false hg2) | skip
      refine LS.vg rfl rfl rfl hg2 (by decide) (Val.move rfl) ?_
      refine LS.vg rfl rfl rfl hg2 (by decide) (Val.move rfl) ?_
      refine LS.vg rfl rfl rfl hg2 (by decide) (Val.gtr rfl rfl) ?_
      refine LS.vv rfl rfl (by decide) (Val.pickF rfl hg2 rfl) ?_
      refine LS.nil ?_
      first | refine W.condD rfl (fun hc3 => ?_) (fun hc3 => ?_) | refine W.cond rfl (fun hc3 => ?_) (fun hc3 => ?_)
      ·
        refine W.seqR ?_
        refine LS.vv rfl rfl (by decide) (Val.move rfl) ?_
        refine LS.vv rfl rfl (by decide) (Val.cast (v := .bool true) (Val.neq rfl rfl) (by refine congrArg Value.bool (decide_eq_true ?_); intro h0; obtain ⟨hv, _⟩ := hE0 (by omega); first | omega | (have := hbb.2 ⟨hv.1, hv.2.1⟩; simp_all))) ?_
        refine LS.vv rfl rfl (by decide) (Val.assign rfl) ?_
        refine LS.nil ?_
        refine W.ret ?_
        refine thenP_ret ?_
        refine ret1 (by first | exact .inl rfl | exact .inr rfl) rfl ?_
        first | exact ⟨rfl, hB⟩ | (exfalso; omega)
      ·
        refine W.skip ?_
        refine thenP_normal ?_
        refine W.seq ?_
        refine W.seqR ?_
        refine LS.vv rfl rfl (by decide) (Val.move rfl) ?_
        refine LS.vv rfl rfl (by decide) (Val.neq rfl rfl) ?_
        refine LS.nil ?_
        first | refine W.condD rfl (fun hc4 => ?_) (fun hc4 => ?_) | refine W.cond rfl (fun hc4 => ?_) (fun hc4 => ?_)
        ·
          have hbt : b = true := by simpa using ‹(!b) = false›
          have hbv := hbb.1 hbt
          have hv : e = 0 ∨ e = 1 := hV ⟨hbv.1, hbv.2, by omega, by omega⟩
          have hL0 := hE1 (by omega)
          subst hL0
          refine W.seqR ?_
          refine LS.vv rfl rfl (by decide) (Val.move rfl) ?_
          refine LS.vv rfl rfl (by decide) (Val.cast (v := .bool true) (Val.eql rfl rfl) (by first | (simp; done) | (simp; omega))) ?_
          refine LS.vv rfl rfl (by decide) (Val.assign rfl) ?_
          refine LS.nil ?_
          refine W.ret ?_
          refine thenP_ret ?_
          refine ret1 (by first | exact .inl rfl | exact .inr rfl) rfl ?_
          first | exact ⟨rfl, hB⟩ | (exfalso; omega)
        ·
          have hbt : b = true := by simpa using ‹(!b) = false›
          have hbv := hbb.1 hbt
          have hE : e = 0 := by omega
          obtain ⟨hv, hL, h64⟩ := hE0 hE
          obtain ⟨N, rfl⟩ := Int.eq_ofNat_of_zero_le hv.1
          obtain ⟨dd, rfl⟩ := Int.eq_ofNat_of_zero_le (show 0 ≤ d by omega)
          simp only [Int.toNat_natCast] at hL
          subst hL
          have hN : N ≤ 12 := by omega
          have hdd : 1 ≤ dd := by omega
          have hok := grow_ok hN hdd h64
          have hne := grow_ne (N := N) hdd
          have hlt := growTo_lt dd (2 ^ N)
          have hpw : 2 ^ N ≤ 2 ^ 12 := Nat.pow_le_pow_right (by omega) hN
          have hw32 : ∀ x ∈ growTo dd (2 ^ N), x < 4294967296 := fun x hx => by have := hlt x hx; omega
          have hsl : 1 <<< N = 2 ^ N := by rw [Nat.shiftLeft_eq, Nat.one_mul]
          refine W.skip ?_
          refine thenP_normal ?_
          refine W.seq ?_
          refine W.seqR ?_
          refine LS.vv rfl rfl (by decide) (Val.move rfl) ?_
          refine LS.vv rfl rfl (by decide) (Val.len Try.underlying44 rfl) ?_
          refine LS.vv rfl rfl (by decide) (Val.cast (v := .bool false) (Val.eql rfl rfl) (by exact congrArg Value.bool (decide_eq_false (by omega)))) ?_
          refine LS.nil ?_
          refine W.condF rfl ?_
          refine W.skip ?_
          refine thenP_normal ?_
          refine W.seqT (S := fun w => Below w0.heap.size w0 w) (.val 0 (.val 1 (.val 2 (.val 3 (.val 4 (.val 5 (.val 6 (.val 8 (.val 9 (.val 10 (.val 11 (.val 12 (.val 13 (.val 14 (.two (.mem 7 (.mem 15 (.val 16 (.val 17 (.done))))) (.mem 15 (.mem 7 (.val 16 (.val 17 (.done)))))))))))))))))))) mixed (by kernel_rfl) hB.drew ?_
          replace hB := hB.drew
          replace hM := hM.drew
          refine DT.vv rfl rfl rfl (by decide) (Val.move rfl) ?_
          refine DT.vv rfl rfl rfl (by decide) (Val.move rfl) ?_
          refine DT.vv rfl rfl rfl (by decide) (Val.conv rfl Try.underlying5 Try.underlying3 (IntWalk.i64_in _ (by omega))) ?_
          refine DT.vv rfl rfl rfl (by decide) (Val.move rfl) ?_
          refine DT.vv rfl rfl rfl (by decide) (Val.len Try.underlying44 rfl) ?_
          refine DT.vv rfl rfl rfl (by decide) (Val.remN rfl rfl (by omega)) ?_
          have hxm := Nat.mod_lt x (show 0 < (growTo dd (2 ^ N)).length by omega)
          refine DT.vv rfl rfl rfl (by decide) (Val.index1 Try.underlying44 elem27 rfl rfl (by omega) (hM.o0.rd) (uv_lt (by omega))) ?_
          refine DT.vv rfl rfl rfl (by decide) (Val.move rfl) ?_
          refine DT.vv rfl rfl rfl (by decide) (Val.move rfl) ?_
          refine DT.vv rfl rfl rfl (by decide) (Val.conv rfl Try.underlying5 Try.underlying3 (IntWalk.i64_in _ (by omega))) ?_
          refine DT.vv rfl rfl rfl (by decide) (Val.move rfl) ?_
          refine DT.vv rfl rfl rfl (by decide) (Val.len Try.underlying44 rfl) ?_
          refine DT.vv rfl rfl rfl (by decide) (Val.remN rfl rfl (by omega)) ?_
          have hym := Nat.mod_lt y (show 0 < (growTo dd (2 ^ N)).length by omega)
          refine DT.vv rfl rfl rfl (by decide) (Val.index1 Try.underlying44 elem27 rfl rfl (by omega) (hM.o0.rd) (uv_lt (by omega))) ?_
          refine DT.two ?_ ?_
          ·
            refine DT.m rfl rfl (Step.load rfl rfl (by decide) flat27 rfl (hM.o0.rd) (uv_at (by omega)) ?_)
            refine ⟨hB, ?_⟩
            refine DT.m rfl rfl (Step.load rfl rfl (by decide) flat27 rfl (hM.o0.rd) (uv_at (by omega)) ?_)
            refine ⟨hB, ?_⟩
            have g1 := hlt _ (List.getElem_mem hxm)
            have g2 := hlt _ (List.getElem_mem hym)
            rw [← gn_lt hxm] at g1
            rw [← gn_lt hym] at g2
            have hsum := grow_sums (n := N) (by omega) (List.getElem_mem hxm) (List.getElem_mem hym)
            rw [← gn_lt hxm, ← gn_lt hym] at hsum
            obtain ⟨si, hsi, hsg⟩ := List.getElem_of_mem hsum
            rw [← gn_lt hsi] at hsg
            refine DT.vv rfl rfl rfl (by decide) (Val.xorU32 rfl rfl (by omega) (by omega)) ?_
            refine DT.vv rfl rfl rfl (by decide) (Val.assign rfl) ?_
            refine DT.nil ?_
            refine W.seq ?_
            refine W.seqR ?_
            refine LS.vv rfl rfl (by decide) (Val.move rfl) ?_
            refine LS.vv rfl rfl (by decide) (Val.len Try.underlying44 rfl) ?_
            refine LS.vv rfl rfl (by decide) (Val.cast (v := .int .i64 ((0 : Nat) : Int)) (Val.move rfl) rfl) ?_
            refine LS.nil ?_
            refine W.block ?_
            refine W.loop (α := Nat) (fun k => [(60, .int .i64 (k : Int))]) [(11, _), (58, _), (59, _)] (fun k w => (k ≤ si) ∧ Mem w w0.heap.size [⟨27, p1, (growTo dd (2 ^ N)).length, c1, uv (growTo dd (2 ^ N))⟩] ∧ Below w0.heap.size w0 w) (fun k => si - k) (0) (Sub.cons rfl (Sub.nil _)) (Sub.cons rfl (Sub.cons rfl (Sub.cons rfl (Sub.nil _)))) ?_ ?_
            · exact ⟨Nat.zero_le _, hM, hB⟩
            rintro k w3 ⟨hk, hM, hB⟩
            try simp only at hM
            simp only [List.cons_append, List.nil_append]
            refine W.seqR ?_
            refine LS.vv rfl rfl (by decide) (Val.lss rfl rfl) ?_
            refine LS.nil ?_
            refine W.seq ?_
            first | refine W.condD rfl (fun hc5 => ?_) (fun hc5 => ?_) | refine W.cond rfl (fun hc5 => ?_) (fun hc5 => ?_)
            ·
              refine W.skip ?_
              refine thenP_normal ?_
              refine W.seq ?_
              refine W.block ?_
              refine W.seqR ?_
              refine LS.vv rfl rfl (by decide) (Val.index1 Try.underlying44 elem27 rfl rfl (by omega) (hM.o0.rd) (uv_lt (by omega))) ?_
              refine LS.m rfl (Step.load rfl rfl (by decide) flat27 rfl (hM.o0.rd) (uv_at (by omega)) ?_)
              refine LS.vv rfl rfl (by decide) (Val.assign rfl) ?_
              refine LS.nil ?_
              refine W.seqR ?_
              refine LS.vv rfl rfl (by decide) (Val.move rfl) ?_
              refine LS.vv rfl rfl (by decide) (Val.move rfl) ?_
              refine LS.vv rfl rfl (by decide) (Val.eql rfl rfl) ?_
              refine LS.nil ?_
              first | refine W.condD rfl (fun hc6 => ?_) (fun hc6 => ?_) | refine W.cond rfl (fun hc6 => ?_) (fun hc6 => ?_)
              ·
                refine W.seqR ?_
                refine LS.vv rfl rfl (by decide) (Val.assign rfl) ?_
                refine LS.nil ?_
                refine W.ret ?_
                refine inBlk_ret ?_
                refine thenP_ret ?_
                refine thenP_ret ?_
                refine inBlk_ret ?_
                refine thenP_ret ?_
                refine ret1 (by first | exact .inl rfl | exact .inr rfl) rfl ?_
                first | exact ⟨rfl, hB⟩ | (exfalso; omega)
              ·
                refine W.skip ?_
                refine inBlk_normal ?_
                refine thenP_normal ?_
                refine W.reg ?_
                first | refine LS.vv rfl rfl (by decide) (Val.addN (j := 1) rfl rfl (by omega)) ?_ | refine LS.vv rfl rfl (by decide) (Val.add64 rfl rfl (by omega)) ?_
                refine LS.vv rfl rfl (by decide) (Val.move rfl) ?_
                refine LS.nil ?_
                refine thenP_normal ?_
                have hkn : k ≠ si := fun e => by subst e; simp_all
                refine ⟨k + 1, ?_, ?_, ⟨by omega, hM, hB⟩, by omega⟩
                · exact (Sub.cons rfl (Sub.nil _))
                · repeat (first | exact Sub.nil _ | refine Sub.cons rfl ?_)
            ·
              refine W.exit ?_
              refine thenP_exit ?_
              refine thenP_exit ?_
              refine inBlk_exit ?_
              refine thenP_normal ?_
              refine W.seqR ?_
              refine LS.vv rfl rfl (by decide) (Val.assign rfl) ?_
              refine LS.nil ?_
              refine W.ret ?_
              refine ret1 (by first | exact .inl rfl | exact .inr rfl) rfl ?_
              first | exact ⟨rfl, hB⟩ | (exfalso; omega)
          ·
            refine DT.m rfl rfl (Step.load rfl rfl (by decide) flat27 rfl (hM.o0.rd) (uv_at (by omega)) ?_)
            refine ⟨hB, ?_⟩
            refine DT.m rfl rfl (Step.load rfl rfl (by decide) flat27 rfl (hM.o0.rd) (uv_at (by omega)) ?_)
            refine ⟨hB, ?_⟩
            have g1 := hlt _ (List.getElem_mem hxm)
            have g2 := hlt _ (List.getElem_mem hym)
            rw [← gn_lt hxm] at g1
            rw [← gn_lt hym] at g2
            have hsum := grow_sums (n := N) (by omega) (List.getElem_mem hxm) (List.getElem_mem hym)
            rw [← gn_lt hxm, ← gn_lt hym] at hsum
            obtain ⟨si, hsi, hsg⟩ := List.getElem_of_mem hsum
            rw [← gn_lt hsi] at hsg
            refine DT.vv rfl rfl rfl (by decide) (Val.xorU32 rfl rfl (by omega) (by omega)) ?_
            refine DT.vv rfl rfl rfl (by decide) (Val.assign rfl) ?_
            refine DT.nil ?_
            refine W.seq ?_
            refine W.seqR ?_
            refine LS.vv rfl rfl (by decide) (Val.move rfl) ?_
            refine LS.vv rfl rfl (by decide) (Val.len Try.underlying44 rfl) ?_
            refine LS.vv rfl rfl (by decide) (Val.cast (v := .int .i64 ((0 : Nat) : Int)) (Val.move rfl) rfl) ?_
            refine LS.nil ?_
            refine W.block ?_
            refine W.loop (α := Nat) (fun k => [(60, .int .i64 (k : Int))]) [(11, _), (58, _), (59, _)] (fun k w => (k ≤ si) ∧ Mem w w0.heap.size [⟨27, p1, (growTo dd (2 ^ N)).length, c1, uv (growTo dd (2 ^ N))⟩] ∧ Below w0.heap.size w0 w) (fun k => si - k) (0) (Sub.cons rfl (Sub.nil _)) (Sub.cons rfl (Sub.cons rfl (Sub.cons rfl (Sub.nil _)))) ?_ ?_
            · exact ⟨Nat.zero_le _, hM, hB⟩
            rintro k w4 ⟨hk, hM, hB⟩
            try simp only at hM
            simp only [List.cons_append, List.nil_append]
            refine W.seqR ?_
            refine LS.vv rfl rfl (by decide) (Val.lss rfl rfl) ?_
            refine LS.nil ?_
            refine W.seq ?_
            first | refine W.condD rfl (fun hc7 => ?_) (fun hc7 => ?_) | refine W.cond rfl (fun hc7 => ?_) (fun hc7 => ?_)
            ·
              refine W.skip ?_
              refine thenP_normal ?_
              refine W.seq ?_
              refine W.block ?_
              refine W.seqR ?_
              refine LS.vv rfl rfl (by decide) (Val.index1 Try.underlying44 elem27 rfl rfl (by omega) (hM.o0.rd) (uv_lt (by omega))) ?_
              refine LS.m rfl (Step.load rfl rfl (by decide) flat27 rfl (hM.o0.rd) (uv_at (by omega)) ?_)
              refine LS.vv rfl rfl (by decide) (Val.assign rfl) ?_
              refine LS.nil ?_
              refine W.seqR ?_
              refine LS.vv rfl rfl (by decide) (Val.move rfl) ?_
              refine LS.vv rfl rfl (by decide) (Val.move rfl) ?_
              refine LS.vv rfl rfl (by decide) (Val.eql rfl rfl) ?_
              refine LS.nil ?_
              first | refine W.condD rfl (fun hc8 => ?_) (fun hc8 => ?_) | refine W.cond rfl (fun hc8 => ?_) (fun hc8 => ?_)
              ·
                refine W.seqR ?_
                refine LS.vv rfl rfl (by decide) (Val.assign rfl) ?_
                refine LS.nil ?_
                refine W.ret ?_
                refine inBlk_ret ?_
                refine thenP_ret ?_
                refine thenP_ret ?_
                refine inBlk_ret ?_
                refine thenP_ret ?_
                refine ret1 (by first | exact .inl rfl | exact .inr rfl) rfl ?_
                first | exact ⟨rfl, hB⟩ | (exfalso; omega)
              ·
                refine W.skip ?_
                refine inBlk_normal ?_
                refine thenP_normal ?_
                refine W.reg ?_
                first | refine LS.vv rfl rfl (by decide) (Val.addN (j := 1) rfl rfl (by omega)) ?_ | refine LS.vv rfl rfl (by decide) (Val.add64 rfl rfl (by omega)) ?_
                refine LS.vv rfl rfl (by decide) (Val.move rfl) ?_
                refine LS.nil ?_
                refine thenP_normal ?_
                have hkn : k ≠ si := fun e => by subst e; simp_all
                refine ⟨k + 1, ?_, ?_, ⟨by omega, hM, hB⟩, by omega⟩
                · exact (Sub.cons rfl (Sub.nil _))
                · repeat (first | exact Sub.nil _ | refine Sub.cons rfl ?_)
            ·
              refine W.exit ?_
              refine thenP_exit ?_
              refine thenP_exit ?_
              refine inBlk_exit ?_
              refine thenP_normal ?_
              refine W.seqR ?_
              refine LS.vv rfl rfl (by decide) (Val.assign rfl) ?_
              refine LS.nil ?_
              refine W.ret ?_
              refine ret1 (by first | exact .inl rfl | exact .inr rfl) rfl ?_
              first | exact ⟨rfl, hB⟩ | (exfalso; omega)

end Go.Proofs.Ytclobhnclogaoaa
