/-
  The walks of leader.leaders, Leader, Fix.
-/
import Derived.Test.YtbbmgcmibgdkiaaMark
import Derived.Test.YtbbmgcmibgdkiaaLeaderPlain
import Derived.Test.YtbbmgcmibgdkiaaVfacts2
import Derived.Test.YtbbmgcmibgdkiaaVmap
namespace Go.Proofs.Ytbbmgcmibgdkiaa
open Go Go.RowKit V
set_option linter.unusedVariables false

theorem leaders_any (m : Nat) (cs : List Nat) (p : Option Addr) (c : Nat) (w0 : World) (hr : Rd w0 p (uv cs)) (hl : cs.length ≤ 9223372036854775807) (hcs : ∀ x ∈ cs, x < 4294967296) (h8 : cs.length ≤ 8) (hm : m ≤ 12) :
    CallsV Try.prog 52 #[.int .i64 (m : Int), .slice p cs.length c] w0 (fun v w => ∃ r : Nat, v = .map (some r) ∧ OwnMap (encN .u32) w w0.heap.size r (bestF cs (2 ^ m)) ∧ Below w0.heap.size w0 w) := by
  refine enter1 Try.func52 rfl Try.ntmps52 (by simp) rfl ?_
  have hB := Below.refl w0.heap.size w0
  simp only [argLoc, Nat.zero_add]
  have hM := Mem.nil w0 w0.heap.size
  have hpw : 2 ^ m ≤ 2 ^ 12 := Nat.pow_le_pow_right (by omega) hm
  have hsl : 1 <<< m = 2 ^ m := by rw [Nat.shiftLeft_eq, Nat.one_mul]
  refine W.seqR ?_
  refine LS.vv rfl rfl (by decide) (Val.assign rfl) ?_
  refine LS.nil ?_
  refine W.seqR ?_
  refine LS.m rfl (Step.makeMap (enc := encN .u32) rfl rfl (by decide) ?_)
  rintro w1 hn1 hbl1 hsz1
  first | replace hmp := hmp.below hbl1 | replace hmp := hmp.off hM.o0 hg1 | replace hmp := hmp.off hM.o1 hg1 | replace hmp := hmp.off hM.o2 hg1 | replace hmp := hmp.off hM.o3 hg1 | replace hmp := hmp.off hM.o4 hg1 | skip
  replace hM := hM.below hbl1
  have hmp := hn1.base hB.size
  replace hB := hB.trans (hbl1.mono hB.size)
  skip
  refine LS.vv rfl rfl (by decide) (Val.assign rfl) ?_
  refine LS.nil ?_
  refine W.seq ?_
  refine W.seqR ?_
  refine LS.vv rfl rfl (by decide) (Val.move rfl) ?_
  refine LS.vv rfl rfl (by decide) (Val.shlU32 (i := 1) rfl rfl (by omega) (by omega)) ?_
  refine LS.vv rfl rfl (by decide) (Val.cast (v := .int .u32 ((0 : Nat) : Int)) (Val.move rfl) rfl) ?_
  refine LS.nil ?_
  refine W.block ?_
  refine W.loop (α := Nat) (fun k => [(13, .int .u32 (k : Int))]) [(1, _), (5, _), (12, _)] (fun k w => (k ≤ 2 ^ m ∧ OwnMap (encN .u32) w w0.heap.size w0.heap.size (bestF cs k)) ∧ Mem w w0.heap.size [] ∧ Below w0.heap.size w0 w) (fun k => 2 ^ m - k) (0) (Sub.cons rfl (Sub.nil _)) (Sub.cons rfl (Sub.cons rfl (Sub.cons rfl (Sub.nil _)))) ?_ ?_
  · exact ⟨⟨Nat.zero_le _, hmp⟩, hM, hB⟩
  rintro k w2 ⟨⟨hk, hmp⟩, hM, hB⟩
  try simp only at hM
  simp only [List.cons_append, List.nil_append]
  refine W.seqR ?_
  refine LS.vv rfl rfl (by decide) (Val.lss rfl rfl) ?_
  refine LS.nil ?_
  refine W.seq ?_
  first | refine W.condD rfl (fun hc1 => ?_) (fun hc1 => ?_) | refine W.cond rfl (fun hc1 => ?_) (fun hc1 => ?_)
  ·
    refine W.skip ?_
    refine thenP_normal ?_
    refine W.seq ?_
    refine W.block ?_
    refine W.seqR ?_
    refine LS.vv rfl rfl (by decide) (Val.move rfl) ?_
    refine LS.vv rfl rfl (by decide) (Val.assign rfl) ?_
    refine LS.nil ?_
    refine W.seqR ?_
    refine LS.vv rfl rfl (by decide) (Val.move rfl) ?_
    refine LS.vv rfl rfl (by decide) (Val.move rfl) ?_
    refine LS.m rfl (Step.call body53 rfl rfl (by decide) rfl (CallsV.mono (mark_any cs _ _ k _ (hr.below hB) hl hcs (by omega) h8) ?_))
    rintro _ w3 ⟨rfl, hb3⟩
    replace hM := hM.below hb3
    try replace hmp := hmp.below hb3
    replace hB := hB.trans (hb3.mono hB.size)
    refine LS.vv rfl rfl (by decide) (Val.assign rfl) ?_
    refine LS.nil ?_
    refine W.seqR ?_
    refine LS.vv rfl rfl (by decide) (Val.move rfl) ?_
    refine LS.vv rfl rfl (by decide) (Val.move rfl) ?_
    refine LS.m rfl (Step.lookup2 rfl rfl (by decide) (keys_nat Try.underlying22) Try.underlying71 elem22 rfl rfl hmp (bestF_getD cs k (markTo cs k cs.length)) (bestF_isSome cs k (markTo cs k cs.length)) ?_)
    refine LS.vv rfl rfl (by decide) (Val.move rfl) ?_
    refine LS.vv rfl rfl (by decide) (Val.extract rfl rfl) ?_
    refine LS.vv rfl rfl (by decide) (Val.extract rfl rfl) ?_
    refine LS.vv rfl rfl (by decide) (Val.assign rfl) ?_
    refine LS.vv rfl rfl (by decide) (Val.assign rfl) ?_
    refine LS.nil ?_
    refine W.seqR ?_
    refine LS.vv rfl rfl (by decide) (Val.move rfl) ?_
    refine LS.vv rfl rfl (by decide) (Val.not rfl) ?_
    refine LS.vv rfl rfl (by decide) (Val.move rfl) ?_
    refine LS.split 2 rfl (fun hg2 => ?_) (fun hg2 => ?_)
    ·
      first | (have hg2p := of_decide_eq_true hg2) | skip
      refine LS.s rfl rfl rfl hg2 (by decide) ?_
      refine LS.s rfl rfl rfl hg2 (by decide) ?_
      refine LS.s rfl rfl rfl hg2 (by decide) ?_
      refine LS.s rfl rfl rfl hg2 (by decide) ?_
      refine LS.s rfl rfl rfl hg2 (by decide) ?_
      refine LS.vv rfl rfl (by decide) (Val.pickT rfl hg2 rfl) ?_
      refine LS.nil ?_
      refine W.condT rfl ?_
      refine W.reg ?_
      refine LS.vv rfl rfl (by decide) (Val.move rfl) ?_
      refine LS.vv rfl rfl (by decide) (Val.move rfl) ?_
      refine LS.vv rfl rfl (by decide) (Val.move rfl) ?_
      refine LS.m rfl (Step.mapPut (.inl rfl) rfl (keys_nat Try.underlying22) Try.underlying71 rfl rfl rfl hmp hB.size ?_)
      rintro w4 hn4 hg4 hbl4 hsz4
      replace hM := hM.map hmp hg4
      replace hmp := hn4
      replace hB := hB.trans hbl4
      refine LS.nil ?_
      refine inBlk_normal ?_
      refine thenP_normal ?_
      refine W.reg ?_
      first | refine LS.vv rfl rfl (by decide) (Val.addNU32 (j := 1) rfl rfl (by omega)) ?_ | refine LS.vv rfl rfl (by decide) (Val.addU32 rfl rfl (by omega)) ?_
      refine LS.vv rfl rfl (by decide) (Val.move rfl) ?_
      refine LS.nil ?_
      refine thenP_normal ?_
      refine ⟨k + 1, ?_, ?_, ⟨⟨by omega, ?_⟩, hM, hB⟩, by omega⟩
      · exact (Sub.cons rfl (Sub.nil _))
      · repeat (first | exact Sub.nil _ | refine Sub.cons rfl ?_)
      · rw [← bestF_yes (by first | (left; simp_all; done) | (right; omega) | simp_all)]; exact hmp
    ·
      first | (have hg2p := of_decide_eq_false hg2) | skip
      refine LS.vg rfl rfl rfl hg2 (by decide) (Val.move rfl) ?_
      have hdl := bestD_lt cs k (markTo cs k cs.length)
      have hpk : popc k ≤ 32 := popTo_le _ 32
      refine LS.mg rfl rfl hg2 (Step.call body63 rfl rfl (by decide) rfl (CallsV.mono (ones32_any k _ (by omega)) ?_))
      rintro _ w5 ⟨rfl, hb5⟩
      replace hM := hM.below hb5
      try replace hmp := hmp.below hb5
      replace hB := hB.trans (hb5.mono hB.size)
      refine LS.vg rfl rfl rfl hg2 (by decide) (Val.move rfl) ?_
      refine LS.mg rfl rfl hg2 (Step.call body63 rfl rfl (by decide) rfl (CallsV.mono (ones32_any ((bestTo cs k (markTo cs k cs.length)).getD 0) _ (by omega)) ?_))
      rintro _ w6 ⟨rfl, hb6⟩
      replace hM := hM.below hb6
      try replace hmp := hmp.below hb6
      replace hB := hB.trans (hb6.mono hB.size)
      refine LS.vg rfl rfl rfl hg2 (by decide) (Val.lss rfl rfl) ?_
      refine LS.vv rfl rfl (by decide) (Val.pickF rfl hg2 rfl) ?_
      refine LS.nil ?_
      first | refine W.condD rfl (fun hc3 => ?_) (fun hc3 => ?_) | refine W.cond rfl (fun hc3 => ?_) (fun hc3 => ?_)
      ·
        refine W.reg ?_
        refine LS.vv rfl rfl (by decide) (Val.move rfl) ?_
        refine LS.vv rfl rfl (by decide) (Val.move rfl) ?_
        refine LS.vv rfl rfl (by decide) (Val.move rfl) ?_
        refine LS.m rfl (Step.mapPut (.inl rfl) rfl (keys_nat Try.underlying22) Try.underlying71 rfl rfl rfl hmp hB.size ?_)
        rintro w7 hn7 hg7 hbl7 hsz7
        replace hM := hM.map hmp hg7
        replace hmp := hn7
        replace hB := hB.trans hbl7
        refine LS.nil ?_
        refine inBlk_normal ?_
        refine thenP_normal ?_
        refine W.reg ?_
        first | refine LS.vv rfl rfl (by decide) (Val.addNU32 (j := 1) rfl rfl (by omega)) ?_ | refine LS.vv rfl rfl (by decide) (Val.addU32 rfl rfl (by omega)) ?_
        refine LS.vv rfl rfl (by decide) (Val.move rfl) ?_
        refine LS.nil ?_
        refine thenP_normal ?_
        refine ⟨k + 1, ?_, ?_, ⟨⟨by omega, ?_⟩, hM, hB⟩, by omega⟩
        · exact (Sub.cons rfl (Sub.nil _))
        · repeat (first | exact Sub.nil _ | refine Sub.cons rfl ?_)
        · rw [← bestF_yes (by first | (left; simp_all; done) | (right; omega) | simp_all)]; exact hmp
      ·
        refine W.skip ?_
        refine inBlk_normal ?_
        refine thenP_normal ?_
        refine W.reg ?_
        first | refine LS.vv rfl rfl (by decide) (Val.addNU32 (j := 1) rfl rfl (by omega)) ?_ | refine LS.vv rfl rfl (by decide) (Val.addU32 rfl rfl (by omega)) ?_
        refine LS.vv rfl rfl (by decide) (Val.move rfl) ?_
        refine LS.nil ?_
        refine thenP_normal ?_
        refine ⟨k + 1, ?_, ?_, ⟨⟨by omega, ?_⟩, hM, hB⟩, by omega⟩
        · exact (Sub.cons rfl (Sub.nil _))
        · repeat (first | exact Sub.nil _ | refine Sub.cons rfl ?_)
        · rw [← bestF_no (by intro h; rcases h with h | h; simp_all; omega)]; exact hmp
  ·
    refine W.exit ?_
    refine thenP_exit ?_
    refine thenP_exit ?_
    refine inBlk_exit ?_
    refine thenP_normal ?_
    refine W.seqR ?_
    refine LS.vv rfl rfl (by decide) (Val.move rfl) ?_
    refine LS.vv rfl rfl (by decide) (Val.assign rfl) ?_
    refine LS.nil ?_
    refine W.ret ?_
    refine ret1 (by first | exact .inl rfl | exact .inr rfl) rfl ?_
    obtain rfl : k = 2 ^ m := by omega
    exact ⟨_, rfl, hmp, hB⟩

theorem Leader_any (n : Int) (cs : List Nat) (p : Option Addr) (c : Nat) (x : Nat) (w0 : World) (hr : Rd w0 p (uv cs)) (hl : cs.length ≤ 9223372036854775807) (hcs : ∀ x ∈ cs, x < 4294967296) (hx : x < 4294967296) :
    CallsV Try.prog 34 #[.int .i64 n, .slice p cs.length c, .int .u32 (x : Int)] w0 (fun v w => ∃ l e : Nat, v = .tuple #[.int .u32 (l : Int), .int .i64 (e : Int)] ∧ (e = 0 ↔ (OkR n cs ∧ x < 2 ^ cs.length) ∧ (bestTo cs (2 ^ n.toNat) x).isSome = true) ∧ (e = 0 → l = (bestTo cs (2 ^ n.toNat) x).getD 0) ∧ l < 4294967296 ∧ Below w0.heap.size w0 w) := by
  refine enter2 Try.func34 rfl Try.ntmps34 (by simp) rfl ?_
  have hB := Below.refl w0.heap.size w0
  simp only [argLoc, Nat.zero_add, Nat.reduceAdd]
  have hM := Mem.nil w0 w0.heap.size
  refine W.seqR ?_
  refine LS.vv rfl rfl (by decide) (Val.cast (v := .int .u32 ((0 : Nat) : Int)) (Val.assign rfl) rfl) ?_
  refine LS.vv rfl rfl (by decide) (Val.cast (v := .int .i64 ((0 : Nat) : Int)) (Val.assign rfl) rfl) ?_
  refine LS.nil ?_
  refine W.seq ?_
  refine W.seqR ?_
  refine LS.vv rfl rfl (by decide) (Val.move rfl) ?_
  refine LS.vv rfl rfl (by decide) (Val.move rfl) ?_
  refine LS.vv rfl rfl (by decide) (Val.move rfl) ?_
  refine LS.vv rfl rfl (by decide) (Val.move rfl) ?_
  refine LS.vv rfl rfl (by decide) (Val.len Try.underlying45 rfl) ?_
  refine LS.m rfl (Step.call body51 rfl rfl (by decide) rfl (CallsV.mono (lwrong_any n cs _ _ x (cs.length : Int) _ (hr.below hB) hl hcs hx (fun h => by have := h.2; omega)) ?_))
  rintro _ w1 ⟨e, rfl, he, hb1⟩
  replace hM := hM.below hb1
  try replace hmp := hmp.below hb1
  replace hB := hB.trans (hb1.mono hB.size)
  rw [Int.toNat_natCast] at he
  refine LS.vv rfl rfl (by decide) (Val.assign rfl) ?_
  refine LS.nil ?_
  refine W.seqR ?_
  refine LS.vv rfl rfl (by decide) (Val.move rfl) ?_
  refine LS.vv rfl rfl (by decide) (Val.neq rfl rfl) ?_
  refine LS.nil ?_
  first | refine W.condD rfl (fun hc1 => ?_) (fun hc1 => ?_) | refine W.cond rfl (fun hc1 => ?_) (fun hc1 => ?_)
  ·
    refine W.seqR ?_
    refine LS.vv rfl rfl (by decide) (Val.move rfl) ?_
    refine LS.vv rfl rfl (by decide) (Val.cast (v := .int .u32 ((0 : Nat) : Int)) (Val.assign rfl) rfl) ?_
    refine LS.vv rfl rfl (by decide) (Val.assign rfl) ?_
    refine LS.nil ?_
    refine W.ret ?_
    refine thenP_ret ?_
    refine ret2 (by first | exact .inl rfl | exact .inr rfl) rfl rfl ?_
    first | (refine ⟨0, e, rfl, ⟨fun h => by omega, fun h => he.2 h.1⟩, fun h => by omega, by omega, hB⟩; done) | (refine ⟨0, 5, rfl, ⟨fun h => by omega, fun h => ?_⟩, fun h => by omega, by omega, hB⟩; rw [htn] at h; have h2 := h.2; simp_all; done) | (refine ⟨_, 0, rfl, ⟨fun _ => ⟨⟨hok, hx2⟩, ?_⟩, fun _ => rfl⟩, fun _ => by rw [htn], by omega, hB⟩; rw [htn]; simp_all)
  ·
    obtain ⟨hok, hx2⟩ := he.1 (by omega)
    have hn1 := hok.1.1
    have hn2 := hok.1.2.1
    obtain ⟨N, rfl⟩ := Int.eq_ofNat_of_zero_le hn1
    try simp only [Int.toNat_natCast] at he hx2
    refine W.skip ?_
    refine thenP_normal ?_
    refine W.seqR ?_
    refine LS.vv rfl rfl (by decide) (Val.move rfl) ?_
    refine LS.vv rfl rfl (by decide) (Val.move rfl) ?_
    refine LS.m rfl (Step.call body52 rfl rfl (by decide) rfl (CallsV.mono (leaders_any N cs _ _ _ (hr.below hB) hl hcs hok.2 (by omega)) ?_))
    rintro _ w2 ⟨r, rfl, hmp, hb2⟩
    replace hM := hM.below hb2
    try replace hmp := hmp.below hb2
    replace hB := hB.trans (hb2.mono hB.size)
    refine LS.vv rfl rfl (by decide) (Val.move rfl) ?_
    refine LS.m rfl (Step.lookup2 rfl rfl (by decide) (keys_nat Try.underlying22) Try.underlying71 elem22 rfl rfl hmp (bestF_getD cs (2 ^ N) x) (bestF_isSome cs (2 ^ N) x) ?_)
    have hdl := bestD_lt cs (2 ^ N) x
    have hpw : 2 ^ N ≤ 2 ^ 12 := Nat.pow_le_pow_right (by omega) (by omega)
    have htn : ((N : Nat) : Int).toNat = N := Int.toNat_natCast N
    refine LS.vv rfl rfl (by decide) (Val.move rfl) ?_
    refine LS.vv rfl rfl (by decide) (Val.extract rfl rfl) ?_
    refine LS.vv rfl rfl (by decide) (Val.extract rfl rfl) ?_
    refine LS.vv rfl rfl (by decide) (Val.assign rfl) ?_
    refine LS.vv rfl rfl (by decide) (Val.assign rfl) ?_
    refine LS.nil ?_
    refine W.seq ?_
    refine W.seqR ?_
    refine LS.vv rfl rfl (by decide) (Val.move rfl) ?_
    refine LS.vv rfl rfl (by decide) (Val.not rfl) ?_
    refine LS.nil ?_
    first | refine W.condD rfl (fun hc2 => ?_) (fun hc2 => ?_) | refine W.cond rfl (fun hc2 => ?_) (fun hc2 => ?_)
    ·
      refine W.seqR ?_
      refine LS.vv rfl rfl (by decide) (Val.cast (v := .int .u32 ((0 : Nat) : Int)) (Val.assign rfl) rfl) ?_
      refine LS.vv rfl rfl (by decide) (Val.cast (v := .int .i64 ((5 : Nat) : Int)) (Val.assign rfl) rfl) ?_
      refine LS.nil ?_
      refine W.ret ?_
      refine thenP_ret ?_
      refine ret2 (by first | exact .inl rfl | exact .inr rfl) rfl rfl ?_
      first | (refine ⟨0, e, rfl, ⟨fun h => by omega, fun h => he.2 h.1⟩, fun h => by omega, by omega, hB⟩; done) | (refine ⟨0, 5, rfl, ⟨fun h => by omega, fun h => ?_⟩, fun h => by omega, by omega, hB⟩; rw [htn] at h; have h2 := h.2; simp_all; done) | (refine ⟨_, 0, rfl, ⟨fun _ => ⟨⟨hok, hx2⟩, ?_⟩, fun _ => rfl⟩, fun _ => by rw [htn], by omega, hB⟩; rw [htn]; simp_all)
    ·
      refine W.skip ?_
      refine thenP_normal ?_
      refine W.seqR ?_
      refine LS.vv rfl rfl (by decide) (Val.move rfl) ?_
      refine LS.vv rfl rfl (by decide) (Val.assign rfl) ?_
      refine LS.vv rfl rfl (by decide) (Val.cast (v := .int .i64 ((0 : Nat) : Int)) (Val.assign rfl) rfl) ?_
      refine LS.nil ?_
      refine W.ret ?_
      refine ret2 (by first | exact .inl rfl | exact .inr rfl) rfl rfl ?_
      first | (refine ⟨0, e, rfl, ⟨fun h => by omega, fun h => he.2 h.1⟩, fun h => by omega, by omega, hB⟩; done) | (refine ⟨0, 5, rfl, ⟨fun h => by omega, fun h => ?_⟩, fun h => by omega, by omega, hB⟩; rw [htn] at h; have h2 := h.2; simp_all; done) | (refine ⟨_, 0, rfl, ⟨fun _ => ⟨⟨hok, hx2⟩, ?_⟩, fun _ => rfl⟩, fun _ => by rw [htn], by omega, hB⟩; rw [htn]; simp_all)

theorem lFix_any (n : Int) (cs : List Nat) (p : Option Addr) (c : Nat) (x : Nat) (w0 : World) (hr : Rd w0 p (uv cs)) (hl : cs.length ≤ 9223372036854775807) (hcs : ∀ x ∈ cs, x < 4294967296) (hx : x < 4294967296) :
    CallsV Try.prog 29 #[.int .i64 n, .slice p cs.length c, .int .u32 (x : Int)] w0 (fun v w => ∃ y e : Nat, v = .tuple #[.int .u32 (y : Int), .int .i64 (e : Int)] ∧ (e = 0 ↔ OkR n cs ∧ x < 2 ^ n.toNat) ∧ (e = 0 → y = x ^^^ (bestTo cs (2 ^ n.toNat) (markTo cs x cs.length)).getD 0) ∧ y < 4294967296 ∧ Below w0.heap.size w0 w) := by
  refine enter2 Try.func29 rfl Try.ntmps29 (by simp) rfl ?_
  have hB := Below.refl w0.heap.size w0
  simp only [argLoc, Nat.zero_add, Nat.reduceAdd]
  have hM := Mem.nil w0 w0.heap.size
  refine W.seqR ?_
  refine LS.vv rfl rfl (by decide) (Val.cast (v := .int .u32 ((0 : Nat) : Int)) (Val.assign rfl) rfl) ?_
  refine LS.vv rfl rfl (by decide) (Val.cast (v := .int .i64 ((0 : Nat) : Int)) (Val.assign rfl) rfl) ?_
  refine LS.nil ?_
  refine W.seq ?_
  refine W.seqR ?_
  refine LS.vv rfl rfl (by decide) (Val.move rfl) ?_
  refine LS.vv rfl rfl (by decide) (Val.move rfl) ?_
  refine LS.vv rfl rfl (by decide) (Val.move rfl) ?_
  refine LS.vv rfl rfl (by decide) (Val.move rfl) ?_
  refine LS.m rfl (Step.call body51 rfl rfl (by decide) rfl (CallsV.mono (lwrong_any n cs _ _ x n _ (hr.below hB) hl hcs hx (fun h => by have h1 := h.1.1; have h2 := h.1.2.1; omega)) ?_))
  rintro _ w1 ⟨e, rfl, he, hb1⟩
  replace hM := hM.below hb1
  try replace hmp := hmp.below hb1
  replace hB := hB.trans (hb1.mono hB.size)
  refine LS.vv rfl rfl (by decide) (Val.assign rfl) ?_
  refine LS.nil ?_
  refine W.seqR ?_
  refine LS.vv rfl rfl (by decide) (Val.move rfl) ?_
  refine LS.vv rfl rfl (by decide) (Val.neq rfl rfl) ?_
  refine LS.nil ?_
  first | refine W.condD rfl (fun hc1 => ?_) (fun hc1 => ?_) | refine W.cond rfl (fun hc1 => ?_) (fun hc1 => ?_)
  ·
    refine W.seqR ?_
    refine LS.vv rfl rfl (by decide) (Val.move rfl) ?_
    refine LS.vv rfl rfl (by decide) (Val.cast (v := .int .u32 ((0 : Nat) : Int)) (Val.assign rfl) rfl) ?_
    refine LS.vv rfl rfl (by decide) (Val.assign rfl) ?_
    refine LS.nil ?_
    refine W.ret ?_
    refine thenP_ret ?_
    refine ret2 (by first | exact .inl rfl | exact .inr rfl) rfl rfl ?_
    first | (refine ⟨0, e, rfl, he, fun h => by omega, by omega, hB⟩; done) | exact ⟨_, 0, rfl, ⟨fun _ => ⟨hok, by rw [htn]; exact hx2⟩, fun _ => rfl⟩, fun _ => by rw [htn], by omega, hB⟩
  ·
    obtain ⟨hok, hx2⟩ := he.1 (by omega)
    have hn1 := hok.1.1
    have hn2 := hok.1.2.1
    obtain ⟨N, rfl⟩ := Int.eq_ofNat_of_zero_le hn1
    try simp only [Int.toNat_natCast] at he hx2
    refine W.skip ?_
    refine thenP_normal ?_
    refine W.seqR ?_
    refine LS.vv rfl rfl (by decide) (Val.move rfl) ?_
    refine LS.vv rfl rfl (by decide) (Val.move rfl) ?_
    refine LS.vv rfl rfl (by decide) (Val.move rfl) ?_
    refine LS.m rfl (Step.call body52 rfl rfl (by decide) rfl (CallsV.mono (leaders_any N cs _ _ _ (hr.below hB) hl hcs hok.2 (by omega)) ?_))
    rintro _ w2 ⟨r, rfl, hmp, hb2⟩
    replace hM := hM.below hb2
    try replace hmp := hmp.below hb2
    replace hB := hB.trans (hb2.mono hB.size)
    refine LS.vv rfl rfl (by decide) (Val.move rfl) ?_
    refine LS.vv rfl rfl (by decide) (Val.move rfl) ?_
    refine LS.m rfl (Step.call body53 rfl rfl (by decide) rfl (CallsV.mono (mark_any cs _ _ x _ (hr.below hB) hl hcs hx hok.2) ?_))
    rintro _ w3 ⟨rfl, hb3⟩
    replace hM := hM.below hb3
    try replace hmp := hmp.below hb3
    replace hB := hB.trans (hb3.mono hB.size)
    refine LS.m rfl (Step.lookup1 rfl rfl (by decide) (keys_nat Try.underlying22) Try.underlying71 elem22 rfl rfl hmp (bestF_getD cs (2 ^ N) (markTo cs x cs.length)) ?_)
    have hdl := bestD_lt cs (2 ^ N) (markTo cs x cs.length)
    have hpw : 2 ^ N ≤ 2 ^ 12 := Nat.pow_le_pow_right (by omega) (by omega)
    have htn : ((N : Nat) : Int).toNat = N := Int.toNat_natCast N
    have hxx := Nat.xor_lt_two_pow (n := 32) (x := x) (y := (bestTo cs (2 ^ N) (markTo cs x cs.length)).getD 0) (by omega) (by omega)
    refine LS.vv rfl rfl (by decide) (Val.xorU32 rfl rfl (by omega) (by omega)) ?_
    refine LS.vv rfl rfl (by decide) (Val.assign rfl) ?_
    refine LS.vv rfl rfl (by decide) (Val.cast (v := .int .i64 ((0 : Nat) : Int)) (Val.assign rfl) rfl) ?_
    refine LS.nil ?_
    refine W.ret ?_
    refine ret2 (by first | exact .inl rfl | exact .inr rfl) rfl rfl ?_
    first | (refine ⟨0, e, rfl, he, fun h => by omega, by omega, hB⟩; done) | exact ⟨_, 0, rfl, ⟨fun _ => ⟨hok, by rw [htn]; exact hx2⟩, fun _ => rfl⟩, fun _ => by rw [htn], by omega, hB⟩

end Go.Proofs.Ytbbmgcmibgdkiaa
