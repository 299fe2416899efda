/-
  The walks of gray.number, gray.Round.
-/
import Derived.Test.YtpogedmkmplckaaRoundPlain
import Derived.Test.YtpogedmkmplckaaLib
import Derived.Test.YtpogedmkmplckaaVgrow
import Derived.Test.YtpogedmkmplckaaVfacts2
import Derived.Test.YtpogedmkmplckaaVfin
namespace Go.Proofs.Ytpogedmkmplckaa
open Go Go.RowKit V
set_option linter.unusedVariables false

theorem clone_len (l : List Bool) (p : Option Addr) (c m : Nat) (w0 : World) (hr : Rd w0 p (bv l)) (hm : l.length = m) (hl : m ≤ 1000000) : CallsV Try.prog 35 #[.slice p m c] w0 (fun v w => ∃ (p2 : Option Addr) (c2 : Nat), v = .slice p2 m c2 ∧ Own w w0.heap.size 4 p2 m c2 (bv l) ∧ Below w0.heap.size w0 w) := by
  subst hm; exact clone_bool l p c w0 hr hl

theorem number_any (l : List Bool) (p : Option Addr) (c m : Nat) (w0 : World) (hr : Rd w0 p (bv l)) (hm : l.length = m) (h40 : m ≤ 40) :
    CallsV Try.prog 39 #[.slice p m c] w0 (fun v w => v = .int .i64 (num l : Int) ∧ Below w0.heap.size w0 w) := by
  refine enter1 Try.func39 rfl Try.ntmps39 (by simp) rfl ?_
  have hB := Below.refl w0.heap.size w0
  simp only [argLoc]
  have hM := Mem.nil w0 w0.heap.size
  subst hm
  refine W.seqR ?_
  refine LS.vv rfl rfl (by decide) (Val.cast (v := .int .i64 ((0 : Nat) : Int)) (Val.assign rfl) rfl) ?_
  refine LS.nil ?_
  refine W.seqR ?_
  refine LS.vv rfl rfl (by decide) (Val.cast (v := .int .i64 ((0 : Nat) : Int)) (Val.assign rfl) rfl) ?_
  refine LS.nil ?_
  refine W.seq ?_
  refine W.seqR ?_
  refine LS.vv rfl rfl (by decide) (Val.move rfl) ?_
  refine LS.vv rfl rfl (by decide) (Val.len Try.underlying22 rfl) ?_
  refine LS.vv rfl rfl (by decide) (Val.cast (v := .int .i64 ((0 : Nat) : Int)) (Val.move rfl) rfl) ?_
  refine LS.nil ?_
  refine W.block ?_
  refine W.loop (α := Nat) (fun k => [(3, .int .i64 (numTo l k : Int)), (8, .int .i64 (k : Int))]) [(6, _), (7, _)] (fun k w => (k ≤ l.length) ∧ Mem w w0.heap.size [] ∧ Below w0.heap.size w0 w) (fun k => l.length - k) (0) (Sub.cons rfl (Sub.cons rfl (Sub.nil _))) (Sub.cons rfl (Sub.cons rfl (Sub.nil _))) ?_ ?_
  · exact ⟨Nat.zero_le _, hM, hB⟩
  rintro k w1 ⟨hk, hM, hB⟩
  try simp only at hM
  simp only [List.cons_append, List.nil_append]
  have hlt := numTo_lt l k
  have hpw : 2 ^ k ≤ 2 ^ 40 := Nat.pow_le_pow_right (by omega) (by omega)
  have hsi : numTo l (k + 1) = 2 * numTo l k + (if gb l k = true then 1 else 0) := by rw [numTo_succ, shiftIn_two]
  refine W.seqR ?_
  refine LS.vv rfl rfl (by decide) (Val.lss rfl rfl) ?_
  refine LS.nil ?_
  refine W.seq ?_
  first | refine W.condD rfl (fun hc1 => ?_) (fun hc1 => ?_) | refine W.cond rfl (fun hc1 => ?_) (fun hc1 => ?_)
  ·
    refine W.skip ?_
    refine thenP_normal ?_
    refine W.seq ?_
    refine W.block ?_
    refine W.seqR ?_
    refine LS.vv rfl rfl (by decide) (Val.index1 Try.underlying22 elem4 rfl rfl (by omega) ((hr.below hB)) (bv_lt (by omega))) ?_
    refine LS.m rfl (Step.load rfl rfl (by decide) flat4 rfl ((hr.below hB)) (bv_at (by omega)) ?_)
    refine LS.vv rfl rfl (by decide) (Val.assign rfl) ?_
    refine LS.nil ?_
    refine W.seqR ?_
    refine LS.vv rfl rfl (by decide) (Val.move rfl) ?_
    first | refine LS.vv rfl rfl (by decide) (Val.mulN (j := 2) rfl rfl (by omega)) ?_ | refine LS.vv rfl rfl (by decide) (Val.mul64 rfl rfl (by omega)) ?_
    refine LS.vv rfl rfl (by decide) (Val.assign rfl) ?_
    refine LS.nil ?_
    refine W.seqR ?_
    refine LS.vv rfl rfl (by decide) (Val.move rfl) ?_
    refine LS.nil ?_
    first | refine W.condD rfl (fun hc2 => ?_) (fun hc2 => ?_) | refine W.cond rfl (fun hc2 => ?_) (fun hc2 => ?_)
    ·
      refine W.reg ?_
      refine LS.vv rfl rfl (by decide) (Val.move rfl) ?_
      first | refine LS.vv rfl rfl (by decide) (Val.addN (j := 1) rfl rfl (by omega)) ?_ | refine LS.vv rfl rfl (by decide) (Val.add64 rfl rfl (by omega)) ?_
      refine LS.vv rfl rfl (by decide) (Val.assign rfl) ?_
      refine LS.nil ?_
      refine inBlk_normal ?_
      refine thenP_normal ?_
      refine W.reg ?_
      first | refine LS.vv rfl rfl (by decide) (Val.addN (j := 1) rfl rfl (by omega)) ?_ | refine LS.vv rfl rfl (by decide) (Val.add64 rfl rfl (by omega)) ?_
      refine LS.vv rfl rfl (by decide) (Val.move rfl) ?_
      refine LS.nil ?_
      refine thenP_normal ?_
      refine ⟨k + 1, ?_, ?_, ⟨by omega, hM, hB⟩, by omega⟩
      · exact Sub.cons' rfl (by rw [hsi, ‹gb l k = _›]; first | (congr 1; simp; omega) | (congr 1; simp; done)) (Sub.cons rfl (Sub.nil _))
      · repeat (first | exact Sub.nil _ | refine Sub.cons rfl ?_)
    ·
      refine W.skip ?_
      refine inBlk_normal ?_
      refine thenP_normal ?_
      refine W.reg ?_
      first | refine LS.vv rfl rfl (by decide) (Val.addN (j := 1) rfl rfl (by omega)) ?_ | refine LS.vv rfl rfl (by decide) (Val.add64 rfl rfl (by omega)) ?_
      refine LS.vv rfl rfl (by decide) (Val.move rfl) ?_
      refine LS.nil ?_
      refine thenP_normal ?_
      refine ⟨k + 1, ?_, ?_, ⟨by omega, hM, hB⟩, by omega⟩
      · exact Sub.cons' rfl (by rw [hsi, ‹gb l k = _›]; first | (congr 1; simp; omega) | (congr 1; simp; done)) (Sub.cons rfl (Sub.nil _))
      · repeat (first | exact Sub.nil _ | refine Sub.cons rfl ?_)
  ·
    refine W.exit ?_
    refine thenP_exit ?_
    refine thenP_exit ?_
    refine inBlk_exit ?_
    refine thenP_normal ?_
    refine W.seqR ?_
    refine LS.vv rfl rfl (by decide) (Val.move rfl) ?_
    refine LS.vv rfl rfl (by decide) (Val.assign rfl) ?_
    refine LS.nil ?_
    refine W.ret ?_
    refine ret1 (by first | exact .inl rfl | exact .inr rfl) rfl ?_
    (have hkn : k = l.length := (by omega); subst hkn; exact ⟨rfl, hB⟩)

theorem Round_any (n : Int) (w0 : World) :
    CallsV Try.prog 22 #[.int .i64 n] w0 (fun v w => ∃ (p2 : Option Addr) (c2 : Nat) (L : List Bool) (e : Nat), v = .tuple #[.slice p2 L.length c2, .int .i64 (e : Int)] ∧ Own w w0.heap.size 4 p2 L.length c2 (bv L) ∧ (e = 0 ↔ 1 ≤ n ∧ n ≤ 6) ∧ (e = 0 → L = (rTo n.toNat (2 ^ n.toNat - n.toNat)).1) ∧ Below w0.heap.size w0 w) := by
  refine enter2 Try.func22 rfl Try.ntmps22 (by simp) rfl ?_
  have hB := Below.refl w0.heap.size w0
  simp only [argLoc]
  have hM := Mem.nil w0 w0.heap.size
  refine W.seqR ?_
  refine LS.vv rfl rfl (by decide) (Val.assign rfl) ?_
  refine LS.vv rfl rfl (by decide) (Val.cast (v := .int .i64 ((0 : Nat) : Int)) (Val.assign rfl) rfl) ?_
  refine LS.nil ?_
  refine W.seq ?_
  refine W.seqR ?_
  refine LS.vv rfl rfl (by decide) (Val.move rfl) ?_
  refine LS.vv rfl rfl (by decide) (Val.lss rfl rfl) ?_
  refine LS.vv rfl rfl (by decide) (Val.move rfl) ?_
  refine LS.split 2 rfl (fun hg1 => ?_) (fun hg1 => ?_)
  ·
    first | (have hg1p := of_decide_eq_true hg1) | skip
    refine LS.s rfl rfl rfl hg1 (by decide) ?_
    refine LS.s rfl rfl rfl hg1 (by decide) ?_
    refine LS.vv rfl rfl (by decide) (Val.pickT rfl hg1 rfl) ?_
    refine LS.nil ?_
    refine W.condT rfl ?_
    refine W.seqR ?_
    refine LS.vv rfl rfl (by decide) (Val.assign rfl) ?_
    refine LS.vv rfl rfl (by decide) (Val.cast (v := .int .i64 ((4 : Nat) : Int)) (Val.assign rfl) rfl) ?_
    refine LS.nil ?_
    refine W.ret ?_
    refine thenP_ret ?_
    refine ret2 (by first | exact .inl rfl | exact .inr rfl) rfl rfl ?_
    first | (refine ⟨none, 0, [], 4, rfl, Own.nil _ _ _, ⟨fun h => by omega, fun h => by omega⟩, fun h => by omega, hB⟩; done) | (have hkk : k = 2 ^ N - N := (by omega); subst hkk; exact ⟨p0, c0, (rTo N (2 ^ N - N)).1, 0, by rw [rTo_len], by rw [rTo_len]; exact hM.o0, ⟨fun _ => by omega, fun _ => rfl⟩, fun _ => by rw [htn], hB⟩)
  ·
    first | (have hg1p := of_decide_eq_false hg1) | skip
    refine LS.vg rfl rfl rfl hg1 (by decide) (Val.move rfl) ?_
    refine LS.vg rfl rfl rfl hg1 (by decide) (Val.gtr rfl rfl) ?_
    refine LS.vv rfl rfl (by decide) (Val.pickF rfl hg1 rfl) ?_
    refine LS.nil ?_
    first | refine W.condD rfl (fun hc2 => ?_) (fun hc2 => ?_) | refine W.cond rfl (fun hc2 => ?_) (fun hc2 => ?_)
    ·
      refine W.seqR ?_
      refine LS.vv rfl rfl (by decide) (Val.assign rfl) ?_
      refine LS.vv rfl rfl (by decide) (Val.cast (v := .int .i64 ((4 : Nat) : Int)) (Val.assign rfl) rfl) ?_
      refine LS.nil ?_
      refine W.ret ?_
      refine thenP_ret ?_
      refine ret2 (by first | exact .inl rfl | exact .inr rfl) rfl rfl ?_
      first | (refine ⟨none, 0, [], 4, rfl, Own.nil _ _ _, ⟨fun h => by omega, fun h => by omega⟩, fun h => by omega, hB⟩; done) | (have hkk : k = 2 ^ N - N := (by omega); subst hkk; exact ⟨p0, c0, (rTo N (2 ^ N - N)).1, 0, by rw [rTo_len], by rw [rTo_len]; exact hM.o0, ⟨fun _ => by omega, fun _ => rfl⟩, fun _ => by rw [htn], hB⟩)
    ·
      obtain ⟨N, rfl⟩ := Int.eq_ofNat_of_zero_le (show 0 ≤ n by omega)
      have htn : ((N : Nat) : Int).toNat = N := Int.toNat_natCast N
      have hpw : 2 ^ N ≤ 2 ^ 6 := Nat.pow_le_pow_right (by omega) (by omega)
      have hNp : N < 2 ^ N := Nat.lt_two_pow_self
      have hsl : 1 <<< N = 2 ^ N := by rw [Nat.shiftLeft_eq, Nat.one_mul]
      refine W.skip ?_
      refine thenP_normal ?_
      refine W.seqR ?_
      refine LS.vv rfl rfl (by decide) (Val.move rfl) ?_
      refine LS.m rfl (Step.make rfl rfl (by decide) Try.underlying22 elem4 rfl rfl rfl (by omega) (by omega) (Nat.le_refl _) ?_)
      rintro w1 hO1 hg1 hbl1
      first | replace hmp := hmp.below hbl1 | replace hmp := hmp.off hM.o0 hg1 | replace hmp := hmp.off hM.o1 hg1 | replace hmp := hmp.off hM.o2 hg1 | replace hmp := hmp.off hM.o3 hg1 | replace hmp := hmp.off hM.o4 hg1 | skip
      replace hM := hM.add hB.size hbl1 hO1
      try simp only [bv_app1, bv_app, bv_set, bv_rep, bv_one, bv_cons, bv_take, bv_drop, List.nil_append] at hM
      replace hB := hB.trans (hbl1.mono hB.size)
      skip
      refine LS.vv rfl rfl (by decide) (Val.assign rfl) ?_
      refine LS.nil ?_
      refine W.seqR ?_
      refine LS.m rfl (Step.makeMap (enc := encN .i64) rfl rfl (by decide) ?_)
      rintro w2 hn2 hbl2 hsz2
      first | replace hmp := hmp.below hbl2 | replace hmp := hmp.off hM.o0 hg2 | replace hmp := hmp.off hM.o1 hg2 | replace hmp := hmp.off hM.o2 hg2 | replace hmp := hmp.off hM.o3 hg2 | replace hmp := hmp.off hM.o4 hg2 | skip
      replace hM := hM.below hbl2
      have hmp := hn2.base hB.size
      replace hB := hB.trans (hbl2.mono hB.size)
      generalize w1.heap.size = gg2 at *
      refine LS.m rfl (Step.mapPut (k := 0) (.inr rfl) rfl (keys_nat Try.underlying3) Try.underlying60 rfl rfl rfl hmp hB.size ?_)
      rintro w3 hn3 hg3 hbl3 hsz3
      replace hM := hM.map hmp hg3
      replace hmp := hn3
      replace hB := hB.trans hbl3
      rw [seenF_nil] at hmp
      refine LS.vv rfl rfl (by decide) (Val.move rfl) ?_
      refine LS.vv rfl rfl (by decide) (Val.assign rfl) ?_
      refine LS.nil ?_
      refine W.seq ?_
      refine W.block ?_
      refine W.loop (α := Nat × Option Addr × Nat) (fun g => [(4, .slice g.2.1 (N + g.1) g.2.2)]) [(0, _), (5, _)] (fun g w => (N + g.1 ≤ 2 ^ N ∧ OwnMap (encN .i64) w w0.heap.size gg2 (seenF (rTo N g.1).2)) ∧ Mem w w0.heap.size [⟨4, g.2.1, N + g.1, g.2.2, bv (rTo N g.1).1⟩] ∧ Below w0.heap.size w0 w) (fun g => 2 ^ N - (N + g.1)) ((0, some ⟨w0.heap.size, 0, none⟩, N)) (Sub.cons rfl (Sub.nil _)) (Sub.cons rfl (Sub.cons rfl (Sub.nil _))) ?_ ?_
      · exact ⟨⟨by simp only; omega, hmp⟩, hM, hB⟩
      rintro ⟨k, p0, c0⟩ w4 ⟨⟨hk, hmp⟩, hM, hB⟩
      try simp only at hM
      simp only [List.cons_append, List.nil_append]
      simp only at hk hmp
      refine W.seq ?_
      refine W.seqR ?_
      refine LS.vv rfl rfl (by decide) (Val.move rfl) ?_
      refine LS.vv rfl rfl (by decide) (Val.len Try.underlying22 rfl) ?_
      refine LS.vv rfl rfl (by decide) (Val.move rfl) ?_
      refine LS.vv rfl rfl (by decide) (Val.shl64 (i := 1) rfl rfl (by omega) (by omega)) ?_
      refine LS.vv rfl rfl (by decide) (Val.lss rfl rfl) ?_
      refine LS.nil ?_
      first | refine W.condD rfl (fun hc3 => ?_) (fun hc3 => ?_) | refine W.cond rfl (fun hc3 => ?_) (fun hc3 => ?_)
      ·
        refine W.skip ?_
        refine thenP_normal ?_
        refine W.block ?_
        refine W.seqR ?_
        refine LS.vv rfl rfl (by decide) (Val.move rfl) ?_
        refine LS.vv rfl rfl (by decide) (Val.move rfl) ?_
        refine LS.vv rfl rfl (by decide) (Val.len Try.underlying22 rfl) ?_
        refine LS.vv rfl rfl (by decide) (Val.move rfl) ?_
        refine LS.vv rfl rfl (by decide) (Val.subN rfl rfl (by omega) (by omega)) ?_
        first | refine LS.vv rfl rfl (by decide) (Val.addN (j := 1) rfl rfl (by omega)) ?_ | refine LS.vv rfl rfl (by decide) (Val.add64 rfl rfl (by omega)) ?_
        have hlk := rTo_len N k
        have hcl := hM.o0.le_cap
        have hdl : ((rTo N k).1.drop (N + k - N + 1)).length = N - 1 := by rw [List.length_drop]; omega
        refine LS.vv rfl rfl (by decide) (Val.sliceFrom Try.underlying22 elem4 rfl rfl (by omega) (by omega)) ?_
        refine LS.m rfl (Step.call body35 rfl rfl (by decide) rfl (CallsV.mono (clone_len ((rTo N k).1.drop (N + k - N + 1)) _ _ _ _ (hM.o0.rd.cut_bv (c := c0) (k := N + k - N + 1) (by rw [hlk]; exact hcl)) (by rw [hdl]; omega) (by omega)) ?_))
        rintro _ w5 ⟨pt, ct, rfl, hOt, hb5⟩
        replace hM := hM.add hB.size hb5 hOt
        try replace hmp := hmp.below hb5
        replace hB := hB.trans (hb5.mono hB.size)
        have hlen1 : N + k - (N + k - N + 1) = N - 1 := by omega
        rw [hlen1] at hM ⊢
        generalize hT : (rTo N k).1.drop (N + k - N + 1) = T at *
        refine LS.m rfl (Step.lit rfl rfl (by decide) Try.underlying22 elem4 rfl rfl (by omega) (by simp [Value.oneCell']) (Nat.le_refl _) ?_)
        rintro w6 hO6 hg6 hbl6 hsz6
        first | replace hmp := hmp.below hbl6 | replace hmp := hmp.off hM.o0 hg6 | replace hmp := hmp.off hM.o1 hg6 | replace hmp := hmp.off hM.o2 hg6 | replace hmp := hmp.off hM.o3 hg6 | replace hmp := hmp.off hM.o4 hg6 | skip
        replace hM := hM.add hB.size hbl6 hO6
        try simp only [bv_app1, bv_app, bv_set, bv_rep, bv_one, bv_cons, bv_take, bv_drop, List.nil_append] at hM
        replace hB := hB.trans (hbl6.mono hB.size)
        generalize w5.heap.size = gg6 at *
        refine LS.m rfl (Step.append2 (B := w0.heap.size) rfl rfl (by decide) Try.underlying22 elem4 rfl rfl rfl rfl (hM.o1) (hM.o0.rd) (by first | rfl | (simp; done) | (simp; omega)) (by first | exact one_map _ (fun _ => rfl) _ | simp [Value.oneCell']) (by omega) (by omega) hB.size ?_)
        rintro p7 c7 w7 hO7 hg7 hbl7 hbk7
        first | replace hmp := hmp.below hbl7 | replace hmp := hmp.off hM.o0 hg7 | replace hmp := hmp.off hM.o1 hg7 | replace hmp := hmp.off hM.o2 hg7 | replace hmp := hmp.off hM.o3 hg7 | replace hmp := hmp.off hM.o4 hg7 | skip
        replace hM := hM.s1 hg7 hO7 hbk7
        replace hM := hM.tail
        try simp only [bv_app1, bv_app, bv_set, bv_rep, bv_one, bv_cons, bv_take, bv_drop, List.nil_append] at hM
        replace hB := hB.trans hbl7
        have hN1 : N - 1 + 1 = N := by omega
        rw [hN1] at hM ⊢
        have hTl : (T ++ [true]).length = N := by simp; omega
        refine LS.vv rfl rfl (by decide) (Val.assign rfl) ?_
        refine LS.nil ?_
        refine W.seqR ?_
        refine LS.vv rfl rfl (by decide) (Val.move rfl) ?_
        refine LS.vv rfl rfl (by decide) (Val.move rfl) ?_
        refine LS.m rfl (Step.call body39 rfl rfl (by decide) rfl (CallsV.mono (number_any (T ++ [true]) _ _ N _ hM.o0.rd (by simp; omega) (by omega)) ?_))
        rintro _ w8 ⟨rfl, hb8⟩
        replace hM := hM.below hb8
        try replace hmp := hmp.below hb8
        replace hB := hB.trans (hb8.mono hB.size)
        refine LS.m rfl (Step.lookup1 rfl rfl (by decide) (keys_nat Try.underlying3) Try.underlying60 elem4 rfl rfl hmp (seenF_getD (rTo N k).2 (num (T ++ [true]))) ?_)
        refine LS.vv rfl rfl (by decide) (Val.not rfl) ?_
        generalize hb37 : (!(rTo N k).2.contains (num (T ++ [true]))) = b at *
        refine LS.vv rfl rfl (by decide) (Val.assign rfl) ?_
        refine LS.nil ?_
        refine W.seqR ?_
        refine LS.vv rfl rfl (by decide) (Val.move rfl) ?_
        refine LS.vv rfl rfl (by decide) (Val.move rfl) ?_
        first | refine LS.vv rfl rfl (by decide) (Val.subN (j := 1) rfl rfl (by omega) (by omega)) ?_ | refine LS.vv rfl rfl (by decide) (Val.sub64 rfl rfl (by omega)) ?_
        refine LS.vv rfl rfl (by decide) (Val.move rfl) ?_
        refine LS.vv rfl rfl (by decide) (Val.index1 Try.underlying22 elem4 rfl rfl (by omega) (hM.o0.rd) (bv_lt (by omega))) ?_
        refine LS.m rfl (Step.store (B := w0.heap.size) rfl rfl flat4 elem4 rfl rfl rfl (hM.o0) (by omega) hB.size ?_)
        rintro w9 hO9 hg9 hbl9 hsz9
        first | replace hmp := hmp.below hbl9 | replace hmp := hmp.off hM.o0 hg9 | replace hmp := hmp.off hM.o1 hg9 | replace hmp := hmp.off hM.o2 hg9 | replace hmp := hmp.off hM.o3 hg9 | replace hmp := hmp.off hM.o4 hg9 | skip
        replace hM := hM.s0 hg9 hO9 inl_block
        try simp only [bv_app1, bv_app, bv_set, bv_rep, bv_one, bv_cons, bv_take, bv_drop, List.nil_append] at hM
        replace hB := hB.trans hbl9
        refine LS.nil ?_
        refine W.seqR ?_
        refine LS.vv rfl rfl (by decide) (Val.move rfl) ?_
        refine LS.vv rfl rfl (by decide) (Val.move rfl) ?_
        rw [set_last (by omega)] at hM
        refine LS.m rfl (Step.call body39 rfl rfl (by decide) rfl (CallsV.mono (number_any (T ++ [b]) _ _ N _ hM.o0.rd (by simp; omega) (by omega)) ?_))
        rintro _ w10 ⟨rfl, hb10⟩
        replace hM := hM.below hb10
        try replace hmp := hmp.below hb10
        replace hB := hB.trans (hb10.mono hB.size)
        refine LS.m rfl (Step.mapPut (.inl rfl) rfl (keys_nat Try.underlying3) Try.underlying60 rfl rfl rfl hmp hB.size ?_)
        rintro w11 hn11 hg11 hbl11 hsz11
        replace hM := hM.map hmp hg11
        replace hmp := hn11
        replace hB := hB.trans hbl11
        rw [seenF_cons] at hmp
        refine LS.nil ?_
        refine W.reg ?_
        refine LS.vv rfl rfl (by decide) (Val.move rfl) ?_
        refine LS.vv rfl rfl (by decide) (Val.move rfl) ?_
        refine LS.m rfl (Step.lit rfl rfl (by decide) Try.underlying22 elem4 rfl rfl (by omega) (by simp [Value.oneCell']) (Nat.le_refl _) ?_)
        rintro w12 hO12 hg12 hbl12 hsz12
        first | replace hmp := hmp.below hbl12 | replace hmp := hmp.off hM.o0 hg12 | replace hmp := hmp.off hM.o1 hg12 | replace hmp := hmp.off hM.o2 hg12 | replace hmp := hmp.off hM.o3 hg12 | replace hmp := hmp.off hM.o4 hg12 | skip
        replace hM := hM.add hB.size hbl12 hO12
        try simp only [bv_app1, bv_app, bv_set, bv_rep, bv_one, bv_cons, bv_take, bv_drop, List.nil_append] at hM
        replace hB := hB.trans (hbl12.mono hB.size)
        generalize w11.heap.size = gg12 at *
        refine LS.m rfl (Step.append2 (B := w0.heap.size) rfl rfl (by decide) Try.underlying22 elem4 rfl rfl rfl rfl (hM.o2) (hM.o0.rd) (by first | rfl | (simp; done) | (simp; omega)) (by first | exact one_map _ (fun _ => rfl) _ | simp [Value.oneCell']) (by omega) (by omega) hB.size ?_)
        rintro p13 c13 w13 hO13 hg13 hbl13 hbk13
        first | replace hmp := hmp.below hbl13 | replace hmp := hmp.off hM.o0 hg13 | replace hmp := hmp.off hM.o1 hg13 | replace hmp := hmp.off hM.o2 hg13 | replace hmp := hmp.off hM.o3 hg13 | replace hmp := hmp.off hM.o4 hg13 | skip
        replace hM := hM.s2 hg13 hO13 hbk13
        replace hM := hM.tail
        try simp only [bv_app1, bv_app, bv_set, bv_rep, bv_one, bv_cons, bv_take, bv_drop, List.nil_append] at hM
        replace hB := hB.trans hbl13
        refine LS.vv rfl rfl (by decide) (Val.assign rfl) ?_
        refine LS.nil ?_
        refine inBlk_normal ?_
        refine thenP_normal ?_
        have hrs : rTo N (k + 1) = ((rTo N k).1 ++ [b], num (T ++ [b]) :: (rTo N k).2) := by rw [rTo_succ]; unfold rstep; rw [hlk, hT, hb37]
        refine ⟨(k + 1, p13, c13), ?_, ?_, ⟨⟨by simp only; omega, ?_⟩, ?_, hB⟩, by simp only; omega⟩
        · exact (Sub.cons rfl (Sub.nil _))
        · repeat (first | exact Sub.nil _ | refine Sub.cons rfl ?_)
        · simp only [hrs]; exact hmp
        · simp only [hrs]; exact hM.tail
      ·
        refine W.exit ?_
        refine thenP_exit ?_
        refine thenP_exit ?_
        refine inBlk_exit ?_
        refine thenP_normal ?_
        refine W.seqR ?_
        refine LS.vv rfl rfl (by decide) (Val.move rfl) ?_
        refine LS.vv rfl rfl (by decide) (Val.assign rfl) ?_
        refine LS.vv rfl rfl (by decide) (Val.cast (v := .int .i64 ((0 : Nat) : Int)) (Val.assign rfl) rfl) ?_
        refine LS.nil ?_
        refine W.ret ?_
        refine ret2 (by first | exact .inl rfl | exact .inr rfl) rfl rfl ?_
        first | (refine ⟨none, 0, [], 4, rfl, Own.nil _ _ _, ⟨fun h => by omega, fun h => by omega⟩, fun h => by omega, hB⟩; done) | (have hkk : k = 2 ^ N - N := (by omega); subst hkk; exact ⟨p0, c0, (rTo N (2 ^ N - N)).1, 0, by rw [rTo_len], by rw [rTo_len]; exact hM.o0, ⟨fun _ => by omega, fun _ => rfl⟩, fun _ => by rw [htn], hB⟩)

end Go.Proofs.Ytpogedmkmplckaa
