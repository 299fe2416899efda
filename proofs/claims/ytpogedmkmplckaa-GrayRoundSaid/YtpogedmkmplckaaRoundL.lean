/-
  The statement GrayRound.
-/
import Derived.Test.YtpogedmkmplckaaRoundG
namespace Go.Proofs.Ytpogedmkmplckaa
open Go Go.RowKit V
set_option linter.unusedVariables false

theorem gb_setb {l : List Bool} {a j : Nat} {x : Bool} (h : a < l.length) : gb (l.set a x) j = if j = a then x else gb l j := by
  unfold gb
  simp only [List.getD_eq_getElem?_getD, List.getElem?_set]
  by_cases e : a = j
  · subst e; simp [h]
  · simp [e, Ne.symm e]
theorem gb_repb (n j : Nat) : gb (List.replicate n false) j = false := by
  unfold gb; simp only [List.getD_eq_getElem?_getD, List.getElem?_replicate]; split <;> rfl

theorem grayRound_any (n : Int) (w0 : World) :
    CallsV Try.prog 7 #[.int .i64 n] w0 (fun v w => v = .bool true ∧ Below w0.heap.size w0 w) := by
  refine enter1 Try.func7 rfl Try.ntmps7 (by simp) rfl ?_
  have hB := Below.refl w0.heap.size w0
  simp only [argLoc]
  have hM := Mem.nil w0 w0.heap.size
  refine W.seqR ?_
  refine LS.vv rfl rfl (by decide) (Val.assign rfl) ?_
  refine LS.nil ?_
  refine W.seqR ?_
  refine LS.vv rfl rfl (by decide) (Val.move rfl) ?_
  refine LS.m rfl (Step.call body22 rfl rfl (by decide) rfl (CallsV.mono (Round_any n _) ?_))
  rintro _ w1 ⟨p1, c1, L, e, rfl, hO, he, hL, hb1⟩
  replace hM := hM.add hB.size hb1 hO
  replace hB := hB.trans (hb1.mono hB.size)
  refine LS.vv rfl rfl (by decide) (Val.move rfl) ?_
  refine LS.vv rfl rfl (by decide) (Val.extract rfl rfl) ?_
  refine LS.vv rfl rfl (by decide) (Val.extract rfl rfl) ?_
  refine LS.vv rfl rfl (by decide) (Val.assign rfl) ?_
  refine LS.vv rfl rfl (by decide) (Val.assign rfl) ?_
  refine LS.nil ?_
  refine W.seq ?_
  refine W.seqR ?_
  refine LS.vv rfl rfl (by decide) (Val.move rfl) ?_
  refine LS.vv rfl rfl (by decide) (Val.lss rfl rfl) ?_
  refine LS.vv rfl rfl (by decide) (Val.move rfl) ?_
  refine LS.split 2 rfl (fun hg1 => ?_) (fun hg1 => ?_)
  ·
    first | (have hg1p := of_decide_eq_true hg1) | skip
    refine LS.s rfl rfl rfl hg1 (by decide) ?_
    refine LS.s rfl rfl rfl hg1 (by decide) ?_
    refine LS.vv rfl rfl (by decide) (Val.pickT rfl hg1 rfl) ?_
    refine LS.nil ?_
    refine W.condT rfl ?_
    refine W.seqR ?_
    refine LS.vv rfl rfl (by decide) (Val.move rfl) ?_
    refine LS.vv rfl rfl (by decide) (Val.cast (v := .bool true) (Val.neq rfl rfl) (by refine congrArg Value.bool (decide_eq_true ?_); intro h0; have hq := he.1 (by omega); omega)) ?_
    refine LS.vv rfl rfl (by decide) (Val.assign rfl) ?_
    refine LS.nil ?_
    refine W.ret ?_
    refine thenP_ret ?_
    refine ret1 (by first | exact .inl rfl | exact .inr rfl) rfl ?_
    first | exact ⟨rfl, hB⟩ | (exfalso; omega)
  ·
    first | (have hg1p := of_decide_eq_false hg1) | skip
    refine LS.vg rfl rfl rfl hg1 (by decide) (Val.move rfl) ?_
    refine LS.vg rfl rfl rfl hg1 (by decide) (Val.gtr rfl rfl) ?_
    refine LS.vv rfl rfl (by decide) (Val.pickF rfl hg1 rfl) ?_
    refine LS.nil ?_
    first | refine W.condD rfl (fun hc2 => ?_) (fun hc2 => ?_) | refine W.cond rfl (fun hc2 => ?_) (fun hc2 => ?_)
    ·
      refine W.seqR ?_
      refine LS.vv rfl rfl (by decide) (Val.move rfl) ?_
      refine LS.vv rfl rfl (by decide) (Val.cast (v := .bool true) (Val.neq rfl rfl) (by refine congrArg Value.bool (decide_eq_true ?_); intro h0; have hq := he.1 (by omega); omega)) ?_
      refine LS.vv rfl rfl (by decide) (Val.assign rfl) ?_
      refine LS.nil ?_
      refine W.ret ?_
      refine thenP_ret ?_
      refine ret1 (by first | exact .inl rfl | exact .inr rfl) rfl ?_
      first | exact ⟨rfl, hB⟩ | (exfalso; omega)
    ·
      refine W.skip ?_
      refine thenP_normal ?_
      refine W.seq ?_
      refine W.seqR ?_
      refine LS.vv rfl rfl (by decide) (Val.move rfl) ?_
      obtain ⟨N, rfl⟩ := Int.eq_ofNat_of_zero_le (show 0 ≤ n by omega)
      have htn : ((N : Nat) : Int).toNat = N := Int.toNat_natCast N
      have hE : e = 0 := he.2 (by omega)
      have hLL := hL hE
      rw [htn] at hLL
      have hpw : 2 ^ N ≤ 2 ^ 6 := Nat.pow_le_pow_right (by omega) (by omega)
      have hNp : N < 2 ^ N := Nat.lt_two_pow_self
      have hsl : 1 <<< N = 2 ^ N := by rw [Nat.shiftLeft_eq, Nat.one_mul]
      have hll : L.length = 2 ^ N := by rw [hLL, rTo_len]; omega
      have hok : ∀ i j, j < i → i < 2 ^ N → winTo N L j N ≠ winTo N L i N := fun i j h1 h2 => by rw [hLL]; exact round_ok (by omega) (by omega) h1 h2
      rw [hll] at hM ⊢
      refine LS.vv rfl rfl (by decide) (Val.cast (v := .bool false) (Val.neq rfl rfl) (by simp; omega)) ?_
      refine LS.vv rfl rfl (by decide) (Val.move rfl) ?_
      refine LS.vg rfl rfl rfl rfl (by decide) (Val.move rfl) ?_
      refine LS.vg rfl rfl rfl rfl (by decide) (Val.len Try.underlying22 rfl) ?_
      refine LS.vg rfl rfl rfl rfl (by decide) (Val.move rfl) ?_
      refine LS.vg rfl rfl rfl rfl (by decide) (Val.conv rfl Try.underlying3 Try.underlying33 (IntWalk.u64_in _ (by first | omega | (simp only [List.length_set, List.length_replicate]; omega)))) ?_
      refine LS.vg rfl rfl rfl rfl (by decide) (Val.shl64 (i := 1) rfl rfl (by first | omega | (simp only [List.length_set, List.length_replicate]; omega)) (by first | omega | (simp only [List.length_set, List.length_replicate]; omega))) ?_
      refine LS.vg rfl rfl rfl rfl (by decide) (Val.cast (v := .bool false) (Val.neq rfl rfl) (by rw [hsl]; first | simp | (rw [hll]; simp))) ?_
      refine LS.vv rfl rfl (by decide) (Val.pickF rfl rfl rfl) ?_
      refine LS.nil ?_
      refine W.condF rfl ?_
      refine W.skip ?_
      refine thenP_normal ?_
      refine W.seqR ?_
      refine LS.vv rfl rfl (by decide) (Val.move rfl) ?_
      refine LS.vv rfl rfl (by decide) (Val.conv rfl Try.underlying3 Try.underlying33 (IntWalk.u64_in _ (by first | omega | (simp only [List.length_set, List.length_replicate]; omega)))) ?_
      refine LS.vv rfl rfl (by decide) (Val.shl64 (i := 1) rfl rfl (by first | omega | (simp only [List.length_set, List.length_replicate]; omega)) (by first | omega | (simp only [List.length_set, List.length_replicate]; omega))) ?_
      refine LS.m rfl (Step.make rfl rfl (by decide) Try.underlying22 elem4 rfl rfl rfl (by first | omega | (simp only [List.length_set, List.length_replicate]; omega)) (by first | omega | (simp only [List.length_set, List.length_replicate]; omega)) (Nat.le_refl _) ?_)
      rintro w2 hO2 hg2 hbl2
      replace hM := hM.add hB.size hbl2 hO2
      try simp only [bv_app1, bv_app, bv_set, bv_rep, bv_one, bv_cons, bv_take, bv_drop, List.nil_append] at hM
      replace hB := hB.trans (hbl2.mono hB.size)
      generalize w1.heap.size = gg2 at *
      refine LS.vv rfl rfl (by decide) (Val.assign rfl) ?_
      refine LS.nil ?_
      refine W.seq ?_
      refine W.seqR ?_
      refine LS.vv rfl rfl (by decide) (Val.cast (v := .int .i64 ((0 : Nat) : Int)) (Val.assign rfl) rfl) ?_
      refine LS.nil ?_
      refine W.block ?_
      rw [hsl] at hM ⊢
      refine W.loop (α := Nat × List Bool) (fun g => [(6, .int .i64 (g.1 : Int))]) [(0, _), (3, _), (5, _)] (fun g w => (g.1 ≤ 2 ^ N ∧ g.2.length = 2 ^ N ∧ ∀ m, gb g.2 m = true → ∃ j, j < g.1 ∧ winTo N L j N = m) ∧ Mem w w0.heap.size [⟨4, some ⟨gg2, 0, none⟩, 2 ^ N, 2 ^ N, bv g.2⟩, ⟨4, p1, 2 ^ N, c1, bv L⟩] ∧ Below w0.heap.size w0 w) (fun g => 2 ^ N - g.1) ((0, List.replicate (2 ^ N) false)) (Sub.cons rfl (Sub.nil _)) (Sub.cons rfl (Sub.cons rfl (Sub.cons rfl (Sub.nil _)))) ?_ ?_
      · exact ⟨⟨Nat.zero_le _, by simp, fun m h => by simp only [gb_repb] at h; cases h⟩, hM, hB⟩
      rintro ⟨i, sn⟩ w3 ⟨⟨hi, hsl2, hsn⟩, hM, hB⟩
      try simp only at hM
      simp only [List.cons_append, List.nil_append]
      simp only at hi hsl2 hsn
      refine W.seq ?_
      refine W.seqR ?_
      refine LS.vv rfl rfl (by decide) (Val.move rfl) ?_
      refine LS.vv rfl rfl (by decide) (Val.move rfl) ?_
      refine LS.vv rfl rfl (by decide) (Val.len Try.underlying22 rfl) ?_
      refine LS.vv rfl rfl (by decide) (Val.lss rfl rfl) ?_
      refine LS.nil ?_
      first | refine W.condD rfl (fun hc3 => ?_) (fun hc3 => ?_) | refine W.cond rfl (fun hc3 => ?_) (fun hc3 => ?_)
      ·
        refine W.skip ?_
        refine thenP_normal ?_
        refine W.seq ?_
        refine W.block ?_
        refine W.seqR ?_
        refine LS.vv rfl rfl (by decide) (Val.cast (v := .int .i64 ((0 : Nat) : Int)) (Val.assign rfl) rfl) ?_
        refine LS.nil ?_
        refine W.seq ?_
        refine W.seqR ?_
        refine LS.vv rfl rfl (by decide) (Val.cast (v := .int .i64 ((0 : Nat) : Int)) (Val.assign rfl) rfl) ?_
        refine LS.nil ?_
        refine W.block ?_
        refine W.loop (α := Nat) (fun k => [(7, .int .i64 (winTo N L i k : Int)), (8, .int .i64 (k : Int))]) [(0, _), (3, _), (5, _), (6, _)] (fun k w => (k ≤ N) ∧ Mem w w0.heap.size [⟨4, some ⟨gg2, 0, none⟩, 2 ^ N, 2 ^ N, bv sn⟩, ⟨4, p1, 2 ^ N, c1, bv L⟩] ∧ Below w0.heap.size w0 w) (fun k => N - k) (0) (Sub.cons rfl (Sub.cons rfl (Sub.nil _))) (Sub.cons rfl (Sub.cons rfl (Sub.cons rfl (Sub.cons rfl (Sub.nil _))))) ?_ ?_
        · exact ⟨Nat.zero_le _, hM, hB⟩
        rintro k w4 ⟨hk, hM, hB⟩
        try simp only at hM
        simp only [List.cons_append, List.nil_append]
        refine W.seq ?_
        refine W.seqR ?_
        refine LS.vv rfl rfl (by decide) (Val.move rfl) ?_
        refine LS.vv rfl rfl (by decide) (Val.move rfl) ?_
        refine LS.vv rfl rfl (by decide) (Val.lss rfl rfl) ?_
        refine LS.nil ?_
        first | refine W.condD rfl (fun hc4 => ?_) (fun hc4 => ?_) | refine W.cond rfl (fun hc4 => ?_) (fun hc4 => ?_)
        ·
          refine W.skip ?_
          refine thenP_normal ?_
          refine W.seq ?_
          refine W.block ?_
          refine W.seqR ?_
          refine LS.vv rfl rfl (by decide) (Val.move rfl) ?_
          have hwl := winTo_lt N L i k
          have hwk : 2 ^ k ≤ 2 ^ 6 := Nat.pow_le_pow_right (by omega) (by omega)
          have hmi := Nat.mod_lt (i + k) (show 0 < 2 ^ N by omega)
          have hws : winTo N L i (k + 1) = 2 * winTo N L i k + (if gb L ((i + k) % 2 ^ N) = true then 1 else 0) := by rw [winTo_succ, hll]
          first | refine LS.vv rfl rfl (by decide) (Val.mulN (i := 2) rfl rfl (by first | omega | (simp only [List.length_set, List.length_replicate]; omega))) ?_ | refine LS.vv rfl rfl (by decide) (Val.mul64 rfl rfl (by first | omega | (simp only [List.length_set, List.length_replicate]; omega))) ?_
          refine LS.vv rfl rfl (by decide) (Val.assign rfl) ?_
          refine LS.nil ?_
          refine W.seqR ?_
          refine LS.vv rfl rfl (by decide) (Val.move rfl) ?_
          refine LS.vv rfl rfl (by decide) (Val.move rfl) ?_
          refine LS.vv rfl rfl (by decide) (Val.move rfl) ?_
          first | refine LS.vv rfl rfl (by decide) (Val.addN rfl rfl (by first | omega | (simp only [List.length_set, List.length_replicate]; omega))) ?_ | refine LS.vv rfl rfl (by decide) (Val.add64 rfl rfl (by first | omega | (simp only [List.length_set, List.length_replicate]; omega))) ?_
          refine LS.vv rfl rfl (by decide) (Val.move rfl) ?_
          refine LS.vv rfl rfl (by decide) (Val.len Try.underlying22 rfl) ?_
          first | refine LS.vv rfl rfl (by decide) (Val.remN rfl rfl (by first | omega | (simp only [List.length_set, List.length_replicate]; omega))) ?_ | refine LS.vv rfl rfl (by decide) (Val.rem rfl rfl (by first | omega | (simp only [List.length_set, List.length_replicate]; omega)) (by first | omega | (simp only [List.length_set, List.length_replicate]; omega))) ?_ | refine LS.vv rfl rfl (by decide) (Val.remT rfl rfl (by first | omega | (simp only [List.length_set, List.length_replicate]; omega))) ?_
          refine LS.vv rfl rfl (by decide) (Val.index1 Try.underlying22 elem4 rfl rfl (by first | omega | (simp only [List.length_set, List.length_replicate]; omega)) (hM.o1.rd) (bv_lt (by first | omega | (simp only [List.length_set, List.length_replicate]; omega)))) ?_
          refine LS.m rfl (Step.load rfl rfl (by decide) flat4 rfl (hM.o1.rd) (bv_at (by first | omega | (simp only [List.length_set, List.length_replicate]; omega))) ?_)
          refine LS.nil ?_
          first | refine W.condD rfl (fun hc5 => ?_) (fun hc5 => ?_) | refine W.cond rfl (fun hc5 => ?_) (fun hc5 => ?_)
          ·
            refine W.reg ?_
            refine LS.vv rfl rfl (by decide) (Val.move rfl) ?_
            first | refine LS.vv rfl rfl (by decide) (Val.addN (j := 1) rfl rfl (by first | omega | (simp only [List.length_set, List.length_replicate]; omega))) ?_ | refine LS.vv rfl rfl (by decide) (Val.add64 rfl rfl (by first | omega | (simp only [List.length_set, List.length_replicate]; omega))) ?_
            refine LS.vv rfl rfl (by decide) (Val.assign rfl) ?_
            refine LS.nil ?_
            refine inBlk_normal ?_
            refine thenP_normal ?_
            refine W.reg ?_
            refine LS.vv rfl rfl (by decide) (Val.move rfl) ?_
            first | refine LS.vv rfl rfl (by decide) (Val.addN (j := 1) rfl rfl (by first | omega | (simp only [List.length_set, List.length_replicate]; omega))) ?_ | refine LS.vv rfl rfl (by decide) (Val.add64 rfl rfl (by first | omega | (simp only [List.length_set, List.length_replicate]; omega))) ?_
            refine LS.vv rfl rfl (by decide) (Val.assign rfl) ?_
            refine LS.nil ?_
            refine thenP_normal ?_
            refine ⟨k + 1, ?_, ?_, ⟨by omega, hM, hB⟩, by omega⟩
            · exact Sub.cons' rfl (by first | (rw [hws, ‹gb L ((i + k) % 2 ^ N) = _›]; done) | (rw [hws, ‹gb L ((i + k) % 2 ^ N) = _›]; congr 1; simp; omega) | (rw [hws, ‹gb L ((i + k) % 2 ^ N) = _›]; congr 1; simp; done) | (rw [hws, ‹gb L ((i + k) % 2 ^ N) = _›]; congr 1; done)) (Sub.cons rfl (Sub.nil _))
            · repeat (first | exact Sub.nil _ | refine Sub.cons rfl ?_)
          ·
            refine W.skip ?_
            refine inBlk_normal ?_
            refine thenP_normal ?_
            refine W.reg ?_
            refine LS.vv rfl rfl (by decide) (Val.move rfl) ?_
            first | refine LS.vv rfl rfl (by decide) (Val.addN (j := 1) rfl rfl (by first | omega | (simp only [List.length_set, List.length_replicate]; omega))) ?_ | refine LS.vv rfl rfl (by decide) (Val.add64 rfl rfl (by first | omega | (simp only [List.length_set, List.length_replicate]; omega))) ?_
            refine LS.vv rfl rfl (by decide) (Val.assign rfl) ?_
            refine LS.nil ?_
            refine thenP_normal ?_
            refine ⟨k + 1, ?_, ?_, ⟨by omega, hM, hB⟩, by omega⟩
            · exact Sub.cons' rfl (by first | (rw [hws, ‹gb L ((i + k) % 2 ^ N) = _›]; done) | (rw [hws, ‹gb L ((i + k) % 2 ^ N) = _›]; congr 1; simp; omega) | (rw [hws, ‹gb L ((i + k) % 2 ^ N) = _›]; congr 1; simp; done) | (rw [hws, ‹gb L ((i + k) % 2 ^ N) = _›]; congr 1; done)) (Sub.cons rfl (Sub.nil _))
            · repeat (first | exact Sub.nil _ | refine Sub.cons rfl ?_)
        ·
          refine W.exit ?_
          refine thenP_exit ?_
          refine thenP_exit ?_
          refine inBlk_exit ?_
          refine thenP_normal ?_
          refine W.seq ?_
          refine W.seqR ?_
          refine LS.vv rfl rfl (by decide) (Val.move rfl) ?_
          refine LS.vv rfl rfl (by decide) (Val.move rfl) ?_
          have hkN : k = N := by omega
          subst hkN
          have hwN := winTo_lt k L i k
          refine LS.vv rfl rfl (by decide) (Val.index1 Try.underlying22 elem4 rfl rfl (by first | omega | (simp only [List.length_set, List.length_replicate]; omega)) (hM.o0.rd) (bv_lt (by first | omega | (simp only [List.length_set, List.length_replicate]; omega)))) ?_
          refine LS.m rfl (Step.load rfl rfl (by decide) flat4 rfl (hM.o0.rd) (bv_at (by first | omega | (simp only [List.length_set, List.length_replicate]; omega))) ?_)
          refine LS.nil ?_
          first | refine W.condD rfl (fun hc6 => ?_) (fun hc6 => ?_) | refine W.cond rfl (fun hc6 => ?_) (fun hc6 => ?_)
          ·
            exfalso; obtain ⟨j, hj, hw⟩ := hsn _ hc6; exact hok i j hj (by omega) hw
          ·
            refine W.skip ?_
            refine thenP_normal ?_
            refine W.reg ?_
            refine LS.vv rfl rfl (by decide) (Val.move rfl) ?_
            refine LS.vv rfl rfl (by decide) (Val.move rfl) ?_
            refine LS.vv rfl rfl (by decide) (Val.index1 Try.underlying22 elem4 rfl rfl (by first | omega | (simp only [List.length_set, List.length_replicate]; omega)) (hM.o0.rd) (bv_lt (by first | omega | (simp only [List.length_set, List.length_replicate]; omega)))) ?_
            refine LS.m rfl (Step.store (B := w0.heap.size) rfl rfl flat4 elem4 rfl rfl rfl (hM.o0) (by first | omega | (simp only [List.length_set, List.length_replicate]; omega)) hB.size ?_)
            rintro w5 hO5 hg5 hbl5 hsz5
            replace hM := hM.s0 hg5 hO5 inl_block
            try simp only [bv_app1, bv_app, bv_set, bv_rep, bv_one, bv_cons, bv_take, bv_drop, List.nil_append] at hM
            replace hB := hB.trans hbl5
            refine LS.nil ?_
            refine inBlk_normal ?_
            refine thenP_normal ?_
            refine W.reg ?_
            refine LS.vv rfl rfl (by decide) (Val.move rfl) ?_
            first | refine LS.vv rfl rfl (by decide) (Val.addN (j := 1) rfl rfl (by first | omega | (simp only [List.length_set, List.length_replicate]; omega))) ?_ | refine LS.vv rfl rfl (by decide) (Val.add64 rfl rfl (by first | omega | (simp only [List.length_set, List.length_replicate]; omega))) ?_
            refine LS.vv rfl rfl (by decide) (Val.assign rfl) ?_
            refine LS.nil ?_
            refine thenP_normal ?_
            refine ⟨(i + 1, sn.set (winTo k L i k) true), ?_, ?_, ⟨⟨by simp only; omega, by simpa using hsl2, fun m h => ?_⟩, hM, hB⟩, by simp only; omega⟩
            · exact (Sub.cons rfl (Sub.nil _))
            · repeat (first | exact Sub.nil _ | refine Sub.cons rfl ?_)
            · simp only at h ⊢
              rw [gb_setb (by omega)] at h
              split at h
              · rename_i hm; exact ⟨i, by omega, hm.symm⟩
              · obtain ⟨j, hj, hw⟩ := hsn m h; exact ⟨j, by omega, hw⟩
      ·
        refine W.exit ?_
        refine thenP_exit ?_
        refine thenP_exit ?_
        refine inBlk_exit ?_
        refine thenP_normal ?_
        refine W.seqR ?_
        refine LS.vv rfl rfl (by decide) (Val.assign rfl) ?_
        refine LS.nil ?_
        refine W.ret ?_
        refine ret1 (by first | exact .inl rfl | exact .inr rfl) rfl ?_
        first | exact ⟨rfl, hB⟩ | (exfalso; omega)

end Go.Proofs.Ytpogedmkmplckaa
