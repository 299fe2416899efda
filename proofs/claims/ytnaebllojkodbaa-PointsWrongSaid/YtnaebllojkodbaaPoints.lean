/-
  points.put, points.Put, quipukeep.differ.
-/
import Derived.Test.YtnaebllojkodbaaAt
import Derived.Test.YtnaebllojkodbaaRefsI
namespace Go.Proofs.Ytnaebllojkodbaa
open Go Go.RowKit V
set_option linter.unusedVariables false
set_option linter.unusedSimpArgs false

theorem put_any (l : List Nat) (p : Option Addr) (c m : Nat) (w0 : World) (hr : Rd w0 p (nv l)) (hm : l.length = m) (n : Nat) (hs : Small l) (hn : n ≤ 9) (hl : m * 8 ≤ 140737488351232) :
    CallsV Try.prog 36 #[.int .i64 (n : Int), .slice p m c] w0 (fun v w => ∃ (p2 : Option Addr) (c2 : Nat), v = .slice p2 n c2 ∧ V.Own w w0.heap.size 3 p2 n c2 (nv (putp n l)) ∧ Below w0.heap.size w0 w) := by
  refine enter1 Try.func36 rfl Try.ntmps36 (by simp) rfl ?_
  have hB := Below.refl w0.heap.size w0
  simp only [argLoc, Nat.zero_add]
  have hM := Mem.nil w0 w0.heap.size
  subst hm
  refine W.seqR ?_
  refine LS.vv rfl rfl (by decide) (Val.assign rfl) ?_
  refine LS.nil ?_
  refine W.seqR ?_
  refine LS.vv rfl rfl (by decide) (Val.assign rfl) ?_
  refine LS.nil ?_
  refine W.seq ?_
  refine W.seqR ?_
  refine LS.vv rfl rfl (by decide) (Val.cast (v := .int .i64 ((1 : Nat) : Int)) (Val.assign rfl) rfl) ?_
  refine LS.nil ?_
  refine W.block ?_
  replace hM := hM.addNil 3
  refine W.loop (α := Nat × Option Addr × Nat) (fun g => [(5, .slice g.2.1 g.1 g.2.2), (6, .int .i64 ((g.1 + 1 : Nat) : Int))]) [(0, _), (1, _)] (fun g w => (g.1 ≤ n) ∧ Mem w w0.heap.size [⟨3, g.2.1, g.1, g.2.2, nv (putp g.1 l)⟩] ∧ Below w0.heap.size w0 w) (fun g => n - g.1) ((0, none, 0)) (Sub.cons rfl (Sub.cons rfl (Sub.nil _))) (Sub.cons rfl (Sub.cons rfl (Sub.nil _))) ?_ ?_
  · exact ⟨Nat.zero_le _, hM, hB⟩
  rintro ⟨k, po, co⟩ w1 ⟨hk, hM, hB⟩
  try simp only at hM
  simp only [List.cons_append, List.nil_append]
  simp only at hk
  refine W.seq ?_
  refine W.seqR ?_
  refine LS.vv rfl rfl (by decide) (Val.move rfl) ?_
  refine LS.vv rfl rfl (by decide) (Val.move rfl) ?_
  refine LS.vv rfl rfl (by decide) (Val.leq rfl rfl) ?_
  refine LS.nil ?_
  first | refine W.condD rfl (fun hc1 => ?_) (fun hc1 => ?_) | refine W.cond rfl (fun hc1 => ?_) (fun hc1 => ?_)
  ·
    refine W.skip ?_
    refine thenP_normal ?_
    refine W.seq ?_
    refine W.block ?_
    refine W.reg ?_
    refine LS.vv rfl rfl (by decide) (Val.move rfl) ?_
    refine LS.vv rfl rfl (by decide) (Val.move rfl) ?_
    refine LS.vv rfl rfl (by decide) (Val.move rfl) ?_
    refine LS.m rfl (Step.call body34 rfl rfl (by decide) rfl (CallsV.mono (value_any l _ _ _ (k + 1) _ (hr.below hB) rfl hs (by omega) hl) ?_))
    rintro _ w2 ⟨rfl, hb2⟩
    replace hM := hM.below hb2
    replace hB := hB.trans (hb2.mono hB.size)
    refine LS.m rfl (Step.lit rfl rfl (by decide) Try.underlying27 elem3 rfl rfl (by omega) (by simp [Value.oneCell']) (Nat.le_refl _) ?_)
    rintro w3 hO3 hg3 hbl3 hsz3
    replace hM := hM.add hB.size hbl3 hO3
    try simp only [nv_app1, nv_app, nv_set, nv_rep, nv_one, nv_cons, nv_take, nv_drop, List.nil_append] at hM
    replace hB := hB.trans (hbl3.mono hB.size)
    generalize w2.heap.size = gg3 at *
    refine LS.m rfl (Step.append2 (B := w0.heap.size) rfl rfl (by decide) Try.underlying27 elem3 rfl rfl rfl rfl (hM.o1) (hM.o0.rd) (by first | rfl | (simp; done) | (simp; omega)) (by first | exact one_map _ (fun _ => rfl) _ | simp [Value.oneCell']) (by omega) (by omega) hB.size ?_)
    rintro p4 c4 w4 hO4 hg4 hbl4 hbk4
    replace hM := hM.s1 hg4 hO4 hbk4
    replace hM := hM.tail
    try simp only [nv_app1, nv_app, nv_set, nv_rep, nv_one, nv_cons, nv_take, nv_drop, List.nil_append] at hM
    replace hB := hB.trans hbl4
    refine LS.vv rfl rfl (by decide) (Val.assign rfl) ?_
    refine LS.nil ?_
    refine inBlk_normal ?_
    refine thenP_normal ?_
    refine W.reg ?_
    refine LS.vv rfl rfl (by decide) (Val.move rfl) ?_
    first | refine LS.vv rfl rfl (by decide) (Val.addN (j := 1) rfl rfl (by omega)) ?_ | refine LS.vv rfl rfl (by decide) (Val.add64 rfl rfl (by omega)) ?_
    refine LS.vv rfl rfl (by decide) (Val.assign rfl) ?_
    refine LS.nil ?_
    refine thenP_normal ?_
    refine ⟨(k + 1, p4, c4), ?_, ?_, ⟨by simp only; omega, ?_, hB⟩, by simp only; omega⟩
    · exact (Sub.cons rfl (Sub.cons rfl (Sub.nil _)))
    · repeat (first | exact Sub.nil _ | refine Sub.cons rfl ?_)
    · simp only [putp_succ]; exact hM
  ·
    refine W.exit ?_
    refine thenP_exit ?_
    refine thenP_exit ?_
    refine inBlk_exit ?_
    refine thenP_normal ?_
    refine W.seqR ?_
    refine LS.vv rfl rfl (by decide) (Val.move rfl) ?_
    refine LS.vv rfl rfl (by decide) (Val.assign rfl) ?_
    refine LS.nil ?_
    refine W.ret ?_
    refine ret1 (by first | exact .inl rfl | exact .inr rfl) rfl ?_
    obtain rfl : k = n := by omega
    exact ⟨po, co, rfl, hM.o0, hB⟩

theorem Put_any (zs : List Int) (p : Option Addr) (c m : Nat) (w0 : World) (hr : Rd w0 p (iv zs)) (hm : zs.length = m) (n : Int) (hl : m * 8 ≤ 140737488351232) :
    CallsV Try.prog 18 #[.int .i64 n, .slice p m c] w0 (fun v w => ∃ (p2 : Option Addr) (c2 L e : Nat), v = .tuple #[.slice p2 L c2, .int .i64 (e : Int)] ∧ (e = 0 ↔ 0 < n ∧ n ≤ 9 ∧ 0 < m ∧ (m : Int) ≤ n ∧ OkF zs) ∧ (e = 0 → (L : Int) = n) ∧ (e ≠ 0 → L = 0) ∧ ∃ xs : List Nat, xs.length = L ∧ (e = 0 → xs = putp L (zs.map Int.toNat)) ∧ V.Own w w0.heap.size 3 p2 L c2 (nv xs) ∧ Below w0.heap.size w0 w) := by
  refine enter2 Try.func18 rfl Try.ntmps18 (by simp) rfl ?_
  have hB := Below.refl w0.heap.size w0
  simp only [argLoc, Nat.zero_add]
  have hM := Mem.nil w0 w0.heap.size
  subst hm
  refine W.seqR ?_
  refine LS.vv rfl rfl (by decide) (Val.assign rfl) ?_
  refine LS.vv rfl rfl (by decide) (Val.cast (v := .int .i64 ((0 : Nat) : Int)) (Val.assign rfl) rfl) ?_
  refine LS.nil ?_
  refine W.seq ?_
  refine W.seqR ?_
  refine LS.vv rfl rfl (by decide) (Val.move rfl) ?_
  refine LS.vv rfl rfl (by decide) (Val.lss rfl rfl) ?_
  refine LS.vv rfl rfl (by decide) (Val.move rfl) ?_
  refine LS.split 2 rfl (fun hg1 => ?_) (fun hg1 => ?_)
  ·
    first | (have hg1p := of_decide_eq_true hg1) | skip
    refine LS.s rfl rfl rfl hg1 (by decide) ?_
    refine LS.s rfl rfl rfl hg1 (by decide) ?_
    refine LS.vv rfl rfl (by decide) (Val.pickT rfl hg1 rfl) ?_
    refine LS.nil ?_
    refine W.condT rfl ?_
    refine W.seqR ?_
    refine LS.vv rfl rfl (by decide) (Val.assign rfl) ?_
    refine LS.vv rfl rfl (by decide) (Val.cast (v := .int .i64 ((1 : Nat) : Int)) (Val.assign rfl) rfl) ?_
    refine LS.nil ?_
    refine W.ret ?_
    refine thenP_ret ?_
    refine ret2 (by first | exact .inl rfl | exact .inr rfl) rfl rfl ?_
    first | exact ⟨none, 0, 0, _, rfl, ⟨fun h => by exfalso; omega, fun h => by exfalso; omega⟩, fun h => by omega, fun _ => rfl, [], rfl, fun h => by omega, V.Own.nil _ _ _, hB⟩ | exact ⟨none, 0, 0, e, rfl, ⟨fun h => by exfalso; omega, fun h => he.2 h.2.2.2.2⟩, fun h => by omega, fun _ => rfl, [], rfl, fun h => by omega, V.Own.nil _ _ _, hB⟩ | exact ⟨p2, c2, N, 0, rfl, ⟨fun _ => ⟨by omega, by omega, by omega, by omega, hok⟩, fun _ => rfl⟩, fun _ => rfl, fun h => absurd rfl h, _, putp_len _ _, fun _ => rfl, hM.o0, hB⟩
  ·
    first | (have hg1p := of_decide_eq_false hg1) | skip
    refine LS.vg rfl rfl rfl hg1 (by decide) (Val.move rfl) ?_
    refine LS.vg rfl rfl rfl hg1 (by decide) (Val.gtr rfl rfl) ?_
    refine LS.vv rfl rfl (by decide) (Val.pickF rfl hg1 rfl) ?_
    refine LS.nil ?_
    first | refine W.condD rfl (fun hc2 => ?_) (fun hc2 => ?_) | refine W.cond rfl (fun hc2 => ?_) (fun hc2 => ?_)
    ·
      refine W.seqR ?_
      refine LS.vv rfl rfl (by decide) (Val.assign rfl) ?_
      refine LS.vv rfl rfl (by decide) (Val.cast (v := .int .i64 ((1 : Nat) : Int)) (Val.assign rfl) rfl) ?_
      refine LS.nil ?_
      refine W.ret ?_
      refine thenP_ret ?_
      refine ret2 (by first | exact .inl rfl | exact .inr rfl) rfl rfl ?_
      first | exact ⟨none, 0, 0, _, rfl, ⟨fun h => by exfalso; omega, fun h => by exfalso; omega⟩, fun h => by omega, fun _ => rfl, [], rfl, fun h => by omega, V.Own.nil _ _ _, hB⟩ | exact ⟨none, 0, 0, e, rfl, ⟨fun h => by exfalso; omega, fun h => he.2 h.2.2.2.2⟩, fun h => by omega, fun _ => rfl, [], rfl, fun h => by omega, V.Own.nil _ _ _, hB⟩ | exact ⟨p2, c2, N, 0, rfl, ⟨fun _ => ⟨by omega, by omega, by omega, by omega, hok⟩, fun _ => rfl⟩, fun _ => rfl, fun h => absurd rfl h, _, putp_len _ _, fun _ => rfl, hM.o0, hB⟩
    ·
      refine W.skip ?_
      refine thenP_normal ?_
      refine W.seq ?_
      refine W.seqR ?_
      refine LS.vv rfl rfl (by decide) (Val.move rfl) ?_
      refine LS.vv rfl rfl (by decide) (Val.len Try.underlying27 rfl) ?_
      refine LS.vv rfl rfl (by decide) (Val.eql rfl rfl) ?_
      refine LS.vv rfl rfl (by decide) (Val.move rfl) ?_
      refine LS.split 3 rfl (fun hg3 => ?_) (fun hg3 => ?_)
      ·
        first | (have hg3p := of_decide_eq_true hg3) | skip
        refine LS.s rfl rfl rfl hg3 (by decide) ?_
        refine LS.s rfl rfl rfl hg3 (by decide) ?_
        refine LS.s rfl rfl rfl hg3 (by decide) ?_
        refine LS.s rfl rfl rfl hg3 (by decide) ?_
        refine LS.vv rfl rfl (by decide) (Val.pickT rfl hg3 rfl) ?_
        refine LS.nil ?_
        refine W.condT rfl ?_
        refine W.seqR ?_
        refine LS.vv rfl rfl (by decide) (Val.assign rfl) ?_
        refine LS.vv rfl rfl (by decide) (Val.cast (v := .int .i64 ((3 : Nat) : Int)) (Val.assign rfl) rfl) ?_
        refine LS.nil ?_
        refine W.ret ?_
        refine thenP_ret ?_
        refine ret2 (by first | exact .inl rfl | exact .inr rfl) rfl rfl ?_
        first | exact ⟨none, 0, 0, _, rfl, ⟨fun h => by exfalso; omega, fun h => by exfalso; omega⟩, fun h => by omega, fun _ => rfl, [], rfl, fun h => by omega, V.Own.nil _ _ _, hB⟩ | exact ⟨none, 0, 0, e, rfl, ⟨fun h => by exfalso; omega, fun h => he.2 h.2.2.2.2⟩, fun h => by omega, fun _ => rfl, [], rfl, fun h => by omega, V.Own.nil _ _ _, hB⟩ | exact ⟨p2, c2, N, 0, rfl, ⟨fun _ => ⟨by omega, by omega, by omega, by omega, hok⟩, fun _ => rfl⟩, fun _ => rfl, fun h => absurd rfl h, _, putp_len _ _, fun _ => rfl, hM.o0, hB⟩
      ·
        first | (have hg3p := of_decide_eq_false hg3) | skip
        refine LS.vg rfl rfl rfl hg3 (by decide) (Val.move rfl) ?_
        refine LS.vg rfl rfl rfl hg3 (by decide) (Val.len Try.underlying27 rfl) ?_
        refine LS.vg rfl rfl rfl hg3 (by decide) (Val.move rfl) ?_
        refine LS.vg rfl rfl rfl hg3 (by decide) (Val.gtr rfl rfl) ?_
        refine LS.vv rfl rfl (by decide) (Val.pickF rfl hg3 rfl) ?_
        refine LS.nil ?_
        first | refine W.condD rfl (fun hc4 => ?_) (fun hc4 => ?_) | refine W.cond rfl (fun hc4 => ?_) (fun hc4 => ?_)
        ·
          refine W.seqR ?_
          refine LS.vv rfl rfl (by decide) (Val.assign rfl) ?_
          refine LS.vv rfl rfl (by decide) (Val.cast (v := .int .i64 ((3 : Nat) : Int)) (Val.assign rfl) rfl) ?_
          refine LS.nil ?_
          refine W.ret ?_
          refine thenP_ret ?_
          refine ret2 (by first | exact .inl rfl | exact .inr rfl) rfl rfl ?_
          first | exact ⟨none, 0, 0, _, rfl, ⟨fun h => by exfalso; omega, fun h => by exfalso; omega⟩, fun h => by omega, fun _ => rfl, [], rfl, fun h => by omega, V.Own.nil _ _ _, hB⟩ | exact ⟨none, 0, 0, e, rfl, ⟨fun h => by exfalso; omega, fun h => he.2 h.2.2.2.2⟩, fun h => by omega, fun _ => rfl, [], rfl, fun h => by omega, V.Own.nil _ _ _, hB⟩ | exact ⟨p2, c2, N, 0, rfl, ⟨fun _ => ⟨by omega, by omega, by omega, by omega, hok⟩, fun _ => rfl⟩, fun _ => rfl, fun h => absurd rfl h, _, putp_len _ _, fun _ => rfl, hM.o0, hB⟩
        ·
          refine W.skip ?_
          refine thenP_normal ?_
          refine W.seq ?_
          refine W.seqR ?_
          refine LS.vv rfl rfl (by decide) (Val.move rfl) ?_
          refine LS.m rfl (Step.call body31 rfl rfl (by decide) rfl (CallsV.mono (fcheck_any zs _ _ _ (hr.below hB) (by omega)) ?_))
          rintro _ w1 ⟨e, rfl, he, he4, hb1⟩
          replace hM := hM.below hb1
          replace hB := hB.trans (hb1.mono hB.size)
          refine LS.vv rfl rfl (by decide) (Val.assign rfl) ?_
          refine LS.nil ?_
          refine W.seqR ?_
          refine LS.vv rfl rfl (by decide) (Val.move rfl) ?_
          refine LS.vv rfl rfl (by decide) (Val.neq rfl rfl) ?_
          refine LS.nil ?_
          first | refine W.condD rfl (fun hc5 => ?_) (fun hc5 => ?_) | refine W.cond rfl (fun hc5 => ?_) (fun hc5 => ?_)
          ·
            refine W.seqR ?_
            refine LS.vv rfl rfl (by decide) (Val.move rfl) ?_
            refine LS.vv rfl rfl (by decide) (Val.assign rfl) ?_
            refine LS.vv rfl rfl (by decide) (Val.assign rfl) ?_
            refine LS.nil ?_
            refine W.ret ?_
            refine thenP_ret ?_
            refine ret2 (by first | exact .inl rfl | exact .inr rfl) rfl rfl ?_
            first | exact ⟨none, 0, 0, _, rfl, ⟨fun h => by exfalso; omega, fun h => by exfalso; omega⟩, fun h => by omega, fun _ => rfl, [], rfl, fun h => by omega, V.Own.nil _ _ _, hB⟩ | exact ⟨none, 0, 0, e, rfl, ⟨fun h => by exfalso; omega, fun h => he.2 h.2.2.2.2⟩, fun h => by omega, fun _ => rfl, [], rfl, fun h => by omega, V.Own.nil _ _ _, hB⟩ | exact ⟨p2, c2, N, 0, rfl, ⟨fun _ => ⟨by omega, by omega, by omega, by omega, hok⟩, fun _ => rfl⟩, fun _ => rfl, fun h => absurd rfl h, _, putp_len _ _, fun _ => rfl, hM.o0, hB⟩
          ·
            refine W.skip ?_
            refine thenP_normal ?_
            refine W.seqR ?_
            refine LS.vv rfl rfl (by decide) (Val.move rfl) ?_
            refine LS.vv rfl rfl (by decide) (Val.move rfl) ?_
            have hok := he.1 (by omega)
            obtain ⟨N, rfl⟩ := Int.eq_ofNat_of_zero_le (show 0 ≤ n by omega)
            refine LS.m rfl (Step.call body36 rfl rfl (by decide) rfl (CallsV.mono (put_any (zs.map Int.toNat) _ _ _ _ (ok_rd hok (hr.below hB)) (by simp) N (okF_iff_small hok).1 (by omega) hl) ?_))
            rintro _ w2 ⟨p2, c2, rfl, hO9, hb2⟩
            replace hM := hM.add hB.size hb2 hO9
            replace hB := hB.trans (hb2.mono hB.size)
            refine LS.vv rfl rfl (by decide) (Val.assign rfl) ?_
            refine LS.vv rfl rfl (by decide) (Val.cast (v := .int .i64 ((0 : Nat) : Int)) (Val.assign rfl) rfl) ?_
            refine LS.nil ?_
            refine W.ret ?_
            refine ret2 (by first | exact .inl rfl | exact .inr rfl) rfl rfl ?_
            first | exact ⟨none, 0, 0, _, rfl, ⟨fun h => by exfalso; omega, fun h => by exfalso; omega⟩, fun h => by omega, fun _ => rfl, [], rfl, fun h => by omega, V.Own.nil _ _ _, hB⟩ | exact ⟨none, 0, 0, e, rfl, ⟨fun h => by exfalso; omega, fun h => he.2 h.2.2.2.2⟩, fun h => by omega, fun _ => rfl, [], rfl, fun h => by omega, V.Own.nil _ _ _, hB⟩ | exact ⟨p2, c2, N, 0, rfl, ⟨fun _ => ⟨by omega, by omega, by omega, by omega, hok⟩, fun _ => rfl⟩, fun _ => rfl, fun h => absurd rfl h, _, putp_len _ _, fun _ => rfl, hM.o0, hB⟩

theorem differ_any (xs ys : List Int) (p q : Option Addr) (c d n m : Nat) (w0 : World) (hr1 : Rd w0 p (iv xs)) (hr2 : Rd w0 q (iv ys)) (hx : xs.length = n) (hy : ys.length = m) (hxy : n = m) (hl : n ≤ 1000) :
    CallsV Try.prog 22 #[.slice p n c, .slice q m d] w0 (fun v w => v = .int .i64 (dfTo xs ys n : Int) ∧ Below w0.heap.size w0 w) := by
  refine enter1 Try.func22 rfl Try.ntmps22 (by simp) rfl ?_
  have hB := Below.refl w0.heap.size w0
  simp only [argLoc, Nat.zero_add]
  have hM := Mem.nil w0 w0.heap.size
  subst hx
  subst hy
  refine W.seqR ?_
  refine LS.vv rfl rfl (by decide) (Val.cast (v := .int .i64 ((0 : Nat) : Int)) (Val.assign rfl) rfl) ?_
  refine LS.nil ?_
  refine W.seqR ?_
  refine LS.vv rfl rfl (by decide) (Val.cast (v := .int .i64 ((0 : Nat) : Int)) (Val.assign rfl) rfl) ?_
  refine LS.nil ?_
  refine W.seq ?_
  refine W.seqR ?_
  refine LS.vv rfl rfl (by decide) (Val.cast (v := .int .i64 ((0 : Nat) : Int)) (Val.assign rfl) rfl) ?_
  refine LS.nil ?_
  refine W.block ?_
  refine W.loop (α := Nat) (fun k => [(5, .int .i64 (dfTo xs ys k : Int)), (6, .int .i64 (k : Int))]) [(0, _), (1, _)] (fun k w => (k ≤ xs.length) ∧ Mem w w0.heap.size [] ∧ Below w0.heap.size w0 w) (fun k => xs.length - k) (0) (Sub.cons rfl (Sub.cons rfl (Sub.nil _))) (Sub.cons rfl (Sub.cons rfl (Sub.nil _))) ?_ ?_
  · exact ⟨Nat.zero_le _, hM, hB⟩
  rintro k w1 ⟨hk, hM, hB⟩
  try simp only at hM
  simp only [List.cons_append, List.nil_append]
  have hds := dfTo_succ xs ys k
  have hdl := dfTo_le xs ys k
  refine W.seq ?_
  refine W.seqR ?_
  refine LS.vv rfl rfl (by decide) (Val.move rfl) ?_
  refine LS.vv rfl rfl (by decide) (Val.move rfl) ?_
  refine LS.vv rfl rfl (by decide) (Val.len Try.underlying27 rfl) ?_
  refine LS.vv rfl rfl (by decide) (Val.lss rfl rfl) ?_
  refine LS.vv rfl rfl (by decide) (Val.move rfl) ?_
  refine LS.split 4 rfl (fun hg1 => ?_) (fun hg1 => ?_)
  ·
    first | (have hg1p := of_decide_eq_true hg1) | skip
    refine LS.vg rfl rfl rfl hg1 (by decide) (Val.move rfl) ?_
    refine LS.vg rfl rfl rfl hg1 (by decide) (Val.move rfl) ?_
    refine LS.vg rfl rfl rfl hg1 (by decide) (Val.len Try.underlying27 rfl) ?_
    refine LS.vg rfl rfl rfl hg1 (by decide) (Val.lss rfl rfl) ?_
    refine LS.vv rfl rfl (by decide) (Val.pickT rfl hg1 rfl) ?_
    refine LS.nil ?_
    first | refine W.condD rfl (fun hc2 => ?_) (fun hc2 => ?_) | refine W.cond rfl (fun hc2 => ?_) (fun hc2 => ?_)
    ·
      refine W.skip ?_
      refine thenP_normal ?_
      refine W.seq ?_
      refine W.block ?_
      refine W.seqF 9 [(0, true), (1, true), (2, true), (3, true), (4, true), (5, true), (6, true), (7, true), (8, true)] mixed (by kernel_rfl) hB hM ?_
      replace hB := hB.drew
      replace hM := hM.drew
      refine DF.vv rfl rfl rfl (by decide) (Val.move rfl) ?_
      refine DF.vv rfl rfl rfl (by decide) (Val.move rfl) ?_
      refine DF.vv rfl rfl rfl (by decide) (Val.index1 Try.underlying27 elem3 rfl rfl (by omega) ((hr1.below hB)) (iv_lt (by omega))) ?_
      refine DF.vv rfl rfl rfl (by decide) (Val.load flat3 rfl (fun _ h => (hr1.below h.1)) (iv_at (by omega))) ?_
      refine DF.vv rfl rfl rfl (by decide) (Val.move rfl) ?_
      refine DF.vv rfl rfl rfl (by decide) (Val.move rfl) ?_
      refine DF.vv rfl rfl rfl (by decide) (Val.index1 Try.underlying27 elem3 rfl rfl (by omega) ((hr2.below hB)) (iv_lt (by omega))) ?_
      refine DF.vv rfl rfl rfl (by decide) (Val.load flat3 rfl (fun _ h => (hr2.below h.1)) (iv_at (by omega))) ?_
      refine DF.vv rfl rfl rfl (by decide) (Val.neq rfl rfl) ?_
      refine DF.nil ?_
      first | refine W.condD rfl (fun hc3 => ?_) (fun hc3 => ?_) | refine W.cond rfl (fun hc3 => ?_) (fun hc3 => ?_)
      ·
        refine W.reg ?_
        refine LS.vv rfl rfl (by decide) (Val.move rfl) ?_
        first | refine LS.vv rfl rfl (by decide) (Val.addN (j := 1) rfl rfl (by omega)) ?_ | refine LS.vv rfl rfl (by decide) (Val.add64 rfl rfl (by omega)) ?_
        refine LS.vv rfl rfl (by decide) (Val.assign rfl) ?_
        refine LS.nil ?_
        refine inBlk_normal ?_
        refine thenP_normal ?_
        refine W.reg ?_
        refine LS.vv rfl rfl (by decide) (Val.move rfl) ?_
        first | refine LS.vv rfl rfl (by decide) (Val.addN (j := 1) rfl rfl (by omega)) ?_ | refine LS.vv rfl rfl (by decide) (Val.add64 rfl rfl (by omega)) ?_
        refine LS.vv rfl rfl (by decide) (Val.assign rfl) ?_
        refine LS.nil ?_
        refine thenP_normal ?_
        refine ⟨k + 1, ?_, ?_, ⟨by omega, hM, hB⟩, by omega⟩
        · exact Sub.cons' rfl (by rw [hds]; first | rw [if_pos (by omega)] | rw [if_neg (by omega)]) (Sub.cons rfl (Sub.nil _))
        · repeat (first | exact Sub.nil _ | refine Sub.cons rfl ?_)
      ·
        refine W.skip ?_
        refine inBlk_normal ?_
        refine thenP_normal ?_
        refine W.reg ?_
        refine LS.vv rfl rfl (by decide) (Val.move rfl) ?_
        first | refine LS.vv rfl rfl (by decide) (Val.addN (j := 1) rfl rfl (by omega)) ?_ | refine LS.vv rfl rfl (by decide) (Val.add64 rfl rfl (by omega)) ?_
        refine LS.vv rfl rfl (by decide) (Val.assign rfl) ?_
        refine LS.nil ?_
        refine thenP_normal ?_
        refine ⟨k + 1, ?_, ?_, ⟨by omega, hM, hB⟩, by omega⟩
        · exact Sub.cons' rfl (by rw [hds]; first | rw [if_pos (by omega)] | rw [if_neg (by omega)]) (Sub.cons rfl (Sub.nil _))
        · repeat (first | exact Sub.nil _ | refine Sub.cons rfl ?_)
    ·
      refine W.exit ?_
      refine thenP_exit ?_
      refine thenP_exit ?_
      refine inBlk_exit ?_
      refine thenP_normal ?_
      refine W.seqR ?_
      refine LS.vv rfl rfl (by decide) (Val.move rfl) ?_
      refine LS.vv rfl rfl (by decide) (Val.assign rfl) ?_
      refine LS.nil ?_
      refine W.ret ?_
      refine ret1 (by first | exact .inl rfl | exact .inr rfl) rfl ?_
      obtain rfl : k = xs.length := by omega
      exact ⟨rfl, hB⟩
  ·
    first | (have hg1p := of_decide_eq_false hg1) | skip
    refine LS.s rfl rfl rfl hg1 (by decide) ?_
    refine LS.s rfl rfl rfl hg1 (by decide) ?_
    refine LS.s rfl rfl rfl hg1 (by decide) ?_
    refine LS.s rfl rfl rfl hg1 (by decide) ?_
    refine LS.vv rfl rfl (by decide) (Val.pickF rfl hg1 rfl) ?_
    refine LS.nil ?_
    refine W.condF rfl ?_
    refine W.exit ?_
    refine thenP_exit ?_
    refine thenP_exit ?_
    refine inBlk_exit ?_
    refine thenP_normal ?_
    refine W.seqR ?_
    refine LS.vv rfl rfl (by decide) (Val.move rfl) ?_
    refine LS.vv rfl rfl (by decide) (Val.assign rfl) ?_
    refine LS.nil ?_
    refine W.ret ?_
    refine ret1 (by first | exact .inl rfl | exact .inr rfl) rfl ?_
    obtain rfl : k = xs.length := by omega
    exact ⟨rfl, hB⟩

end Go.Proofs.Ytnaebllojkodbaa
