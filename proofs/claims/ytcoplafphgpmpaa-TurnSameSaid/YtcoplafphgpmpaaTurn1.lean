/-
  Package turn: Turn.
-/
import Derived.Test.YtcoplafphgpmpaaLibY
import Derived.Test.YtcoplafphgpmpaaStab4
import Derived.Test.YtcoplafphgpmpaaTurnPlain
import Derived.Test.YtcoplafphgpmpaaVext
import Derived.Test.YtcoplafphgpmpaaVtext
import Derived.Test.YtcoplafphgpmpaaVheap2
namespace Go.Proofs.Ytcoplafphgpmpaa
open Go Go.RowKit V
set_option linter.unusedVariables false
set_option linter.unusedSimpArgs false

theorem extCompare : Ext Try.prog 54 Extern.BytealgCompare.compare := ⟨⟨_, Try.func54, by kernel_rfl, rfl, by kernel_rfl, by kernel_rfl⟩⟩

theorem bytesCmp_any (a b : List Nat) (p q : Option Addr) (c d m n : Nat) (w0 : World) (ha : Rd w0 p (yv a)) (hb : Rd w0 q (yv b)) (hm : a.length = m) (hn : b.length = n) (hmn : m = n) (h1 : ∀ x ∈ a, x < 256) (h2 : ∀ x ∈ b, x < 256) :
    CallsV Try.prog 38 #[.slice p m c, .slice q n d] w0 (fun v w => ∃ z : Int, v = .int .i64 z ∧ (z < 0 ↔ vb a < vb b) ∧ Below w0.heap.size w0 w) := by
  refine enter1 Try.func38 rfl Try.ntmps38 (by simp) rfl ?_
  have hB := Below.refl w0.heap.size w0
  simp only [argLoc, Nat.zero_add]
  have hM := Mem.nil w0 w0.heap.size
  refine W.seqR ?_
  refine LS.vv rfl rfl (by decide) (Val.cast (v := .int .i64 ((0 : Nat) : Int)) (Val.assign rfl) rfl) ?_
  refine LS.nil ?_
  refine W.seqR ?_
  refine LS.vv rfl rfl (by decide) (Val.move rfl) ?_
  refine LS.vv rfl rfl (by decide) (Val.move rfl) ?_
  obtain ⟨z, hrun, hz⟩ := run_compare (P := Try.prog) (c := c) (d := d) (ha.below hB) (hb.below hB) hm hn hmn h1 h2
  refine LS.m rfl (Step.callExt extCompare rfl rfl (by decide) rfl hrun ?_)
  refine LS.vv rfl rfl (by decide) (Val.assign rfl) ?_
  refine LS.nil ?_
  refine W.ret ?_
  refine ret1 (by first | exact .inl rfl | exact .inr rfl) rfl ?_
  exact ⟨z, rfl, hz, hB⟩

theorem turnLess_any (t : List Nat) (pt : Option Addr) (ct g1 g2 a b m2 n : Nat) (w0 : World) (hx1 : Rd w0 (some ⟨g1, 0, none⟩) [.slice pt m2 ct]) (hx2 : Rd w0 (some ⟨g2, 0, none⟩) [.int .i64 (n : Int)]) (hr : Rd w0 pt (yv (t ++ t))) (hm2 : m2 = t.length + t.length) (hct : m2 ≤ ct) (hn : t.length = n) (ha : a < n) (hb : b < n) (hn2 : n ≤ 64) (h256 : ∀ x ∈ t, x < 256) :
    CallsV Try.prog 37 #[.int .i64 (a : Int), .int .i64 (b : Int), .pointer (some ⟨g1, 0, none⟩), .pointer (some ⟨g2, 0, none⟩)] w0 (fun v w => ∃ z : Int, v = .int .i64 z ∧ (z < 0 ↔ rk t a < rk t b) ∧ Below w0.heap.size w0 w) := by
  refine enter1 Try.func37 rfl Try.ntmps37 (by simp) rfl ?_
  have hB := Below.refl w0.heap.size w0
  simp only [argLoc, Nat.zero_add]
  have hM := Mem.nil w0 w0.heap.size
  subst hn
  refine W.seqR ?_
  refine LS.vv rfl rfl (by decide) (Val.cast (v := .int .i64 ((0 : Nat) : Int)) (Val.assign rfl) rfl) ?_
  refine LS.nil ?_
  refine W.seqF 14 [(0, true), (1, true), (2, true), (3, true), (4, true), (5, true), (6, true), (7, true), (8, true), (9, true), (10, true), (11, true), (12, false), (13, true)] mixed (by kernel_rfl) hB hM ?_
  replace hB := hB.drew
  replace hM := hM.drew
  refine DF.vv rfl rfl rfl (by decide) (Val.loadBox flat22 rfl ((fun _ h => hx1.below h.1))) ?_
  refine DF.vv rfl rfl rfl (by decide) (Val.move rfl) ?_
  refine DF.vv rfl rfl rfl (by decide) (Val.move rfl) ?_
  refine DF.vv rfl rfl rfl (by decide) (Val.loadBox flat3 rfl ((fun _ h => hx2.below h.1))) ?_
  first | refine DF.vv rfl rfl rfl (by decide) (Val.addN rfl rfl (by omega)) ?_ | refine DF.vv rfl rfl rfl (by decide) (Val.add64 rfl rfl (by omega)) ?_
  refine DF.vv rfl rfl rfl (by decide) (Val.sliceFromTo Try.underlying22 elem5 rfl rfl rfl (by omega) (by omega)) ?_
  refine DF.vv rfl rfl rfl (by decide) (Val.loadBox flat22 rfl ((fun _ h => hx1.below h.1))) ?_
  refine DF.vv rfl rfl rfl (by decide) (Val.move rfl) ?_
  refine DF.vv rfl rfl rfl (by decide) (Val.move rfl) ?_
  refine DF.vv rfl rfl rfl (by decide) (Val.loadBox flat3 rfl ((fun _ h => hx2.below h.1))) ?_
  first | refine DF.vv rfl rfl rfl (by decide) (Val.addN rfl rfl (by omega)) ?_ | refine DF.vv rfl rfl rfl (by decide) (Val.add64 rfl rfl (by omega)) ?_
  refine DF.vv rfl rfl rfl (by decide) (Val.sliceFromTo Try.underlying22 elem5 rfl rfl rfl (by omega) (by omega)) ?_
  refine DF.m rfl rfl (Step.call body38 rfl rfl (by decide) rfl (CallsV.mono (bytesCmp_any (rot t a) (rot t b) _ _ _ _ _ _ _ (rd_rot (hr.below hB) (by omega) ha) (rd_rot (hr.below hB) (by omega) hb) (by rw [rot_len (by omega)]; omega) (by rw [rot_len (by omega)]; omega) (by omega) (rot_256 h256 a) (rot_256 h256 b)) ?_))
  rintro _ w1 ⟨z, rfl, hz, hb1⟩
  replace hM := hM.below hb1
  replace hB := hB.trans (hb1.mono hB.size)
  refine ⟨fun _ => ⟨hB, hM⟩, ?_⟩
  refine DF.vv rfl rfl rfl (by decide) (Val.assign rfl) ?_
  refine DF.nil ?_
  refine W.ret ?_
  refine ret1 (by first | exact .inl rfl | exact .inr rfl) rfl ?_
  exact ⟨z, rfl, hz, hB⟩

theorem indexZ_any (l : List Nat) (m c x : Nat) (p : Option Addr) (w0 : World) (hr : Rd w0 p (nv l)) (hm : l.length = m) (hl : m ≤ 1000) :
    CallsV Try.prog 39 #[.slice p m c, .int .i64 (x : Int)] w0 (fun v w => ∃ z : Int, v = .int .i64 z ∧ ((z = -1 ∧ ∀ j, j < m → gn l j ≠ x) ∨ ∃ k : Nat, z = (k : Int) ∧ k < m ∧ gn l k = x) ∧ Below w0.heap.size w0 w) := by
  refine enter1 Try.func39 rfl Try.ntmps39 (by simp) rfl ?_
  have hB := Below.refl w0.heap.size w0
  simp only [argLoc, Nat.zero_add]
  have hM := Mem.nil w0 w0.heap.size
  subst hm
  refine W.seqR ?_
  refine LS.vv rfl rfl (by decide) (Val.cast (v := .int .i64 ((0 : Nat) : Int)) (Val.assign rfl) rfl) ?_
  refine LS.nil ?_
  refine W.seq ?_
  refine W.seqR ?_
  refine LS.vv rfl rfl (by decide) (Val.move rfl) ?_
  refine LS.vv rfl rfl (by decide) (Val.len Try.underlying33 rfl) ?_
  refine LS.vv rfl rfl (by decide) (Val.cast (v := .int .i64 ((0 : Nat) : Int)) (Val.move rfl) rfl) ?_
  refine LS.nil ?_
  refine W.block ?_
  refine W.loop (α := Nat) (fun k => [(8, .int .i64 (k : Int))]) [(0, _), (1, _), (7, _)] (fun k w => (k ≤ l.length ∧ ∀ j, j < k → gn l j ≠ x) ∧ Mem w w0.heap.size [] ∧ Below w0.heap.size w0 w) (fun k => l.length - k) (0) (Sub.cons rfl (Sub.nil _)) (Sub.cons rfl (Sub.cons rfl (Sub.cons rfl (Sub.nil _)))) ?_ ?_
  · exact ⟨⟨Nat.zero_le _, by omega⟩, hM, hB⟩
  rintro k w1 ⟨⟨hk, hall⟩, hM, hB⟩
  try simp only at hM
  simp only [List.cons_append, List.nil_append]
  refine W.seqR ?_
  refine LS.vv rfl rfl (by decide) (Val.lss rfl rfl) ?_
  refine LS.nil ?_
  refine W.seq ?_
  first | refine W.condD rfl (fun hc1 => ?_) (fun hc1 => ?_) | refine W.cond rfl (fun hc1 => ?_) (fun hc1 => ?_)
  ·
    refine W.skip ?_
    refine thenP_normal ?_
    refine W.seq ?_
    refine W.block ?_
    refine W.seqR ?_
    refine LS.vv rfl rfl (by decide) (Val.move rfl) ?_
    refine LS.vv rfl rfl (by decide) (Val.assign rfl) ?_
    refine LS.nil ?_
    refine W.seqR ?_
    refine LS.vv rfl rfl (by decide) (Val.move rfl) ?_
    refine LS.vv rfl rfl (by decide) (Val.move rfl) ?_
    refine LS.vv rfl rfl (by decide) (Val.move rfl) ?_
    refine LS.vv rfl rfl (by decide) (Val.index1 Try.underlying33 elem3 rfl rfl (by omega) ((hr.below hB)) (nv_lt (by omega))) ?_
    refine LS.m rfl (Step.load rfl rfl (by decide) flat3 rfl ((hr.below hB)) (nv_at (by omega)) ?_)
    refine LS.vv rfl rfl (by decide) (Val.eql rfl rfl) ?_
    refine LS.nil ?_
    first | refine W.condD rfl (fun hc2 => ?_) (fun hc2 => ?_) | refine W.cond rfl (fun hc2 => ?_) (fun hc2 => ?_)
    ·
      refine W.seqR ?_
      refine LS.vv rfl rfl (by decide) (Val.move rfl) ?_
      refine LS.vv rfl rfl (by decide) (Val.assign rfl) ?_
      refine LS.nil ?_
      refine W.ret ?_
      refine inBlk_ret ?_
      refine thenP_ret ?_
      refine thenP_ret ?_
      refine inBlk_ret ?_
      refine thenP_ret ?_
      refine ret1 (by first | exact .inl rfl | exact .inr rfl) rfl ?_
      first
        | exact ⟨(k : Int), rfl, .inr ⟨k, rfl, by omega, by omega⟩, hB⟩
        | exact ⟨-1, rfl, .inl ⟨rfl, fun j hj => hall j (by omega)⟩, hB⟩
    ·
      refine W.skip ?_
      refine inBlk_normal ?_
      refine thenP_normal ?_
      refine W.reg ?_
      first | refine LS.vv rfl rfl (by decide) (Val.addN (j := 1) rfl rfl (by omega)) ?_ | refine LS.vv rfl rfl (by decide) (Val.add64 rfl rfl (by omega)) ?_
      refine LS.vv rfl rfl (by decide) (Val.move rfl) ?_
      refine LS.nil ?_
      refine thenP_normal ?_
      refine ⟨k + 1, (Sub.cons rfl (Sub.nil _)), (by repeat (first | exact Sub.nil _ | refine Sub.cons rfl ?_)), ⟨⟨by omega, fun j hj => ?_⟩, hM, hB⟩, by omega⟩
      by_cases e : j = k
      · subst e; omega
      · exact hall j (by omega)
  ·
    refine W.exit ?_
    refine thenP_exit ?_
    refine thenP_exit ?_
    refine inBlk_exit ?_
    refine thenP_normal ?_
    refine W.seqR ?_
    refine LS.vv rfl rfl (by decide) (Val.assign rfl) ?_
    refine LS.nil ?_
    refine W.ret ?_
    refine ret1 (by first | exact .inl rfl | exact .inr rfl) rfl ?_
    first
      | exact ⟨(k : Int), rfl, .inr ⟨k, rfl, by omega, by omega⟩, hB⟩
      | exact ⟨-1, rfl, .inl ⟨rfl, fun j hj => hall j (by omega)⟩, hB⟩

theorem turn_any (t : List Nat) (p : Option Addr) (c m : Nat) (w0 : World) (hr : Rd w0 p (yv t)) (hm : t.length = m) (h256 : ∀ x ∈ t, x < 256) (hmx : m ≤ 9223372036854775807) :
    CallsV Try.prog 19 #[.slice p m c] w0 (fun v w => ∃ (p2 : Option Addr) (c2 : Nat) (l : List Nat) (a e : Nat), v = .tuple #[.slice p2 l.length c2, .int .i64 (a : Int), .int .i64 (e : Int)] ∧ Own w w0.heap.size 5 p2 l.length c2 (yv l) ∧ (e = 0 ↔ m ≤ 64) ∧ (e = 0 → Turned t l a) ∧ Below w0.heap.size w0 w) := by
  refine enter3 Try.func19 rfl Try.ntmps19 (by simp) rfl ?_
  have hB := Below.refl w0.heap.size w0
  simp only [argLoc]
  have hM := Mem.nil w0 w0.heap.size
  subst hm
  refine W.seqR ?_
  refine LS.vv rfl rfl (by decide) (Val.assign rfl) ?_
  refine LS.vv rfl rfl (by decide) (Val.cast (v := .int .i64 ((0 : Nat) : Int)) (Val.assign rfl) rfl) ?_
  refine LS.vv rfl rfl (by decide) (Val.cast (v := .int .i64 ((0 : Nat) : Int)) (Val.assign rfl) rfl) ?_
  refine LS.nil ?_
  refine W.seq ?_
  refine W.seqR ?_
  refine LS.vv rfl rfl (by decide) (Val.move rfl) ?_
  refine LS.vv rfl rfl (by decide) (Val.len Try.underlying22 rfl) ?_
  refine LS.vv rfl rfl (by decide) (Val.gtr rfl rfl) ?_
  refine LS.nil ?_
  first | refine W.condD rfl (fun hc1 => ?_) (fun hc1 => ?_) | refine W.cond rfl (fun hc1 => ?_) (fun hc1 => ?_)
  ·
    refine W.seqR ?_
    refine LS.vv rfl rfl (by decide) (Val.assign rfl) ?_
    refine LS.vv rfl rfl (by decide) (Val.cast (v := .int .i64 ((0 : Nat) : Int)) (Val.assign rfl) rfl) ?_
    refine LS.vv rfl rfl (by decide) (Val.cast (v := .int .i64 ((1 : Nat) : Int)) (Val.assign rfl) rfl) ?_
    refine LS.nil ?_
    refine W.ret ?_
    refine thenP_ret ?_
    refine ret3 (by first | exact .inl rfl | exact .inr rfl) rfl rfl rfl ?_
    first
      | (refine ⟨none, 0, [], 0, 1, rfl, Own.nil _ _ _, ⟨fun h => by omega, fun h => by omega⟩, fun h => by omega, hB⟩; done)
      | (obtain rfl : k2 = t.length := (by omega)
         rw [List.take_of_length_le (by omega)] at hM
         have hll : (lastOf t ord).length = t.length := by rw [lastOf, List.length_map]; exact hol
         rcases hz with ⟨rfl, h1⟩ | ⟨q, rfl, h1, h2⟩
         · refine ⟨p2, c2, lastOf t ord, 0, 0, by rw [hll]; rfl, by rw [hll]; exact hM.o0, ⟨fun _ => h64, fun _ => rfl⟩, fun _ => ⟨ord, hO, rfl, fun _ => rfl, fun h0 => ?_⟩, hB⟩
           obtain ⟨j, hj, e⟩ := List.mem_iff_getElem.1 (ho1.mem_iff.2 (List.mem_range.2 h0))
           rw [← gn_lt hj] at e
           exact absurd e (h1 j (by omega))
         · refine ⟨p2, c2, lastOf t ord, q, 0, by rw [hll, if_neg (show ¬ (q : Int) < 0 by omega)], by rw [hll]; exact hM.o0, ⟨fun _ => h64, fun _ => rfl⟩, fun _ => ⟨ord, hO, rfl, fun h0 => by omega, fun _ => ⟨h1, h2⟩⟩, hB⟩)
  ·
    refine W.skip ?_
    refine thenP_normal ?_
    refine W.seqR ?_
    refine LS.vv rfl rfl (by decide) (Val.move rfl) ?_
    refine LS.vv rfl rfl (by decide) (Val.len Try.underlying22 rfl) ?_
    refine LS.m rfl (Step.alloc rfl rfl (by decide) elem3 rfl (by decide) ?_)
    rintro w1 hO1 hg1 hbl1 hsz1
    replace hM := hM.add hB.size hbl1 hO1
    replace hB := hB.trans (hbl1.mono hB.size)
    skip
    refine LS.m rfl (Step.storeBox (B := w0.heap.size) rfl rfl flat3 elem3 rfl rfl rfl (hM.o0) hB.size ?_)
    rintro w2 hO2 hg2 hbl2 hsz2
    replace hM := hM.s0 hg2 hO2 inl_block
    replace hB := hB.trans hbl2
    refine LS.nil ?_
    refine W.seqR ?_
    refine LS.vv rfl rfl (by decide) (Val.move rfl) ?_
    refine LS.vv rfl rfl (by decide) (Val.move rfl) ?_
    refine LS.m rfl (Step.lit rfl rfl (by decide) Try.underlying62 elem22 rfl rfl (by omega) (by simp [Value.oneCell']) (Nat.le_refl _) ?_)
    rintro w3 hO3 hg3 hbl3 hsz3
    replace hM := hM.add hB.size hbl3 hO3
    replace hB := hB.trans (hbl3.mono hB.size)
    generalize w2.heap.size = gg3 at *
    have h64 : t.length ≤ 64 := by omega
    refine LS.m rfl (Step.call body35 rfl rfl (by decide) rfl (CallsV.mono (concat2_u8 t t _ _ _ _ _ _ _ _ _ hM.o0.rd (hr.below hB) (hr.below hB) rfl rfl (by omega)) ?_))
    rintro _ w4 ⟨pc, cc, rfl, hOc, hb4⟩
    replace hM := hM.add hB.size hb4 hOc
    replace hB := hB.trans (hb4.mono hB.size)
    refine LS.m rfl (Step.alloc rfl rfl (by decide) elem22 rfl (by decide) ?_)
    rintro w5 hO5 hg5 hbl5 hsz5
    replace hM := hM.add hB.size hbl5 hO5
    replace hB := hB.trans (hbl5.mono hB.size)
    generalize w4.heap.size = gg5 at *
    refine LS.m rfl (Step.storeBox (B := w0.heap.size) rfl rfl flat22 elem22 rfl rfl rfl (hM.o0) hB.size ?_)
    rintro w6 hO6 hg6 hbl6 hsz6
    replace hM := hM.s0 hg6 hO6 inl_block
    replace hB := hB.trans hbl6
    refine LS.nil ?_
    refine W.seqR ?_
    refine LS.vv rfl rfl (by decide) (Val.assign rfl) ?_
    refine LS.nil ?_
    refine W.seq ?_
    refine W.seqR ?_
    refine LS.m rfl (Step.loadBox rfl rfl (by decide) flat3 rfl (hM.o3.rd) ?_)
    refine LS.vv rfl rfl (by decide) (Val.cast (v := .int .i64 ((0 : Nat) : Int)) (Val.move rfl) rfl) ?_
    refine LS.nil ?_
    refine W.block ?_
    replace hM := hM.addNil 3
    replace hM := hM.er3.sw2
    refine W.loop (α := Nat × Option Addr × Nat) (fun g => [(7, .slice g.2.1 g.1 g.2.2), (22, .int .i64 (g.1 : Int))]) [(5, _), (6, _), (21, _)] (fun g w => (g.1 ≤ t.length) ∧ Mem w w0.heap.size [⟨3, g.2.1, g.1, g.2.2, nv (List.range g.1)⟩, ⟨22, some ⟨gg5, 0, none⟩, 1, 1, [.slice pc (t.length + t.length) cc]⟩, ⟨3, some ⟨w0.heap.size, 0, none⟩, 1, 1, [.int .i64 (t.length : Int)]⟩, ⟨5, pc, t.length + t.length, cc, yv (t ++ t)⟩] ∧ Below w0.heap.size w0 w) (fun g => t.length - g.1) ((0, none, 0)) (Sub.cons rfl (Sub.cons rfl (Sub.nil _))) (Sub.cons rfl (Sub.cons rfl (Sub.cons rfl (Sub.nil _)))) ?_ ?_
    · exact ⟨Nat.zero_le _, hM, hB⟩
    rintro ⟨k, p1, c1⟩ w7 ⟨hk, hM, hB⟩
    try simp only at hM
    simp only [List.cons_append, List.nil_append]
    simp only at hk
    refine W.seqR ?_
    refine LS.vv rfl rfl (by decide) (Val.lss rfl rfl) ?_
    refine LS.nil ?_
    refine W.seq ?_
    first | refine W.condD rfl (fun hc2 => ?_) (fun hc2 => ?_) | refine W.cond rfl (fun hc2 => ?_) (fun hc2 => ?_)
    ·
      refine W.skip ?_
      refine thenP_normal ?_
      refine W.seq ?_
      refine W.block ?_
      refine W.seqR ?_
      refine LS.vv rfl rfl (by decide) (Val.move rfl) ?_
      refine LS.vv rfl rfl (by decide) (Val.assign rfl) ?_
      refine LS.nil ?_
      refine W.reg ?_
      refine LS.vv rfl rfl (by decide) (Val.move rfl) ?_
      refine LS.vv rfl rfl (by decide) (Val.move rfl) ?_
      refine LS.m rfl (Step.lit rfl rfl (by decide) Try.underlying33 elem3 rfl rfl (by omega) (by simp [Value.oneCell']) (Nat.le_refl _) ?_)
      rintro w8 hO8 hg8 hbl8 hsz8
      replace hM := hM.add hB.size hbl8 hO8
      replace hB := hB.trans (hbl8.mono hB.size)
      generalize w7.heap.size = gg8 at *
      refine LS.m rfl (Step.append2 (B := w0.heap.size) rfl rfl (by decide) Try.underlying33 elem3 rfl rfl rfl rfl (hM.o1) (hM.o0.rd) (by first | rfl | (simp; done) | (simp; omega)) (by first | exact one_map _ (fun _ => rfl) _ | simp [Value.oneCell']) (by omega) (by omega) hB.size ?_)
      rintro p9 c9 w9 hO9 hg9 hbl9 hbk9
      replace hM := hM.s1 hg9 hO9 hbk9
      replace hM := hM.tail
      try simp only [nv_app1, nv_app, nv_set, nv_rep, nv_one, nv_cons, nv_take, nv_drop, List.nil_append] at hM
      replace hB := hB.trans hbl9
      refine LS.vv rfl rfl (by decide) (Val.assign rfl) ?_
      refine LS.nil ?_
      refine inBlk_normal ?_
      refine thenP_normal ?_
      refine W.reg ?_
      first | refine LS.vv rfl rfl (by decide) (Val.addN (j := 1) rfl rfl (by omega)) ?_ | refine LS.vv rfl rfl (by decide) (Val.add64 rfl rfl (by omega)) ?_
      refine LS.vv rfl rfl (by decide) (Val.move rfl) ?_
      refine LS.nil ?_
      refine thenP_normal ?_
      refine ⟨(k + 1, p9, c9), ?_, ?_, ⟨by simp only; omega, ?_, hB⟩, by simp only; omega⟩
      · exact (Sub.cons rfl (Sub.cons rfl (Sub.nil _)))
      · repeat (first | exact Sub.nil _ | refine Sub.cons rfl ?_)
      · simp only [List.range_succ]; exact hM
    ·
      refine W.exit ?_
      refine thenP_exit ?_
      refine thenP_exit ?_
      refine inBlk_exit ?_
      refine thenP_normal ?_
      refine W.seqR ?_
      refine LS.vv rfl rfl (by decide) (Val.move rfl) ?_
      refine LS.vv rfl rfl (by decide) (Val.makeFunc rfl) ?_
      obtain rfl : k = t.length := by omega
      have hcc := hM.o3.le_cap
      refine LS.m rfl (Step.call body36 rfl rfl (by decide) rfl (CallsV.mono (sortStable_any (rk t) 37 _ _ _ _ _ _ _ _ hM hB.size (⟨body37, fun x y w hx hy hL hB2 => hL.elim fun L9 h9 => turnLess_any t pc cc _ _ x y _ t.length w h9.o1.rd h9.o2.rd h9.o3.rd rfl hcc rfl hx hy h64 h256⟩) (Below.refl _ _) h64) ?_))
      rintro _ w10 ⟨ord, rfl, hM10, ho1, ho2, hb10⟩
      replace hM := hM10
      replace hB := hB.trans hb10
      have hO : Ordd2 (rk t) t.length ord := ⟨ho1, ho2⟩
      have hol := hO.len
      refine LS.nil ?_
      refine W.seqR ?_
      refine LS.vv rfl rfl (by decide) (Val.assign rfl) ?_
      refine LS.nil ?_
      refine W.seq ?_
      refine W.seqR ?_
      refine LS.vv rfl rfl (by decide) (Val.move rfl) ?_
      refine LS.vv rfl rfl (by decide) (Val.len Try.underlying33 rfl) ?_
      refine LS.vv rfl rfl (by decide) (Val.cast (v := .int .i64 ((0 : Nat) : Int)) (Val.move rfl) rfl) ?_
      refine LS.nil ?_
      refine W.block ?_
      replace hM := hM.addNil 5
      refine W.loop (α := Nat × Option Addr × Nat) (fun g => [(9, .slice g.2.1 g.1 g.2.2), (35, .int .i64 (g.1 : Int))]) [(5, _), (6, _), (7, _), (33, _), (34, _)] (fun g w => (g.1 ≤ t.length) ∧ Mem w w0.heap.size [⟨5, g.2.1, g.1, g.2.2, yv (lastOf t (ord.take g.1))⟩, ⟨3, p1, t.length, c1, nv ord⟩, ⟨22, some ⟨gg5, 0, none⟩, 1, 1, [.slice pc (t.length + t.length) cc]⟩, ⟨3, some ⟨w0.heap.size, 0, none⟩, 1, 1, [.int .i64 (t.length : Int)]⟩, ⟨5, pc, t.length + t.length, cc, yv (t ++ t)⟩] ∧ Below w0.heap.size w0 w) (fun g => t.length - g.1) ((0, none, 0)) (Sub.cons rfl (Sub.cons rfl (Sub.nil _))) (Sub.cons rfl (Sub.cons rfl (Sub.cons rfl (Sub.cons rfl (Sub.cons rfl (Sub.nil _)))))) ?_ ?_
      · exact ⟨Nat.zero_le _, hM, hB⟩
      rintro ⟨k2, p2, c2⟩ w11 ⟨hk2, hM, hB⟩
      try simp only at hM
      simp only [List.cons_append, List.nil_append]
      simp only at hk2
      have htt : (t ++ t).length = t.length + t.length := List.length_append
      refine W.seqR ?_
      refine LS.vv rfl rfl (by decide) (Val.lss rfl rfl) ?_
      refine LS.nil ?_
      refine W.seq ?_
      first | refine W.condD rfl (fun hc3 => ?_) (fun hc3 => ?_) | refine W.cond rfl (fun hc3 => ?_) (fun hc3 => ?_)
      ·
        have hok := hO.lt (k := k2) (by omega)
        refine W.skip ?_
        refine thenP_normal ?_
        refine W.seq ?_
        refine W.block ?_
        refine W.seqR ?_
        refine LS.vv rfl rfl (by decide) (Val.index1 Try.underlying33 elem3 rfl rfl (by omega) (hM.o1.rd) (nv_lt (by omega))) ?_
        refine LS.m rfl (Step.load rfl rfl (by decide) flat3 rfl (hM.o1.rd) (nv_at (by omega)) ?_)
        refine LS.vv rfl rfl (by decide) (Val.assign rfl) ?_
        refine LS.nil ?_
        refine W.reg ?_
        refine LS.vv rfl rfl (by decide) (Val.move rfl) ?_
        refine LS.m rfl (Step.loadBox rfl rfl (by decide) flat22 rfl (hM.o2.rd) ?_)
        refine LS.vv rfl rfl (by decide) (Val.move rfl) ?_
        refine LS.m rfl (Step.loadBox rfl rfl (by decide) flat3 rfl (hM.o3.rd) ?_)
        first | refine LS.vv rfl rfl (by decide) (Val.addN rfl rfl (by omega)) ?_ | refine LS.vv rfl rfl (by decide) (Val.add64 rfl rfl (by omega)) ?_
        first | refine LS.vv rfl rfl (by decide) (Val.subN (j := 1) rfl rfl (by omega) (by omega)) ?_ | refine LS.vv rfl rfl (by decide) (Val.sub64 rfl rfl (by omega)) ?_
        refine LS.vv rfl rfl (by decide) (Val.index1 Try.underlying22 elem5 rfl rfl (by omega) (hM.o4.rd) (yv_lt (by omega))) ?_
        refine LS.m rfl (Step.load rfl rfl (by decide) flat5 rfl (hM.o4.rd) (yv_at (by omega)) ?_)
        refine LS.m rfl (Step.lit rfl rfl (by decide) Try.underlying22 elem5 rfl rfl (by omega) (by simp [Value.oneCell']) (Nat.le_refl _) ?_)
        rintro w12 hO12 hg12 hbl12 hsz12
        replace hM := hM.add hB.size hbl12 hO12
        replace hB := hB.trans (hbl12.mono hB.size)
        generalize w11.heap.size = gg12 at *
        refine LS.m rfl (Step.append2 (B := w0.heap.size) rfl rfl (by decide) Try.underlying22 elem5 rfl rfl rfl rfl (hM.o1) (hM.o0.rd) (by first | rfl | (simp; done) | (simp; omega)) (by first | exact one_map _ (fun _ => rfl) _ | simp [Value.oneCell']) (by omega) (by omega) hB.size ?_)
        rintro p13 c13 w13 hO13 hg13 hbl13 hbk13
        replace hM := hM.s1 hg13 hO13 hbk13
        replace hM := hM.tail
        try simp only [yv_app1, yv_app, yv_set, yv_rep, yv_one, yv_cons, yv_take, yv_drop, List.nil_append] at hM
        replace hB := hB.trans hbl13
        refine LS.vv rfl rfl (by decide) (Val.assign rfl) ?_
        refine LS.nil ?_
        refine inBlk_normal ?_
        refine thenP_normal ?_
        refine W.reg ?_
        first | refine LS.vv rfl rfl (by decide) (Val.addN (j := 1) rfl rfl (by omega)) ?_ | refine LS.vv rfl rfl (by decide) (Val.add64 rfl rfl (by omega)) ?_
        refine LS.vv rfl rfl (by decide) (Val.move rfl) ?_
        refine LS.nil ?_
        refine thenP_normal ?_
        rw [← lastOf_succ (by omega)] at hM
        refine ⟨(k2 + 1, p13, c13), ?_, ?_, ⟨by simp only; omega, hM, hB⟩, by simp only; omega⟩
        · exact (Sub.cons rfl (Sub.cons rfl (Sub.nil _)))
        · repeat (first | exact Sub.nil _ | refine Sub.cons rfl ?_)
      ·
        refine W.exit ?_
        refine thenP_exit ?_
        refine thenP_exit ?_
        refine inBlk_exit ?_
        refine thenP_normal ?_
        refine W.seqR ?_
        refine LS.vv rfl rfl (by decide) (Val.move rfl) ?_
        refine LS.vv rfl rfl (by decide) (Val.move rfl) ?_
        refine LS.m rfl (Step.call body39 rfl rfl (by decide) rfl (CallsV.mono (indexZ_any ord _ _ 0 _ _ hM.o1.rd hol (by omega)) ?_))
        rintro _ w14 ⟨z, rfl, hz, hb14⟩
        replace hM := hM.below hb14
        replace hB := hB.trans (hb14.mono hB.size)
        first | refine LS.vv rfl rfl (by decide) (Val.maxN rfl rfl) ?_ | refine LS.vv rfl rfl (by decide) (Val.max rfl rfl) ?_
        refine LS.vv rfl rfl (by decide) (Val.assign rfl) ?_
        refine LS.vv rfl rfl (by decide) (Val.assign rfl) ?_
        refine LS.vv rfl rfl (by decide) (Val.cast (v := .int .i64 ((0 : Nat) : Int)) (Val.assign rfl) rfl) ?_
        refine LS.nil ?_
        refine W.ret ?_
        refine ret3 (by first | exact .inl rfl | exact .inr rfl) rfl rfl rfl ?_
        first
          | (refine ⟨none, 0, [], 0, 1, rfl, Own.nil _ _ _, ⟨fun h => by omega, fun h => by omega⟩, fun h => by omega, hB⟩; done)
          | (obtain rfl : k2 = t.length := (by omega)
             rw [List.take_of_length_le (by omega)] at hM
             have hll : (lastOf t ord).length = t.length := by rw [lastOf, List.length_map]; exact hol
             rcases hz with ⟨rfl, h1⟩ | ⟨q, rfl, h1, h2⟩
             · refine ⟨p2, c2, lastOf t ord, 0, 0, by rw [hll]; rfl, by rw [hll]; exact hM.o0, ⟨fun _ => h64, fun _ => rfl⟩, fun _ => ⟨ord, hO, rfl, fun _ => rfl, fun h0 => ?_⟩, hB⟩
               obtain ⟨j, hj, e⟩ := List.mem_iff_getElem.1 (ho1.mem_iff.2 (List.mem_range.2 h0))
               rw [← gn_lt hj] at e
               exact absurd e (h1 j (by omega))
             · refine ⟨p2, c2, lastOf t ord, q, 0, by rw [hll, if_neg (show ¬ (q : Int) < 0 by omega)], by rw [hll]; exact hM.o0, ⟨fun _ => h64, fun _ => rfl⟩, fun _ => ⟨ord, hO, rfl, fun h0 => by omega, fun _ => ⟨h1, h2⟩⟩, hB⟩)

end Go.Proofs.Ytcoplafphgpmpaa
