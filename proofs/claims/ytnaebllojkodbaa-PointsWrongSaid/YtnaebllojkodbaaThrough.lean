/-
  points.through.
-/
import Derived.Test.YtnaebllojkodbaaPoints
import Derived.Test.YtnaebllojkodbaaPoints2Plain
namespace Go.Proofs.Ytnaebllojkodbaa
open Go Go.RowKit V
set_option linter.unusedVariables false
set_option linter.unusedSimpArgs false

attribute [local irreducible] fmul
theorem nv_zeros (n : Nat) : List.replicate n (Value.int .i64 0) = nv (List.replicate n 0) := by simp [nv]
theorem gn_zn {zs : List Int} {i : Nat} (hi : i < zs.length) (h0 : 0 ≤ gz zs i) : gz zs i = (gn (zs.map Int.toNat) i : Int) := by
  unfold gn gz at *
  simp [hi] at h0 ⊢
  omega
theorem gn_zs {zs : List Int} (h : ∀ k, gz zs k < 16) (k : Nat) : gn (zs.map Int.toNat) k < 16 := by
  have := h k
  unfold gn gz at *
  rw [List.getD_eq_getElem?_getD] at *
  rw [List.getElem?_map]
  cases hz : zs[k]? with
  | none => simp
  | some z => rw [hz] at this; simp at this ⊢; omega
theorem gn_in {l : List Nat} {k : Nat} (h : k < l.length) : gn l k ∈ l := by rw [gn_lt h]; exact List.getElem_mem h

set_option maxHeartbeats 2000000 in
theorem through_any (zs : List Int) (ps : List Nat) (p q : Option Addr) (c d m n : Nat) (w0 : World) (hr1 : Rd w0 p (iv zs)) (hr2 : Rd w0 q (nv ps)) (hm : zs.length = m) (hn : ps.length = n) (hm9 : m ≤ 9) (hn9 : n ≤ 9) (hpm : ∀ j ∈ ps, j < m) (hnd : ps.Nodup) (hz0 : ∀ j ∈ ps, 0 ≤ gz zs j) (hs : ∀ k, gz zs k < 16) :
    CallsV Try.prog 38 #[.slice p m c, .slice q n d] w0 (fun v w => ∃ (p2 : Option Addr) (c2 : Nat), v = .slice p2 n c2 ∧ V.Own w w0.heap.size 3 p2 n c2 (nv (through (zs.map Int.toNat) ps)) ∧ Below w0.heap.size w0 w) := by
  refine enter1 Try.func38 rfl Try.ntmps38 (by simp) rfl ?_
  have hB := Below.refl w0.heap.size w0
  simp only [argLoc, Nat.zero_add]
  have hM := Mem.nil w0 w0.heap.size
  subst hm
  subst hn
  have hp15 : ∀ j ∈ ps, j < 15 := fun j hj => by have := hpm j hj; omega
  have hzs := gn_zs hs
  refine W.seqR ?_
  refine LS.vv rfl rfl (by decide) (Val.assign rfl) ?_
  refine LS.nil ?_
  refine W.seqR ?_
  refine LS.vv rfl rfl (by decide) (Val.move rfl) ?_
  refine LS.vv rfl rfl (by decide) (Val.len Try.underlying27 rfl) ?_
  refine LS.m rfl (Step.make rfl rfl (by decide) Try.underlying27 elem3 rfl rfl rfl (by omega) (by omega) (Nat.le_refl _) ?_)
  rintro w1 hO1 hg1 hbl1
  replace hM := hM.add hB.size hbl1 hO1
  try simp only [nv_app1, nv_app, nv_set, nv_rep, nv_one, nv_cons, nv_take, nv_drop, List.nil_append] at hM
  replace hB := hB.trans (hbl1.mono hB.size)
  skip
  refine LS.vv rfl rfl (by decide) (Val.assign rfl) ?_
  refine LS.nil ?_
  refine W.seq ?_
  refine W.seqR ?_
  refine LS.vv rfl rfl (by decide) (Val.move rfl) ?_
  refine LS.vv rfl rfl (by decide) (Val.len Try.underlying27 rfl) ?_
  refine LS.vv rfl rfl (by decide) (Val.cast (v := .int .i64 ((0 : Nat) : Int)) (Val.move rfl) rfl) ?_
  refine LS.nil ?_
  refine W.block ?_
  refine W.loop (α := Nat) (fun x => [(22, .int .i64 (x : Int))]) [(0, _), (1, _), (5, _), (20, _), (21, _)] (fun x w => (x ≤ ps.length) ∧ Mem w w0.heap.size [⟨3, some ⟨w0.heap.size, 0, none⟩, ps.length, ps.length, nv (thr (zs.map Int.toNat) ps (ps.take x) (List.replicate ps.length 0))⟩] ∧ Below w0.heap.size w0 w) (fun x => ps.length - x) (0) (Sub.cons rfl (Sub.nil _)) (Sub.cons rfl (Sub.cons rfl (Sub.cons rfl (Sub.cons rfl (Sub.cons rfl (Sub.nil _)))))) ?_ ?_
  · exact ⟨Nat.zero_le _, hM, hB⟩
  rintro x w2 ⟨hx, hM, hB⟩
  try simp only at hM
  simp only [List.cons_append, List.nil_append]
  refine W.seqR ?_
  refine LS.vv rfl rfl (by decide) (Val.lss rfl rfl) ?_
  refine LS.nil ?_
  refine W.seq ?_
  first | refine W.condD rfl (fun hc1 => ?_) (fun hc1 => ?_) | refine W.cond rfl (fun hc1 => ?_) (fun hc1 => ?_)
  ·
    have hxm := gn_in (l := ps) (k := x) (by omega)
    have hx9 := hpm _ hxm
    have hgz := gn_zn hx9 (hz0 _ hxm)
    obtain ⟨hS1, hS2, _⟩ := thr_facts hp15 hnd hzs (ps := ps.take x) (sum := List.replicate ps.length 0) (fun j hj => List.mem_of_mem_take hj) (hnd.sublist (List.take_sublist _ _)) (small_zeros _) (by simp)
    refine W.skip ?_
    refine thenP_normal ?_
    refine W.seq ?_
    refine W.block ?_
    refine W.seqR ?_
    refine LS.vv rfl rfl (by decide) (Val.index1 Try.underlying27 elem3 rfl rfl (by omega) ((hr2.below hB)) (nv_lt (by omega))) ?_
    refine LS.m rfl (Step.load rfl rfl (by decide) flat3 rfl ((hr2.below hB)) (nv_at (by omega)) ?_)
    refine LS.vv rfl rfl (by decide) (Val.assign rfl) ?_
    refine LS.nil ?_
    refine W.seqR ?_
    refine LS.m rfl (Step.lit rfl rfl (by decide) Try.underlying27 elem3 rfl rfl (by omega) (by simp [Value.oneCell']) (Nat.le_refl _) ?_)
    rintro w3 hO3 hg3 hbl3 hsz3
    replace hM := hM.add hB.size hbl3 hO3
    try simp only [nv_app1, nv_app, nv_set, nv_rep, nv_one, nv_cons, nv_take, nv_drop, List.nil_append] at hM
    replace hB := hB.trans (hbl3.mono hB.size)
    generalize w2.heap.size = gg3 at *
    refine LS.vv rfl rfl (by decide) (Val.assign rfl) ?_
    refine LS.nil ?_
    refine W.seqR ?_
    refine LS.vv rfl rfl (by decide) (Val.move rfl) ?_
    refine LS.vv rfl rfl (by decide) (Val.move rfl) ?_
    refine LS.vv rfl rfl (by decide) (Val.index1 Try.underlying27 elem3 rfl rfl (by omega) ((hr1.below hB)) (iv_lt (by omega))) ?_
    refine LS.m rfl (Step.load rfl rfl (by decide) flat3 rfl ((hr1.below hB)) (iv_at (by omega)) ?_)
    rw [hgz]
    refine LS.vv rfl rfl (by decide) (Val.assign rfl) ?_
    refine LS.nil ?_
    refine W.seq ?_
    refine W.seqR ?_
    refine LS.vv rfl rfl (by decide) (Val.move rfl) ?_
    refine LS.vv rfl rfl (by decide) (Val.len Try.underlying27 rfl) ?_
    refine LS.vv rfl rfl (by decide) (Val.cast (v := .int .i64 ((0 : Nat) : Int)) (Val.move rfl) rfl) ?_
    refine LS.nil ?_
    refine W.block ?_
    refine W.loop (α := Nat × Option Addr × Nat) (fun g => [(8, .slice g.2.1 (ownp (gn ps x) (ps.take g.1) [1]).length g.2.2), (9, .int .i64 ((scp (gn ps x) (ps.take g.1) (gn (zs.map Int.toNat) (gn ps x))) : Int)), (33, .int .i64 (g.1 : Int))]) [(0, _), (1, _), (5, _), (7, _), (20, _), (21, _), (22, _), (31, _), (32, _)] (fun g w => (g.1 ≤ ps.length) ∧ Mem w w0.heap.size [⟨3, g.2.1, (ownp (gn ps x) (ps.take g.1) [1]).length, g.2.2, nv (ownp (gn ps x) (ps.take g.1) [1])⟩, ⟨3, some ⟨w0.heap.size, 0, none⟩, ps.length, ps.length, nv (thr (zs.map Int.toNat) ps (ps.take x) (List.replicate ps.length 0))⟩] ∧ Below w0.heap.size w0 w) (fun g => ps.length - g.1) ((0, some ⟨gg3, 0, none⟩, 1)) (Sub.cons rfl (Sub.cons rfl (Sub.cons rfl (Sub.nil _)))) (Sub.cons rfl (Sub.cons rfl (Sub.cons rfl (Sub.cons rfl (Sub.cons rfl (Sub.cons rfl (Sub.cons rfl (Sub.cons rfl (Sub.cons rfl (Sub.nil _)))))))))) ?_ ?_
    · exact ⟨Nat.zero_le _, hM, hB⟩
    rintro ⟨y, po, co⟩ w4 ⟨hy, hM, hB⟩
    try simp only at hM
    simp only [List.cons_append, List.nil_append]
    simp only at hy
    refine W.seqR ?_
    refine LS.vv rfl rfl (by decide) (Val.lss rfl rfl) ?_
    refine LS.nil ?_
    refine W.seq ?_
    first | refine W.condD rfl (fun hc2 => ?_) (fun hc2 => ?_) | refine W.cond rfl (fun hc2 => ?_) (fun hc2 => ?_)
    ·
      have hym := gn_in (l := ps) (k := y) (by omega)
      have hy9 := hpm _ hym
      obtain ⟨hO1s, hO1l⟩ := ownp_small (i := gn ps x) (k := y) hp15
      have hsc : (scp (gn ps x) (ps.take y) (gn (zs.map Int.toNat) (gn ps x))) < 16 := scp_lt (by omega) (fun j hj => hp15 j (List.mem_of_mem_take hj)) (hzs _)
      have hxx : (gn ps x + 1) ^^^ (gn ps y + 1) < 16 := x16 (by omega) (by omega)
      have hown1 := ownp_app (i := gn ps x) (ps := ps.take y) (own := [1]) (j := gn ps y)
      have hsca := scp_app (i := gn ps x) (s := gn (zs.map Int.toNat) (gn ps x)) (ps := ps.take y) (j := gn ps y)
      rw [← take_gn (by omega)] at hown1 hsca
      refine W.skip ?_
      refine thenP_normal ?_
      refine W.seq ?_
      refine W.block ?_
      refine W.seqR ?_
      refine LS.vv rfl rfl (by decide) (Val.index1 Try.underlying27 elem3 rfl rfl (by omega) ((hr2.below hB)) (nv_lt (by omega))) ?_
      refine LS.m rfl (Step.load rfl rfl (by decide) flat3 rfl ((hr2.below hB)) (nv_at (by omega)) ?_)
      refine LS.vv rfl rfl (by decide) (Val.assign rfl) ?_
      refine LS.nil ?_
      refine W.seq ?_
      refine W.seqR ?_
      refine LS.vv rfl rfl (by decide) (Val.move rfl) ?_
      refine LS.vv rfl rfl (by decide) (Val.move rfl) ?_
      refine LS.vv rfl rfl (by decide) (Val.eql rfl rfl) ?_
      refine LS.nil ?_
      first | refine W.condD rfl (fun hc3 => ?_) (fun hc3 => ?_) | refine W.cond rfl (fun hc3 => ?_) (fun hc3 => ?_)
      ·
        refine W.exit ?_
        refine thenP_exit ?_
        refine inBlk_exit ?_
        refine thenP_normal ?_
        refine W.reg ?_
        first | refine LS.vv rfl rfl (by decide) (Val.addN (j := 1) rfl rfl (by omega)) ?_ | refine LS.vv rfl rfl (by decide) (Val.add64 rfl rfl (by omega)) ?_
        refine LS.vv rfl rfl (by decide) (Val.move rfl) ?_
        refine LS.nil ?_
        refine thenP_normal ?_
        first
          | (have hij : gn ps y = gn ps x := by omega
             rw [if_pos hij] at hown1 hsca
             refine ⟨(y + 1, po, co), ?_, ?_, ⟨by simp only; omega, ?_, hB⟩, by simp only; omega⟩
             · exact Sub.cons' rfl (by simp only [hown1]) (Sub.cons' rfl (by simp only [hsca]) (Sub.cons rfl (Sub.nil _)))
             · repeat (first | exact Sub.nil _ | refine Sub.cons rfl ?_)
             · simp only [hown1]; exact hM)
          | (have hij : ¬ gn ps y = gn ps x := by omega
             rw [if_neg hij] at hown1 hsca
             obtain rfl : k = (ownp (gn ps x) (ps.take y) [1]).length := by omega
             rw [nxl_end (by omega) hO1s, ← hown1] at hM
             have hll : (ownp (gn ps x) (ps.take (y + 1)) [1]).length = (ownp (gn ps x) (ps.take y) [1]).length + 1 := by rw [hown1, lmul_len]
             refine ⟨(y + 1, some ⟨gg5, 0, none⟩, (ownp (gn ps x) (ps.take y) [1]).length + 1), ?_, ?_, ⟨by simp only; omega, ?_, hB⟩, by simp only; omega⟩
             · exact Sub.cons' rfl (by simp only [hll]) (Sub.cons' rfl (by simp only [hsca]) (Sub.cons rfl (Sub.nil _)))
             · repeat (first | exact Sub.nil _ | refine Sub.cons rfl ?_)
             · simp only [hll]; exact hM.drop1)
      ·
        refine W.skip ?_
        refine thenP_normal ?_
        refine W.seqR ?_
        refine LS.vv rfl rfl (by decide) (Val.move rfl) ?_
        refine LS.vv rfl rfl (by decide) (Val.len Try.underlying27 rfl) ?_
        first | refine LS.vv rfl rfl (by decide) (Val.addN (j := 1) rfl rfl (by omega)) ?_ | refine LS.vv rfl rfl (by decide) (Val.add64 rfl rfl (by omega)) ?_
        refine LS.m rfl (Step.make rfl rfl (by decide) Try.underlying27 elem3 rfl rfl rfl (by omega) (by omega) (Nat.le_refl _) ?_)
        rintro w5 hO5 hg5 hbl5
        replace hM := hM.add hB.size hbl5 hO5
        try simp only [nv_app1, nv_app, nv_set, nv_rep, nv_one, nv_cons, nv_take, nv_drop, List.nil_append] at hM
        replace hB := hB.trans (hbl5.mono hB.size)
        generalize w4.heap.size = gg5 at *
        rw [← nxl_zero _ (gn ps y + 1)] at hM
        refine LS.vv rfl rfl (by decide) (Val.assign rfl) ?_
        refine LS.nil ?_
        refine W.seq ?_
        refine W.seqR ?_
        refine LS.vv rfl rfl (by decide) (Val.move rfl) ?_
        refine LS.vv rfl rfl (by decide) (Val.len Try.underlying27 rfl) ?_
        refine LS.vv rfl rfl (by decide) (Val.cast (v := .int .i64 ((0 : Nat) : Int)) (Val.move rfl) rfl) ?_
        refine LS.nil ?_
        refine W.block ?_
        refine W.loop (α := Nat) (fun k => [(46, .int .i64 (k : Int))]) [(0, _), (1, _), (5, _), (7, _), (9, _), (11, _), (12, _), (20, _), (21, _), (22, _), (31, _), (32, _), (33, _), (44, _), (45, _)] (fun k w => (k ≤ (ownp (gn ps x) (ps.take y) [1]).length) ∧ Mem w w0.heap.size [⟨3, some ⟨gg5, 0, none⟩, (ownp (gn ps x) (ps.take y) [1]).length + 1, (ownp (gn ps x) (ps.take y) [1]).length + 1, nv (nxl (ownp (gn ps x) (ps.take y) [1]) (gn ps y + 1) k)⟩, ⟨3, po, (ownp (gn ps x) (ps.take y) [1]).length, co, nv (ownp (gn ps x) (ps.take y) [1])⟩, ⟨3, some ⟨w0.heap.size, 0, none⟩, ps.length, ps.length, nv (thr (zs.map Int.toNat) ps (ps.take x) (List.replicate ps.length 0))⟩] ∧ Below w0.heap.size w0 w) (fun k => (ownp (gn ps x) (ps.take y) [1]).length - k) (0) (Sub.cons rfl (Sub.nil _)) (Sub.cons rfl (Sub.cons rfl (Sub.cons rfl (Sub.cons rfl (Sub.cons rfl (Sub.cons rfl (Sub.cons rfl (Sub.cons rfl (Sub.cons rfl (Sub.cons rfl (Sub.cons rfl (Sub.cons rfl (Sub.cons rfl (Sub.cons rfl (Sub.cons rfl (Sub.nil _)))))))))))))))) ?_ ?_
        · exact ⟨Nat.zero_le _, hM, hB⟩
        rintro k w6 ⟨hk, hM, hB⟩
        try simp only at hM
        simp only [List.cons_append, List.nil_append]
        refine W.seqR ?_
        refine LS.vv rfl rfl (by decide) (Val.lss rfl rfl) ?_
        refine LS.nil ?_
        refine W.seq ?_
        first | refine W.condD rfl (fun hc4 => ?_) (fun hc4 => ?_) | refine W.cond rfl (fun hc4 => ?_) (fun hc4 => ?_)
        ·
          have hok1 := gn_small hO1s k
          have hnx1 := small_nxl (own := (ownp (gn ps x) (ps.take y) [1])) (a := gn ps y + 1) (k := k) (by omega) hO1s k
          have hnx2 := small_nxl (own := (ownp (gn ps x) (ps.take y) [1])) (a := gn ps y + 1) (k := k) (by omega) hO1s (k + 1)
          have hnl := nxl_len (ownp (gn ps x) (ps.take y) [1]) (gn ps y + 1) k
          have hgs := gn_set (l := nxl (ownp (gn ps x) (ps.take y) [1]) (gn ps y + 1) k) (i := k) (m := k + 1) (v := gn (nxl (ownp (gn ps x) (ps.take y) [1]) (gn ps y + 1) k) k ^^^ fmul (gn (ownp (gn ps x) (ps.take y) [1]) k) (gn ps y + 1)) (by omega)
          rw [if_neg (by omega)] at hgs
          have hnl2 : ((nxl (ownp (gn ps x) (ps.take y) [1]) (gn ps y + 1) k).set k (gn (nxl (ownp (gn ps x) (ps.take y) [1]) (gn ps y + 1) k) k ^^^ fmul (gn (ownp (gn ps x) (ps.take y) [1]) k) (gn ps y + 1))).length = (ownp (gn ps x) (ps.take y) [1]).length + 1 := by rw [List.length_set, hnl]
          refine W.skip ?_
          refine thenP_normal ?_
          refine W.seq ?_
          refine W.block ?_
          refine W.seqR ?_
          refine LS.vv rfl rfl (by decide) (Val.move rfl) ?_
          refine LS.vv rfl rfl (by decide) (Val.index1 Try.underlying27 elem3 rfl rfl (by omega) (hM.o1.rd) (nv_lt (by omega))) ?_
          refine LS.m rfl (Step.load rfl rfl (by decide) flat3 rfl (hM.o1.rd) (nv_at (by omega)) ?_)
          refine LS.vv rfl rfl (by decide) (Val.assign rfl) ?_
          refine LS.vv rfl rfl (by decide) (Val.assign rfl) ?_
          refine LS.nil ?_
          refine W.seqF 10 [(0, true), (1, true), (2, true), (3, true), (4, true), (5, true), (6, true), (7, false), (8, true), (9, true), (10, false)] mixed (by kernel_rfl) hB hM ?_
          replace hB := hB.drew
          replace hM := hM.drew
          refine DF.vv rfl rfl rfl (by decide) (Val.move rfl) ?_
          refine DF.vv rfl rfl rfl (by decide) (Val.move rfl) ?_
          refine DF.vv rfl rfl rfl (by decide) (Val.index1 Try.underlying27 elem3 rfl rfl (by omega) (hM.o0.rd) (nv_lt (by omega))) ?_
          refine DF.vv rfl rfl rfl (by decide) (Val.load flat3 rfl (fun _ h => h.2.o0.rd) (nv_at (by omega))) ?_
          refine DF.vv rfl rfl rfl (by decide) (Val.move rfl) ?_
          refine DF.vv rfl rfl rfl (by decide) (Val.move rfl) ?_
          first | refine DF.vv rfl rfl rfl (by decide) (Val.addN (j := 1) rfl rfl (by omega)) ?_ | refine DF.vv rfl rfl rfl (by decide) (Val.add64 rfl rfl (by omega)) ?_
          refine DF.m rfl rfl (Step.call body32 rfl rfl (by decide) rfl (CallsV.mono (times_any (gn (ownp (gn ps x) (ps.take y) [1]) k) (gn ps y + 1) _ hok1 (by omega)) ?_))
          rintro _ w7 ⟨rfl, hb7⟩
          replace hM := hM.below hb7
          replace hB := hB.trans (hb7.mono hB.size)
          have hfm := fmul_lt hok1 (show gn ps y + 1 < 16 by omega)
          refine ⟨fun _ => ⟨hB, hM⟩, ?_⟩
          refine DF.vv rfl rfl rfl (by decide) (Val.xor64 rfl rfl (by omega) (by omega)) ?_
          refine DF.vv rfl rfl rfl (by decide) (Val.index1 Try.underlying27 elem3 rfl rfl (by omega) (hM.o0.rd) (nv_lt (by omega))) ?_
          refine DF.m rfl rfl (Step.store (B := w0.heap.size) rfl rfl flat3 elem3 rfl rfl rfl (hM.o0) (by omega) hB.size ?_)
          rintro w8 hO8 hg8 hbl8 hsz8
          replace hM := hM.s0 hg8 hO8 inl_block
          try simp only [nv_app1, nv_app, nv_set, nv_rep, nv_one, nv_cons, nv_take, nv_drop, List.nil_append] at hM
          replace hB := hB.trans hbl8
          refine ⟨fun h => absurd rfl h, ?_⟩
          refine DF.nil ?_
          refine W.reg ?_
          refine LS.vv rfl rfl (by decide) (Val.move rfl) ?_
          refine LS.vv rfl rfl (by decide) (Val.move rfl) ?_
          first | refine LS.vv rfl rfl (by decide) (Val.addN (j := 1) rfl rfl (by omega)) ?_ | refine LS.vv rfl rfl (by decide) (Val.add64 rfl rfl (by omega)) ?_
          refine LS.vv rfl rfl (by decide) (Val.index1 Try.underlying27 elem3 rfl rfl (by omega) (hM.o0.rd) (nv_lt (by omega))) ?_
          refine LS.m rfl (Step.load rfl rfl (by decide) flat3 rfl (hM.o0.rd) (nv_at (by omega)) ?_)
          refine LS.vv rfl rfl (by decide) (Val.move rfl) ?_
          refine LS.vv rfl rfl (by decide) (Val.xor64 rfl rfl (by omega) (by omega)) ?_
          refine LS.vv rfl rfl (by decide) (Val.index1 Try.underlying27 elem3 rfl rfl (by omega) (hM.o0.rd) (nv_lt (by omega))) ?_
          refine LS.m rfl (Step.store (B := w0.heap.size) rfl rfl flat3 elem3 rfl rfl rfl (hM.o0) (by omega) hB.size ?_)
          rintro w9 hO9 hg9 hbl9 hsz9
          replace hM := hM.s0 hg9 hO9 inl_block
          try simp only [nv_app1, nv_app, nv_set, nv_rep, nv_one, nv_cons, nv_take, nv_drop, List.nil_append] at hM
          replace hB := hB.trans hbl9
          refine LS.nil ?_
          refine inBlk_normal ?_
          refine thenP_normal ?_
          refine W.reg ?_
          first | refine LS.vv rfl rfl (by decide) (Val.addN (j := 1) rfl rfl (by omega)) ?_ | refine LS.vv rfl rfl (by decide) (Val.add64 rfl rfl (by omega)) ?_
          refine LS.vv rfl rfl (by decide) (Val.move rfl) ?_
          refine LS.nil ?_
          refine thenP_normal ?_
          have hst := nxl_step (own := (ownp (gn ps x) (ps.take y) [1])) (a := gn ps y + 1) (k := k) (by omega)
          refine ⟨k + 1, ?_, ?_, ⟨by omega, ?_, hB⟩, by omega⟩
          · exact (Sub.cons rfl (Sub.nil _))
          · repeat (first | exact Sub.nil _ | refine Sub.cons rfl ?_)
          · rw [hst] at hM; exact hM
        ·
          refine W.exit ?_
          refine thenP_exit ?_
          refine thenP_exit ?_
          refine inBlk_exit ?_
          refine thenP_normal ?_
          refine W.seqR ?_
          refine LS.vv rfl rfl (by decide) (Val.move rfl) ?_
          refine LS.vv rfl rfl (by decide) (Val.assign rfl) ?_
          refine LS.nil ?_
          refine W.reg ?_
          refine LS.vv rfl rfl (by decide) (Val.move rfl) ?_
          refine LS.vv rfl rfl (by decide) (Val.move rfl) ?_
          first | refine LS.vv rfl rfl (by decide) (Val.addN (j := 1) rfl rfl (by omega)) ?_ | refine LS.vv rfl rfl (by decide) (Val.add64 rfl rfl (by omega)) ?_
          refine LS.vv rfl rfl (by decide) (Val.move rfl) ?_
          first | refine LS.vv rfl rfl (by decide) (Val.addN (j := 1) rfl rfl (by omega)) ?_ | refine LS.vv rfl rfl (by decide) (Val.add64 rfl rfl (by omega)) ?_
          refine LS.vv rfl rfl (by decide) (Val.xor64 rfl rfl (by omega) (by omega)) ?_
          refine LS.m rfl (Step.call body35 rfl rfl (by decide) rfl (CallsV.mono (power_any ((gn ps x + 1) ^^^ (gn ps y + 1)) 14 _ hxx (by omega)) ?_))
          rintro _ w10 ⟨rfl, hb10⟩
          replace hM := hM.below hb10
          replace hB := hB.trans (hb10.mono hB.size)
          refine LS.m rfl (Step.call body32 rfl rfl (by decide) rfl (CallsV.mono (times_any (scp (gn ps x) (ps.take y) (gn (zs.map Int.toNat) (gn ps x))) (finv ((gn ps x + 1) ^^^ (gn ps y + 1))) _ hsc (finv_lt hxx)) ?_))
          rintro _ w11 ⟨rfl, hb11⟩
          replace hM := hM.below hb11
          replace hB := hB.trans (hb11.mono hB.size)
          refine LS.vv rfl rfl (by decide) (Val.assign rfl) ?_
          refine LS.nil ?_
          refine inBlk_normal ?_
          refine thenP_normal ?_
          refine W.reg ?_
          first | refine LS.vv rfl rfl (by decide) (Val.addN (j := 1) rfl rfl (by omega)) ?_ | refine LS.vv rfl rfl (by decide) (Val.add64 rfl rfl (by omega)) ?_
          refine LS.vv rfl rfl (by decide) (Val.move rfl) ?_
          refine LS.nil ?_
          refine thenP_normal ?_
          first
            | (have hij : gn ps y = gn ps x := by omega
               rw [if_pos hij] at hown1 hsca
               refine ⟨(y + 1, po, co), ?_, ?_, ⟨by simp only; omega, ?_, hB⟩, by simp only; omega⟩
               · exact Sub.cons' rfl (by simp only [hown1]) (Sub.cons' rfl (by simp only [hsca]) (Sub.cons rfl (Sub.nil _)))
               · repeat (first | exact Sub.nil _ | refine Sub.cons rfl ?_)
               · simp only [hown1]; exact hM)
            | (have hij : ¬ gn ps y = gn ps x := by omega
               rw [if_neg hij] at hown1 hsca
               obtain rfl : k = (ownp (gn ps x) (ps.take y) [1]).length := by omega
               rw [nxl_end (by omega) hO1s, ← hown1] at hM
               have hll : (ownp (gn ps x) (ps.take (y + 1)) [1]).length = (ownp (gn ps x) (ps.take y) [1]).length + 1 := by rw [hown1, lmul_len]
               refine ⟨(y + 1, some ⟨gg5, 0, none⟩, (ownp (gn ps x) (ps.take y) [1]).length + 1), ?_, ?_, ⟨by simp only; omega, ?_, hB⟩, by simp only; omega⟩
               · exact Sub.cons' rfl (by simp only [hll]) (Sub.cons' rfl (by simp only [hsca]) (Sub.cons rfl (Sub.nil _)))
               · repeat (first | exact Sub.nil _ | refine Sub.cons rfl ?_)
               · simp only [hll]; exact hM.drop1)
    ·
      refine W.exit ?_
      refine thenP_exit ?_
      refine thenP_exit ?_
      refine inBlk_exit ?_
      refine thenP_normal ?_
      refine W.seqR ?_
      refine LS.vv rfl rfl (by decide) (Val.move rfl) ?_
      refine LS.vv rfl rfl (by decide) (Val.len Try.underlying27 rfl) ?_
      refine LS.vv rfl rfl (by decide) (Val.cast (v := .int .i64 ((0 : Nat) : Int)) (Val.move rfl) rfl) ?_
      refine LS.nil ?_
      refine W.block ?_
      obtain rfl : y = ps.length := by omega
      have hOs := (ownp_small (i := gn ps x) (k := ps.length) hp15).1
      have hsc : (scp (gn ps x) (ps.take ps.length) (gn (zs.map Int.toNat) (gn ps x))) < 16 := scp_lt (by omega) (fun j hj => hp15 j (List.mem_of_mem_take hj)) (hzs _)
      have hOl : (ownp (gn ps x) (ps.take ps.length) [1]).length = ps.length := by rw [List.take_length]; exact ownp_len hnd hxm hp15
      rw [← sml_zero (thr (zs.map Int.toNat) ps (ps.take x) (List.replicate ps.length 0)) (ownp (gn ps x) (ps.take ps.length) [1]) (scp (gn ps x) (ps.take ps.length) (gn (zs.map Int.toNat) (gn ps x)))] at hM
      refine W.loop (α := Nat) (fun k => [(82, .int .i64 (k : Int))]) [(0, _), (1, _), (5, _), (9, _), (20, _), (21, _), (22, _), (80, _), (81, _)] (fun k w => (k ≤ (ownp (gn ps x) (ps.take ps.length) [1]).length) ∧ Mem w w0.heap.size [⟨3, po, (ownp (gn ps x) (ps.take ps.length) [1]).length, co, nv (ownp (gn ps x) (ps.take ps.length) [1])⟩, ⟨3, some ⟨w0.heap.size, 0, none⟩, ps.length, ps.length, nv (sml (thr (zs.map Int.toNat) ps (ps.take x) (List.replicate ps.length 0)) (ownp (gn ps x) (ps.take ps.length) [1]) (scp (gn ps x) (ps.take ps.length) (gn (zs.map Int.toNat) (gn ps x))) k)⟩] ∧ Below w0.heap.size w0 w) (fun k => (ownp (gn ps x) (ps.take ps.length) [1]).length - k) (0) (Sub.cons rfl (Sub.nil _)) (Sub.cons rfl (Sub.cons rfl (Sub.cons rfl (Sub.cons rfl (Sub.cons rfl (Sub.cons rfl (Sub.cons rfl (Sub.cons rfl (Sub.cons rfl (Sub.nil _)))))))))) ?_ ?_
      · exact ⟨Nat.zero_le _, hM, hB⟩
      rintro k w12 ⟨hk, hM, hB⟩
      try simp only at hM
      simp only [List.cons_append, List.nil_append]
      refine W.seqR ?_
      refine LS.vv rfl rfl (by decide) (Val.lss rfl rfl) ?_
      refine LS.nil ?_
      refine W.seq ?_
      first | refine W.condD rfl (fun hc5 => ?_) (fun hc5 => ?_) | refine W.cond rfl (fun hc5 => ?_) (fun hc5 => ?_)
      ·
        have hok1 := gn_small hOs k
        have hsm1 := small_sml (sum := (thr (zs.map Int.toNat) ps (ps.take x) (List.replicate ps.length 0))) (own := (ownp (gn ps x) (ps.take ps.length) [1])) (s := (scp (gn ps x) (ps.take ps.length) (gn (zs.map Int.toNat) (gn ps x)))) (k := k) hS1 hOs hsc k
        have hsl := sml_len (thr (zs.map Int.toNat) ps (ps.take x) (List.replicate ps.length 0)) (ownp (gn ps x) (ps.take ps.length) [1]) (scp (gn ps x) (ps.take ps.length) (gn (zs.map Int.toNat) (gn ps x))) k
        refine W.skip ?_
        refine thenP_normal ?_
        refine W.seq ?_
        refine W.block ?_
        refine W.seqR ?_
        refine LS.vv rfl rfl (by decide) (Val.move rfl) ?_
        refine LS.vv rfl rfl (by decide) (Val.index1 Try.underlying27 elem3 rfl rfl (by omega) (hM.o0.rd) (nv_lt (by omega))) ?_
        refine LS.m rfl (Step.load rfl rfl (by decide) flat3 rfl (hM.o0.rd) (nv_at (by omega)) ?_)
        refine LS.vv rfl rfl (by decide) (Val.assign rfl) ?_
        refine LS.vv rfl rfl (by decide) (Val.assign rfl) ?_
        refine LS.nil ?_
        refine W.regF 9 [(0, true), (1, true), (2, true), (3, true), (4, true), (5, true), (6, false), (7, true), (8, true), (9, false)] mixed (by kernel_rfl) hB hM ?_
        replace hB := hB.drew
        replace hM := hM.drew
        refine DF.vv rfl rfl rfl (by decide) (Val.move rfl) ?_
        refine DF.vv rfl rfl rfl (by decide) (Val.move rfl) ?_
        refine DF.vv rfl rfl rfl (by decide) (Val.index1 Try.underlying27 elem3 rfl rfl (by omega) (hM.o1.rd) (nv_lt (by omega))) ?_
        refine DF.vv rfl rfl rfl (by decide) (Val.load flat3 rfl (fun _ h => h.2.o1.rd) (nv_at (by omega))) ?_
        refine DF.vv rfl rfl rfl (by decide) (Val.move rfl) ?_
        refine DF.vv rfl rfl rfl (by decide) (Val.move rfl) ?_
        refine DF.m rfl rfl (Step.call body32 rfl rfl (by decide) rfl (CallsV.mono (times_any (gn (ownp (gn ps x) (ps.take ps.length) [1]) k) (scp (gn ps x) (ps.take ps.length) (gn (zs.map Int.toNat) (gn ps x))) _ hok1 hsc) ?_))
        rintro _ w13 ⟨rfl, hb13⟩
        replace hM := hM.below hb13
        replace hB := hB.trans (hb13.mono hB.size)
        have hfm := fmul_lt hok1 hsc
        refine ⟨fun _ => ⟨hB, hM⟩, ?_⟩
        refine DF.vv rfl rfl rfl (by decide) (Val.xor64 rfl rfl (by omega) (by omega)) ?_
        refine DF.vv rfl rfl rfl (by decide) (Val.index1 Try.underlying27 elem3 rfl rfl (by omega) (hM.o1.rd) (nv_lt (by omega))) ?_
        refine DF.m rfl rfl (Step.store (B := w0.heap.size) rfl rfl flat3 elem3 rfl rfl rfl (hM.o1) (by omega) hB.size ?_)
        rintro w14 hO14 hg14 hbl14 hsz14
        replace hM := hM.s1 hg14 hO14 inl_block
        try simp only [nv_app1, nv_app, nv_set, nv_rep, nv_one, nv_cons, nv_take, nv_drop, List.nil_append] at hM
        replace hB := hB.trans hbl14
        refine ⟨fun h => absurd rfl h, ?_⟩
        refine DF.nil ?_
        refine inBlk_normal ?_
        refine thenP_normal ?_
        refine W.reg ?_
        first | refine LS.vv rfl rfl (by decide) (Val.addN (j := 1) rfl rfl (by omega)) ?_ | refine LS.vv rfl rfl (by decide) (Val.add64 rfl rfl (by omega)) ?_
        refine LS.vv rfl rfl (by decide) (Val.move rfl) ?_
        refine LS.nil ?_
        refine thenP_normal ?_
        have hst := sml_step (sum := (thr (zs.map Int.toNat) ps (ps.take x) (List.replicate ps.length 0))) (own := (ownp (gn ps x) (ps.take ps.length) [1])) (s := (scp (gn ps x) (ps.take ps.length) (gn (zs.map Int.toNat) (gn ps x)))) (k := k) (by omega)
        refine ⟨k + 1, ?_, ?_, ⟨by omega, ?_, hB⟩, by omega⟩
        · exact (Sub.cons rfl (Sub.nil _))
        · repeat (first | exact Sub.nil _ | refine Sub.cons rfl ?_)
        · rw [hst] at hM; exact hM
      ·
        refine W.exit ?_
        refine thenP_exit ?_
        refine thenP_exit ?_
        refine inBlk_exit ?_
        refine inBlk_normal ?_
        refine thenP_normal ?_
        refine W.reg ?_
        first | refine LS.vv rfl rfl (by decide) (Val.addN (j := 1) rfl rfl (by omega)) ?_ | refine LS.vv rfl rfl (by decide) (Val.add64 rfl rfl (by omega)) ?_
        refine LS.vv rfl rfl (by decide) (Val.move rfl) ?_
        refine LS.nil ?_
        refine thenP_normal ?_
        refine ⟨x + 1, ?_, ?_, ⟨by omega, ?_, hB⟩, by omega⟩
        · exact (Sub.cons rfl (Sub.nil _))
        · repeat (first | exact Sub.nil _ | refine Sub.cons rfl ?_)
        · have he1 := sml_end (sum := (thr (zs.map Int.toNat) ps (ps.take x) (List.replicate ps.length 0))) (own := (ownp (gn ps x) (ps.take ps.length) [1])) (s := (scp (gn ps x) (ps.take ps.length) (gn (zs.map Int.toNat) (gn ps x)))) (by rw [hS2, hOl]) hsc hOs
          obtain rfl : k = (ownp (gn ps x) (ps.take ps.length) [1]).length := by omega
          rw [he1] at hM
          have hth := thr_app (zs.map Int.toNat) ps (ps.take x) (gn ps x) (List.replicate ps.length 0)
          rw [← take_gn (by omega)] at hth
          rw [hth]
          rw [List.take_length] at hM
          exact hM.tail
  ·
    refine W.exit ?_
    refine thenP_exit ?_
    refine thenP_exit ?_
    refine inBlk_exit ?_
    refine thenP_normal ?_
    refine W.seqR ?_
    refine LS.vv rfl rfl (by decide) (Val.move rfl) ?_
    refine LS.vv rfl rfl (by decide) (Val.assign rfl) ?_
    refine LS.nil ?_
    refine W.ret ?_
    refine ret1 (by first | exact .inl rfl | exact .inr rfl) rfl ?_
    obtain rfl : x = ps.length := by omega
    rw [List.take_length] at hM
    exact ⟨_, _, rfl, hM.o0, hB⟩

end Go.Proofs.Ytnaebllojkodbaa
