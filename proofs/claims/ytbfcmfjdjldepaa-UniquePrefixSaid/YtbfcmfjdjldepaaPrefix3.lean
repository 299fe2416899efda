/-
  Codes: prefix.Write, prefix.Read.
-/
import Derived.Test.YtbfcmfjdjldepaaPrefix2
namespace Go.Proofs.Ytbfcmfjdjldepaa
open Go Go.RowKit V
set_option linter.unusedVariables false
set_option linter.unusedSimpArgs false

theorem nv_iv (l : List Nat) : nv l = iv (l.map fun x : Nat => (x : Int)) := by simp [nv, iv]
theorem toNat_back (l : List Nat) : (l.map fun x : Nat => (x : Int)).map Int.toNat = l := by
  rw [List.map_map]; conv => rhs; rw [← List.map_id l]
  exact List.map_congr_left fun x _ => rfl
theorem nfb {b : Bool} (h : (!b) = true) : ¬ b = true := by cases b <;> simp at h ⊢
theorem gn_toNat {zs : List Int} {k : Nat} (h : k < zs.length) : gn (zs.map Int.toNat) k = (gz zs k).toNat := by unfold gn gz; simp [h]
theorem syms_iff {C : List Wd} {zs : List Int} (h : ∀ j, j < zs.length → 0 ≤ gz zs j ∧ gz zs j < C.length) : Syms (codeOf C) (zs.map Int.toNat) ∧ ∀ z ∈ zs, 0 ≤ z ∧ z < C.length := by
  have h2 : ∀ z ∈ zs, 0 ≤ z ∧ z < C.length := fun z hz => by
    obtain ⟨j, hj, rfl⟩ := List.getElem_of_mem hz
    rw [← gz_lt hj]; exact h j hj
  refine ⟨fun s hs => ?_, h2⟩
  obtain ⟨z, hz, rfl⟩ := List.mem_map.1 hs
  rw [codeOf_len]
  have := h2 z hz; omega

theorem write_any (C : List Wd) (zs : List Int) (p q : Option Addr) (c d m n : Nat) (w0 : World) (hr : RdW w0 p C) (hr2 : Rd w0 q (iv zs)) (hm : C.length = m) (hn : zs.length = n) (hl : n ≤ 9223372036854775807) :
    CallsV Try.prog 20 #[.slice p m c, .slice q n d] w0 (fun v w => ∃ (p2 : Option Addr) (c2 : Nat) (L : List Bool) (e : Nat), v = .tuple #[.slice p2 L.length c2, .int .i64 (e : Int)] ∧ Own w w0.heap.size 4 p2 L.length c2 (bv L) ∧ (e = 0 ↔ Coded (codeOf C) ∧ n ≤ 64 ∧ ∀ z ∈ zs, 0 ≤ z ∧ z < m) ∧ (e = 0 → L = wrtn (codeOf C) (zs.map Int.toNat) ∧ Syms (codeOf C) (zs.map Int.toNat)) ∧ (e ≠ 0 → L = []) ∧ Below w0.heap.size w0 w) := by
  refine enter2 Try.func20 rfl Try.ntmps20 (by simp) rfl ?_
  have hB := Below.refl w0.heap.size w0
  simp only [argLoc, Nat.zero_add]
  have hM := Mem.nil w0 w0.heap.size
  subst hm
  subst hn
  have hh := hr.head
  refine W.seqR ?_
  refine LS.vv rfl rfl (by decide) (Val.assign rfl) ?_
  refine LS.vv rfl rfl (by decide) (Val.cast (v := .int .i64 ((0 : Nat) : Int)) (Val.assign rfl) rfl) ?_
  refine LS.nil ?_
  refine W.seq ?_
  refine W.seqR ?_
  refine LS.vv rfl rfl (by decide) (Val.move rfl) ?_
  refine LS.m rfl (Step.call body24 rfl rfl (by decide) rfl (CallsV.mono (check_any C _ _ _ _ (hr.below hB) rfl) ?_))
  rintro _ w1 ⟨e, rfl, he, hb1⟩
  replace hM := hM.below hb1
  replace hB := hB.trans (hb1.mono hB.size)
  refine LS.vv rfl rfl (by decide) (Val.assign rfl) ?_
  refine LS.nil ?_
  refine W.seqR ?_
  refine LS.vv rfl rfl (by decide) (Val.move rfl) ?_
  refine LS.vv rfl rfl (by decide) (Val.neq rfl rfl) ?_
  refine LS.nil ?_
  first | refine W.condD rfl (fun hc1 => ?_) (fun hc1 => ?_) | refine W.cond rfl (fun hc1 => ?_) (fun hc1 => ?_)
  ·
    refine W.seqR ?_
    refine LS.vv rfl rfl (by decide) (Val.move rfl) ?_
    refine LS.vv rfl rfl (by decide) (Val.assign rfl) ?_
    refine LS.vv rfl rfl (by decide) (Val.assign rfl) ?_
    refine LS.nil ?_
    refine W.ret ?_
    refine thenP_ret ?_
    refine ret2 (by first | exact .inl rfl | exact .inr rfl) rfl rfl ?_
    first | (refine ⟨none, 0, [], e, rfl, Own.nil _ _ _, ⟨fun h => by exfalso; omega, fun h => he.2 h.1⟩, fun h => by exfalso; omega, fun _ => rfl, hB⟩; done) | (refine ⟨none, 0, [], 1, rfl, Own.nil _ _ _, ⟨fun h => by exfalso; omega, fun h => by omega⟩, fun h => by exfalso; omega, fun _ => rfl, hB⟩; done) | (have hzm : gz zs k ∈ zs := (by { rw [gz_lt (show k < zs.length by omega)]; exact List.getElem_mem _ }); exact ⟨none, 0, [], 2, rfl, Own.nil _ _ _, ⟨fun h => by exfalso; omega, fun h => by have := h.2.2 _ hzm; omega⟩, fun h => by exfalso; omega, fun _ => rfl, hB⟩) | (obtain rfl : k = zs.length := (by omega); obtain ⟨hs1, hs2⟩ := syms_iff hall; rw [List.take_of_length_le (by simp)] at hM ⊢; exact ⟨po, co, _, 0, rfl, hM.o0, ⟨fun _ => ⟨hcd, by omega, hs2⟩, fun _ => rfl⟩, fun _ => ⟨rfl, hs1⟩, fun h => absurd rfl h, hB⟩)
  ·
    refine W.skip ?_
    refine thenP_normal ?_
    refine W.seq ?_
    refine W.seqR ?_
    refine LS.vv rfl rfl (by decide) (Val.move rfl) ?_
    refine LS.vv rfl rfl (by decide) (Val.len Try.underlying28 rfl) ?_
    refine LS.vv rfl rfl (by decide) (Val.gtr rfl rfl) ?_
    refine LS.nil ?_
    first | refine W.condD rfl (fun hc2 => ?_) (fun hc2 => ?_) | refine W.cond rfl (fun hc2 => ?_) (fun hc2 => ?_)
    ·
      refine W.seqR ?_
      refine LS.vv rfl rfl (by decide) (Val.assign rfl) ?_
      refine LS.vv rfl rfl (by decide) (Val.cast (v := .int .i64 ((1 : Nat) : Int)) (Val.assign rfl) rfl) ?_
      refine LS.nil ?_
      refine W.ret ?_
      refine thenP_ret ?_
      refine ret2 (by first | exact .inl rfl | exact .inr rfl) rfl rfl ?_
      first | (refine ⟨none, 0, [], e, rfl, Own.nil _ _ _, ⟨fun h => by exfalso; omega, fun h => he.2 h.1⟩, fun h => by exfalso; omega, fun _ => rfl, hB⟩; done) | (refine ⟨none, 0, [], 1, rfl, Own.nil _ _ _, ⟨fun h => by exfalso; omega, fun h => by omega⟩, fun h => by exfalso; omega, fun _ => rfl, hB⟩; done) | (have hzm : gz zs k ∈ zs := (by { rw [gz_lt (show k < zs.length by omega)]; exact List.getElem_mem _ }); exact ⟨none, 0, [], 2, rfl, Own.nil _ _ _, ⟨fun h => by exfalso; omega, fun h => by have := h.2.2 _ hzm; omega⟩, fun h => by exfalso; omega, fun _ => rfl, hB⟩) | (obtain rfl : k = zs.length := (by omega); obtain ⟨hs1, hs2⟩ := syms_iff hall; rw [List.take_of_length_le (by simp)] at hM ⊢; exact ⟨po, co, _, 0, rfl, hM.o0, ⟨fun _ => ⟨hcd, by omega, hs2⟩, fun _ => rfl⟩, fun _ => ⟨rfl, hs1⟩, fun h => absurd rfl h, hB⟩)
    ·
      refine W.skip ?_
      refine thenP_normal ?_
      refine W.seqR ?_
      refine LS.vv rfl rfl (by decide) (Val.assign rfl) ?_
      refine LS.nil ?_
      refine W.seq ?_
      refine W.seqR ?_
      refine LS.vv rfl rfl (by decide) (Val.move rfl) ?_
      refine LS.vv rfl rfl (by decide) (Val.len Try.underlying28 rfl) ?_
      refine LS.vv rfl rfl (by decide) (Val.cast (v := .int .i64 ((0 : Nat) : Int)) (Val.move rfl) rfl) ?_
      refine LS.nil ?_
      refine W.block ?_
      replace hM := hM.addNil 4
      have hcd := he.1 (by omega)
      refine W.loop (α := Nat × Option Addr × Nat) (fun g => [(7, .slice g.2.1 (wrtn (codeOf C) ((zs.map Int.toNat).take g.1)).length g.2.2), (20, .int .i64 (g.1 : Int))]) [(0, _), (18, _), (19, _)] (fun g w => (g.1 ≤ zs.length ∧ ∀ j, j < g.1 → 0 ≤ gz zs j ∧ gz zs j < C.length) ∧ Mem w w0.heap.size [⟨4, g.2.1, (wrtn (codeOf C) ((zs.map Int.toNat).take g.1)).length, g.2.2, bv (wrtn (codeOf C) ((zs.map Int.toNat).take g.1))⟩] ∧ Below w0.heap.size w0 w) (fun g => zs.length - g.1) ((0, none, 0)) (Sub.cons rfl (Sub.cons rfl (Sub.nil _))) (Sub.cons rfl (Sub.cons rfl (Sub.cons rfl (Sub.nil _)))) ?_ ?_
      · exact ⟨⟨Nat.zero_le _, fun j h => absurd h (by omega)⟩, hM, hB⟩
      rintro ⟨k, po, co⟩ w2 ⟨⟨hk, hall⟩, hM, hB⟩
      try simp only at hM
      simp only [List.cons_append, List.nil_append]
      simp only at hk hall
      refine W.seqR ?_
      refine LS.vv rfl rfl (by decide) (Val.lss rfl rfl) ?_
      refine LS.nil ?_
      refine W.seq ?_
      first | refine W.condD rfl (fun hc3 => ?_) (fun hc3 => ?_) | refine W.cond rfl (fun hc3 => ?_) (fun hc3 => ?_)
      ·
        refine W.skip ?_
        refine thenP_normal ?_
        refine W.seq ?_
        refine W.block ?_
        refine W.seqR ?_
        refine LS.vv rfl rfl (by decide) (Val.index1 Try.underlying28 elem3 rfl rfl (by omega) ((hr2.below hB)) (iv_lt (by omega))) ?_
        refine LS.m rfl (Step.load rfl rfl (by decide) flat3 rfl ((hr2.below hB)) (iv_at (by omega)) ?_)
        refine LS.vv rfl rfl (by decide) (Val.assign rfl) ?_
        refine LS.nil ?_
        refine W.seq ?_
        refine W.seqR ?_
        refine LS.vv rfl rfl (by decide) (Val.move rfl) ?_
        refine LS.vv rfl rfl (by decide) (Val.lss rfl rfl) ?_
        refine LS.vv rfl rfl (by decide) (Val.move rfl) ?_
        refine LS.split 2 rfl (fun hg4 => ?_) (fun hg4 => ?_)
        ·
          first | (have hg4p := of_decide_eq_true hg4) | skip
          refine LS.s rfl rfl rfl hg4 (by decide) ?_
          refine LS.s rfl rfl rfl hg4 (by decide) ?_
          refine LS.s rfl rfl rfl hg4 (by decide) ?_
          refine LS.s rfl rfl rfl hg4 (by decide) ?_
          refine LS.vv rfl rfl (by decide) (Val.pickT rfl hg4 rfl) ?_
          refine LS.nil ?_
          refine W.condT rfl ?_
          refine W.seqR ?_
          refine LS.vv rfl rfl (by decide) (Val.assign rfl) ?_
          refine LS.vv rfl rfl (by decide) (Val.cast (v := .int .i64 ((2 : Nat) : Int)) (Val.assign rfl) rfl) ?_
          refine LS.nil ?_
          refine W.ret ?_
          refine thenP_ret ?_
          refine inBlk_ret ?_
          refine thenP_ret ?_
          refine thenP_ret ?_
          refine inBlk_ret ?_
          refine thenP_ret ?_
          refine ret2 (by first | exact .inl rfl | exact .inr rfl) rfl rfl ?_
          first | (refine ⟨none, 0, [], e, rfl, Own.nil _ _ _, ⟨fun h => by exfalso; omega, fun h => he.2 h.1⟩, fun h => by exfalso; omega, fun _ => rfl, hB⟩; done) | (refine ⟨none, 0, [], 1, rfl, Own.nil _ _ _, ⟨fun h => by exfalso; omega, fun h => by omega⟩, fun h => by exfalso; omega, fun _ => rfl, hB⟩; done) | (have hzm : gz zs k ∈ zs := (by { rw [gz_lt (show k < zs.length by omega)]; exact List.getElem_mem _ }); exact ⟨none, 0, [], 2, rfl, Own.nil _ _ _, ⟨fun h => by exfalso; omega, fun h => by have := h.2.2 _ hzm; omega⟩, fun h => by exfalso; omega, fun _ => rfl, hB⟩) | (obtain rfl : k = zs.length := (by omega); obtain ⟨hs1, hs2⟩ := syms_iff hall; rw [List.take_of_length_le (by simp)] at hM ⊢; exact ⟨po, co, _, 0, rfl, hM.o0, ⟨fun _ => ⟨hcd, by omega, hs2⟩, fun _ => rfl⟩, fun _ => ⟨rfl, hs1⟩, fun h => absurd rfl h, hB⟩)
        ·
          first | (have hg4p := of_decide_eq_false hg4) | skip
          refine LS.vg rfl rfl rfl hg4 (by decide) (Val.move rfl) ?_
          refine LS.vg rfl rfl rfl hg4 (by decide) (Val.move rfl) ?_
          refine LS.vg rfl rfl rfl hg4 (by decide) (Val.len Try.underlying22 rfl) ?_
          refine LS.vg rfl rfl rfl hg4 (by decide) (Val.geq rfl rfl) ?_
          refine LS.vv rfl rfl (by decide) (Val.pickF rfl hg4 rfl) ?_
          refine LS.nil ?_
          first | refine W.condD rfl (fun hc5 => ?_) (fun hc5 => ?_) | refine W.cond rfl (fun hc5 => ?_) (fun hc5 => ?_)
          ·
            refine W.seqR ?_
            refine LS.vv rfl rfl (by decide) (Val.assign rfl) ?_
            refine LS.vv rfl rfl (by decide) (Val.cast (v := .int .i64 ((2 : Nat) : Int)) (Val.assign rfl) rfl) ?_
            refine LS.nil ?_
            refine W.ret ?_
            refine thenP_ret ?_
            refine inBlk_ret ?_
            refine thenP_ret ?_
            refine thenP_ret ?_
            refine inBlk_ret ?_
            refine thenP_ret ?_
            refine ret2 (by first | exact .inl rfl | exact .inr rfl) rfl rfl ?_
            first | (refine ⟨none, 0, [], e, rfl, Own.nil _ _ _, ⟨fun h => by exfalso; omega, fun h => he.2 h.1⟩, fun h => by exfalso; omega, fun _ => rfl, hB⟩; done) | (refine ⟨none, 0, [], 1, rfl, Own.nil _ _ _, ⟨fun h => by exfalso; omega, fun h => by omega⟩, fun h => by exfalso; omega, fun _ => rfl, hB⟩; done) | (have hzm : gz zs k ∈ zs := (by { rw [gz_lt (show k < zs.length by omega)]; exact List.getElem_mem _ }); exact ⟨none, 0, [], 2, rfl, Own.nil _ _ _, ⟨fun h => by exfalso; omega, fun h => by have := h.2.2 _ hzm; omega⟩, fun h => by exfalso; omega, fun _ => rfl, hB⟩) | (obtain rfl : k = zs.length := (by omega); obtain ⟨hs1, hs2⟩ := syms_iff hall; rw [List.take_of_length_le (by simp)] at hM ⊢; exact ⟨po, co, _, 0, rfl, hM.o0, ⟨fun _ => ⟨hcd, by omega, hs2⟩, fun _ => rfl⟩, fun _ => ⟨rfl, hs1⟩, fun h => absurd rfl h, hB⟩)
          ·
            refine W.skip ?_
            refine thenP_normal ?_
            refine W.reg ?_
            refine LS.vv rfl rfl (by decide) (Val.move rfl) ?_
            refine LS.vv rfl rfl (by decide) (Val.move rfl) ?_
            have hz0 : 0 ≤ gz zs k ∧ gz zs k < C.length := by omega
            have hgt := gn_toNat (zs := zs) (k := k) (by omega)
            have hgl := wrtn_len hcd.2 ((zs.map Int.toNat).take k)
            rw [List.length_take, List.length_map] at hgl
            have hwt := wrtn_take (C := codeOf C) (l := zs.map Int.toNat) (k := k) (by rw [List.length_map]; omega)
            rw [hgt, codeOf_gw] at hwt
            have hwl := ((coded_iff C).1 hcd).2 (gz zs k).toNat (by omega)
            refine LS.vv rfl rfl (by decide) (Val.cast (v := .int .i64 (((gz zs k).toNat : Nat) : Int)) (Val.move rfl) (by rw [Int.toNat_of_nonneg hz0.1])) ?_
            refine LS.vv rfl rfl (by decide) (Val.index1 Try.underlying22 elem36 rfl rfl (by omega) ((hh.below hB)) (wv_lt (by omega))) ?_
            refine LS.m rfl (Step.load rfl rfl (by decide) flat36 rfl ((hh.below hB)) (wv_at (by omega)) ?_)
            refine LS.m rfl (Step.append2 (B := w0.heap.size) rfl rfl (by decide) Try.underlying36 elem4 rfl rfl rfl rfl (hM.o0) ((hr.at (k := (gz zs k).toNat) (by omega)).below hB) (by first | rfl | (simp; done) | (simp; omega)) (by first | exact one_map _ (fun _ => rfl) _ | simp [Value.oneCell']) (by omega) (by omega) hB.size ?_)
            rintro p3 c3 w3 hO3 hg3 hbl3 hbk3
            replace hM := hM.s0 hg3 hO3 hbk3
            try simp only [bv_app1, bv_app, bv_set, bv_rep, bv_one, bv_cons, bv_take, bv_drop, List.nil_append] at hM
            replace hB := hB.trans hbl3
            refine LS.vv rfl rfl (by decide) (Val.assign rfl) ?_
            refine LS.nil ?_
            refine inBlk_normal ?_
            refine thenP_normal ?_
            refine W.reg ?_
            first | refine LS.vv rfl rfl (by decide) (Val.addN (j := 1) rfl rfl (by omega)) ?_ | refine LS.vv rfl rfl (by decide) (Val.add64 rfl rfl (by omega)) ?_
            refine LS.vv rfl rfl (by decide) (Val.move rfl) ?_
            refine LS.nil ?_
            refine thenP_normal ?_
            refine ⟨(k + 1, p3, c3), ?_, ?_, ⟨⟨by simp only; omega, fun j hj => ?_⟩, ?_, hB⟩, by simp only; omega⟩
            · exact (Sub.cons' rfl (by simp only [hwt, List.length_append]) (Sub.cons rfl (Sub.nil _)))
            · repeat (first | exact Sub.nil _ | refine Sub.cons rfl ?_)
            · simp only at hj; by_cases e9 : j = k
              · subst e9; exact hz0
              · exact hall j (by omega)
            · simp only [hwt, List.length_append]; exact hM
      ·
        refine W.exit ?_
        refine thenP_exit ?_
        refine thenP_exit ?_
        refine inBlk_exit ?_
        refine thenP_normal ?_
        refine W.seqR ?_
        refine LS.vv rfl rfl (by decide) (Val.move rfl) ?_
        refine LS.vv rfl rfl (by decide) (Val.assign rfl) ?_
        refine LS.vv rfl rfl (by decide) (Val.cast (v := .int .i64 ((0 : Nat) : Int)) (Val.assign rfl) rfl) ?_
        refine LS.nil ?_
        refine W.ret ?_
        refine ret2 (by first | exact .inl rfl | exact .inr rfl) rfl rfl ?_
        first | (refine ⟨none, 0, [], e, rfl, Own.nil _ _ _, ⟨fun h => by exfalso; omega, fun h => he.2 h.1⟩, fun h => by exfalso; omega, fun _ => rfl, hB⟩; done) | (refine ⟨none, 0, [], 1, rfl, Own.nil _ _ _, ⟨fun h => by exfalso; omega, fun h => by omega⟩, fun h => by exfalso; omega, fun _ => rfl, hB⟩; done) | (have hzm : gz zs k ∈ zs := (by { rw [gz_lt (show k < zs.length by omega)]; exact List.getElem_mem _ }); exact ⟨none, 0, [], 2, rfl, Own.nil _ _ _, ⟨fun h => by exfalso; omega, fun h => by have := h.2.2 _ hzm; omega⟩, fun h => by exfalso; omega, fun _ => rfl, hB⟩) | (obtain rfl : k = zs.length := (by omega); obtain ⟨hs1, hs2⟩ := syms_iff hall; rw [List.take_of_length_le (by simp)] at hM ⊢; exact ⟨po, co, _, 0, rfl, hM.o0, ⟨fun _ => ⟨hcd, by omega, hs2⟩, fun _ => rfl⟩, fun _ => ⟨rfl, hs1⟩, fun h => absurd rfl h, hB⟩)

theorem Read2_any (a rest : List Bool) (p q : Option Addr) (c d m n g : Nat) (w0 : World) (hr1 : Rd w0 p (bv a)) (hbx : Rd w0 (some ⟨g, 0, none⟩) [.slice q n d]) (hr2 : Rd w0 q (bv rest)) (hm : a.length = m) (hn : rest.length = n) (hd : n ≤ d) (hl : m ≤ 9223372036854775807) :
    CallsV Try.prog 35 #[.slice p m c, .pointer (some ⟨g, 0, none⟩)] w0 (fun v w => v = .bool (begins a rest) ∧ Below w0.heap.size w0 w) := by
  refine enter1 Try.func35 rfl Try.ntmps35 (by simp) rfl ?_
  have hB := Below.refl w0.heap.size w0
  simp only [argLoc]
  have hM := Mem.nil w0 w0.heap.size
  refine W.seqR ?_
  refine LS.vv rfl rfl (by decide) (Val.assign rfl) ?_
  refine LS.nil ?_
  refine W.seqR ?_
  refine LS.vv rfl rfl (by decide) (Val.move rfl) ?_
  refine LS.m rfl (Step.loadBox rfl rfl (by decide) flat36 rfl (hbx.below hB) ?_)
  refine LS.m rfl (Step.call body36 rfl rfl (by decide) rfl (CallsV.mono (begins_any a rest _ _ _ _ _ _ _ (hr1.below hB) (hr2.below hB) hm hn hd hl) ?_))
  rintro _ w1 ⟨rfl, hb1⟩
  replace hM := hM.below hb1
  replace hB := hB.trans (hb1.mono hB.size)
  refine LS.vv rfl rfl (by decide) (Val.assign rfl) ?_
  refine LS.nil ?_
  refine W.ret ?_
  refine ret1 (by first | exact .inl rfl | exact .inr rfl) rfl ?_
  exact ⟨rfl, hB⟩

theorem read_any (C : List Wd) (bs : List Bool) (p q : Option Addr) (c d m n : Nat) (w0 : World) (hr : RdW w0 p C) (hr2 : Rd w0 q (bv bs)) (hm : C.length = m) (hn : bs.length = n) (hl : n ≤ 1048576) (hnd : n ≤ d) (hdm : d ≤ 9223372036854775807) :
    CallsV Try.prog 18 #[.slice p m c, .slice q n d] w0 (fun v w => ∃ (p2 : Option Addr) (c2 : Nat) (L : List Nat) (e : Nat), v = .tuple #[.slice p2 L.length c2, .int .i64 (e : Int)] ∧ Own w w0.heap.size 3 p2 L.length c2 (nv L) ∧ (e = 0 → Coded (codeOf C) ∧ Free (codeOf C) ∧ NoBare (codeOf C) ∧ Syms (codeOf C) L ∧ wrtn (codeOf C) L = bs) ∧ (e ≠ 0 → L = [] ∧ (Coded (codeOf C) → Free (codeOf C) → NoBare (codeOf C) → bs ≠ [])) ∧ (Coded (codeOf C) → Free (codeOf C) → NoBare (codeOf C) → ∀ S, Syms (codeOf C) S → wrtn (codeOf C) S = bs → e = 0 ∧ L = S) ∧ Below w0.heap.size w0 w) := by
  refine enter2 Try.func18 rfl Try.ntmps18 (by simp) rfl ?_
  have hB := Below.refl w0.heap.size w0
  simp only [argLoc, Nat.zero_add]
  have hM := Mem.nil w0 w0.heap.size
  subst hm
  subst hn
  have hh := hr.head
  refine W.seqR ?_
  refine LS.m rfl (Step.box rfl rfl (by decide) rfl rfl (Nat.le_refl _) ?_)
  rintro w1 hO1 hg1 hbl1 hsz1
  replace hM := hM.add hB.size hbl1 hO1
  replace hB := hB.trans (hbl1.mono hB.size)
  skip
  refine LS.vv rfl rfl (by decide) (Val.assign rfl) ?_
  refine LS.vv rfl rfl (by decide) (Val.cast (v := .int .i64 ((0 : Nat) : Int)) (Val.assign rfl) rfl) ?_
  refine LS.nil ?_
  refine W.seq ?_
  refine W.seqR ?_
  refine LS.vv rfl rfl (by decide) (Val.move rfl) ?_
  refine LS.m rfl (Step.call body24 rfl rfl (by decide) rfl (CallsV.mono (check_any C _ _ _ _ (hr.below hB) rfl) ?_))
  rintro _ w2 ⟨e, rfl, he, hb2⟩
  replace hM := hM.below hb2
  replace hB := hB.trans (hb2.mono hB.size)
  refine LS.vv rfl rfl (by decide) (Val.assign rfl) ?_
  refine LS.nil ?_
  refine W.seqR ?_
  refine LS.vv rfl rfl (by decide) (Val.move rfl) ?_
  refine LS.vv rfl rfl (by decide) (Val.neq rfl rfl) ?_
  refine LS.nil ?_
  first | refine W.condD rfl (fun hc1 => ?_) (fun hc1 => ?_) | refine W.cond rfl (fun hc1 => ?_) (fun hc1 => ?_)
  ·
    refine W.seqR ?_
    refine LS.vv rfl rfl (by decide) (Val.move rfl) ?_
    refine LS.vv rfl rfl (by decide) (Val.assign rfl) ?_
    refine LS.vv rfl rfl (by decide) (Val.assign rfl) ?_
    refine LS.nil ?_
    refine W.ret ?_
    refine thenP_ret ?_
    refine ret2 (by first | exact .inl rfl | exact .inr rfl) rfl rfl ?_
    first | exact ⟨none, 0, [], e, rfl, Own.nil _ _ _, fun h => by exfalso; omega, fun _ => ⟨rfl, fun h => by exfalso; have := he.2 h; omega⟩, fun h => by exfalso; have := he.2 h; omega, hB⟩ | exact ⟨none, 0, [], 3, rfl, Own.nil _ _ _, fun h => (by cases h), fun _ => ⟨rfl, fun _ hf _ => absurd (hfb.2 hf) (nfb (by assumption))⟩, fun _ hf _ => absurd (hfb.2 hf) (nfb (by assumption)), hB⟩ | (have hnn : ¬ NoBare (codeOf C) := (fun hn => by { obtain ⟨i, hi, hi2⟩ := List.any_eq_true.1 (by assumption : (List.range C.length).any (fun i => decide ((gW C i).l.length = 0)) = true); rw [List.mem_range] at hi; exact (nobare_iff C).1 hn i hi (of_decide_eq_true hi2) }); exact ⟨none, 0, [], 3, rfl, Own.nil _ _ _, fun h => (by cases h), fun _ => ⟨rfl, fun _ _ hn => absurd hn hnn⟩, fun _ _ hn => absurd hn hnn, hB⟩) | (have hrne : rest ≠ [] := (fun e => (by have h0 : rest.length = 0 := (by rw [e]; rfl); omega)); exact ⟨none, 0, [], 5, rfl, Own.nil _ _ _, fun h => (by cases h), fun _ => ⟨rfl, fun _ _ _ hb => (by have h9 := List.length_pos_iff.2 hrne; have h0 : bs.length = 0 := (by rw [hb]; rfl); omega)⟩, fun _ _ _ S hS hw => absurd hw (hI.stuck hrne (fun i hi => by rw [codeOf_gw]; exact begins_false.1 (hno i (by rw [codeOf_len] at hi; exact hi))) hS), hB⟩) | (obtain rfl : rest = [] := List.eq_nil_of_length_eq_zero (by omega); exact ⟨po, co, L, 0, rfl, hM.o0, fun _ => ⟨hcd, hfr, hnb, hI.syms, by have := hI.all; rwa [List.append_nil] at this⟩, fun h => absurd rfl h, fun _ _ _ S hS hw => ⟨rfl, (hI.done hnb hS hw).symm⟩, hB⟩)
  ·
    refine W.skip ?_
    refine thenP_normal ?_
    refine W.seq ?_
    refine W.seqR ?_
    refine LS.vv rfl rfl (by decide) (Val.move rfl) ?_
    have hcd := he.1 (by omega)
    have hc8 := ((coded_iff C).1 hcd).1
    refine LS.m rfl (Step.call body25 rfl rfl (by decide) rfl (CallsV.mono (free_any C _ _ _ _ (hr.below hB) rfl (by omega)) ?_))
    rintro _ w3 ⟨fb, rfl, hfb, hb3⟩
    replace hM := hM.below hb3
    replace hB := hB.trans (hb3.mono hB.size)
    refine LS.vv rfl rfl (by decide) (Val.not rfl) ?_
    refine LS.vv rfl rfl (by decide) (Val.move rfl) ?_
    refine LS.split 3 rfl (fun hg2 => ?_) (fun hg2 => ?_)
    ·
      first | (have hg2p := of_decide_eq_true hg2) | skip
      refine LS.s rfl rfl rfl hg2 (by decide) ?_
      refine LS.s rfl rfl rfl hg2 (by decide) ?_
      refine LS.vv rfl rfl (by decide) (Val.pickT rfl hg2 rfl) ?_
      refine LS.nil ?_
      refine W.condT rfl ?_
      refine W.seqR ?_
      refine LS.vv rfl rfl (by decide) (Val.assign rfl) ?_
      refine LS.vv rfl rfl (by decide) (Val.cast (v := .int .i64 ((3 : Nat) : Int)) (Val.assign rfl) rfl) ?_
      refine LS.nil ?_
      refine W.ret ?_
      refine thenP_ret ?_
      refine ret2 (by first | exact .inl rfl | exact .inr rfl) rfl rfl ?_
      first | exact ⟨none, 0, [], e, rfl, Own.nil _ _ _, fun h => by exfalso; omega, fun _ => ⟨rfl, fun h => by exfalso; have := he.2 h; omega⟩, fun h => by exfalso; have := he.2 h; omega, hB⟩ | exact ⟨none, 0, [], 3, rfl, Own.nil _ _ _, fun h => (by cases h), fun _ => ⟨rfl, fun _ hf _ => absurd (hfb.2 hf) (nfb (by assumption))⟩, fun _ hf _ => absurd (hfb.2 hf) (nfb (by assumption)), hB⟩ | (have hnn : ¬ NoBare (codeOf C) := (fun hn => by { obtain ⟨i, hi, hi2⟩ := List.any_eq_true.1 (by assumption : (List.range C.length).any (fun i => decide ((gW C i).l.length = 0)) = true); rw [List.mem_range] at hi; exact (nobare_iff C).1 hn i hi (of_decide_eq_true hi2) }); exact ⟨none, 0, [], 3, rfl, Own.nil _ _ _, fun h => (by cases h), fun _ => ⟨rfl, fun _ _ hn => absurd hn hnn⟩, fun _ _ hn => absurd hn hnn, hB⟩) | (have hrne : rest ≠ [] := (fun e => (by have h0 : rest.length = 0 := (by rw [e]; rfl); omega)); exact ⟨none, 0, [], 5, rfl, Own.nil _ _ _, fun h => (by cases h), fun _ => ⟨rfl, fun _ _ _ hb => (by have h9 := List.length_pos_iff.2 hrne; have h0 : bs.length = 0 := (by rw [hb]; rfl); omega)⟩, fun _ _ _ S hS hw => absurd hw (hI.stuck hrne (fun i hi => by rw [codeOf_gw]; exact begins_false.1 (hno i (by rw [codeOf_len] at hi; exact hi))) hS), hB⟩) | (obtain rfl : rest = [] := List.eq_nil_of_length_eq_zero (by omega); exact ⟨po, co, L, 0, rfl, hM.o0, fun _ => ⟨hcd, hfr, hnb, hI.syms, by have := hI.all; rwa [List.append_nil] at this⟩, fun h => absurd rfl h, fun _ _ _ S hS hw => ⟨rfl, (hI.done hnb hS hw).symm⟩, hB⟩)
    ·
      first | (have hg2p := of_decide_eq_false hg2) | skip
      refine LS.vg rfl rfl rfl hg2 (by decide) (Val.move rfl) ?_
      refine LS.mg rfl rfl hg2 (Step.call body32 rfl rfl (by decide) rfl (CallsV.mono (containsC C (fun i => decide ((gW C i).l.length = 0)) 33 #[] p c _ _ body33 (hh.below hB) rfl (by omega) (fun i hi w hw => Read1_any _ _ _ w)) ?_))
      rintro _ w4 ⟨rfl, hb4⟩
      replace hM := hM.below hb4
      replace hB := hB.trans (hb4.mono hB.size)
      refine LS.vv rfl rfl (by decide) (Val.pickF rfl hg2 rfl) ?_
      refine LS.nil ?_
      first | refine W.condD rfl (fun hc3 => ?_) (fun hc3 => ?_) | refine W.cond rfl (fun hc3 => ?_) (fun hc3 => ?_)
      ·
        refine W.seqR ?_
        refine LS.vv rfl rfl (by decide) (Val.assign rfl) ?_
        refine LS.vv rfl rfl (by decide) (Val.cast (v := .int .i64 ((3 : Nat) : Int)) (Val.assign rfl) rfl) ?_
        refine LS.nil ?_
        refine W.ret ?_
        refine thenP_ret ?_
        refine ret2 (by first | exact .inl rfl | exact .inr rfl) rfl rfl ?_
        first | exact ⟨none, 0, [], e, rfl, Own.nil _ _ _, fun h => by exfalso; omega, fun _ => ⟨rfl, fun h => by exfalso; have := he.2 h; omega⟩, fun h => by exfalso; have := he.2 h; omega, hB⟩ | exact ⟨none, 0, [], 3, rfl, Own.nil _ _ _, fun h => (by cases h), fun _ => ⟨rfl, fun _ hf _ => absurd (hfb.2 hf) (nfb (by assumption))⟩, fun _ hf _ => absurd (hfb.2 hf) (nfb (by assumption)), hB⟩ | (have hnn : ¬ NoBare (codeOf C) := (fun hn => by { obtain ⟨i, hi, hi2⟩ := List.any_eq_true.1 (by assumption : (List.range C.length).any (fun i => decide ((gW C i).l.length = 0)) = true); rw [List.mem_range] at hi; exact (nobare_iff C).1 hn i hi (of_decide_eq_true hi2) }); exact ⟨none, 0, [], 3, rfl, Own.nil _ _ _, fun h => (by cases h), fun _ => ⟨rfl, fun _ _ hn => absurd hn hnn⟩, fun _ _ hn => absurd hn hnn, hB⟩) | (have hrne : rest ≠ [] := (fun e => (by have h0 : rest.length = 0 := (by rw [e]; rfl); omega)); exact ⟨none, 0, [], 5, rfl, Own.nil _ _ _, fun h => (by cases h), fun _ => ⟨rfl, fun _ _ _ hb => (by have h9 := List.length_pos_iff.2 hrne; have h0 : bs.length = 0 := (by rw [hb]; rfl); omega)⟩, fun _ _ _ S hS hw => absurd hw (hI.stuck hrne (fun i hi => by rw [codeOf_gw]; exact begins_false.1 (hno i (by rw [codeOf_len] at hi; exact hi))) hS), hB⟩) | (obtain rfl : rest = [] := List.eq_nil_of_length_eq_zero (by omega); exact ⟨po, co, L, 0, rfl, hM.o0, fun _ => ⟨hcd, hfr, hnb, hI.syms, by have := hI.all; rwa [List.append_nil] at this⟩, fun h => absurd rfl h, fun _ _ _ S hS hw => ⟨rfl, (hI.done hnb hS hw).symm⟩, hB⟩)
      ·
        have hfr : Free (codeOf C) := hfb.1 (by simpa using (by assumption : (!fb) = false))
        have hnb0 : ∀ i, i < C.length → (gW C i).l.length ≠ 0 := fun i hi => by { have := List.any_eq_false.1 hc3 i (List.mem_range.2 hi); simpa using this }
        have hnb : NoBare (codeOf C) := (nobare_iff C).2 hnb0
        refine W.skip ?_
        refine thenP_normal ?_
        refine W.seqR ?_
        refine LS.vv rfl rfl (by decide) (Val.assign rfl) ?_
        refine LS.nil ?_
        refine W.seq ?_
        refine W.block ?_
        replace hM := hM.addNil 3
        refine W.loop (α := List Nat × Option Addr × Nat × Option Addr × Nat × List Bool) (fun g => [(7, .slice g.2.1 g.1.length g.2.2.1)]) [(0, _), (3, _)] (fun g w => (RdI (codeOf C) bs g.1 g.2.2.2.2.2 ∧ Rd w0 g.2.2.2.1 (bv g.2.2.2.2.2) ∧ g.2.2.2.2.2.length ≤ g.2.2.2.2.1 ∧ g.1.length + g.2.2.2.2.2.length ≤ bs.length) ∧ Mem w w0.heap.size [⟨3, g.2.1, g.1.length, g.2.2.1, nv g.1⟩, ⟨36, some ⟨w0.heap.size, 0, none⟩, 1, 1, [.slice g.2.2.2.1 g.2.2.2.2.2.length g.2.2.2.2.1]⟩] ∧ Below w0.heap.size w0 w) (fun g => g.2.2.2.2.2.length) (([], none, 0, q, d, bs)) (Sub.cons rfl (Sub.nil _)) (Sub.cons rfl (Sub.cons rfl (Sub.nil _))) ?_ ?_
        · exact ⟨⟨RdI.start _ _, hr2, hnd, by simp⟩, hM, hB⟩
        rintro ⟨L, po, co, pb, cb, rest⟩ w5 ⟨⟨hI, hrr, hrc, hlen⟩, hM, hB⟩
        try simp only at hM
        simp only [List.cons_append, List.nil_append]
        simp only at hI hrr hrc hlen
        refine W.seq ?_
        refine W.seqR ?_
        refine LS.m rfl (Step.loadBox rfl rfl (by decide) flat36 rfl (hM.o1.rd) ?_)
        refine LS.vv rfl rfl (by decide) (Val.len Try.underlying36 rfl) ?_
        refine LS.vv rfl rfl (by decide) (Val.gtr rfl rfl) ?_
        refine LS.nil ?_
        first | refine W.condD rfl (fun hc4 => ?_) (fun hc4 => ?_) | refine W.cond rfl (fun hc4 => ?_) (fun hc4 => ?_)
        ·
          refine W.skip ?_
          refine thenP_normal ?_
          refine W.block ?_
          refine W.seqR ?_
          refine LS.vv rfl rfl (by decide) (Val.move rfl) ?_
          refine LS.vv rfl rfl (by decide) (Val.makeFunc rfl) ?_
          refine LS.m rfl (Step.call body34 rfl rfl (by decide) rfl (CallsV.mono (indexC C (fun i => begins (gW C i).l rest) 35 #[.pointer (some ⟨w0.heap.size, 0, none⟩)] p c _ _ body35 (hh.below hB) rfl (by omega) (fun i hi w hw => Read2_any (gW C i).l rest _ _ _ _ _ _ _ _ ((hr.at (k := i) hi).below (hB.trans (hw.mono hB.size))) ((hM.o1.rd).below hw) (hrr.below (hB.trans (hw.mono hB.size))) rfl rfl hrc (hr.max hi))) ?_))
          rintro _ w6 ⟨rfl, hb6⟩
          replace hM := hM.below hb6
          replace hB := hB.trans (hb6.mono hB.size)
          refine LS.vv rfl rfl (by decide) (Val.assign rfl) ?_
          refine LS.nil ?_
          refine W.seq ?_
          refine W.seqR ?_
          refine LS.vv rfl rfl (by decide) (Val.move rfl) ?_
          refine LS.vv rfl rfl (by decide) (Val.lss rfl rfl) ?_
          refine LS.nil ?_
          first | refine W.condD rfl (fun hc5 => ?_) (fun hc5 => ?_) | refine W.cond rfl (fun hc5 => ?_) (fun hc5 => ?_)
          ·
            have hno : ∀ i, i < C.length → begins (gW C i).l rest = false := by { rcases fI_cases (fun i => begins (gW C i).l rest) C.length with ⟨_, h2⟩ | ⟨i, _, _, _, h4⟩; exact h2; exfalso; omega }
            refine W.seqR ?_
            refine LS.vv rfl rfl (by decide) (Val.assign rfl) ?_
            refine LS.vv rfl rfl (by decide) (Val.cast (v := .int .i64 ((5 : Nat) : Int)) (Val.assign rfl) rfl) ?_
            refine LS.nil ?_
            refine W.ret ?_
            refine thenP_ret ?_
            refine inBlk_ret ?_
            refine thenP_ret ?_
            refine inBlk_ret ?_
            refine thenP_ret ?_
            refine ret2 (by first | exact .inl rfl | exact .inr rfl) rfl rfl ?_
            first | exact ⟨none, 0, [], e, rfl, Own.nil _ _ _, fun h => by exfalso; omega, fun _ => ⟨rfl, fun h => by exfalso; have := he.2 h; omega⟩, fun h => by exfalso; have := he.2 h; omega, hB⟩ | exact ⟨none, 0, [], 3, rfl, Own.nil _ _ _, fun h => (by cases h), fun _ => ⟨rfl, fun _ hf _ => absurd (hfb.2 hf) (nfb (by assumption))⟩, fun _ hf _ => absurd (hfb.2 hf) (nfb (by assumption)), hB⟩ | (have hnn : ¬ NoBare (codeOf C) := (fun hn => by { obtain ⟨i, hi, hi2⟩ := List.any_eq_true.1 (by assumption : (List.range C.length).any (fun i => decide ((gW C i).l.length = 0)) = true); rw [List.mem_range] at hi; exact (nobare_iff C).1 hn i hi (of_decide_eq_true hi2) }); exact ⟨none, 0, [], 3, rfl, Own.nil _ _ _, fun h => (by cases h), fun _ => ⟨rfl, fun _ _ hn => absurd hn hnn⟩, fun _ _ hn => absurd hn hnn, hB⟩) | (have hrne : rest ≠ [] := (fun e => (by have h0 : rest.length = 0 := (by rw [e]; rfl); omega)); exact ⟨none, 0, [], 5, rfl, Own.nil _ _ _, fun h => (by cases h), fun _ => ⟨rfl, fun _ _ _ hb => (by have h9 := List.length_pos_iff.2 hrne; have h0 : bs.length = 0 := (by rw [hb]; rfl); omega)⟩, fun _ _ _ S hS hw => absurd hw (hI.stuck hrne (fun i hi => by rw [codeOf_gw]; exact begins_false.1 (hno i (by rw [codeOf_len] at hi; exact hi))) hS), hB⟩) | (obtain rfl : rest = [] := List.eq_nil_of_length_eq_zero (by omega); exact ⟨po, co, L, 0, rfl, hM.o0, fun _ => ⟨hcd, hfr, hnb, hI.syms, by have := hI.all; rwa [List.append_nil] at this⟩, fun h => absurd rfl h, fun _ _ _ S hS hw => ⟨rfl, (hI.done hnb hS hw).symm⟩, hB⟩)
          ·
            obtain ⟨s, hs1, hs2, hs4⟩ : ∃ s, s < C.length ∧ begins (gW C s).l rest = true ∧ fI (fun i => begins (gW C i).l rest) C.length = (s : Int) := by { rcases fI_cases (fun i => begins (gW C i).l rest) C.length with ⟨h1, _⟩ | ⟨i, h1, h2, _, h4⟩; exfalso; omega; exact ⟨i, h1, h2, h4⟩ }
            rw [hs4]
            have hrne : rest ≠ [] := fun e => by { have h0 : rest.length = 0 := (by rw [e]; rfl); omega }
            have hst := hI.step hfr (s := s) (by rw [codeOf_len]; exact hs1) (by rw [codeOf_gw]; exact begins_iff.1 hs2) hrne
            rw [codeOf_gw] at hst
            have hwl0 := hnb0 s hs1
            have hwl := (begins_iff.1 hs2).length_le
            refine W.skip ?_
            refine thenP_normal ?_
            refine W.regT (S := fun w => Below w0.heap.size w0 w) (.val 0 (.val 1 (.val 5 (.val 6 (.val 7 (.three (.mem 2 (.three (.mem 3 (.val 11 (.two (.mem 4 (.mem 8 (.val 9 (.val 10 (.mem 12 (.done)))))) (.mem 8 (.val 9 (.mem 4 (.val 10 (.mem 12 (.done))))))))) (.mem 4 (.two (.mem 3 (.val 11 (.mem 8 (.val 9 (.val 10 (.mem 12 (.done))))))) (.mem 8 (.val 9 (.val 10 (.mem 3 (.val 11 (.mem 12 (.done))))))))) (.mem 8 (.val 9 (.two (.mem 3 (.val 11 (.mem 4 (.val 10 (.mem 12 (.done)))))) (.mem 4 (.val 10 (.mem 3 (.val 11 (.mem 12 (.done))))))))))) (.mem 4 (.two (.mem 2 (.two (.mem 3 (.val 11 (.mem 8 (.val 9 (.val 10 (.mem 12 (.done))))))) (.mem 8 (.val 9 (.val 10 (.mem 3 (.val 11 (.mem 12 (.done))))))))) (.mem 8 (.val 9 (.val 10 (.mem 2 (.mem 3 (.val 11 (.mem 12 (.done)))))))))) (.mem 8 (.val 9 (.two (.mem 2 (.two (.mem 3 (.val 11 (.mem 4 (.val 10 (.mem 12 (.done)))))) (.mem 4 (.val 10 (.mem 3 (.val 11 (.mem 12 (.done)))))))) (.mem 4 (.val 10 (.mem 2 (.mem 3 (.val 11 (.mem 12 (.done)))))))))))))))) mixed (by kernel_rfl) hB.drew ?_
            replace hB := hB.drew
            replace hM := hM.drew
            refine DT.vv rfl rfl rfl (by decide) (Val.move rfl) ?_
            refine DT.vv rfl rfl rfl (by decide) (Val.move rfl) ?_
            refine DT.vv rfl rfl rfl (by decide) (Val.move rfl) ?_
            refine DT.vv rfl rfl rfl (by decide) (Val.move rfl) ?_
            refine DT.vv rfl rfl rfl (by decide) (Val.index1 Try.underlying22 elem36 rfl rfl (by omega) ((hh.below hB)) (wv_lt (by omega))) ?_
            refine DT.three ?_ ?_ ?_
            ·
              refine DT.m rfl rfl (Step.lit rfl rfl (by decide) Try.underlying28 elem3 rfl rfl (by omega) (by simp [Value.oneCell']) (Nat.le_refl _) ?_)
              rintro w7 hO7 hg7 hbl7 hsz7
              replace hM := hM.add hB.size hbl7 hO7
              replace hB := hB.trans (hbl7.mono hB.size)
              generalize w6.drew.heap.size = gg7 at *
              refine ⟨hB, ?_⟩
              refine DT.three ?_ ?_ ?_
              ·
                refine DT.m rfl rfl (Step.append2 (B := w0.heap.size) rfl rfl (by decide) Try.underlying28 elem3 rfl rfl rfl rfl (hM.o1) (hM.o0.rd) (by first | rfl | (simp; done) | (simp; omega)) (by first | exact one_map _ (fun _ => rfl) _ | simp [Value.oneCell']) (by omega) (by omega) hB.size ?_)
                rintro p8 c8 w8 hO8 hg8 hbl8 hbk8
                replace hM := hM.s1 hg8 hO8 hbk8
                replace hM := hM.tail
                try simp only [nv_app1, nv_app, nv_set, nv_rep, nv_one, nv_cons, nv_take, nv_drop, List.nil_append] at hM
                replace hB := hB.trans hbl8
                refine ⟨hB, ?_⟩
                refine DT.vv rfl rfl rfl (by decide) (Val.assign rfl) ?_
                refine DT.two ?_ ?_
                ·
                  refine DT.m rfl rfl (Step.loadBox rfl rfl (by decide) flat36 rfl (hM.o1.rd) ?_)
                  refine ⟨hB, ?_⟩
                  refine DT.m rfl rfl (Step.load rfl rfl (by decide) flat36 rfl ((hh.below hB)) (wv_at (by omega)) ?_)
                  refine ⟨hB, ?_⟩
                  refine DT.vv rfl rfl rfl (by decide) (Val.len Try.underlying36 rfl) ?_
                  refine DT.vv rfl rfl rfl (by decide) (Val.sliceFrom Try.underlying36 elem4 rfl rfl (by omega) (by omega)) ?_
                  refine DT.m rfl rfl (Step.storeBox (B := w0.heap.size) rfl rfl flat36 elem36 rfl rfl rfl (hM.o1) hB.size ?_)
                  rintro w9 hO9 hg9 hbl9 hsz9
                  replace hM := hM.s1 hg9 hO9 inl_block
                  replace hB := hB.trans hbl9
                  refine ⟨hB, ?_⟩
                  refine DT.nil ?_
                  refine inBlk_normal ?_
                  refine thenP_normal ?_
                  refine ⟨(L ++ [s], p8, c8, cutAt pb cb (gW C s).l.length, cb - (gW C s).l.length, rest.drop (gW C s).l.length), ?_, ?_, ⟨⟨hst, hrr.cut_bv hrc, by simp only [List.length_drop]; omega, by simp only [List.length_append, List.length_cons, List.length_nil, List.length_drop]; omega⟩, ?_, hB⟩, by simp only [List.length_drop]; omega⟩
                  · exact (Sub.cons' rfl (by simp only [List.length_append, List.length_cons, List.length_nil]) (Sub.nil _))
                  · repeat (first | exact Sub.nil _ | refine Sub.cons rfl ?_)
                  · simp only [List.length_append, List.length_cons, List.length_nil, List.length_drop]; exact hM
                ·
                  refine DT.m rfl rfl (Step.load rfl rfl (by decide) flat36 rfl ((hh.below hB)) (wv_at (by omega)) ?_)
                  refine ⟨hB, ?_⟩
                  refine DT.vv rfl rfl rfl (by decide) (Val.len Try.underlying36 rfl) ?_
                  refine DT.m rfl rfl (Step.loadBox rfl rfl (by decide) flat36 rfl (hM.o1.rd) ?_)
                  refine ⟨hB, ?_⟩
                  refine DT.vv rfl rfl rfl (by decide) (Val.sliceFrom Try.underlying36 elem4 rfl rfl (by omega) (by omega)) ?_
                  refine DT.m rfl rfl (Step.storeBox (B := w0.heap.size) rfl rfl flat36 elem36 rfl rfl rfl (hM.o1) hB.size ?_)
                  rintro w10 hO10 hg10 hbl10 hsz10
                  replace hM := hM.s1 hg10 hO10 inl_block
                  replace hB := hB.trans hbl10
                  refine ⟨hB, ?_⟩
                  refine DT.nil ?_
                  refine inBlk_normal ?_
                  refine thenP_normal ?_
                  refine ⟨(L ++ [s], p8, c8, cutAt pb cb (gW C s).l.length, cb - (gW C s).l.length, rest.drop (gW C s).l.length), ?_, ?_, ⟨⟨hst, hrr.cut_bv hrc, by simp only [List.length_drop]; omega, by simp only [List.length_append, List.length_cons, List.length_nil, List.length_drop]; omega⟩, ?_, hB⟩, by simp only [List.length_drop]; omega⟩
                  · exact (Sub.cons' rfl (by simp only [List.length_append, List.length_cons, List.length_nil]) (Sub.nil _))
                  · repeat (first | exact Sub.nil _ | refine Sub.cons rfl ?_)
                  · simp only [List.length_append, List.length_cons, List.length_nil, List.length_drop]; exact hM
              ·
                refine DT.m rfl rfl (Step.loadBox rfl rfl (by decide) flat36 rfl (hM.o2.rd) ?_)
                refine ⟨hB, ?_⟩
                refine DT.two ?_ ?_
                ·
                  refine DT.m rfl rfl (Step.append2 (B := w0.heap.size) rfl rfl (by decide) Try.underlying28 elem3 rfl rfl rfl rfl (hM.o1) (hM.o0.rd) (by first | rfl | (simp; done) | (simp; omega)) (by first | exact one_map _ (fun _ => rfl) _ | simp [Value.oneCell']) (by omega) (by omega) hB.size ?_)
                  rintro p11 c11 w11 hO11 hg11 hbl11 hbk11
                  replace hM := hM.s1 hg11 hO11 hbk11
                  replace hM := hM.tail
                  try simp only [nv_app1, nv_app, nv_set, nv_rep, nv_one, nv_cons, nv_take, nv_drop, List.nil_append] at hM
                  replace hB := hB.trans hbl11
                  refine ⟨hB, ?_⟩
                  refine DT.vv rfl rfl rfl (by decide) (Val.assign rfl) ?_
                  refine DT.m rfl rfl (Step.load rfl rfl (by decide) flat36 rfl ((hh.below hB)) (wv_at (by omega)) ?_)
                  refine ⟨hB, ?_⟩
                  refine DT.vv rfl rfl rfl (by decide) (Val.len Try.underlying36 rfl) ?_
                  refine DT.vv rfl rfl rfl (by decide) (Val.sliceFrom Try.underlying36 elem4 rfl rfl (by omega) (by omega)) ?_
                  refine DT.m rfl rfl (Step.storeBox (B := w0.heap.size) rfl rfl flat36 elem36 rfl rfl rfl (hM.o1) hB.size ?_)
                  rintro w12 hO12 hg12 hbl12 hsz12
                  replace hM := hM.s1 hg12 hO12 inl_block
                  replace hB := hB.trans hbl12
                  refine ⟨hB, ?_⟩
                  refine DT.nil ?_
                  refine inBlk_normal ?_
                  refine thenP_normal ?_
                  refine ⟨(L ++ [s], p11, c11, cutAt pb cb (gW C s).l.length, cb - (gW C s).l.length, rest.drop (gW C s).l.length), ?_, ?_, ⟨⟨hst, hrr.cut_bv hrc, by simp only [List.length_drop]; omega, by simp only [List.length_append, List.length_cons, List.length_nil, List.length_drop]; omega⟩, ?_, hB⟩, by simp only [List.length_drop]; omega⟩
                  · exact (Sub.cons' rfl (by simp only [List.length_append, List.length_cons, List.length_nil]) (Sub.nil _))
                  · repeat (first | exact Sub.nil _ | refine Sub.cons rfl ?_)
                  · simp only [List.length_append, List.length_cons, List.length_nil, List.length_drop]; exact hM
                ·
                  refine DT.m rfl rfl (Step.load rfl rfl (by decide) flat36 rfl ((hh.below hB)) (wv_at (by omega)) ?_)
                  refine ⟨hB, ?_⟩
                  refine DT.vv rfl rfl rfl (by decide) (Val.len Try.underlying36 rfl) ?_
                  refine DT.vv rfl rfl rfl (by decide) (Val.sliceFrom Try.underlying36 elem4 rfl rfl (by omega) (by omega)) ?_
                  refine DT.m rfl rfl (Step.append2 (B := w0.heap.size) rfl rfl (by decide) Try.underlying28 elem3 rfl rfl rfl rfl (hM.o1) (hM.o0.rd) (by first | rfl | (simp; done) | (simp; omega)) (by first | exact one_map _ (fun _ => rfl) _ | simp [Value.oneCell']) (by omega) (by omega) hB.size ?_)
                  rintro p13 c13 w13 hO13 hg13 hbl13 hbk13
                  replace hM := hM.s1 hg13 hO13 hbk13
                  replace hM := hM.tail
                  try simp only [nv_app1, nv_app, nv_set, nv_rep, nv_one, nv_cons, nv_take, nv_drop, List.nil_append] at hM
                  replace hB := hB.trans hbl13
                  refine ⟨hB, ?_⟩
                  refine DT.vv rfl rfl rfl (by decide) (Val.assign rfl) ?_
                  refine DT.m rfl rfl (Step.storeBox (B := w0.heap.size) rfl rfl flat36 elem36 rfl rfl rfl (hM.o1) hB.size ?_)
                  rintro w14 hO14 hg14 hbl14 hsz14
                  replace hM := hM.s1 hg14 hO14 inl_block
                  replace hB := hB.trans hbl14
                  refine ⟨hB, ?_⟩
                  refine DT.nil ?_
                  refine inBlk_normal ?_
                  refine thenP_normal ?_
                  refine ⟨(L ++ [s], p13, c13, cutAt pb cb (gW C s).l.length, cb - (gW C s).l.length, rest.drop (gW C s).l.length), ?_, ?_, ⟨⟨hst, hrr.cut_bv hrc, by simp only [List.length_drop]; omega, by simp only [List.length_append, List.length_cons, List.length_nil, List.length_drop]; omega⟩, ?_, hB⟩, by simp only [List.length_drop]; omega⟩
                  · exact (Sub.cons' rfl (by simp only [List.length_append, List.length_cons, List.length_nil]) (Sub.nil _))
                  · repeat (first | exact Sub.nil _ | refine Sub.cons rfl ?_)
                  · simp only [List.length_append, List.length_cons, List.length_nil, List.length_drop]; exact hM
              ·
                refine DT.m rfl rfl (Step.load rfl rfl (by decide) flat36 rfl ((hh.below hB)) (wv_at (by omega)) ?_)
                refine ⟨hB, ?_⟩
                refine DT.vv rfl rfl rfl (by decide) (Val.len Try.underlying36 rfl) ?_
                refine DT.two ?_ ?_
                ·
                  refine DT.m rfl rfl (Step.append2 (B := w0.heap.size) rfl rfl (by decide) Try.underlying28 elem3 rfl rfl rfl rfl (hM.o1) (hM.o0.rd) (by first | rfl | (simp; done) | (simp; omega)) (by first | exact one_map _ (fun _ => rfl) _ | simp [Value.oneCell']) (by omega) (by omega) hB.size ?_)
                  rintro p15 c15 w15 hO15 hg15 hbl15 hbk15
                  replace hM := hM.s1 hg15 hO15 hbk15
                  replace hM := hM.tail
                  try simp only [nv_app1, nv_app, nv_set, nv_rep, nv_one, nv_cons, nv_take, nv_drop, List.nil_append] at hM
                  replace hB := hB.trans hbl15
                  refine ⟨hB, ?_⟩
                  refine DT.vv rfl rfl rfl (by decide) (Val.assign rfl) ?_
                  refine DT.m rfl rfl (Step.loadBox rfl rfl (by decide) flat36 rfl (hM.o1.rd) ?_)
                  refine ⟨hB, ?_⟩
                  refine DT.vv rfl rfl rfl (by decide) (Val.sliceFrom Try.underlying36 elem4 rfl rfl (by omega) (by omega)) ?_
                  refine DT.m rfl rfl (Step.storeBox (B := w0.heap.size) rfl rfl flat36 elem36 rfl rfl rfl (hM.o1) hB.size ?_)
                  rintro w16 hO16 hg16 hbl16 hsz16
                  replace hM := hM.s1 hg16 hO16 inl_block
                  replace hB := hB.trans hbl16
                  refine ⟨hB, ?_⟩
                  refine DT.nil ?_
                  refine inBlk_normal ?_
                  refine thenP_normal ?_
                  refine ⟨(L ++ [s], p15, c15, cutAt pb cb (gW C s).l.length, cb - (gW C s).l.length, rest.drop (gW C s).l.length), ?_, ?_, ⟨⟨hst, hrr.cut_bv hrc, by simp only [List.length_drop]; omega, by simp only [List.length_append, List.length_cons, List.length_nil, List.length_drop]; omega⟩, ?_, hB⟩, by simp only [List.length_drop]; omega⟩
                  · exact (Sub.cons' rfl (by simp only [List.length_append, List.length_cons, List.length_nil]) (Sub.nil _))
                  · repeat (first | exact Sub.nil _ | refine Sub.cons rfl ?_)
                  · simp only [List.length_append, List.length_cons, List.length_nil, List.length_drop]; exact hM
                ·
                  refine DT.m rfl rfl (Step.loadBox rfl rfl (by decide) flat36 rfl (hM.o2.rd) ?_)
                  refine ⟨hB, ?_⟩
                  refine DT.vv rfl rfl rfl (by decide) (Val.sliceFrom Try.underlying36 elem4 rfl rfl (by omega) (by omega)) ?_
                  refine DT.m rfl rfl (Step.append2 (B := w0.heap.size) rfl rfl (by decide) Try.underlying28 elem3 rfl rfl rfl rfl (hM.o1) (hM.o0.rd) (by first | rfl | (simp; done) | (simp; omega)) (by first | exact one_map _ (fun _ => rfl) _ | simp [Value.oneCell']) (by omega) (by omega) hB.size ?_)
                  rintro p17 c17 w17 hO17 hg17 hbl17 hbk17
                  replace hM := hM.s1 hg17 hO17 hbk17
                  replace hM := hM.tail
                  try simp only [nv_app1, nv_app, nv_set, nv_rep, nv_one, nv_cons, nv_take, nv_drop, List.nil_append] at hM
                  replace hB := hB.trans hbl17
                  refine ⟨hB, ?_⟩
                  refine DT.vv rfl rfl rfl (by decide) (Val.assign rfl) ?_
                  refine DT.m rfl rfl (Step.storeBox (B := w0.heap.size) rfl rfl flat36 elem36 rfl rfl rfl (hM.o1) hB.size ?_)
                  rintro w18 hO18 hg18 hbl18 hsz18
                  replace hM := hM.s1 hg18 hO18 inl_block
                  replace hB := hB.trans hbl18
                  refine ⟨hB, ?_⟩
                  refine DT.nil ?_
                  refine inBlk_normal ?_
                  refine thenP_normal ?_
                  refine ⟨(L ++ [s], p17, c17, cutAt pb cb (gW C s).l.length, cb - (gW C s).l.length, rest.drop (gW C s).l.length), ?_, ?_, ⟨⟨hst, hrr.cut_bv hrc, by simp only [List.length_drop]; omega, by simp only [List.length_append, List.length_cons, List.length_nil, List.length_drop]; omega⟩, ?_, hB⟩, by simp only [List.length_drop]; omega⟩
                  · exact (Sub.cons' rfl (by simp only [List.length_append, List.length_cons, List.length_nil]) (Sub.nil _))
                  · repeat (first | exact Sub.nil _ | refine Sub.cons rfl ?_)
                  · simp only [List.length_append, List.length_cons, List.length_nil, List.length_drop]; exact hM
            ·
              refine DT.m rfl rfl (Step.loadBox rfl rfl (by decide) flat36 rfl (hM.o1.rd) ?_)
              refine ⟨hB, ?_⟩
              refine DT.two ?_ ?_
              ·
                refine DT.m rfl rfl (Step.lit rfl rfl (by decide) Try.underlying28 elem3 rfl rfl (by omega) (by simp [Value.oneCell']) (Nat.le_refl _) ?_)
                rintro w19 hO19 hg19 hbl19 hsz19
                replace hM := hM.add hB.size hbl19 hO19
                replace hB := hB.trans (hbl19.mono hB.size)
                generalize w6.drew.heap.size = gg19 at *
                refine ⟨hB, ?_⟩
                refine DT.two ?_ ?_
                ·
                  refine DT.m rfl rfl (Step.append2 (B := w0.heap.size) rfl rfl (by decide) Try.underlying28 elem3 rfl rfl rfl rfl (hM.o1) (hM.o0.rd) (by first | rfl | (simp; done) | (simp; omega)) (by first | exact one_map _ (fun _ => rfl) _ | simp [Value.oneCell']) (by omega) (by omega) hB.size ?_)
                  rintro p20 c20 w20 hO20 hg20 hbl20 hbk20
                  replace hM := hM.s1 hg20 hO20 hbk20
                  replace hM := hM.tail
                  try simp only [nv_app1, nv_app, nv_set, nv_rep, nv_one, nv_cons, nv_take, nv_drop, List.nil_append] at hM
                  replace hB := hB.trans hbl20
                  refine ⟨hB, ?_⟩
                  refine DT.vv rfl rfl rfl (by decide) (Val.assign rfl) ?_
                  refine DT.m rfl rfl (Step.load rfl rfl (by decide) flat36 rfl ((hh.below hB)) (wv_at (by omega)) ?_)
                  refine ⟨hB, ?_⟩
                  refine DT.vv rfl rfl rfl (by decide) (Val.len Try.underlying36 rfl) ?_
                  refine DT.vv rfl rfl rfl (by decide) (Val.sliceFrom Try.underlying36 elem4 rfl rfl (by omega) (by omega)) ?_
                  refine DT.m rfl rfl (Step.storeBox (B := w0.heap.size) rfl rfl flat36 elem36 rfl rfl rfl (hM.o1) hB.size ?_)
                  rintro w21 hO21 hg21 hbl21 hsz21
                  replace hM := hM.s1 hg21 hO21 inl_block
                  replace hB := hB.trans hbl21
                  refine ⟨hB, ?_⟩
                  refine DT.nil ?_
                  refine inBlk_normal ?_
                  refine thenP_normal ?_
                  refine ⟨(L ++ [s], p20, c20, cutAt pb cb (gW C s).l.length, cb - (gW C s).l.length, rest.drop (gW C s).l.length), ?_, ?_, ⟨⟨hst, hrr.cut_bv hrc, by simp only [List.length_drop]; omega, by simp only [List.length_append, List.length_cons, List.length_nil, List.length_drop]; omega⟩, ?_, hB⟩, by simp only [List.length_drop]; omega⟩
                  · exact (Sub.cons' rfl (by simp only [List.length_append, List.length_cons, List.length_nil]) (Sub.nil _))
                  · repeat (first | exact Sub.nil _ | refine Sub.cons rfl ?_)
                  · simp only [List.length_append, List.length_cons, List.length_nil, List.length_drop]; exact hM
                ·
                  refine DT.m rfl rfl (Step.load rfl rfl (by decide) flat36 rfl ((hh.below hB)) (wv_at (by omega)) ?_)
                  refine ⟨hB, ?_⟩
                  refine DT.vv rfl rfl rfl (by decide) (Val.len Try.underlying36 rfl) ?_
                  refine DT.vv rfl rfl rfl (by decide) (Val.sliceFrom Try.underlying36 elem4 rfl rfl (by omega) (by omega)) ?_
                  refine DT.m rfl rfl (Step.append2 (B := w0.heap.size) rfl rfl (by decide) Try.underlying28 elem3 rfl rfl rfl rfl (hM.o1) (hM.o0.rd) (by first | rfl | (simp; done) | (simp; omega)) (by first | exact one_map _ (fun _ => rfl) _ | simp [Value.oneCell']) (by omega) (by omega) hB.size ?_)
                  rintro p22 c22 w22 hO22 hg22 hbl22 hbk22
                  replace hM := hM.s1 hg22 hO22 hbk22
                  replace hM := hM.tail
                  try simp only [nv_app1, nv_app, nv_set, nv_rep, nv_one, nv_cons, nv_take, nv_drop, List.nil_append] at hM
                  replace hB := hB.trans hbl22
                  refine ⟨hB, ?_⟩
                  refine DT.vv rfl rfl rfl (by decide) (Val.assign rfl) ?_
                  refine DT.m rfl rfl (Step.storeBox (B := w0.heap.size) rfl rfl flat36 elem36 rfl rfl rfl (hM.o1) hB.size ?_)
                  rintro w23 hO23 hg23 hbl23 hsz23
                  replace hM := hM.s1 hg23 hO23 inl_block
                  replace hB := hB.trans hbl23
                  refine ⟨hB, ?_⟩
                  refine DT.nil ?_
                  refine inBlk_normal ?_
                  refine thenP_normal ?_
                  refine ⟨(L ++ [s], p22, c22, cutAt pb cb (gW C s).l.length, cb - (gW C s).l.length, rest.drop (gW C s).l.length), ?_, ?_, ⟨⟨hst, hrr.cut_bv hrc, by simp only [List.length_drop]; omega, by simp only [List.length_append, List.length_cons, List.length_nil, List.length_drop]; omega⟩, ?_, hB⟩, by simp only [List.length_drop]; omega⟩
                  · exact (Sub.cons' rfl (by simp only [List.length_append, List.length_cons, List.length_nil]) (Sub.nil _))
                  · repeat (first | exact Sub.nil _ | refine Sub.cons rfl ?_)
                  · simp only [List.length_append, List.length_cons, List.length_nil, List.length_drop]; exact hM
              ·
                refine DT.m rfl rfl (Step.load rfl rfl (by decide) flat36 rfl ((hh.below hB)) (wv_at (by omega)) ?_)
                refine ⟨hB, ?_⟩
                refine DT.vv rfl rfl rfl (by decide) (Val.len Try.underlying36 rfl) ?_
                refine DT.vv rfl rfl rfl (by decide) (Val.sliceFrom Try.underlying36 elem4 rfl rfl (by omega) (by omega)) ?_
                refine DT.m rfl rfl (Step.lit rfl rfl (by decide) Try.underlying28 elem3 rfl rfl (by omega) (by simp [Value.oneCell']) (Nat.le_refl _) ?_)
                rintro w24 hO24 hg24 hbl24 hsz24
                replace hM := hM.add hB.size hbl24 hO24
                replace hB := hB.trans (hbl24.mono hB.size)
                generalize w6.drew.heap.size = gg24 at *
                refine ⟨hB, ?_⟩
                refine DT.m rfl rfl (Step.append2 (B := w0.heap.size) rfl rfl (by decide) Try.underlying28 elem3 rfl rfl rfl rfl (hM.o1) (hM.o0.rd) (by first | rfl | (simp; done) | (simp; omega)) (by first | exact one_map _ (fun _ => rfl) _ | simp [Value.oneCell']) (by omega) (by omega) hB.size ?_)
                rintro p25 c25 w25 hO25 hg25 hbl25 hbk25
                replace hM := hM.s1 hg25 hO25 hbk25
                replace hM := hM.tail
                try simp only [nv_app1, nv_app, nv_set, nv_rep, nv_one, nv_cons, nv_take, nv_drop, List.nil_append] at hM
                replace hB := hB.trans hbl25
                refine ⟨hB, ?_⟩
                refine DT.vv rfl rfl rfl (by decide) (Val.assign rfl) ?_
                refine DT.m rfl rfl (Step.storeBox (B := w0.heap.size) rfl rfl flat36 elem36 rfl rfl rfl (hM.o1) hB.size ?_)
                rintro w26 hO26 hg26 hbl26 hsz26
                replace hM := hM.s1 hg26 hO26 inl_block
                replace hB := hB.trans hbl26
                refine ⟨hB, ?_⟩
                refine DT.nil ?_
                refine inBlk_normal ?_
                refine thenP_normal ?_
                refine ⟨(L ++ [s], p25, c25, cutAt pb cb (gW C s).l.length, cb - (gW C s).l.length, rest.drop (gW C s).l.length), ?_, ?_, ⟨⟨hst, hrr.cut_bv hrc, by simp only [List.length_drop]; omega, by simp only [List.length_append, List.length_cons, List.length_nil, List.length_drop]; omega⟩, ?_, hB⟩, by simp only [List.length_drop]; omega⟩
                · exact (Sub.cons' rfl (by simp only [List.length_append, List.length_cons, List.length_nil]) (Sub.nil _))
                · repeat (first | exact Sub.nil _ | refine Sub.cons rfl ?_)
                · simp only [List.length_append, List.length_cons, List.length_nil, List.length_drop]; exact hM
            ·
              refine DT.m rfl rfl (Step.load rfl rfl (by decide) flat36 rfl ((hh.below hB)) (wv_at (by omega)) ?_)
              refine ⟨hB, ?_⟩
              refine DT.vv rfl rfl rfl (by decide) (Val.len Try.underlying36 rfl) ?_
              refine DT.two ?_ ?_
              ·
                refine DT.m rfl rfl (Step.lit rfl rfl (by decide) Try.underlying28 elem3 rfl rfl (by omega) (by simp [Value.oneCell']) (Nat.le_refl _) ?_)
                rintro w27 hO27 hg27 hbl27 hsz27
                replace hM := hM.add hB.size hbl27 hO27
                replace hB := hB.trans (hbl27.mono hB.size)
                generalize w6.drew.heap.size = gg27 at *
                refine ⟨hB, ?_⟩
                refine DT.two ?_ ?_
                ·
                  refine DT.m rfl rfl (Step.append2 (B := w0.heap.size) rfl rfl (by decide) Try.underlying28 elem3 rfl rfl rfl rfl (hM.o1) (hM.o0.rd) (by first | rfl | (simp; done) | (simp; omega)) (by first | exact one_map _ (fun _ => rfl) _ | simp [Value.oneCell']) (by omega) (by omega) hB.size ?_)
                  rintro p28 c28 w28 hO28 hg28 hbl28 hbk28
                  replace hM := hM.s1 hg28 hO28 hbk28
                  replace hM := hM.tail
                  try simp only [nv_app1, nv_app, nv_set, nv_rep, nv_one, nv_cons, nv_take, nv_drop, List.nil_append] at hM
                  replace hB := hB.trans hbl28
                  refine ⟨hB, ?_⟩
                  refine DT.vv rfl rfl rfl (by decide) (Val.assign rfl) ?_
                  refine DT.m rfl rfl (Step.loadBox rfl rfl (by decide) flat36 rfl (hM.o1.rd) ?_)
                  refine ⟨hB, ?_⟩
                  refine DT.vv rfl rfl rfl (by decide) (Val.sliceFrom Try.underlying36 elem4 rfl rfl (by omega) (by omega)) ?_
                  refine DT.m rfl rfl (Step.storeBox (B := w0.heap.size) rfl rfl flat36 elem36 rfl rfl rfl (hM.o1) hB.size ?_)
                  rintro w29 hO29 hg29 hbl29 hsz29
                  replace hM := hM.s1 hg29 hO29 inl_block
                  replace hB := hB.trans hbl29
                  refine ⟨hB, ?_⟩
                  refine DT.nil ?_
                  refine inBlk_normal ?_
                  refine thenP_normal ?_
                  refine ⟨(L ++ [s], p28, c28, cutAt pb cb (gW C s).l.length, cb - (gW C s).l.length, rest.drop (gW C s).l.length), ?_, ?_, ⟨⟨hst, hrr.cut_bv hrc, by simp only [List.length_drop]; omega, by simp only [List.length_append, List.length_cons, List.length_nil, List.length_drop]; omega⟩, ?_, hB⟩, by simp only [List.length_drop]; omega⟩
                  · exact (Sub.cons' rfl (by simp only [List.length_append, List.length_cons, List.length_nil]) (Sub.nil _))
                  · repeat (first | exact Sub.nil _ | refine Sub.cons rfl ?_)
                  · simp only [List.length_append, List.length_cons, List.length_nil, List.length_drop]; exact hM
                ·
                  refine DT.m rfl rfl (Step.loadBox rfl rfl (by decide) flat36 rfl (hM.o2.rd) ?_)
                  refine ⟨hB, ?_⟩
                  refine DT.vv rfl rfl rfl (by decide) (Val.sliceFrom Try.underlying36 elem4 rfl rfl (by omega) (by omega)) ?_
                  refine DT.m rfl rfl (Step.append2 (B := w0.heap.size) rfl rfl (by decide) Try.underlying28 elem3 rfl rfl rfl rfl (hM.o1) (hM.o0.rd) (by first | rfl | (simp; done) | (simp; omega)) (by first | exact one_map _ (fun _ => rfl) _ | simp [Value.oneCell']) (by omega) (by omega) hB.size ?_)
                  rintro p30 c30 w30 hO30 hg30 hbl30 hbk30
                  replace hM := hM.s1 hg30 hO30 hbk30
                  replace hM := hM.tail
                  try simp only [nv_app1, nv_app, nv_set, nv_rep, nv_one, nv_cons, nv_take, nv_drop, List.nil_append] at hM
                  replace hB := hB.trans hbl30
                  refine ⟨hB, ?_⟩
                  refine DT.vv rfl rfl rfl (by decide) (Val.assign rfl) ?_
                  refine DT.m rfl rfl (Step.storeBox (B := w0.heap.size) rfl rfl flat36 elem36 rfl rfl rfl (hM.o1) hB.size ?_)
                  rintro w31 hO31 hg31 hbl31 hsz31
                  replace hM := hM.s1 hg31 hO31 inl_block
                  replace hB := hB.trans hbl31
                  refine ⟨hB, ?_⟩
                  refine DT.nil ?_
                  refine inBlk_normal ?_
                  refine thenP_normal ?_
                  refine ⟨(L ++ [s], p30, c30, cutAt pb cb (gW C s).l.length, cb - (gW C s).l.length, rest.drop (gW C s).l.length), ?_, ?_, ⟨⟨hst, hrr.cut_bv hrc, by simp only [List.length_drop]; omega, by simp only [List.length_append, List.length_cons, List.length_nil, List.length_drop]; omega⟩, ?_, hB⟩, by simp only [List.length_drop]; omega⟩
                  · exact (Sub.cons' rfl (by simp only [List.length_append, List.length_cons, List.length_nil]) (Sub.nil _))
                  · repeat (first | exact Sub.nil _ | refine Sub.cons rfl ?_)
                  · simp only [List.length_append, List.length_cons, List.length_nil, List.length_drop]; exact hM
              ·
                refine DT.m rfl rfl (Step.loadBox rfl rfl (by decide) flat36 rfl (hM.o1.rd) ?_)
                refine ⟨hB, ?_⟩
                refine DT.vv rfl rfl rfl (by decide) (Val.sliceFrom Try.underlying36 elem4 rfl rfl (by omega) (by omega)) ?_
                refine DT.m rfl rfl (Step.lit rfl rfl (by decide) Try.underlying28 elem3 rfl rfl (by omega) (by simp [Value.oneCell']) (Nat.le_refl _) ?_)
                rintro w32 hO32 hg32 hbl32 hsz32
                replace hM := hM.add hB.size hbl32 hO32
                replace hB := hB.trans (hbl32.mono hB.size)
                generalize w6.drew.heap.size = gg32 at *
                refine ⟨hB, ?_⟩
                refine DT.m rfl rfl (Step.append2 (B := w0.heap.size) rfl rfl (by decide) Try.underlying28 elem3 rfl rfl rfl rfl (hM.o1) (hM.o0.rd) (by first | rfl | (simp; done) | (simp; omega)) (by first | exact one_map _ (fun _ => rfl) _ | simp [Value.oneCell']) (by omega) (by omega) hB.size ?_)
                rintro p33 c33 w33 hO33 hg33 hbl33 hbk33
                replace hM := hM.s1 hg33 hO33 hbk33
                replace hM := hM.tail
                try simp only [nv_app1, nv_app, nv_set, nv_rep, nv_one, nv_cons, nv_take, nv_drop, List.nil_append] at hM
                replace hB := hB.trans hbl33
                refine ⟨hB, ?_⟩
                refine DT.vv rfl rfl rfl (by decide) (Val.assign rfl) ?_
                refine DT.m rfl rfl (Step.storeBox (B := w0.heap.size) rfl rfl flat36 elem36 rfl rfl rfl (hM.o1) hB.size ?_)
                rintro w34 hO34 hg34 hbl34 hsz34
                replace hM := hM.s1 hg34 hO34 inl_block
                replace hB := hB.trans hbl34
                refine ⟨hB, ?_⟩
                refine DT.nil ?_
                refine inBlk_normal ?_
                refine thenP_normal ?_
                refine ⟨(L ++ [s], p33, c33, cutAt pb cb (gW C s).l.length, cb - (gW C s).l.length, rest.drop (gW C s).l.length), ?_, ?_, ⟨⟨hst, hrr.cut_bv hrc, by simp only [List.length_drop]; omega, by simp only [List.length_append, List.length_cons, List.length_nil, List.length_drop]; omega⟩, ?_, hB⟩, by simp only [List.length_drop]; omega⟩
                · exact (Sub.cons' rfl (by simp only [List.length_append, List.length_cons, List.length_nil]) (Sub.nil _))
                · repeat (first | exact Sub.nil _ | refine Sub.cons rfl ?_)
                · simp only [List.length_append, List.length_cons, List.length_nil, List.length_drop]; exact hM
        ·
          refine W.exit ?_
          refine thenP_exit ?_
          refine thenP_exit ?_
          refine inBlk_exit ?_
          refine thenP_normal ?_
          refine W.seqR ?_
          refine LS.vv rfl rfl (by decide) (Val.move rfl) ?_
          refine LS.vv rfl rfl (by decide) (Val.assign rfl) ?_
          refine LS.vv rfl rfl (by decide) (Val.cast (v := .int .i64 ((0 : Nat) : Int)) (Val.assign rfl) rfl) ?_
          refine LS.nil ?_
          refine W.ret ?_
          refine ret2 (by first | exact .inl rfl | exact .inr rfl) rfl rfl ?_
          first | exact ⟨none, 0, [], e, rfl, Own.nil _ _ _, fun h => by exfalso; omega, fun _ => ⟨rfl, fun h => by exfalso; have := he.2 h; omega⟩, fun h => by exfalso; have := he.2 h; omega, hB⟩ | exact ⟨none, 0, [], 3, rfl, Own.nil _ _ _, fun h => (by cases h), fun _ => ⟨rfl, fun _ hf _ => absurd (hfb.2 hf) (nfb (by assumption))⟩, fun _ hf _ => absurd (hfb.2 hf) (nfb (by assumption)), hB⟩ | (have hnn : ¬ NoBare (codeOf C) := (fun hn => by { obtain ⟨i, hi, hi2⟩ := List.any_eq_true.1 (by assumption : (List.range C.length).any (fun i => decide ((gW C i).l.length = 0)) = true); rw [List.mem_range] at hi; exact (nobare_iff C).1 hn i hi (of_decide_eq_true hi2) }); exact ⟨none, 0, [], 3, rfl, Own.nil _ _ _, fun h => (by cases h), fun _ => ⟨rfl, fun _ _ hn => absurd hn hnn⟩, fun _ _ hn => absurd hn hnn, hB⟩) | (have hrne : rest ≠ [] := (fun e => (by have h0 : rest.length = 0 := (by rw [e]; rfl); omega)); exact ⟨none, 0, [], 5, rfl, Own.nil _ _ _, fun h => (by cases h), fun _ => ⟨rfl, fun _ _ _ hb => (by have h9 := List.length_pos_iff.2 hrne; have h0 : bs.length = 0 := (by rw [hb]; rfl); omega)⟩, fun _ _ _ S hS hw => absurd hw (hI.stuck hrne (fun i hi => by rw [codeOf_gw]; exact begins_false.1 (hno i (by rw [codeOf_len] at hi; exact hi))) hS), hB⟩) | (obtain rfl : rest = [] := List.eq_nil_of_length_eq_zero (by omega); exact ⟨po, co, L, 0, rfl, hM.o0, fun _ => ⟨hcd, hfr, hnb, hI.syms, by have := hI.all; rwa [List.append_nil] at this⟩, fun h => absurd rfl h, fun _ _ _ S hS hw => ⟨rfl, (hI.done hnb hS hw).symm⟩, hB⟩)

end Go.Proofs.Ytbfcmfjdjldepaa
