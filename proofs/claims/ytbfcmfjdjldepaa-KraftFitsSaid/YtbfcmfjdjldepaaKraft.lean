/-
  Codes of given lengths: kraft.Make.
-/
import Derived.Test.YtbfcmfjdjldepaaPrefix3
import Derived.Test.YtbfcmfjdjldepaaSortI
import Derived.Test.YtbfcmfjdjldepaaLibD
import Derived.Test.YtbfcmfjdjldepaaKraft2Plain
import Derived.Test.YtbfcmfjdjldepaaVtb
namespace Go.Proofs.Ytbfcmfjdjldepaa
open Go Go.RowKit V
set_option linter.unusedVariables false
set_option linter.unusedSimpArgs false

def nilW (n : Nat) : List Wd := List.replicate n ⟨none, 0, []⟩
theorem wv_nil (n : Nat) : List.replicate n (.slice none 0 0) = wv (nilW n) := by simp [wv, nilW]
theorem wv_set (C : List Wd) (i : Nat) (x : Wd) : (wv C).set i (.slice x.p x.l.length x.c) = wv (C.set i x) := by simp [wv, List.map_set]
theorem Mem.nils {w : World} {B : Nat} {S : List Ob} (h : Mem w B S) : ∀ n, Mem w B (tb 4 (nilW n) ++ S)
  | 0 => h
  | n + 1 => (Mem.nils h n).addNil 4
theorem tb_at {C : List Wd} {i : Nat} (hi : i < C.length) (e : TypeId) : (tb e C).Perm (⟨e, (gW C i).p, (gW C i).l.length, (gW C i).c, bv (gW C i).l⟩ :: tb e (C.eraseIdx i)) := by
  have h : C.Perm (gW C i :: C.eraseIdx i) := by
    rw [gW_lt hi, List.eraseIdx_eq_take_drop_succ]
    have e : C = C.take i ++ C[i] :: C.drop (i + 1) := by simp
    conv => lhs; rw [e]
    exact List.perm_middle
  exact h.map _
theorem gW_set {C : List Wd} {i j : Nat} (hi : i < C.length) (x : Wd) : gW (C.set i x) j = if i = j then x else gW C j := by
  unfold gW
  rw [List.getD_eq_getElem?_getD, List.getD_eq_getElem?_getD, List.getElem?_set]
  by_cases e : i = j
  · subst e; rw [if_pos rfl, if_pos rfl, if_pos hi]; rfl
  · rw [if_neg e, if_neg e]
/-- a word is laid at a place; what was there is let go -/
theorem Mem.putW {w : World} {B : Nat} {e : TypeId} {S : List Ob} {C : List Wd} {i : Nat} (x : Wd) (hi : i < C.length) (h : Mem w B (⟨e, x.p, x.l.length, x.c, bv x.l⟩ :: (tb e C ++ S))) : Mem w B (tb e (C.set i x) ++ S) := by
  have h1 : Mem w B (⟨e, x.p, x.l.length, x.c, bv x.l⟩ :: ⟨e, (gW C i).p, (gW C i).l.length, (gW C i).c, bv (gW C i).l⟩ :: (tb e (C.eraseIdx i) ++ S)) := h.perm (List.Perm.cons _ ((tb_at hi e).append_right S).symm)
  have h2 := h1.drop1
  have e1 : (C.set i x).eraseIdx i = C.eraseIdx i := List.eraseIdx_set_eq
  have e2 := tb_at (C := C.set i x) (i := i) (by rw [List.length_set]; exact hi) e
  rw [gW_set hi, if_pos rfl, e1] at e2
  exact h2.perm (e2.append_right S)
theorem Mem.putC {w : World} {B : Nat} {eo e : TypeId} {a b : Ob} {C : List Wd} {i m co : Nat} {po : Option Addr} (x : Wd) (n : Nat) (hn : x.l.length = n) (hi : i < C.length) (h : Mem w B (⟨e, x.p, n, x.c, bv x.l⟩ :: ⟨eo, po, m, co, (wv C).set i (.slice x.p n x.c)⟩ :: a :: b :: tb e C)) : Mem w B (⟨eo, po, m, co, wv (C.set i x)⟩ :: a :: b :: tb e (C.set i x)) := by
  subst hn
  rw [wv_set] at h
  have h1 := h.perm (List.Perm.cons _ (List.perm_append_comm (l₁ := tb e C) (l₂ := [(⟨eo, po, m, co, wv (C.set i x)⟩ : Ob), a, b])))
  exact (Mem.putW x hi h1).perm (List.perm_append_comm (l₁ := [(⟨eo, po, m, co, wv (C.set i x)⟩ : Ob), a, b]) (l₂ := tb e (C.set i x)))
theorem ord_ok (ls : List Nat) : Ordd ls (isort (fun a b => decide (gn ls a < gn ls b)) (List.range ls.length)) := by
  refine ⟨isort_perm _ _, ?_⟩
  have := isort_sorted (lt := fun a b => decide (gn ls a < gn ls b)) (fun x => (gn ls x : Int)) (fun a b => by simp) (List.range ls.length)
  exact this.imp fun h => by omega
theorem iv_toNat {zs : List Int} (h : ∀ z ∈ zs, 0 ≤ z) : iv zs = nv (zs.map Int.toNat) := by
  rw [nv_iv, List.map_map]
  congr 1
  conv => lhs; rw [← List.map_id zs]
  refine List.map_congr_left fun x hx => ?_
  have := h x hx
  simp only [Function.comp, id]; omega

theorem less_any (ls : List Nat) (p : Option Addr) (m c g : Nat) (a b : Nat) (w0 : World) (hbx : Rd w0 (some ⟨g, 0, none⟩) [.slice p m c]) (hr : Rd w0 p (nv ls)) (hm : ls.length = m) (ha : a < m) (hb : b < m) (hl : m ≤ 1000) :
    CallsV Try.prog 29 #[.int .i64 (a : Int), .int .i64 (b : Int), .pointer (some ⟨g, 0, none⟩)] w0 (fun v w => ∃ z : Int, v = .int .i64 z ∧ decide (z < 0) = decide (gn ls a < gn ls b) ∧ Below w0.heap.size w0 w) := by
  refine enter1 Try.func29 rfl Try.ntmps29 (by simp) rfl ?_
  have hB := Below.refl w0.heap.size w0
  simp only [argLoc, Nat.zero_add]
  have hM := Mem.nil w0 w0.heap.size
  subst hm
  refine W.seqR ?_
  refine LS.vv rfl rfl (by decide) (Val.cast (v := .int .i64 ((0 : Nat) : Int)) (Val.assign rfl) rfl) ?_
  refine LS.nil ?_
  refine W.seqF 10 [(0, true), (1, true), (2, true), (3, true), (4, true), (5, true), (6, true), (7, true), (8, false), (9, true)] mixed (by kernel_rfl) hB hM ?_
  replace hB := hB.drew
  replace hM := hM.drew
  refine DF.vv rfl rfl rfl (by decide) (Val.loadBox flat28 rfl ((fun _ h => hbx.below h.1))) ?_
  refine DF.vv rfl rfl rfl (by decide) (Val.move rfl) ?_
  refine DF.vv rfl rfl rfl (by decide) (Val.index1 Try.underlying28 elem3 rfl rfl (by omega) ((hr.below hB)) (nv_lt (by omega))) ?_
  refine DF.vv rfl rfl rfl (by decide) (Val.load flat3 rfl (fun _ h => (hr.below h.1)) (nv_at (by omega))) ?_
  refine DF.vv rfl rfl rfl (by decide) (Val.loadBox flat28 rfl ((fun _ h => hbx.below h.1))) ?_
  refine DF.vv rfl rfl rfl (by decide) (Val.move rfl) ?_
  refine DF.vv rfl rfl rfl (by decide) (Val.index1 Try.underlying28 elem3 rfl rfl (by omega) ((hr.below hB)) (nv_lt (by omega))) ?_
  refine DF.vv rfl rfl rfl (by decide) (Val.load flat3 rfl (fun _ h => (hr.below h.1)) (nv_at (by omega))) ?_
  refine DF.m rfl rfl (Step.call body30 rfl rfl (by decide) rfl (CallsV.mono (compare_int _ _ _) ?_))
  rintro _ w1 ⟨rfl, hb1⟩
  replace hM := hM.below hb1
  replace hB := hB.trans (hb1.mono hB.size)
  refine ⟨fun _ => ⟨hB, hM⟩, ?_⟩
  refine DF.vv rfl rfl rfl (by decide) (Val.assign rfl) ?_
  refine DF.nil ?_
  refine W.ret ?_
  refine ret1 (by first | exact .inl rfl | exact .inr rfl) rfl ?_
  refine ⟨_, rfl, ?_, hB⟩
  rw [decide_eq_decide, cmpI_neg]
  omega

theorem make_any (zs : List Int) (p : Option Addr) (c m : Nat) (w0 : World) (hr : Rd w0 p (iv zs)) (hm : zs.length = m) (hl : m ≤ 9223372036854775807) :
    CallsV Try.prog 15 #[.slice p m c] w0 (fun v w => ∃ (p2 : Option Addr) (c2 : Nat) (C : List Wd) (e : Nat), v = .tuple #[.slice p2 C.length c2, .int .i64 (e : Int)] ∧ Mem w w0.heap.size (⟨36, p2, C.length, c2, wv C⟩ :: tb 4 C) ∧ (e = 0 ↔ (zs.length ≤ 8 ∧ ∀ z ∈ zs, 0 ≤ z ∧ z ≤ 8) ∧ sumTo (zs.map Int.toNat) zs.length ≤ 256) ∧ (e ≠ 0 → C = []) ∧ (e = 0 → C.length = zs.length ∧ Free (codeOf C) ∧ ∀ i, i < C.length → (gW C i).l.length = gn (zs.map Int.toNat) i) ∧ Below w0.heap.size w0 w) := by
  refine enter2 Try.func15 rfl Try.ntmps15 (by simp) rfl ?_
  have hB := Below.refl w0.heap.size w0
  simp only [argLoc]
  have hM := Mem.nil w0 w0.heap.size
  subst hm
  refine W.seqR ?_
  refine LS.m rfl (Step.box rfl rfl (by decide) rfl rfl (Nat.le_refl _) ?_)
  rintro w1 hO1 hg1 hbl1 hsz1
  replace hM := hM.add hB.size hbl1 hO1
  replace hB := hB.trans (hbl1.mono hB.size)
  skip
  refine LS.vv rfl rfl (by decide) (Val.assign rfl) ?_
  refine LS.vv rfl rfl (by decide) (Val.cast (v := .int .i64 ((0 : Nat) : Int)) (Val.assign rfl) rfl) ?_
  refine LS.nil ?_
  refine W.seqR ?_
  refine LS.m rfl (Step.loadBox rfl rfl (by decide) flat28 rfl (hM.o0.rd) ?_)
  refine LS.m rfl (Step.call body11 rfl rfl (by decide) rfl (CallsV.mono (sum_any zs _ _ _ _ (hr.below hB) rfl hl) ?_))
  rintro _ w2 ⟨sn, e0, rfl, he0, hsn, hsn0, hb2⟩
  replace hM := hM.below hb2
  replace hB := hB.trans (hb2.mono hB.size)
  refine LS.vv rfl rfl (by decide) (Val.move rfl) ?_
  refine LS.vv rfl rfl (by decide) (Val.extract rfl rfl) ?_
  refine LS.vv rfl rfl (by decide) (Val.extract rfl rfl) ?_
  refine LS.vv rfl rfl (by decide) (Val.assign rfl) ?_
  refine LS.vv rfl rfl (by decide) (Val.assign rfl) ?_
  refine LS.nil ?_
  refine W.seq ?_
  refine W.seqR ?_
  refine LS.vv rfl rfl (by decide) (Val.move rfl) ?_
  refine LS.vv rfl rfl (by decide) (Val.neq rfl rfl) ?_
  refine LS.nil ?_
  first | refine W.condD rfl (fun hc1 => ?_) (fun hc1 => ?_) | refine W.cond rfl (fun hc1 => ?_) (fun hc1 => ?_)
  ·
    refine W.seqR ?_
    refine LS.vv rfl rfl (by decide) (Val.move rfl) ?_
    refine LS.vv rfl rfl (by decide) (Val.assign rfl) ?_
    refine LS.vv rfl rfl (by decide) (Val.assign rfl) ?_
    refine LS.nil ?_
    refine W.ret ?_
    refine thenP_ret ?_
    refine ret2 (by first | exact .inl rfl | exact .inr rfl) rfl rfl ?_
    first
      | (refine ⟨none, 0, [], e0, rfl, (Mem.nil _ _).addNil _, ⟨fun h => by exfalso; omega, fun h => he0.2 h.1⟩, fun _ => rfl, fun h => by exfalso; omega, hB⟩; done)
      | (refine ⟨none, 0, [], 5, rfl, (Mem.nil _ _).addNil _, ⟨fun h => by exfalso; omega, fun h => by exfalso; have h1 := hsn (he0.2 h.1); have h2 := h.2; omega⟩, fun _ => rfl, fun h => by exfalso; omega, hB⟩; done)
      | (obtain rfl : k2 = zs.length := (by omega)
         obtain ⟨hf1, hf2⟩ := made_free hO hls8 (by rw [hll]; exact hsum) (C := codeOf C) (by rw [codeOf_len, hC, hll]) (fun j hj => by rw [codeOf_gw]; exact hw j (by omega))
         exact ⟨_, zs.length, C, 0, (by rw [hC]), (by rw [hC]; exact hM.drop1.drop1), ⟨fun _ => ⟨⟨hm8, hz⟩, hsum⟩, fun _ => rfl⟩, fun h => absurd rfl h, fun _ => ⟨hC, fun i j hi hj hne hp => hf1 i hi j hj hne ⟨hp.length_le, (List.prefix_iff_eq_take.1 hp).symm⟩, fun i hi => by rw [← codeOf_gw]; exact hf2 i (by rw [codeOf_len]; exact hi)⟩, hB⟩)
  ·
    refine W.skip ?_
    refine thenP_normal ?_
    refine W.seq ?_
    refine W.seqR ?_
    refine LS.vv rfl rfl (by decide) (Val.move rfl) ?_
    refine LS.vv rfl rfl (by decide) (Val.gtr rfl rfl) ?_
    refine LS.nil ?_
    first | refine W.condD rfl (fun hc2 => ?_) (fun hc2 => ?_) | refine W.cond rfl (fun hc2 => ?_) (fun hc2 => ?_)
    ·
      refine W.seqR ?_
      refine LS.vv rfl rfl (by decide) (Val.assign rfl) ?_
      refine LS.vv rfl rfl (by decide) (Val.cast (v := .int .i64 ((5 : Nat) : Int)) (Val.assign rfl) rfl) ?_
      refine LS.nil ?_
      refine W.ret ?_
      refine thenP_ret ?_
      refine ret2 (by first | exact .inl rfl | exact .inr rfl) rfl rfl ?_
      first
        | (refine ⟨none, 0, [], e0, rfl, (Mem.nil _ _).addNil _, ⟨fun h => by exfalso; omega, fun h => he0.2 h.1⟩, fun _ => rfl, fun h => by exfalso; omega, hB⟩; done)
        | (refine ⟨none, 0, [], 5, rfl, (Mem.nil _ _).addNil _, ⟨fun h => by exfalso; omega, fun h => by exfalso; have h1 := hsn (he0.2 h.1); have h2 := h.2; omega⟩, fun _ => rfl, fun h => by exfalso; omega, hB⟩; done)
        | (obtain rfl : k2 = zs.length := (by omega)
           obtain ⟨hf1, hf2⟩ := made_free hO hls8 (by rw [hll]; exact hsum) (C := codeOf C) (by rw [codeOf_len, hC, hll]) (fun j hj => by rw [codeOf_gw]; exact hw j (by omega))
           exact ⟨_, zs.length, C, 0, (by rw [hC]), (by rw [hC]; exact hM.drop1.drop1), ⟨fun _ => ⟨⟨hm8, hz⟩, hsum⟩, fun _ => rfl⟩, fun h => absurd rfl h, fun _ => ⟨hC, fun i j hi hj hne hp => hf1 i hi j hj hne ⟨hp.length_le, (List.prefix_iff_eq_take.1 hp).symm⟩, fun i hi => by rw [← codeOf_gw]; exact hf2 i (by rw [codeOf_len]; exact hi)⟩, hB⟩)
    ·
      obtain ⟨hm8, hz⟩ := he0.1 (by omega)
      have hz0 : ∀ z ∈ zs, 0 ≤ z := fun z h => (hz z h).1
      have hr2 : Rd w0 p (nv (zs.map Int.toNat)) := by rw [← iv_toNat hz0]; exact hr
      have hsum : sumTo (zs.map Int.toNat) zs.length ≤ 256 := by { have := hsn (by omega); omega }
      have hls8 : ∀ i, i < (zs.map Int.toNat).length → gn (zs.map Int.toNat) i ≤ 8 := fun i hi => by { rw [List.length_map] at hi; rw [gn_toNat hi, gz_lt hi]; have := hz _ (List.getElem_mem hi); omega }
      generalize hls : zs.map Int.toNat = ls at *
      have hll : ls.length = zs.length := by rw [← hls, List.length_map]
      skip
      refine W.skip ?_
      refine thenP_normal ?_
      refine W.seqR ?_
      refine LS.vv rfl rfl (by decide) (Val.assign rfl) ?_
      refine LS.nil ?_
      refine W.seq ?_
      refine W.seqR ?_
      refine LS.m rfl (Step.loadBox rfl rfl (by decide) flat28 rfl (hM.o0.rd) ?_)
      refine LS.vv rfl rfl (by decide) (Val.len Try.underlying28 rfl) ?_
      refine LS.vv rfl rfl (by decide) (Val.cast (v := .int .i64 ((0 : Nat) : Int)) (Val.move rfl) rfl) ?_
      refine LS.nil ?_
      refine W.block ?_
      replace hM := hM.addNil 3
      refine W.loop (α := Nat × Option Addr × Nat) (fun g => [(6, .slice g.2.1 (List.range g.1).length g.2.2), (24, .int .i64 (g.1 : Int))]) [(1, _), (23, _)] (fun g w => (g.1 ≤ zs.length) ∧ Mem w w0.heap.size [⟨3, g.2.1, (List.range g.1).length, g.2.2, nv (List.range g.1)⟩, ⟨28, some ⟨w0.heap.size, 0, none⟩, 1, 1, [.slice p zs.length c]⟩] ∧ Below w0.heap.size w0 w) (fun g => zs.length - g.1) ((0, none, 0)) (Sub.cons rfl (Sub.cons rfl (Sub.nil _))) (Sub.cons rfl (Sub.cons rfl (Sub.nil _))) ?_ ?_
      · exact ⟨Nat.zero_le _, hM, hB⟩
      rintro ⟨k, p1, c1⟩ w3 ⟨hk, hM, hB⟩
      try simp only at hM
      simp only [List.cons_append, List.nil_append]
      simp only at hk
      refine W.seqR ?_
      refine LS.vv rfl rfl (by decide) (Val.lss rfl rfl) ?_
      refine LS.nil ?_
      refine W.seq ?_
      first | refine W.condD rfl (fun hc3 => ?_) (fun hc3 => ?_) | refine W.cond rfl (fun hc3 => ?_) (fun hc3 => ?_)
      ·
        refine W.skip ?_
        refine thenP_normal ?_
        refine W.seq ?_
        refine W.block ?_
        refine W.seqR ?_
        refine LS.vv rfl rfl (by decide) (Val.move rfl) ?_
        refine LS.vv rfl rfl (by decide) (Val.assign rfl) ?_
        refine LS.nil ?_
        refine W.reg ?_
        refine LS.vv rfl rfl (by decide) (Val.move rfl) ?_
        refine LS.vv rfl rfl (by decide) (Val.move rfl) ?_
        refine LS.m rfl (Step.lit rfl rfl (by decide) Try.underlying28 elem3 rfl rfl (by omega) (by simp [Value.oneCell']) (Nat.le_refl _) ?_)
        rintro w4 hO4 hg4 hbl4 hsz4
        replace hM := hM.add hB.size hbl4 hO4
        replace hB := hB.trans (hbl4.mono hB.size)
        generalize w3.heap.size = gg4 at *
        refine LS.m rfl (Step.append2 (B := w0.heap.size) rfl rfl (by decide) Try.underlying28 elem3 rfl rfl rfl rfl (hM.o1) (hM.o0.rd) (by first | rfl | (simp; done) | (simp; omega)) (by first | exact one_map _ (fun _ => rfl) _ | simp [Value.oneCell']) (by first | omega | (simp only [List.length_range]; omega)) (by first | omega | (simp only [List.length_range]; omega)) hB.size ?_)
        rintro p5 c5 w5 hO5 hg5 hbl5 hbk5
        replace hM := hM.s1 hg5 hO5 hbk5
        replace hM := hM.tail
        try simp only [nv_app1, nv_app, nv_set, nv_rep, nv_one, nv_cons, nv_take, nv_drop, List.nil_append] at hM
        replace hB := hB.trans hbl5
        refine LS.vv rfl rfl (by decide) (Val.assign rfl) ?_
        refine LS.nil ?_
        refine inBlk_normal ?_
        refine thenP_normal ?_
        refine W.reg ?_
        first | refine LS.vv rfl rfl (by decide) (Val.addN (j := 1) rfl rfl (by first | omega | (simp only [List.length_range]; omega))) ?_ | refine LS.vv rfl rfl (by decide) (Val.add64 rfl rfl (by first | omega | (simp only [List.length_range]; omega))) ?_
        refine LS.vv rfl rfl (by decide) (Val.move rfl) ?_
        refine LS.nil ?_
        refine thenP_normal ?_
        rw [← List.range_succ] at hM
        refine ⟨(k + 1, p5, c5), ?_, ?_, ⟨by simp only; omega, ?_, hB⟩, by simp only; omega⟩
        · exact Sub.cons' rfl (by simp only [List.length_range]) (Sub.cons rfl (Sub.nil _))
        · repeat (first | exact Sub.nil _ | refine Sub.cons rfl ?_)
        · simp only [List.length_range] at hM ⊢; exact hM
      ·
        refine W.exit ?_
        refine thenP_exit ?_
        refine thenP_exit ?_
        refine inBlk_exit ?_
        refine thenP_normal ?_
        refine W.seqR ?_
        refine LS.vv rfl rfl (by decide) (Val.move rfl) ?_
        refine LS.vv rfl rfl (by decide) (Val.makeFunc rfl) ?_
        obtain rfl : k = zs.length := by omega
        rw [show nv (List.range zs.length) = nv (List.range ls.length) from by rw [hll]] at hM
        refine LS.m rfl (Step.call body28 rfl rfl (by decide) rfl (CallsV.mono (sortStable_nat (List.range ls.length) (fun a b => decide (gn ls a < gn ls b)) (fun x => x < zs.length) 29 #[.pointer (some ⟨w0.heap.size, 0, none⟩)] _ _ _ _ _ _ hM hB.size (by rw [List.length_range, List.length_range, hll]) (by rw [List.length_range]; omega) body29 (fun x hx => by have := List.mem_range.1 hx; omega) (fun x y w h1 h2 h4 h3 => less_any ls p zs.length c _ x y w (h4.elim fun _ h => h.o1.rd) (hr2.below (hB.trans h3)) hll h1 h2 (by omega))) ?_))
        rintro _ w6 ⟨rfl, hM6, hb6⟩
        replace hM := hM6
        replace hB := hB.trans hb6
        have hrl : (List.range zs.length).length = zs.length := List.length_range
        rw [hrl] at hM
        rw [hrl]
        have hO := ord_ok ls
        generalize hord : (isort (fun a b => decide (gn ls a < gn ls b)) (List.range ls.length)) = ord at *
        have hol := hO.len
        refine LS.nil ?_
        refine W.seqR ?_
        refine LS.m rfl (Step.loadBox rfl rfl (by decide) flat28 rfl (hM.o1.rd) ?_)
        refine LS.vv rfl rfl (by decide) (Val.len Try.underlying28 rfl) ?_
        refine LS.m rfl (Step.make rfl rfl (by decide) Try.underlying22 elem36 rfl rfl rfl (by first | omega | (simp only [List.length_range]; omega)) (by first | omega | (simp only [List.length_range]; omega)) (Nat.le_refl _) ?_)
        rintro w7 hO7 hg7 hbl7
        replace hM := hM.add hB.size hbl7 hO7
        replace hB := hB.trans (hbl7.mono hB.size)
        generalize w6.heap.size = gg7 at *
        rw [wv_nil] at hM
        replace hM := (Mem.nils hM zs.length).perm (List.perm_append_comm)
        refine LS.vv rfl rfl (by decide) (Val.assign rfl) ?_
        refine LS.nil ?_
        refine W.seqR ?_
        refine LS.vv rfl rfl (by decide) (Val.cast (v := .int .i64 ((0 : Nat) : Int)) (Val.assign rfl) rfl) ?_
        refine LS.nil ?_
        refine W.seq ?_
        refine W.seqR ?_
        refine LS.vv rfl rfl (by decide) (Val.move rfl) ?_
        refine LS.vv rfl rfl (by decide) (Val.len Try.underlying28 rfl) ?_
        refine LS.vv rfl rfl (by decide) (Val.cast (v := .int .i64 ((0 : Nat) : Int)) (Val.move rfl) rfl) ?_
        refine LS.nil ?_
        refine W.block ?_
        refine W.loop (α := Nat × List Wd) (fun g => [(9, .int .i64 (atk ls ord g.1 : Int)), (40, .int .i64 (g.1 : Int))]) [(1, _), (8, _), (38, _), (39, _)] (fun g w => (g.1 ≤ zs.length ∧ g.2.length = zs.length ∧ ∀ j, j < g.1 → (gW g.2 (gn ord j)).l = wk ls ord j) ∧ Mem w w0.heap.size (⟨36, some ⟨gg7, 0, none⟩, zs.length, zs.length, wv g.2⟩ :: ⟨3, p1, zs.length, c1, nv ord⟩ :: ⟨28, some ⟨w0.heap.size, 0, none⟩, 1, 1, [.slice p zs.length c]⟩ :: (tb 4 g.2)) ∧ Below w0.heap.size w0 w) (fun g => zs.length - g.1) ((0, nilW zs.length)) (Sub.cons rfl (Sub.cons rfl (Sub.nil _))) (Sub.cons rfl (Sub.cons rfl (Sub.cons rfl (Sub.cons rfl (Sub.nil _))))) ?_ ?_
        · exact ⟨⟨Nat.zero_le _, by simp [nilW], fun j h => absurd h (by omega)⟩, hM, hB⟩
        rintro ⟨k2, C⟩ w8 ⟨⟨hk2, hC, hw⟩, hM, hB⟩
        try simp only at hM
        simp only [List.cons_append, List.nil_append]
        simp only at hk2 hC hw
        have hat := atk_all hO.perm
        rw [hll] at hat
        refine W.seqR ?_
        refine LS.vv rfl rfl (by decide) (Val.lss rfl rfl) ?_
        refine LS.nil ?_
        refine W.seq ?_
        first | refine W.condD rfl (fun hc4 => ?_) (fun hc4 => ?_) | refine W.cond rfl (fun hc4 => ?_) (fun hc4 => ?_)
        ·
          refine W.skip ?_
          refine thenP_normal ?_
          refine W.seq ?_
          refine W.block ?_
          refine W.seqR ?_
          refine LS.vv rfl rfl (by decide) (Val.index1 Try.underlying28 elem3 rfl rfl (by first | omega | (simp only [List.length_range]; omega)) (hM.o1.rd) (nv_lt (by first | omega | (simp only [List.length_range]; omega)))) ?_
          refine LS.m rfl (Step.load rfl rfl (by decide) flat3 rfl (hM.o1.rd) (nv_at (by first | omega | (simp only [List.length_range]; omega))) ?_)
          have hko := hO.lt (k := k2) (by omega)
          have h8 := hls8 _ (show gn ord k2 < ls.length by omega)
          have hak := atk_succ ls ord k2
          have ham := atk_mono ls ord (show k2 + 1 ≤ ls.length by omega)
          rw [hll] at ham
          have hp8 := pow8 h8
          refine LS.vv rfl rfl (by decide) (Val.assign rfl) ?_
          refine LS.nil ?_
          refine W.seqF 15 [(0, true), (1, true), (2, true), (3, true), (4, true), (5, true), (6, true), (7, true), (8, true), (9, true), (10, true), (11, true), (12, true), (13, false), (14, true), (15, false)] mixed (by kernel_rfl) hB hM ?_
          replace hB := hB.drew
          replace hM := hM.drew
          refine DF.vv rfl rfl rfl (by decide) (Val.move rfl) ?_
          refine DF.vv rfl rfl rfl (by decide) (Val.move rfl) ?_
          refine DF.vv rfl rfl rfl (by decide) (Val.move rfl) ?_
          refine DF.vv rfl rfl rfl (by decide) (Val.loadBox flat28 rfl (fun _ h => h.2.o2.rd)) ?_
          refine DF.vv rfl rfl rfl (by decide) (Val.move rfl) ?_
          refine DF.vv rfl rfl rfl (by decide) (Val.index1 Try.underlying28 elem3 rfl rfl (by first | omega | (simp only [List.length_range]; omega)) ((hr2.below hB)) (nv_lt (by first | omega | (simp only [List.length_range]; omega)))) ?_
          refine DF.vv rfl rfl rfl (by decide) (Val.load flat3 rfl (fun _ h => (hr2.below h.1)) (nv_at (by first | omega | (simp only [List.length_range]; omega)))) ?_
          refine DF.vv rfl rfl rfl (by decide) (Val.subN (i := 8) rfl rfl (by omega) (by omega)) ?_
          refine DF.vv rfl rfl rfl (by decide) (Val.shr rfl rfl (by simp only [IntKind.bits]; first | omega | (simp only [List.length_range]; omega))) ?_
          refine DF.vv rfl rfl rfl (by decide) (Val.loadBox flat28 rfl (fun _ h => h.2.o2.rd)) ?_
          refine DF.vv rfl rfl rfl (by decide) (Val.move rfl) ?_
          refine DF.vv rfl rfl rfl (by decide) (Val.index1 Try.underlying28 elem3 rfl rfl (by first | omega | (simp only [List.length_range]; omega)) ((hr2.below hB)) (nv_lt (by first | omega | (simp only [List.length_range]; omega)))) ?_
          refine DF.vv rfl rfl rfl (by decide) (Val.load flat3 rfl (fun _ h => (hr2.below h.1)) (nv_at (by first | omega | (simp only [List.length_range]; omega)))) ?_
          refine DF.m rfl rfl (Step.call body31 rfl rfl (by decide) rfl (CallsV.mono (digits_any _ (gn ls (gn ord k2)) _ (by omega) (Nat.le_trans (Nat.shiftRight_le _ _) (by omega))) ?_))
          rintro _ w9 ⟨pd, cd, rfl, hOd, hb9⟩
          replace hM := hM.add hB.size hb9 hOd
          replace hB := hB.trans (hb9.mono hB.size)
          refine ⟨fun _ => ⟨hB, hM.tail⟩, ?_⟩
          refine DF.vv rfl rfl rfl (by decide) (Val.index1 Try.underlying22 elem36 rfl rfl (by first | omega | (simp only [List.length_range]; omega)) (hM.o1.rd) (wv_lt (by first | omega | (simp only [List.length_range]; omega)))) ?_
          refine DF.m rfl rfl (Step.store (B := w0.heap.size) rfl rfl flat36 elem36 rfl rfl rfl (hM.o1) (by first | omega | (simp only [List.length_range]; omega)) hB.size ?_)
          rintro w10 hO10 hg10 hbl10 hsz10
          replace hM := hM.s1 hg10 hO10 inl_block
          try simp only [wv_app1, wv_app, wv_set, wv_rep, wv_one, wv_cons, wv_take, wv_drop, List.nil_append] at hM
          replace hB := hB.trans hbl10
          refine ⟨fun h => absurd rfl h, ?_⟩
          refine DF.nil ?_
          refine W.reg ?_
          refine LS.vv rfl rfl (by decide) (Val.move rfl) ?_
          refine LS.m rfl (Step.loadBox rfl rfl (by decide) flat28 rfl (hM.o3.rd) ?_)
          refine LS.vv rfl rfl (by decide) (Val.move rfl) ?_
          refine LS.vv rfl rfl (by decide) (Val.index1 Try.underlying28 elem3 rfl rfl (by first | omega | (simp only [List.length_range]; omega)) ((hr2.below hB)) (nv_lt (by first | omega | (simp only [List.length_range]; omega)))) ?_
          refine LS.m rfl (Step.load rfl rfl (by decide) flat3 rfl ((hr2.below hB)) (nv_at (by first | omega | (simp only [List.length_range]; omega))) ?_)
          refine LS.vv rfl rfl (by decide) (Val.subN (i := 8) rfl rfl (by omega) (by omega)) ?_
          refine LS.vv rfl rfl (by decide) (Val.cast (v := .int .i64 ((2 ^ (8 - gn ls (gn ord k2)) : Nat) : Int)) (Val.shl64 (i := 1) rfl rfl (by omega) (by rw [Nat.one_shiftLeft]; omega)) (by rw [Nat.one_shiftLeft])) ?_
          first | refine LS.vv rfl rfl (by decide) (Val.addN rfl rfl (by first | omega | (simp only [List.length_range]; omega))) ?_ | refine LS.vv rfl rfl (by decide) (Val.add64 rfl rfl (by first | omega | (simp only [List.length_range]; omega))) ?_
          refine LS.vv rfl rfl (by decide) (Val.assign rfl) ?_
          refine LS.nil ?_
          refine inBlk_normal ?_
          refine thenP_normal ?_
          refine W.reg ?_
          first | refine LS.vv rfl rfl (by decide) (Val.addN (j := 1) rfl rfl (by first | omega | (simp only [List.length_range]; omega))) ?_ | refine LS.vv rfl rfl (by decide) (Val.add64 rfl rfl (by first | omega | (simp only [List.length_range]; omega))) ?_
          refine LS.vv rfl rfl (by decide) (Val.move rfl) ?_
          refine LS.nil ?_
          refine thenP_normal ?_
          have hwl : (wk ls ord k2).length = gn ls (gn ord k2) := digs_len _ _ _
          have hM2 := Mem.putC ⟨pd, cd, wk ls ord k2⟩ _ hwl (i := gn ord k2) (by omega) hM
          refine ⟨(k2 + 1, C.set (gn ord k2) ⟨pd, cd, wk ls ord k2⟩), ?_, ?_, ⟨⟨by simp only; omega, by simp only [List.length_set]; exact hC, fun j hj => ?_⟩, hM2, hB⟩, by simp only; omega⟩
          · exact (Sub.cons' rfl (by rw [hak]) (Sub.cons rfl (Sub.nil _)))
          · repeat (first | exact Sub.nil _ | refine Sub.cons rfl ?_)
          · simp only at hj ⊢
            rw [gW_set (by omega)]
            by_cases e : j = k2
            · subst e; rw [if_pos rfl]
            · rw [if_neg (fun h => e (hO.inj (by omega) (by omega) h.symm))]; exact hw j (by omega)
        ·
          refine W.exit ?_
          refine thenP_exit ?_
          refine thenP_exit ?_
          refine inBlk_exit ?_
          refine thenP_normal ?_
          refine W.seqR ?_
          refine LS.vv rfl rfl (by decide) (Val.move rfl) ?_
          refine LS.vv rfl rfl (by decide) (Val.assign rfl) ?_
          refine LS.vv rfl rfl (by decide) (Val.cast (v := .int .i64 ((0 : Nat) : Int)) (Val.assign rfl) rfl) ?_
          refine LS.nil ?_
          refine W.ret ?_
          refine ret2 (by first | exact .inl rfl | exact .inr rfl) rfl rfl ?_
          first
            | (refine ⟨none, 0, [], e0, rfl, (Mem.nil _ _).addNil _, ⟨fun h => by exfalso; omega, fun h => he0.2 h.1⟩, fun _ => rfl, fun h => by exfalso; omega, hB⟩; done)
            | (refine ⟨none, 0, [], 5, rfl, (Mem.nil _ _).addNil _, ⟨fun h => by exfalso; omega, fun h => by exfalso; have h1 := hsn (he0.2 h.1); have h2 := h.2; omega⟩, fun _ => rfl, fun h => by exfalso; omega, hB⟩; done)
            | (obtain rfl : k2 = zs.length := (by omega)
               obtain ⟨hf1, hf2⟩ := made_free hO hls8 (by rw [hll]; exact hsum) (C := codeOf C) (by rw [codeOf_len, hC, hll]) (fun j hj => by rw [codeOf_gw]; exact hw j (by omega))
               exact ⟨_, zs.length, C, 0, (by rw [hC]), (by rw [hC]; exact hM.drop1.drop1), ⟨fun _ => ⟨⟨hm8, hz⟩, hsum⟩, fun _ => rfl⟩, fun h => absurd rfl h, fun _ => ⟨hC, fun i j hi hj hne hp => hf1 i hi j hj hne ⟨hp.length_le, (List.prefix_iff_eq_take.1 hp).symm⟩, fun i hi => by rw [← codeOf_gw]; exact hf2 i (by rw [codeOf_len]; exact hi)⟩, hB⟩)

end Go.Proofs.Ytbfcmfjdjldepaa
