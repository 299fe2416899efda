/-
  Stable sorting: blocks and their merges.
-/
import Derived.Test.YtcoplafphgpmpaaStab2
import Derived.Test.YtcoplafphgpmpaaStab3
namespace Go.Proofs.Ytcoplafphgpmpaa
open Go Go.RowKit V
set_option linter.unusedVariables false
set_option linter.unusedSimpArgs false

theorem stable_any (key : Nat → Nat) (f : FuncId) (cap : Array Value) (p : Option Addr) (n c B : Nat) (Z : List Ob) (wb w0 : World) (hM0 : Mem w0 B (⟨3, p, n, c, nv (List.range n)⟩ :: Z)) (hB0 : B ≤ w0.heap.size) (hC : CmpOk key f cap p n c B Z wb) (hwb : Below B wb w0) (hn2 : n ≤ 64) :
    CallsV Try.prog 53 #[.slice p n c, .int .i64 (n : Int), .func (.func f) #[] cap] w0 (fun v w => ∃ L : List Nat, v = .tuple #[] ∧ Mem w B (⟨3, p, n, c, nv L⟩ :: Z) ∧ L.Perm (List.range n) ∧ Srt (KK key) L ∧ Below B w0 w) := by
  refine enter0 Try.func53 rfl Try.ntmps53 (by simp) rfl ?_
  have hB := Below.refl B w0
  simp only [argLoc, Nat.zero_add, Nat.reduceAdd]
  have hM := hM0
  refine W.seqR ?_
  refine LS.vv rfl rfl (by decide) (Val.cast (v := .int .i64 ((20 : Nat) : Int)) (Val.assign rfl) rfl) ?_
  refine LS.nil ?_
  refine W.seqR ?_
  refine LS.vv rfl rfl (by decide) (Val.move rfl) ?_
  refine LS.vv rfl rfl (by decide) (Val.cast (v := .int .i64 ((0 : Nat) : Int)) (Val.assign rfl) rfl) ?_
  refine LS.vv rfl rfl (by decide) (Val.assign rfl) ?_
  refine LS.nil ?_
  refine W.seq ?_
  refine W.block ?_
  refine W.loop (α := Nat × List Nat) (fun g => [(7, .int .i64 (g.1 : Int)), (8, .int .i64 ((g.1 + 20 : Nat) : Int))]) [(0, _), (1, _), (2, _), (6, _)] (fun g w => (g.1 % 20 = 0 ∧ g.1 ≤ n ∧ g.2.length = n ∧ Runs (KK key) n 20 g.2 0 g.1 ∧ (∀ c d, g.1 ≤ c → seg g.2 c d = seg (List.range n) c d)) ∧ Mem w B (⟨3, p, n, c, nv g.2⟩ :: Z) ∧ Below B w0 w) (fun g => n - g.1) ((0, (List.range n))) (Sub.cons rfl (Sub.cons rfl (Sub.nil _))) (Sub.cons rfl (Sub.cons rfl (Sub.cons rfl (Sub.cons rfl (Sub.nil _))))) ?_ ?_
  · exact ⟨⟨rfl, Nat.zero_le _, List.length_range, fun c h1 h2 => absurd h2 (Nat.not_lt_zero _), fun _ _ _ => rfl⟩, hM, hB⟩
  rintro ⟨a, L⟩ w1 ⟨⟨ha20, han, hLn, hR, hLr⟩, hM, hB⟩
  try simp only at hM
  simp only [List.cons_append, List.nil_append]
  simp only at ha20 han hLn hR hLr
  refine W.seq ?_
  refine W.seqR ?_
  refine LS.vv rfl rfl (by decide) (Val.move rfl) ?_
  refine LS.vv rfl rfl (by decide) (Val.move rfl) ?_
  refine LS.vv rfl rfl (by decide) (Val.leq rfl rfl) ?_
  refine LS.nil ?_
  first | refine W.condD rfl (fun hc1 => ?_) (fun hc1 => ?_) | refine W.cond rfl (fun hc1 => ?_) (fun hc1 => ?_)
  ·
    refine W.skip ?_
    refine thenP_normal ?_
    refine W.block ?_
    refine W.seqR ?_
    refine LS.vv rfl rfl (by decide) (Val.move rfl) ?_
    refine LS.vv rfl rfl (by decide) (Val.move rfl) ?_
    refine LS.vv rfl rfl (by decide) (Val.move rfl) ?_
    refine LS.vv rfl rfl (by decide) (Val.move rfl) ?_
    have hsg : seg L a (a + 20) = List.range' a ((a + 20) - a) := by rw [hLr _ _ (Nat.le_refl _)]; exact seg_range n (by omega)
    have hsl := seg_len (L := L) (a := a) (b := (a + 20)) (by omega)
    have htl : (L.take a).length = a := by rw [List.length_take]; omega
    rw [seg_dec1 (L := L) (a := a) (m := (a + 20)) (by omega)] at hM
    refine LS.m rfl (Step.call body59 rfl rfl (by decide) rfl (CallsV.mono (insertion_any key (L.take a) (seg L a (a + 20)) (L.drop (a + 20)) _ _ f cap p n c B Z wb _ hM (Nat.le_trans hB0 hB.size) hC (hwb.trans hB) htl (by omega) (by rw [htl, hsl, List.length_drop]; omega) hn2 (by rw [hsg]; exact rng_lt _ _) (fun x hx => by rw [hsg, List.mem_range'] at hx; obtain ⟨q, hq, rfl⟩ := hx; omega)) ?_))
    rintro _ w2 ⟨X, rfl, hM2, hX1, hX2, hb2⟩
    replace hM := hM2
    replace hB := hB.trans hb2
    have hXl : X.length = (a + 20) - a := hX1.length_eq.trans hsl
    obtain ⟨hq1, hq2, hq3, hq4⟩ := seg_put (L := L) (X := X) (a := a) (b := (a + 20)) (by omega) (by omega) hXl
    have hrun : Run (KK key) (L.take a ++ (X ++ L.drop (a + 20))) a (a + 20) := ⟨by rw [hq4, ← hsg]; exact hX1, by rw [hq4]; exact hX2⟩
    refine LS.nil ?_
    refine W.seqR ?_
    refine LS.vv rfl rfl (by decide) (Val.move rfl) ?_
    refine LS.vv rfl rfl (by decide) (Val.assign rfl) ?_
    refine LS.nil ?_
    refine W.reg ?_
    refine LS.vv rfl rfl (by decide) (Val.move rfl) ?_
    refine LS.vv rfl rfl (by decide) (Val.move rfl) ?_
    first | refine LS.vv rfl rfl (by decide) (Val.addN rfl rfl (by first | omega | (simp only [List.length_set]; omega))) ?_ | refine LS.vv rfl rfl (by decide) (Val.add64 rfl rfl (by first | omega | (simp only [List.length_set]; omega))) ?_
    refine LS.vv rfl rfl (by decide) (Val.assign rfl) ?_
    refine LS.nil ?_
    refine inBlk_normal ?_
    refine thenP_normal ?_
    refine ⟨(a + 20, L.take a ++ (X ++ L.drop (a + 20))), (Sub.cons rfl (Sub.cons rfl (Sub.nil _))), (by repeat (first | exact Sub.nil _ | refine Sub.cons rfl ?_)), ⟨⟨by simp only; omega, by simp only; omega, by simp only; omega, ?_, ?_⟩, hM, hB⟩, by simp only; omega⟩
    · exact hR.last hq2 ha20 (.inl rfl) han (by rw [show min (a + 20) n = a + 20 by omega]; exact hrun) (.inr rfl) (by omega) (by omega)
    · intro c d h1; simp only at h1 ⊢; rw [hq3 c d h1]; exact hLr c d (by omega)
  ·
    refine W.exit ?_
    refine thenP_exit ?_
    refine thenP_exit ?_
    refine inBlk_exit ?_
    refine thenP_normal ?_
    refine W.seqR ?_
    refine LS.vv rfl rfl (by decide) (Val.move rfl) ?_
    refine LS.vv rfl rfl (by decide) (Val.move rfl) ?_
    refine LS.vv rfl rfl (by decide) (Val.move rfl) ?_
    refine LS.vv rfl rfl (by decide) (Val.move rfl) ?_
    have hsg : seg L a n = List.range' a (n - a) := by rw [hLr _ _ (Nat.le_refl _)]; exact seg_range n (by omega)
    have hsl := seg_len (L := L) (a := a) (b := n) (by omega)
    have htl : (L.take a).length = a := by rw [List.length_take]; omega
    rw [seg_dec1 (L := L) (a := a) (m := n) (by omega)] at hM
    refine LS.m rfl (Step.call body59 rfl rfl (by decide) rfl (CallsV.mono (insertion_any key (L.take a) (seg L a n) (L.drop n) _ _ f cap p n c B Z wb _ hM (Nat.le_trans hB0 hB.size) hC (hwb.trans hB) htl (by omega) (by rw [htl, hsl, List.length_drop]; omega) hn2 (by rw [hsg]; exact rng_lt _ _) (fun x hx => by rw [hsg, List.mem_range'] at hx; obtain ⟨q, hq, rfl⟩ := hx; omega)) ?_))
    rintro _ w3 ⟨X, rfl, hM3, hX1, hX2, hb3⟩
    replace hM := hM3
    replace hB := hB.trans hb3
    have hXl : X.length = n - a := hX1.length_eq.trans hsl
    obtain ⟨hq1, hq2, hq3, hq4⟩ := seg_put (L := L) (X := X) (a := a) (b := n) (by omega) (by omega) hXl
    have hrun : Run (KK key) (L.take a ++ (X ++ L.drop n)) a n := ⟨by rw [hq4, ← hsg]; exact hX1, by rw [hq4]; exact hX2⟩
    refine LS.nil ?_
    refine W.block ?_
    refine W.loop (α := Nat × List Nat) (fun g => [(6, .int .i64 (g.1 : Int))]) [(0, _), (1, _), (2, _)] (fun g w => (20 ≤ g.1 ∧ g.1 ≤ 128 ∧ g.2.length = n ∧ Runs (KK key) n g.1 g.2 0 n) ∧ Mem w B (⟨3, p, n, c, nv g.2⟩ :: Z) ∧ Below B w0 w) (fun g => n - g.1) ((20, L.take a ++ (X ++ L.drop n))) (Sub.cons rfl (Sub.nil _)) (Sub.cons rfl (Sub.cons rfl (Sub.cons rfl (Sub.nil _)))) ?_ ?_
    · exact ⟨⟨Nat.le_refl _, by simp only; omega, by simp only; omega, hR.last hq2 ha20 (.inr rfl) han (by rw [Nat.min_self]; exact hrun) (.inl (Nat.le_refl _)) (by omega) (by omega)⟩, hM, hB⟩
    rintro ⟨s, L1⟩ w4 ⟨⟨hs20, hs128, hL1, hR1a⟩, hM, hB⟩
    try simp only at hM
    simp only [List.cons_append, List.nil_append]
    simp only at hs20 hs128 hL1 hR1a
    refine W.seq ?_
    refine W.seqR ?_
    refine LS.vv rfl rfl (by decide) (Val.move rfl) ?_
    refine LS.vv rfl rfl (by decide) (Val.move rfl) ?_
    refine LS.vv rfl rfl (by decide) (Val.lss rfl rfl) ?_
    refine LS.nil ?_
    first | refine W.condD rfl (fun hc2 => ?_) (fun hc2 => ?_) | refine W.cond rfl (fun hc2 => ?_) (fun hc2 => ?_)
    ·
      refine W.skip ?_
      refine thenP_normal ?_
      refine W.block ?_
      refine W.seqR ?_
      refine LS.vv rfl rfl (by decide) (Val.move rfl) ?_
      first | refine LS.vv rfl rfl (by decide) (Val.cast (v := .int .i64 ((0 + 2 * s : Nat) : Int)) (Val.mulN (i := 2) rfl rfl (by first | omega | (simp only [List.length_set]; omega))) (by rw [Nat.zero_add])) ?_ | refine LS.vv rfl rfl (by decide) (Val.cast (v := .int .i64 ((0 + 2 * s : Nat) : Int)) (Val.mul64 rfl rfl (by first | omega | (simp only [List.length_set]; omega))) (by rw [Nat.zero_add])) ?_
      refine LS.vv rfl rfl (by decide) (Val.cast (v := .int .i64 ((0 : Nat) : Int)) (Val.assign rfl) rfl) ?_
      refine LS.vv rfl rfl (by decide) (Val.assign rfl) ?_
      refine LS.nil ?_
      refine W.seq ?_
      refine W.block ?_
      have hz2 : 0 + 2 * s = 2 * s := Nat.zero_add _
      refine W.loop (α := Nat × List Nat) (fun g => [(7, .int .i64 (g.1 : Int)), (8, .int .i64 ((g.1 + 2 * s : Nat) : Int))]) [(0, _), (1, _), (2, _), (6, _)] (fun g w => (g.1 % (2 * s) = 0 ∧ g.1 ≤ n ∧ g.2.length = n ∧ Runs (KK key) n (2 * s) g.2 0 g.1 ∧ Runs (KK key) n s g.2 g.1 n) ∧ Mem w B (⟨3, p, n, c, nv g.2⟩ :: Z) ∧ Below B w0 w) (fun g => n - g.1) ((0, L1)) (Sub.cons rfl (Sub.cons rfl (Sub.nil _))) (Sub.cons rfl (Sub.cons rfl (Sub.cons rfl (Sub.cons rfl (Sub.nil _))))) ?_ ?_
      · exact ⟨⟨Nat.zero_mod _, Nat.zero_le _, hL1, fun c h1 h2 => absurd h2 (Nat.not_lt_zero _), hR1a⟩, hM, hB⟩
      rintro ⟨a2, L2⟩ w5 ⟨⟨ha2, han2, hL2, hR1, hR2⟩, hM, hB⟩
      try simp only at hM
      simp only [List.cons_append, List.nil_append]
      simp only at ha2 han2 hL2 hR1 hR2
      have hmd := mod2 ha2
      refine W.seq ?_
      refine W.seqR ?_
      refine LS.vv rfl rfl (by decide) (Val.move rfl) ?_
      refine LS.vv rfl rfl (by decide) (Val.move rfl) ?_
      refine LS.vv rfl rfl (by decide) (Val.leq rfl rfl) ?_
      refine LS.nil ?_
      first | refine W.condD rfl (fun hc3 => ?_) (fun hc3 => ?_) | refine W.cond rfl (fun hc3 => ?_) (fun hc3 => ?_)
      ·
        refine W.skip ?_
        refine thenP_normal ?_
        refine W.block ?_
        refine W.seqR ?_
        refine LS.vv rfl rfl (by decide) (Val.move rfl) ?_
        refine LS.vv rfl rfl (by decide) (Val.move rfl) ?_
        refine LS.vv rfl rfl (by decide) (Val.move rfl) ?_
        refine LS.vv rfl rfl (by decide) (Val.move rfl) ?_
        first | refine LS.vv rfl rfl (by decide) (Val.addN rfl rfl (by first | omega | (simp only [List.length_set]; omega))) ?_ | refine LS.vv rfl rfl (by decide) (Val.add64 rfl rfl (by first | omega | (simp only [List.length_set]; omega))) ?_
        refine LS.vv rfl rfl (by decide) (Val.move rfl) ?_
        refine LS.vv rfl rfl (by decide) (Val.move rfl) ?_
        have hs1 := seg_len (L := L2) (a := a2) (b := (a2 + s)) (by omega)
        have hs2 := seg_len (L := L2) (a := (a2 + s)) (b := (a2 + 2 * s)) (by omega)
        have htl : (L2.take a2).length = a2 := by rw [List.length_take]; omega
        have hr1 : Run (KK key) L2 a2 (a2 + s) := by have h9 := hR2 a2 (Nat.le_refl _) (by omega) hmd.1; rwa [show min (a2 + s) n = (a2 + s) by omega] at h9
        have hr2 : Run (KK key) L2 (a2 + s) (a2 + 2 * s) := by have h9 := hR2 (a2 + s) (by omega) (by omega) hmd.2.1; rwa [show min ((a2 + s) + s) n = (a2 + 2 * s) by omega] at h9
        rw [seg_dec (L := L2) (a := a2) (m := (a2 + s)) (b := (a2 + 2 * s)) (by omega) (by omega)] at hM
        refine LS.m rfl (Step.call body60 rfl rfl (by decide) rfl (CallsV.mono (sym_any key f cap p n c B Z wb hC hn2 _ (L2.take a2) (seg L2 a2 (a2 + s)) (seg L2 (a2 + s) (a2 + 2 * s)) (L2.drop (a2 + 2 * s)) _ _ _ _ (Nat.le_refl _) hM (Nat.le_trans hB0 hB.size) (hwb.trans hB) htl (by omega) (by omega) (by omega) (by omega) (by rw [htl, hs1, hs2, List.length_drop]; omega) hr1.srt hr2.srt (fun x hx => by have := hr1.mem hx; omega) (fun x hx => by have := hr2.mem hx; omega) (fun x hx y hy => by have := hr1.mem hx; have := hr2.mem hy; omega)) ?_))
        rintro _ w6 ⟨X, rfl, hM6, hX1, hX2, hb6⟩
        replace hM := hM6
        replace hB := hB.trans hb6
        have hXl : X.length = (a2 + 2 * s) - a2 := by rw [hX1.length_eq, List.length_append, hs1, hs2]; omega
        obtain ⟨hq1, hq2, hq3, hq4⟩ := seg_put (L := L2) (X := X) (a := a2) (b := (a2 + 2 * s)) (by omega) (by omega) hXl
        have hrun := Run.merge (S := L2.drop (a2 + 2 * s)) hr1 hr2 (by omega) (by omega) (by omega) hX1 hX2 htl
        refine LS.nil ?_
        refine W.seqR ?_
        refine LS.vv rfl rfl (by decide) (Val.move rfl) ?_
        refine LS.vv rfl rfl (by decide) (Val.assign rfl) ?_
        refine LS.nil ?_
        refine W.reg ?_
        refine LS.vv rfl rfl (by decide) (Val.move rfl) ?_
        refine LS.vv rfl rfl (by decide) (Val.move rfl) ?_
        first | refine LS.vv rfl rfl (by decide) (Val.mulN (i := 2) rfl rfl (by first | omega | (simp only [List.length_set]; omega))) ?_ | refine LS.vv rfl rfl (by decide) (Val.mul64 rfl rfl (by first | omega | (simp only [List.length_set]; omega))) ?_
        first | refine LS.vv rfl rfl (by decide) (Val.addN rfl rfl (by first | omega | (simp only [List.length_set]; omega))) ?_ | refine LS.vv rfl rfl (by decide) (Val.add64 rfl rfl (by first | omega | (simp only [List.length_set]; omega))) ?_
        refine LS.vv rfl rfl (by decide) (Val.assign rfl) ?_
        refine LS.nil ?_
        refine inBlk_normal ?_
        refine thenP_normal ?_
        refine ⟨(a2 + 2 * s, L2.take a2 ++ (X ++ L2.drop (a2 + 2 * s))), (Sub.cons rfl (Sub.cons rfl (Sub.nil _))), (by repeat (first | exact Sub.nil _ | refine Sub.cons rfl ?_)), ⟨⟨by simp only; exact hmd.2.2, by simp only; omega, by simp only; omega, ?_, ?_⟩, hM, hB⟩, by simp only; omega⟩
        · exact hR1.last hq2 ha2 (.inl rfl) han2 (by rw [show min (a2 + 2 * s) n = a2 + 2 * s by omega]; exact hrun) (.inr rfl) (by omega) (by omega)
        · exact (hR2.sub (by simp only; omega)).keep hq3
      ·
        refine W.exit ?_
        refine thenP_exit ?_
        refine thenP_exit ?_
        refine inBlk_exit ?_
        refine thenP_normal ?_
        refine W.mid (α := List Nat) (fun L3 => []) [(0, _), (1, _), (2, _), (6, _)] (fun L3 w => (L3.length = n ∧ Runs (KK key) n (2 * s) L3 0 n) ∧ Mem w B (⟨3, p, n, c, nv L3⟩ :: Z) ∧ Below B w0 w) (Sub.cons rfl (Sub.cons rfl (Sub.cons rfl (Sub.cons rfl (Sub.nil _))))) ?_ ?_
        ·
          refine W.seqR ?_
          refine LS.vv rfl rfl (by decide) (Val.move rfl) ?_
          refine LS.vv rfl rfl (by decide) (Val.move rfl) ?_
          first | refine LS.vv rfl rfl (by decide) (Val.addN rfl rfl (by first | omega | (simp only [List.length_set]; omega))) ?_ | refine LS.vv rfl rfl (by decide) (Val.add64 rfl rfl (by first | omega | (simp only [List.length_set]; omega))) ?_
          refine LS.vv rfl rfl (by decide) (Val.assign rfl) ?_
          refine LS.nil ?_
          refine W.seqR ?_
          refine LS.vv rfl rfl (by decide) (Val.move rfl) ?_
          refine LS.vv rfl rfl (by decide) (Val.move rfl) ?_
          refine LS.vv rfl rfl (by decide) (Val.lss rfl rfl) ?_
          refine LS.nil ?_
          first | refine W.condD rfl (fun hc4 => ?_) (fun hc4 => ?_) | refine W.cond rfl (fun hc4 => ?_) (fun hc4 => ?_)
          ·
            refine W.reg ?_
            refine LS.vv rfl rfl (by decide) (Val.move rfl) ?_
            refine LS.vv rfl rfl (by decide) (Val.move rfl) ?_
            refine LS.vv rfl rfl (by decide) (Val.move rfl) ?_
            refine LS.vv rfl rfl (by decide) (Val.move rfl) ?_
            refine LS.vv rfl rfl (by decide) (Val.move rfl) ?_
            have hs1 := seg_len (L := L2) (a := a2) (b := (a2 + s)) (by omega)
            have hs2 := seg_len (L := L2) (a := (a2 + s)) (b := n) (by omega)
            have htl : (L2.take a2).length = a2 := by rw [List.length_take]; omega
            have hr1 : Run (KK key) L2 a2 (a2 + s) := by have h9 := hR2 a2 (Nat.le_refl _) (by omega) hmd.1; rwa [show min (a2 + s) n = (a2 + s) by omega] at h9
            have hr2 : Run (KK key) L2 (a2 + s) n := by have h9 := hR2 (a2 + s) (by omega) (by omega) hmd.2.1; rwa [show min ((a2 + s) + s) n = n by omega] at h9
            rw [seg_dec (L := L2) (a := a2) (m := (a2 + s)) (b := n) (by omega) (by omega)] at hM
            refine LS.m rfl (Step.call body60 rfl rfl (by decide) rfl (CallsV.mono (sym_any key f cap p n c B Z wb hC hn2 _ (L2.take a2) (seg L2 a2 (a2 + s)) (seg L2 (a2 + s) n) (L2.drop n) _ _ _ _ (Nat.le_refl _) hM (Nat.le_trans hB0 hB.size) (hwb.trans hB) htl (by omega) (by omega) (by omega) (by omega) (by rw [htl, hs1, hs2, List.length_drop]; omega) hr1.srt hr2.srt (fun x hx => by have := hr1.mem hx; omega) (fun x hx => by have := hr2.mem hx; omega) (fun x hx y hy => by have := hr1.mem hx; have := hr2.mem hy; omega)) ?_))
            rintro _ w7 ⟨X, rfl, hM7, hX1, hX2, hb7⟩
            replace hM := hM7
            replace hB := hB.trans hb7
            have hXl : X.length = n - a2 := by rw [hX1.length_eq, List.length_append, hs1, hs2]; omega
            obtain ⟨hq1, hq2, hq3, hq4⟩ := seg_put (L := L2) (X := X) (a := a2) (b := n) (by omega) (by omega) hXl
            have hrun := Run.merge (S := L2.drop n) hr1 hr2 (by omega) (by omega) (by omega) hX1 hX2 htl
            refine LS.nil ?_
            refine thenP_normal ?_
            first
              | (refine ⟨L2.take a2 ++ (X ++ L2.drop n), Sub.nil _, (by repeat (first | exact Sub.nil _ | refine Sub.cons rfl ?_)), ⟨⟨by omega, ?_⟩, hM, hB⟩⟩
                 exact hR1.last hq2 ha2 (.inr rfl) han2 (by rw [Nat.min_self]; exact hrun) (.inl (Nat.le_refl _)) (by omega) (by omega))
              | (refine ⟨L2, Sub.nil _, (by repeat (first | exact Sub.nil _ | refine Sub.cons rfl ?_)), ⟨⟨hL2, ?_⟩, hM, hB⟩⟩
                 by_cases h8 : a2 < n
                 · have h9 := hR2 a2 (Nat.le_refl _) h8 hmd.1
                   rw [show min (a2 + s) n = min n n by omega] at h9
                   exact hR1.last (fun _ _ _ => rfl) ha2 (.inr rfl) han2 h9 (.inl (Nat.le_refl _)) (by omega) (by omega)
                 · rw [show n = a2 by omega] at hR1 ⊢; exact hR1)
          ·
            refine W.skip ?_
            refine thenP_normal ?_
            first
              | (refine ⟨L2.take a2 ++ (X ++ L2.drop n), Sub.nil _, (by repeat (first | exact Sub.nil _ | refine Sub.cons rfl ?_)), ⟨⟨by omega, ?_⟩, hM, hB⟩⟩
                 exact hR1.last hq2 ha2 (.inr rfl) han2 (by rw [Nat.min_self]; exact hrun) (.inl (Nat.le_refl _)) (by omega) (by omega))
              | (refine ⟨L2, Sub.nil _, (by repeat (first | exact Sub.nil _ | refine Sub.cons rfl ?_)), ⟨⟨hL2, ?_⟩, hM, hB⟩⟩
                 by_cases h8 : a2 < n
                 · have h9 := hR2 a2 (Nat.le_refl _) h8 hmd.1
                   rw [show min (a2 + s) n = min n n by omega] at h9
                   exact hR1.last (fun _ _ _ => rfl) ha2 (.inr rfl) han2 h9 (.inl (Nat.le_refl _)) (by omega) (by omega)
                 · rw [show n = a2 by omega] at hR1 ⊢; exact hR1)
        ·
          rintro L3 w8 ⟨⟨hL3, hR3⟩, hM, hB⟩
          simp only [List.cons_append, List.nil_append]
          try simp only at hM
          refine W.reg ?_
          refine LS.vv rfl rfl (by decide) (Val.move rfl) ?_
          first | refine LS.vv rfl rfl (by decide) (Val.mulN (j := 2) rfl rfl (by first | omega | (simp only [List.length_set]; omega))) ?_ | refine LS.vv rfl rfl (by decide) (Val.mul64 rfl rfl (by first | omega | (simp only [List.length_set]; omega))) ?_
          refine LS.vv rfl rfl (by decide) (Val.assign rfl) ?_
          refine LS.nil ?_
          refine inBlk_normal ?_
          refine thenP_normal ?_
          refine ⟨(2 * s, L3), (Sub.cons' rfl (by simp only; congr 1; omega) (Sub.nil _)), (by repeat (first | exact Sub.nil _ | refine Sub.cons rfl ?_)), ⟨⟨by simp only; omega, by simp only; omega, hL3, hR3⟩, hM, hB⟩, by simp only; omega⟩
    ·
      refine W.exit ?_
      refine thenP_exit ?_
      refine thenP_exit ?_
      refine inBlk_exit ?_
      refine ret0 (by first | exact .inl rfl | exact .inr rfl) ?_
      have hfin : Run (KK key) L1 0 n := by
        by_cases h0 : n = 0
        · subst h0; have := nil_of hL1; subst this; exact ⟨List.Perm.refl _, List.Pairwise.nil⟩
        · have h9 := hR1a 0 (Nat.le_refl _) (by omega) (Nat.zero_mod _); rwa [show min (0 + s) n = n by omega] at h9
      have hf1 := hfin.perm
      have hf2 := hfin.srt
      rw [seg_all hL1] at hf1 hf2
      rw [Nat.sub_zero, ← List.range_eq_range'] at hf1
      exact ⟨L1, rfl, hM, hf1, hf2, hB⟩

theorem sortStable_any (key : Nat → Nat) (f : FuncId) (cap : Array Value) (p : Option Addr) (n c B : Nat) (Z : List Ob) (wb w0 : World) (hM0 : Mem w0 B (⟨3, p, n, c, nv (List.range n)⟩ :: Z)) (hB0 : B ≤ w0.heap.size) (hC : CmpOk key f cap p n c B Z wb) (hwb : Below B wb w0) (hn2 : n ≤ 64) :
    CallsV Try.prog 36 #[.slice p n c, .func (.func f) #[] cap] w0 (fun v w => ∃ L : List Nat, v = .tuple #[] ∧ Mem w B (⟨3, p, n, c, nv L⟩ :: Z) ∧ L.Perm (List.range n) ∧ Srt (KK key) L ∧ Below B w0 w) := by
  refine enter0 Try.func36 rfl Try.ntmps36 (by simp) rfl ?_
  have hB := Below.refl B w0
  simp only [argLoc, Nat.zero_add]
  have hM := hM0
  refine W.reg ?_
  refine LS.vv rfl rfl (by decide) (Val.move rfl) ?_
  refine LS.vv rfl rfl (by decide) (Val.move rfl) ?_
  refine LS.vv rfl rfl (by decide) (Val.len Try.underlying33 rfl) ?_
  refine LS.vv rfl rfl (by decide) (Val.move rfl) ?_
  refine LS.m rfl (Step.call body53 rfl rfl (by decide) rfl (CallsV.mono (stable_any key f cap p n c B Z wb _ hM (Nat.le_trans hB0 hB.size) hC (hwb.trans hB) hn2) ?_))
  rintro _ w1 ⟨L, rfl, hM1, hL1, hL2, hb1⟩
  replace hM := hM1
  replace hB := hB.trans hb1
  refine LS.nil ?_
  refine ret0 (by first | exact .inl rfl | exact .inr rfl) ?_
  exact ⟨L, rfl, hM, hL1, hL2, hB⟩

end Go.Proofs.Ytcoplafphgpmpaa
