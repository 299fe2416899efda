/-
  Sorting numbers: slices.Sort.
-/
import Derived.Test.YtjmpkmomlpgbdaaPdq3
namespace Go.Proofs.Ytjmpkmomlpgbdaa
open Go Go.RowKit V
set_option linter.unusedVariables false
set_option linter.unusedSimpArgs false

structure PI (d : Array Nat) (a b n : Nat) (D : Array Nat) (a1 b1 : Nat) : Prop where
  ab : a1 ≤ b1
  bn : b1 ≤ n
  size : D.size = n
  len : b1 - a1 ≤ b - a
  low : Go.Sort.Below ltN a1 b1 D
  done : ∀ R, Go.Sort.PermIn a1 b1 D R → Go.Sort.SortedIn ltN a1 b1 R → Go.Sort.PermIn a b d R ∧ Go.Sort.SortedIn ltN a b R
theorem PI.start {d : Array Nat} {a b n : Nat} (hab : a ≤ b) (hb : b ≤ n) (hn : d.size = n) (hl : Go.Sort.Below ltN a b d) : PI d a b n d a b := ⟨hab, hb, hn, Nat.le_refl _, hl, fun R h1 h2 => ⟨h1, h2⟩⟩
theorem PI.perm {d D E : Array Nat} {a b n a1 b1 : Nat} (h : PI d a b n D a1 b1) (hE : Go.Sort.PermIn a1 b1 D E) : PI d a b n E a1 b1 :=
  ⟨h.ab, h.bn, by rw [hE.1]; exact h.size, h.len, h.low.perm (by rw [h.size]; exact h.bn) hE, fun R h1 h2 => h.done R (Go.Sort.permIn_trans _ _ _ _ _ hE h1) h2⟩
theorem PI.eq {d D : Array Nat} {a b n a1 b1 pv : Nat} {r : Nat × Array Nat} (h : PI d a b n D a1 b1) (h0 : 0 < a1) (hp1 : a1 ≤ pv) (hp2 : pv < b1) (hnl : ¬ gn D.toList (a1 - 1) < gn D.toList pv) (hx : Go.Sort.partitionEqual ltN D a1 b1 pv = r) : PI d a b n r.2 r.1 b1 ∧ a1 < r.1 := by
  obtain ⟨mid, d4⟩ := r
  have hb : b1 ≤ D.size := by rw [h.size]; exact h.bn
  obtain ⟨h1, h2, h3, h4, h5⟩ := Go.Sort.round_eq swo (Go.Sort.partitionEqual_holds ltN) h0 hp1 hp2 hb h.low (by rw [← gnA, ← gnA]; exact ltN_no hnl) hx
  exact ⟨⟨h2, h.bn, by rw [h3]; exact h.size, by have := h.len; simp only; omega, h4, fun R q1 q2 => (h5 R q1 q2).elim fun u1 u2 => h.done R u1 u2⟩, h1⟩
theorem PI.part {d D : Array Nat} {a b n a1 b1 pv : Nat} {r : Nat × Bool × Array Nat} (h : PI d a b n D a1 b1) (hp1 : a1 ≤ pv) (hp2 : pv < b1) (hx : Go.Sort.partition ltN D a1 b1 pv = r) :
    a1 ≤ r.1 ∧ r.1 < b1 ∧ r.2.2.size = n ∧ Go.Sort.Below ltN a1 r.1 r.2.2 ∧ Go.Sort.Below ltN (r.1 + 1) b1 r.2.2 ∧ (∀ L, Go.Sort.PermIn a1 r.1 r.2.2 L → Go.Sort.SortedIn ltN a1 r.1 L → PI d a b n L (r.1 + 1) b1) ∧ ∀ L, Go.Sort.PermIn (r.1 + 1) b1 r.2.2 L → Go.Sort.SortedIn ltN (r.1 + 1) b1 L → PI d a b n L a1 r.1 := by
  obtain ⟨mid, ap, d4⟩ := r
  have hb : b1 ≤ D.size := by rw [h.size]; exact h.bn
  have hbn := h.bn; have hlen := h.len; have hsz := h.size
  obtain ⟨h1, h2, h3, h4, h5, h6, h7⟩ := Go.Sort.round_part swo (Go.Sort.partition_holds ltN) hp1 hp2 hb h.low hx
  refine ⟨h1, h2, by rw [h3]; exact hsz, h4, h5, fun L q1 q2 => ?_, fun L q1 q2 => ?_⟩
  · obtain ⟨u1, u2⟩ := h6 L q1 q2
    exact ⟨h2, hbn, by rw [q1.1, h3]; exact hsz, by simp only; omega, u1, fun R v1 v2 => (u2 R v1 v2).elim fun z1 z2 => h.done R z1 z2⟩
  · obtain ⟨u1, u2⟩ := h7 L q1 q2
    exact ⟨h1, by simp only; omega, by rw [q1.1, h3]; exact hsz, by simp only; omega, u1, fun R v1 v2 => (u2 R v1 v2).elim fun z1 z2 => h.done R z1 z2⟩

def PdqOk (N : Nat) : Prop := ∀ (d : Array Nat) (p : Option Addr) (n c B : Nat) (S : List Ob) (a b lim : Nat) (w0 : World), b - a ≤ N → Mem w0 B (⟨37, p, n, c, uv d.toList⟩ :: S) → B ≤ w0.heap.size → d.size = n → n ≤ 1000000 → lim ≤ 64 → a ≤ b → b ≤ n → Go.Sort.Below ltN a b d →
    CallsV Try.prog 56 #[.slice p n c, .int .i64 (a : Int), .int .i64 (b : Int), .int .i64 (lim : Int)] w0 (fun v w => ∃ R : Array Nat, v = .tuple #[] ∧ Go.Sort.PermIn a b d R ∧ Go.Sort.SortedIn ltN a b R ∧ Mem w B (⟨37, p, n, c, uv R.toList⟩ :: S) ∧ Below B w0 w)

theorem pdq_step (d : Array Nat) (p : Option Addr) (n c B : Nat) (S : List Ob) (a b : Nat) (w0 : World) (hM0 : Mem w0 B (⟨37, p, n, c, uv d.toList⟩ :: S)) (hB0 : B ≤ w0.heap.size) (hn : d.size = n) (hn2 : n ≤ 1000000) (lim N : Nat) (ih : ∀ N2, N2 < N → PdqOk N2) (hN : b - a ≤ N) (hlim : lim ≤ 64) (hab : a ≤ b) (hb : b ≤ n) (hlow : Go.Sort.Below ltN a b d) :
    CallsV Try.prog 56 #[.slice p n c, .int .i64 (a : Int), .int .i64 (b : Int), .int .i64 (lim : Int)] w0 (fun v w => ∃ R : Array Nat, v = .tuple #[] ∧ Go.Sort.PermIn a b d R ∧ Go.Sort.SortedIn ltN a b R ∧ Mem w B (⟨37, p, n, c, uv R.toList⟩ :: S) ∧ Below B w0 w) := by
  refine enter0 Try.func56 rfl Try.ntmps56 (by simp) rfl ?_
  have hB := Below.refl B w0
  simp only [argLoc, Nat.zero_add, Nat.reduceAdd]
  have hM := hM0
  refine W.seqR ?_
  refine LS.vv rfl rfl (by decide) (Val.assign rfl) ?_
  refine LS.nil ?_
  refine W.seqR ?_
  refine LS.vv rfl rfl (by decide) (Val.assign rfl) ?_
  refine LS.nil ?_
  refine W.block ?_
  refine W.loop (α := Array Nat × Nat × Nat × Nat × Bool × Bool) (fun g => [(1, .int .i64 (g.2.1 : Int)), (2, .int .i64 (g.2.2.1 : Int)), (3, .int .i64 (g.2.2.2.1 : Int)), (8, .bool g.2.2.2.2.1), (9, .bool g.2.2.2.2.2)]) [(0, _)] (fun g w => (PI d a b n g.1 g.2.1 g.2.2.1 ∧ g.2.2.2.1 ≤ 64) ∧ Mem w B (⟨37, p, n, c, uv g.1.toList⟩ :: S) ∧ Below B w0 w) (fun g => g.2.2.1 - g.2.1) ((d, a, b, lim, true, true)) (Sub.cons rfl (Sub.cons rfl (Sub.cons rfl (Sub.cons rfl (Sub.cons rfl (Sub.nil _)))))) (Sub.cons rfl (Sub.nil _)) ?_ ?_
  · exact ⟨⟨PI.start hab hb hn hlow, hlim⟩, hM, hB⟩
  rintro ⟨D, a1, b1, lm0, wb, wp⟩ w1 ⟨⟨hPI, hlm0⟩, hM, hB⟩
  try simp only at hM
  simp only [List.cons_append, List.nil_append]
  simp only at hPI hlm0
  have hDn := hPI.size
  have hPab := hPI.ab
  have hPbn := hPI.bn
  have hPlen := hPI.len
  have hlD : D.toList.length = n := by rw [Array.length_toList]; first | assumption | omega
  refine W.block ?_
  refine W.seqR ?_
  refine LS.vv rfl rfl (by decide) (Val.move rfl) ?_
  refine LS.vv rfl rfl (by decide) (Val.move rfl) ?_
  refine LS.vv rfl rfl (by decide) (Val.subN rfl rfl (by omega) (by omega)) ?_
  refine LS.vv rfl rfl (by decide) (Val.assign rfl) ?_
  refine LS.nil ?_
  refine W.seq ?_
  refine W.seqR ?_
  refine LS.vv rfl rfl (by decide) (Val.move rfl) ?_
  refine LS.vv rfl rfl (by decide) (Val.leq rfl rfl) ?_
  refine LS.nil ?_
  first | refine W.condD rfl (fun hc1 => ?_) (fun hc1 => ?_) | refine W.cond rfl (fun hc1 => ?_) (fun hc1 => ?_)
  ·
    refine W.seqR ?_
    refine LS.vv rfl rfl (by decide) (Val.move rfl) ?_
    refine LS.vv rfl rfl (by decide) (Val.move rfl) ?_
    refine LS.vv rfl rfl (by decide) (Val.move rfl) ?_
    refine LS.m rfl (Step.call body60 rfl rfl (by decide) rfl (CallsV.mono (insertion_u32 D p n c B S a1 b1 _ hM (Nat.le_trans hB0 hB.size) (by first | assumption | omega) hn2 (by omega) (by omega)) ?_))
    rintro _ w2 ⟨rfl, hM2, hb2⟩
    replace hM := hM2
    replace hB := hB.trans hb2
    refine LS.nil ?_
    refine W.ret ?_
    refine thenP_ret ?_
    refine inBlk_ret ?_
    refine thenP_ret ?_
    refine inBlk_ret ?_
    refine ret0 (by first | exact .inl rfl | exact .inr rfl) ?_
    first
      | (obtain ⟨u1, u2⟩ := Go.Sort.insertionSort_holds swo D a1 b1 hPab (by omega)
         obtain ⟨q1, q2⟩ := hPI.done _ u1 u2
         exact ⟨_, rfl, q1, q2, hM, hB⟩)
      | (obtain ⟨u1, u2⟩ := Go.Sort.heapSort_holds swo D a1 b1 hPab (by omega)
         obtain ⟨q1, q2⟩ := hPI.done _ u1 u2
         exact ⟨_, rfl, q1, q2, hM, hB⟩)
      | (obtain ⟨q1, q2⟩ := hPF.done _ hph.1 (hph.2 (by assumption))
         exact ⟨_, rfl, q1, q2, hM, hB⟩)
  ·
    refine W.skip ?_
    refine thenP_normal ?_
    refine W.seq ?_
    refine W.seqR ?_
    refine LS.vv rfl rfl (by decide) (Val.move rfl) ?_
    refine LS.vv rfl rfl (by decide) (Val.eql rfl rfl) ?_
    refine LS.nil ?_
    first | refine W.condD rfl (fun hc2 => ?_) (fun hc2 => ?_) | refine W.cond rfl (fun hc2 => ?_) (fun hc2 => ?_)
    ·
      refine W.seqR ?_
      refine LS.vv rfl rfl (by decide) (Val.move rfl) ?_
      refine LS.vv rfl rfl (by decide) (Val.move rfl) ?_
      refine LS.vv rfl rfl (by decide) (Val.move rfl) ?_
      refine LS.m rfl (Step.call body61 rfl rfl (by decide) rfl (CallsV.mono (heapSort_u32 D p n c B S a1 b1 _ hM (Nat.le_trans hB0 hB.size) (by first | assumption | omega) hn2 (by omega) (by omega)) ?_))
      rintro _ w3 ⟨rfl, hM3, hb3⟩
      replace hM := hM3
      replace hB := hB.trans hb3
      refine LS.nil ?_
      refine W.ret ?_
      refine thenP_ret ?_
      refine inBlk_ret ?_
      refine thenP_ret ?_
      refine inBlk_ret ?_
      refine ret0 (by first | exact .inl rfl | exact .inr rfl) ?_
      first
        | (obtain ⟨u1, u2⟩ := Go.Sort.insertionSort_holds swo D a1 b1 hPab (by omega)
           obtain ⟨q1, q2⟩ := hPI.done _ u1 u2
           exact ⟨_, rfl, q1, q2, hM, hB⟩)
        | (obtain ⟨u1, u2⟩ := Go.Sort.heapSort_holds swo D a1 b1 hPab (by omega)
           obtain ⟨q1, q2⟩ := hPI.done _ u1 u2
           exact ⟨_, rfl, q1, q2, hM, hB⟩)
        | (obtain ⟨q1, q2⟩ := hPF.done _ hph.1 (hph.2 (by assumption))
           exact ⟨_, rfl, q1, q2, hM, hB⟩)
    ·
      refine W.skip ?_
      refine thenP_normal ?_
      refine W.mid (α := Array Nat × Nat) (fun g => [(3, .int .i64 (g.2 : Int))]) [(0, _), (1, _), (2, _), (8, _), (9, _), (10, _)] (fun g w => (Go.Sort.PermIn a1 b1 D g.1 ∧ g.2 ≤ 64) ∧ Mem w B (⟨37, p, n, c, uv g.1.toList⟩ :: S) ∧ Below B w0 w) (Sub.cons rfl (Sub.cons rfl (Sub.cons rfl (Sub.cons rfl (Sub.cons rfl (Sub.cons rfl (Sub.nil _))))))) ?_ ?_
      ·
        refine W.seqR ?_
        refine LS.vv rfl rfl (by decide) (Val.move rfl) ?_
        refine LS.vv rfl rfl (by decide) (Val.not rfl) ?_
        refine LS.nil ?_
        first | refine W.condD rfl (fun hc3 => ?_) (fun hc3 => ?_) | refine W.cond rfl (fun hc3 => ?_) (fun hc3 => ?_)
        ·
          refine W.seqR ?_
          refine LS.vv rfl rfl (by decide) (Val.move rfl) ?_
          refine LS.vv rfl rfl (by decide) (Val.move rfl) ?_
          refine LS.vv rfl rfl (by decide) (Val.move rfl) ?_
          refine LS.m rfl (Step.call body62 rfl rfl (by decide) rfl (CallsV.mono (break_u32 D p n c B S a1 b1 _ hM (Nat.le_trans hB0 hB.size) (by first | assumption | omega) hn2 (by omega) (by omega)) ?_))
          rintro _ w4 ⟨E, hE, rfl, hM4, hb4⟩
          replace hM := hM4
          replace hB := hB.trans hb4
          refine LS.nil ?_
          refine W.reg ?_
          refine LS.vv rfl rfl (by decide) (Val.move rfl) ?_
          refine LS.vv rfl rfl (by decide) (Val.subN (j := 1) rfl rfl (by omega) (by omega)) ?_
          refine LS.vv rfl rfl (by decide) (Val.assign rfl) ?_
          refine LS.nil ?_
          refine thenP_normal ?_
          first
            | (refine ⟨(E, lm0 - 1), (Sub.cons rfl (Sub.nil _)), (by repeat (first | exact Sub.nil _ | refine Sub.cons rfl ?_)), ⟨⟨hE, by simp only; omega⟩, hM, hB⟩⟩)
            | (refine ⟨(D, lm0), (Sub.cons rfl (Sub.nil _)), (by repeat (first | exact Sub.nil _ | refine Sub.cons rfl ?_)), ⟨⟨Go.Sort.permIn_refl _ _ _, hlm0⟩, hM, hB⟩⟩)
        ·
          refine W.skip ?_
          refine thenP_normal ?_
          first
            | (refine ⟨(E, lm0 - 1), (Sub.cons rfl (Sub.nil _)), (by repeat (first | exact Sub.nil _ | refine Sub.cons rfl ?_)), ⟨⟨hE, by simp only; omega⟩, hM, hB⟩⟩)
            | (refine ⟨(D, lm0), (Sub.cons rfl (Sub.nil _)), (by repeat (first | exact Sub.nil _ | refine Sub.cons rfl ?_)), ⟨⟨Go.Sort.permIn_refl _ _ _, hlm0⟩, hM, hB⟩⟩)
      ·
        rintro ⟨E, lm⟩ w5 ⟨⟨hE, hlm⟩, hM, hB⟩
        simp only [List.cons_append, List.nil_append]
        try simp only at hM
        simp only at hE hlm
        have hPE := hPI.perm hE
        have hEn := hPE.size
        have hlE : E.toList.length = n := by rw [Array.length_toList]; first | assumption | omega
        refine W.seqR ?_
        refine LS.vv rfl rfl (by decide) (Val.move rfl) ?_
        refine LS.vv rfl rfl (by decide) (Val.move rfl) ?_
        refine LS.vv rfl rfl (by decide) (Val.move rfl) ?_
        refine LS.m rfl (Step.call body63 rfl rfl (by decide) rfl (CallsV.mono (choosePivot_u32 E.toList p n c a1 b1 _ hM.o0.rd hlE hn2 (by omega) (by omega)) ?_))
        rintro _ w6 ⟨pv, h, rfl, hpv1, hpv2, hb6⟩
        replace hM := hM.below hb6
        replace hB := hB.trans (hb6.mono (Nat.le_trans hB0 hB.size))
        refine LS.vv rfl rfl (by decide) (Val.move rfl) ?_
        refine LS.vv rfl rfl (by decide) (Val.extract rfl rfl) ?_
        refine LS.vv rfl rfl (by decide) (Val.extract rfl rfl) ?_
        refine LS.vv rfl rfl (by decide) (Val.assign rfl) ?_
        refine LS.vv rfl rfl (by decide) (Val.assign rfl) ?_
        refine LS.nil ?_
        refine W.mid (α := Array Nat × Nat × Nat) (fun g => [(11, .int .i64 (g.2.1 : Int)), (12, .int .i64 (g.2.2 : Int))]) [(0, _), (1, _), (2, _), (3, _), (8, _), (9, _), (10, _)] (fun g w => (Go.Sort.PermIn a1 b1 E g.1 ∧ a1 ≤ g.2.1 ∧ g.2.1 < b1) ∧ Mem w B (⟨37, p, n, c, uv g.1.toList⟩ :: S) ∧ Below B w0 w) (Sub.cons rfl (Sub.cons rfl (Sub.cons rfl (Sub.cons rfl (Sub.cons rfl (Sub.cons rfl (Sub.cons rfl (Sub.nil _)))))))) ?_ ?_
        ·
          refine W.seqR ?_
          refine LS.vv rfl rfl (by decide) (Val.move rfl) ?_
          refine LS.vv rfl rfl (by decide) (Val.eql rfl rfl) ?_
          refine LS.nil ?_
          first | refine W.condD rfl (fun hc4 => ?_) (fun hc4 => ?_) | refine W.cond rfl (fun hc4 => ?_) (fun hc4 => ?_)
          ·
            refine W.seqR ?_
            refine LS.vv rfl rfl (by decide) (Val.move rfl) ?_
            refine LS.vv rfl rfl (by decide) (Val.move rfl) ?_
            refine LS.vv rfl rfl (by decide) (Val.move rfl) ?_
            refine LS.m rfl (Step.call body64 rfl rfl (by decide) rfl (CallsV.mono (reverse_u32 E p n c B S a1 b1 _ hM (Nat.le_trans hB0 hB.size) (by first | assumption | omega) hn2 (by omega) (by omega)) ?_))
            rintro _ w7 ⟨rfl, hM7, hb7⟩
            replace hM := hM7
            replace hB := hB.trans hb7
            refine LS.nil ?_
            refine W.seqR ?_
            refine LS.vv rfl rfl (by decide) (Val.move rfl) ?_
            refine LS.vv rfl rfl (by decide) (Val.subN (j := 1) rfl rfl (by omega) (by omega)) ?_
            refine LS.vv rfl rfl (by decide) (Val.move rfl) ?_
            refine LS.vv rfl rfl (by decide) (Val.move rfl) ?_
            refine LS.vv rfl rfl (by decide) (Val.subN rfl rfl (by omega) (by omega)) ?_
            refine LS.vv rfl rfl (by decide) (Val.subN rfl rfl (by omega) (by omega)) ?_
            refine LS.vv rfl rfl (by decide) (Val.assign rfl) ?_
            refine LS.nil ?_
            refine W.reg ?_
            refine LS.vv rfl rfl (by decide) (Val.cast (v := .int .i64 ((1 : Nat) : Int)) (Val.assign rfl) rfl) ?_
            refine LS.nil ?_
            refine thenP_normal ?_
            first
              | (refine ⟨(Go.Sort.reverseRange E a1 b1, (b1 - 1) - (pv - a1), 1), (Sub.cons rfl (Sub.cons rfl (Sub.nil _))), (by repeat (first | exact Sub.nil _ | refine Sub.cons rfl ?_)), ⟨⟨Go.Sort.reverseRange_holds E a1 b1 (by omega) (by omega), by simp only; omega, by simp only; omega⟩, hM, hB⟩⟩)
              | (refine ⟨(E, pv, h), (Sub.cons rfl (Sub.cons rfl (Sub.nil _))), (by repeat (first | exact Sub.nil _ | refine Sub.cons rfl ?_)), ⟨⟨Go.Sort.permIn_refl _ _ _, hpv1, hpv2⟩, hM, hB⟩⟩)
          ·
            refine W.skip ?_
            refine thenP_normal ?_
            first
              | (refine ⟨(Go.Sort.reverseRange E a1 b1, (b1 - 1) - (pv - a1), 1), (Sub.cons rfl (Sub.cons rfl (Sub.nil _))), (by repeat (first | exact Sub.nil _ | refine Sub.cons rfl ?_)), ⟨⟨Go.Sort.reverseRange_holds E a1 b1 (by omega) (by omega), by simp only; omega, by simp only; omega⟩, hM, hB⟩⟩)
              | (refine ⟨(E, pv, h), (Sub.cons rfl (Sub.cons rfl (Sub.nil _))), (by repeat (first | exact Sub.nil _ | refine Sub.cons rfl ?_)), ⟨⟨Go.Sort.permIn_refl _ _ _, hpv1, hpv2⟩, hM, hB⟩⟩)
        ·
          rintro ⟨F, pv2, h2⟩ w8 ⟨⟨hF, hpv3, hpv4⟩, hM, hB⟩
          simp only [List.cons_append, List.nil_append]
          try simp only at hM
          simp only at hF hpv3 hpv4
          have hPF := hPE.perm hF
          have hFn := hPF.size
          have hlF : F.toList.length = n := by rw [Array.length_toList]; first | assumption | omega
          refine W.mid (α := Array Nat) (fun G => []) [(0, _), (1, _), (2, _), (3, _), (8, _), (9, _), (10, _), (11, _)] (fun G w => (Go.Sort.PermIn a1 b1 F G) ∧ Mem w B (⟨37, p, n, c, uv G.toList⟩ :: S) ∧ Below B w0 w) (Sub.cons rfl (Sub.cons rfl (Sub.cons rfl (Sub.cons rfl (Sub.cons rfl (Sub.cons rfl (Sub.cons rfl (Sub.cons rfl (Sub.nil _))))))))) ?_ ?_
          ·
            refine W.seqR ?_
            refine LS.vv rfl rfl (by decide) (Val.move rfl) ?_
            refine LS.vv rfl rfl (by decide) (Val.move rfl) ?_
            refine LS.split 1 rfl (fun hg5 => ?_) (fun hg5 => ?_)
            ·
              first | (have hg5p := of_decide_eq_true hg5) | skip
              refine LS.vg rfl rfl rfl hg5 (by decide) (Val.move rfl) ?_
              refine LS.vv rfl rfl (by decide) (Val.pickT rfl hg5 rfl) ?_
              refine LS.vv rfl rfl (by decide) (Val.move rfl) ?_
              refine LS.split 4 rfl (fun hg6 => ?_) (fun hg6 => ?_)
              ·
                first | (have hg6p := of_decide_eq_true hg6) | skip
                refine LS.vg rfl rfl rfl hg6 (by decide) (Val.move rfl) ?_
                refine LS.vg rfl rfl rfl hg6 (by decide) (Val.eql rfl rfl) ?_
                refine LS.vv rfl rfl (by decide) (Val.pickT rfl hg6 rfl) ?_
                refine LS.nil ?_
                first | refine W.condD rfl (fun hc7 => ?_) (fun hc7 => ?_) | refine W.cond rfl (fun hc7 => ?_) (fun hc7 => ?_)
                ·
                  refine W.seqR ?_
                  refine LS.vv rfl rfl (by decide) (Val.move rfl) ?_
                  refine LS.vv rfl rfl (by decide) (Val.move rfl) ?_
                  refine LS.vv rfl rfl (by decide) (Val.move rfl) ?_
                  refine LS.m rfl (Step.call body65 rfl rfl (by decide) rfl (CallsV.mono (partialIns_u32 F p n c B S a1 b1 _ hM (Nat.le_trans hB0 hB.size) (by first | assumption | omega) hn2 (by omega) (by omega)) ?_))
                  rintro _ w9 ⟨r, hr, rfl, hM9, hb9⟩
                  replace hM := hM9
                  replace hB := hB.trans hb9
                  have hph := Go.Sort.partialInsertionSort_holds swo F a1 b1 (by omega) (by omega) hPF.low
                  rw [hr] at hph
                  refine LS.nil ?_
                  first | refine W.condD rfl (fun hc8 => ?_) (fun hc8 => ?_) | refine W.cond rfl (fun hc8 => ?_) (fun hc8 => ?_)
                  ·
                    refine W.ret ?_
                    refine thenP_ret ?_
                    refine inBlk_ret ?_
                    refine thenP_ret ?_
                    refine inBlk_ret ?_
                    refine ret0 (by first | exact .inl rfl | exact .inr rfl) ?_
                    first
                      | (obtain ⟨u1, u2⟩ := Go.Sort.insertionSort_holds swo D a1 b1 hPab (by omega)
                         obtain ⟨q1, q2⟩ := hPI.done _ u1 u2
                         exact ⟨_, rfl, q1, q2, hM, hB⟩)
                      | (obtain ⟨u1, u2⟩ := Go.Sort.heapSort_holds swo D a1 b1 hPab (by omega)
                         obtain ⟨q1, q2⟩ := hPI.done _ u1 u2
                         exact ⟨_, rfl, q1, q2, hM, hB⟩)
                      | (obtain ⟨q1, q2⟩ := hPF.done _ hph.1 (hph.2 (by assumption))
                         exact ⟨_, rfl, q1, q2, hM, hB⟩)
                  ·
                    refine W.skip ?_
                    refine thenP_normal ?_
                    first
                      | (refine ⟨r.1, (Sub.nil _), (by repeat (first | exact Sub.nil _ | refine Sub.cons rfl ?_)), ⟨hph.1, hM, hB⟩⟩)
                      | (refine ⟨F, (Sub.nil _), (by repeat (first | exact Sub.nil _ | refine Sub.cons rfl ?_)), ⟨Go.Sort.permIn_refl _ _ _, hM, hB⟩⟩)
                ·
                  refine W.skip ?_
                  refine thenP_normal ?_
                  first
                    | (refine ⟨r.1, (Sub.nil _), (by repeat (first | exact Sub.nil _ | refine Sub.cons rfl ?_)), ⟨hph.1, hM, hB⟩⟩)
                    | (refine ⟨F, (Sub.nil _), (by repeat (first | exact Sub.nil _ | refine Sub.cons rfl ?_)), ⟨Go.Sort.permIn_refl _ _ _, hM, hB⟩⟩)
              ·
                first | (have hg6p := of_decide_eq_false hg6) | skip
                refine LS.s rfl rfl rfl hg6 (by decide) ?_
                refine LS.s rfl rfl rfl hg6 (by decide) ?_
                refine LS.vv rfl rfl (by decide) (Val.pickF rfl hg6 rfl) ?_
                refine LS.nil ?_
                refine W.condF rfl ?_
                refine W.skip ?_
                refine thenP_normal ?_
                first
                  | (refine ⟨r.1, (Sub.nil _), (by repeat (first | exact Sub.nil _ | refine Sub.cons rfl ?_)), ⟨hph.1, hM, hB⟩⟩)
                  | (refine ⟨F, (Sub.nil _), (by repeat (first | exact Sub.nil _ | refine Sub.cons rfl ?_)), ⟨Go.Sort.permIn_refl _ _ _, hM, hB⟩⟩)
            ·
              first | (have hg5p := of_decide_eq_false hg5) | skip
              refine LS.s rfl rfl rfl hg5 (by decide) ?_
              refine LS.vv rfl rfl (by decide) (Val.pickF rfl hg5 rfl) ?_
              refine LS.vv rfl rfl (by decide) (Val.move rfl) ?_
              refine LS.s rfl rfl rfl rfl (by decide) ?_
              refine LS.s rfl rfl rfl rfl (by decide) ?_
              refine LS.vv rfl rfl (by decide) (Val.pickF rfl rfl rfl) ?_
              refine LS.nil ?_
              refine W.condF rfl ?_
              refine W.skip ?_
              refine thenP_normal ?_
              first
                | (refine ⟨r.1, (Sub.nil _), (by repeat (first | exact Sub.nil _ | refine Sub.cons rfl ?_)), ⟨hph.1, hM, hB⟩⟩)
                | (refine ⟨F, (Sub.nil _), (by repeat (first | exact Sub.nil _ | refine Sub.cons rfl ?_)), ⟨Go.Sort.permIn_refl _ _ _, hM, hB⟩⟩)
          ·
            rintro G w10 ⟨hG, hM, hB⟩
            simp only [List.cons_append, List.nil_append]
            try simp only at hM
            have hPG := hPF.perm hG
            have hGn := hPG.size
            have hlG : G.toList.length = n := by rw [Array.length_toList]; first | assumption | omega
            refine W.seq ?_
            refine W.mid (α := Unit) (fun _ => [(87, .bool (decide (0 < a1 ∧ ¬ gn G.toList (a1 - 1) < gn G.toList pv2)))]) [(0, _), (1, _), (2, _), (3, _), (8, _), (9, _), (10, _), (11, _)] (fun _ w => (True) ∧ Mem w B (⟨37, p, n, c, uv G.toList⟩ :: S) ∧ Below B w0 w) (Sub.cons rfl (Sub.cons rfl (Sub.cons rfl (Sub.cons rfl (Sub.cons rfl (Sub.cons rfl (Sub.cons rfl (Sub.cons rfl (Sub.nil _))))))))) ?_ ?_
            ·
              refine W.regF 15 [(0, true), (1, true), (2, true), (3, true), (4, true), (5, true), (6, true), (7, true), (8, true), (9, true), (10, true), (11, true), (12, false), (13, true), (14, true)] mixed (by kernel_rfl) hB hM ?_
              replace hB := hB.drew
              replace hM := hM.drew
              refine DF.vv rfl rfl rfl (by decide) (Val.move rfl) ?_
              refine DF.vv rfl rfl rfl (by decide) (Val.gtr rfl rfl) ?_
              refine DF.vv rfl rfl rfl (by decide) (Val.move rfl) ?_
              refine DF.split 2 rfl (fun hg9 => ?_) (fun hg9 => ?_)
              ·
                first | (have hg9p := of_decide_eq_true hg9) | skip
                refine DF.vg rfl rfl rfl rfl hg9 (by decide) (Val.move rfl) ?_
                refine DF.vg rfl rfl rfl rfl hg9 (by decide) (Val.move rfl) ?_
                first | refine DF.vg rfl rfl rfl rfl hg9 (by decide) (Val.subN (j := 1) rfl rfl (by first | omega | (simp only [List.length_set]; omega)) (by first | omega | (simp only [List.length_set]; omega))) ?_ | refine DF.vg rfl rfl rfl rfl hg9 (by decide) (Val.sub64 rfl rfl (by first | omega | (simp only [List.length_set]; omega))) ?_
                refine DF.vg rfl rfl rfl rfl hg9 (by decide) (Val.index1 Try.underlying32 elem37 rfl rfl (by first | omega | (simp only [List.length_set]; omega)) (hM.o0.rd) (uv_lt (by first | omega | (simp only [List.length_set]; omega)))) ?_
                refine DF.vg rfl rfl rfl rfl hg9 (by decide) (Val.load flat37 rfl (fun _ h => h.2.o0.rd) (uv_at (by first | omega | (simp only [List.length_set]; omega)))) ?_
                refine DF.vg rfl rfl rfl rfl hg9 (by decide) (Val.move rfl) ?_
                refine DF.vg rfl rfl rfl rfl hg9 (by decide) (Val.move rfl) ?_
                refine DF.vg rfl rfl rfl rfl hg9 (by decide) (Val.index1 Try.underlying32 elem37 rfl rfl (by first | omega | (simp only [List.length_set]; omega)) (hM.o0.rd) (uv_lt (by first | omega | (simp only [List.length_set]; omega)))) ?_
                refine DF.vg rfl rfl rfl rfl hg9 (by decide) (Val.load flat37 rfl (fun _ h => h.2.o0.rd) (uv_at (by first | omega | (simp only [List.length_set]; omega)))) ?_
                refine DF.mg rfl rfl rfl hg9 (Step.call body66 rfl rfl (by decide) rfl (CallsV.mono (less_u32 (gn G.toList (a1 - 1)) (gn G.toList pv2) _) ?_))
                rintro _ w11 ⟨rfl, hb11⟩
                replace hM := hM.below hb11
                replace hB := hB.trans (hb11.mono (Nat.le_trans hB0 hB.size))
                refine ⟨fun _ => ⟨hB, hM⟩, ?_⟩
                refine DF.vg rfl rfl rfl rfl hg9 (by decide) (Val.not rfl) ?_
                refine DF.vv rfl rfl rfl (by decide) (Val.pickT rfl hg9 rfl) ?_
                refine DF.nil ?_
                refine thenP_normal ?_
                refine ⟨(), ?_, ?_, ⟨trivial, hM, hB⟩⟩
                · exact Sub.cons' rfl (congrArg Value.bool (by first | exact decide_eq_decide.2 (by omega) | (rw [← decide_not]; exact decide_eq_decide.2 (by omega)) | exact (decide_eq_false (by omega)).symm | exact (decide_eq_true (by omega)).symm)) (Sub.nil _)
                · repeat (first | exact Sub.nil _ | refine Sub.cons rfl ?_)
              ·
                first | (have hg9p := of_decide_eq_false hg9) | skip
                refine DF.s rfl rfl rfl rfl hg9 (by decide) ?_
                refine DF.s rfl rfl rfl rfl hg9 (by decide) ?_
                refine DF.s rfl rfl rfl rfl hg9 (by decide) ?_
                refine DF.s rfl rfl rfl rfl hg9 (by decide) ?_
                refine DF.s rfl rfl rfl rfl hg9 (by decide) ?_
                refine DF.s rfl rfl rfl rfl hg9 (by decide) ?_
                refine DF.s rfl rfl rfl rfl hg9 (by decide) ?_
                refine DF.s rfl rfl rfl rfl hg9 (by decide) ?_
                refine DF.s rfl rfl rfl rfl hg9 (by decide) ?_
                refine DF.s rfl rfl rfl rfl hg9 (by decide) ?_
                refine DF.s rfl rfl rfl rfl hg9 (by decide) ?_
                refine DF.vv rfl rfl rfl (by decide) (Val.pickF rfl hg9 rfl) ?_
                refine DF.nil ?_
                refine thenP_normal ?_
                refine ⟨(), ?_, ?_, ⟨trivial, hM, hB⟩⟩
                · exact Sub.cons' rfl (congrArg Value.bool (by first | exact decide_eq_decide.2 (by omega) | (rw [← decide_not]; exact decide_eq_decide.2 (by omega)) | exact (decide_eq_false (by omega)).symm | exact (decide_eq_true (by omega)).symm)) (Sub.nil _)
                · repeat (first | exact Sub.nil _ | refine Sub.cons rfl ?_)
            ·
              rintro _ w12 ⟨_, hM, hB⟩
              simp only [List.cons_append, List.nil_append]
              try simp only at hM
              first | refine W.condD rfl (fun hc10 => ?_) (fun hc10 => ?_) | refine W.cond rfl (fun hc10 => ?_) (fun hc10 => ?_)
              ·
                refine W.seqR ?_
                refine LS.vv rfl rfl (by decide) (Val.move rfl) ?_
                refine LS.vv rfl rfl (by decide) (Val.move rfl) ?_
                refine LS.vv rfl rfl (by decide) (Val.move rfl) ?_
                refine LS.vv rfl rfl (by decide) (Val.move rfl) ?_
                refine LS.m rfl (Step.call body67 rfl rfl (by decide) rfl (CallsV.mono (partitionEq_u32 G p n c B S a1 b1 _ hM (Nat.le_trans hB0 hB.size) (by first | assumption | omega) hn2 pv2 hpv3 hpv4 (by omega)) ?_))
                rintro _ w13 ⟨r, hr, rfl, hM13, hb13⟩
                replace hM := hM13
                replace hB := hB.trans hb13
                obtain ⟨hQ, hmid⟩ := hPG.eq (by omega) hpv3 hpv4 (by omega) hr
                refine LS.vv rfl rfl (by decide) (Val.assign rfl) ?_
                refine LS.nil ?_
                refine W.seqR ?_
                refine LS.vv rfl rfl (by decide) (Val.move rfl) ?_
                refine LS.vv rfl rfl (by decide) (Val.assign rfl) ?_
                refine LS.nil ?_
                refine W.exit ?_
                refine thenP_exit ?_
                refine inBlk_exit ?_
                refine thenP_normal ?_
                first
                  | (refine ⟨(r.2, r.1, b1, lm, wb, wp), (Sub.cons rfl (Sub.cons rfl (Sub.cons rfl (Sub.cons rfl (Sub.cons rfl (Sub.nil _)))))), (by repeat (first | exact Sub.nil _ | refine Sub.cons rfl ?_)), ⟨⟨hQ, hlm⟩, hM, hB⟩, by simp only; omega⟩)
                  | (refine ⟨(R, mid + 1, b1, lm, _, ap), (Sub.cons rfl (Sub.cons rfl (Sub.cons rfl (Sub.cons rfl (Sub.cons rfl (Sub.nil _)))))), (by repeat (first | exact Sub.nil _ | refine Sub.cons rfl ?_)), ⟨⟨hq1 R hR1 hR2, hlm⟩, hM, hB⟩, by simp only; omega⟩)
                  | (refine ⟨(R, a1, mid, lm, _, ap), (Sub.cons rfl (Sub.cons rfl (Sub.cons rfl (Sub.cons rfl (Sub.cons rfl (Sub.nil _)))))), (by repeat (first | exact Sub.nil _ | refine Sub.cons rfl ?_)), ⟨⟨hq2 R hR1 hR2, hlm⟩, hM, hB⟩, by simp only; omega⟩)
              ·
                refine W.skip ?_
                refine thenP_normal ?_
                refine W.seqR ?_
                refine LS.vv rfl rfl (by decide) (Val.move rfl) ?_
                refine LS.vv rfl rfl (by decide) (Val.move rfl) ?_
                refine LS.vv rfl rfl (by decide) (Val.move rfl) ?_
                refine LS.vv rfl rfl (by decide) (Val.move rfl) ?_
                refine LS.m rfl (Step.call body68 rfl rfl (by decide) rfl (CallsV.mono (partition_u32 G p n c B S a1 b1 _ hM (Nat.le_trans hB0 hB.size) (by first | assumption | omega) hn2 pv2 hpv3 hpv4 (by omega)) ?_))
                rintro _ w14 ⟨r, hr, rfl, hM14, hb14⟩
                replace hM := hM14
                replace hB := hB.trans hb14
                obtain ⟨hm1, hm2, hsz, hl1, hl2, hq1, hq2⟩ := hPG.part hpv3 hpv4 hr
                obtain ⟨mid, ap, D4⟩ := r
                simp only at hm1 hm2 hsz hl1 hl2 hq1 hq2 hM
                refine LS.vv rfl rfl (by decide) (Val.move rfl) ?_
                refine LS.vv rfl rfl (by decide) (Val.extract rfl rfl) ?_
                refine LS.vv rfl rfl (by decide) (Val.extract rfl rfl) ?_
                refine LS.vv rfl rfl (by decide) (Val.assign rfl) ?_
                refine LS.vv rfl rfl (by decide) (Val.assign rfl) ?_
                refine LS.nil ?_
                refine W.seqR ?_
                refine LS.vv rfl rfl (by decide) (Val.move rfl) ?_
                refine LS.vv rfl rfl (by decide) (Val.assign rfl) ?_
                refine LS.nil ?_
                refine W.seqR ?_
                refine LS.vv rfl rfl (by decide) (Val.move rfl) ?_
                refine LS.vv rfl rfl (by decide) (Val.move rfl) ?_
                refine LS.vv rfl rfl (by decide) (Val.subN rfl rfl (by omega) (by omega)) ?_
                refine LS.vv rfl rfl (by decide) (Val.move rfl) ?_
                refine LS.vv rfl rfl (by decide) (Val.move rfl) ?_
                refine LS.vv rfl rfl (by decide) (Val.subN rfl rfl (by omega) (by omega)) ?_
                refine LS.vv rfl rfl (by decide) (Val.assign rfl) ?_
                refine LS.vv rfl rfl (by decide) (Val.assign rfl) ?_
                refine LS.nil ?_
                refine W.seqR ?_
                refine LS.vv rfl rfl (by decide) (Val.move rfl) ?_
                first | refine LS.vv rfl rfl (by decide) (Val.quoN (j := 8) rfl rfl (by first | omega | (simp only [List.length_set]; omega)) (by first | omega | (simp only [List.length_set]; omega))) ?_ | refine LS.vv rfl rfl (by decide) (Val.quo64 rfl rfl (by first | omega | (simp only [List.length_set]; omega)) (by first | omega | (simp only [List.length_set]; omega))) ?_
                refine LS.vv rfl rfl (by decide) (Val.assign rfl) ?_
                refine LS.nil ?_
                refine W.seqR ?_
                refine LS.vv rfl rfl (by decide) (Val.move rfl) ?_
                refine LS.vv rfl rfl (by decide) (Val.move rfl) ?_
                refine LS.vv rfl rfl (by decide) (Val.lss rfl rfl) ?_
                refine LS.nil ?_
                first | refine W.condD rfl (fun hc11 => ?_) (fun hc11 => ?_) | refine W.cond rfl (fun hc11 => ?_) (fun hc11 => ?_)
                ·
                  refine W.seqR ?_
                  refine LS.vv rfl rfl (by decide) (Val.move rfl) ?_
                  refine LS.vv rfl rfl (by decide) (Val.move rfl) ?_
                  refine LS.vv rfl rfl (by decide) (Val.geq rfl rfl) ?_
                  refine LS.vv rfl rfl (by decide) (Val.assign rfl) ?_
                  refine LS.nil ?_
                  refine W.seqR ?_
                  refine LS.vv rfl rfl (by decide) (Val.move rfl) ?_
                  refine LS.vv rfl rfl (by decide) (Val.move rfl) ?_
                  refine LS.vv rfl rfl (by decide) (Val.move rfl) ?_
                  refine LS.vv rfl rfl (by decide) (Val.move rfl) ?_
                  refine LS.m rfl (Step.call body56 rfl rfl (by decide) rfl (CallsV.mono (ih (mid - a1) (by omega) D4 p n c B S a1 mid lm _ (Nat.le_refl _) hM (Nat.le_trans hB0 hB.size) (by first | assumption | omega) hn2 (by omega) (by omega) (by omega) (by assumption)) ?_))
                  rintro _ w15 ⟨R, rfl, hR1, hR2, hM15, hb15⟩
                  replace hM := hM15
                  replace hB := hB.trans hb15
                  refine LS.nil ?_
                  refine W.reg ?_
                  refine LS.vv rfl rfl (by decide) (Val.move rfl) ?_
                  first | refine LS.vv rfl rfl (by decide) (Val.addN (j := 1) rfl rfl (by first | omega | (simp only [List.length_set]; omega))) ?_ | refine LS.vv rfl rfl (by decide) (Val.add64 rfl rfl (by first | omega | (simp only [List.length_set]; omega))) ?_
                  refine LS.vv rfl rfl (by decide) (Val.assign rfl) ?_
                  refine LS.nil ?_
                  refine inBlk_normal ?_
                  refine thenP_normal ?_
                  first
                    | (refine ⟨(r.2, r.1, b1, lm, wb, wp), (Sub.cons rfl (Sub.cons rfl (Sub.cons rfl (Sub.cons rfl (Sub.cons rfl (Sub.nil _)))))), (by repeat (first | exact Sub.nil _ | refine Sub.cons rfl ?_)), ⟨⟨hQ, hlm⟩, hM, hB⟩, by simp only; omega⟩)
                    | (refine ⟨(R, mid + 1, b1, lm, _, ap), (Sub.cons rfl (Sub.cons rfl (Sub.cons rfl (Sub.cons rfl (Sub.cons rfl (Sub.nil _)))))), (by repeat (first | exact Sub.nil _ | refine Sub.cons rfl ?_)), ⟨⟨hq1 R hR1 hR2, hlm⟩, hM, hB⟩, by simp only; omega⟩)
                    | (refine ⟨(R, a1, mid, lm, _, ap), (Sub.cons rfl (Sub.cons rfl (Sub.cons rfl (Sub.cons rfl (Sub.cons rfl (Sub.nil _)))))), (by repeat (first | exact Sub.nil _ | refine Sub.cons rfl ?_)), ⟨⟨hq2 R hR1 hR2, hlm⟩, hM, hB⟩, by simp only; omega⟩)
                ·
                  refine W.seqR ?_
                  refine LS.vv rfl rfl (by decide) (Val.move rfl) ?_
                  refine LS.vv rfl rfl (by decide) (Val.move rfl) ?_
                  refine LS.vv rfl rfl (by decide) (Val.geq rfl rfl) ?_
                  refine LS.vv rfl rfl (by decide) (Val.assign rfl) ?_
                  refine LS.nil ?_
                  refine W.seqR ?_
                  refine LS.vv rfl rfl (by decide) (Val.move rfl) ?_
                  refine LS.vv rfl rfl (by decide) (Val.move rfl) ?_
                  first | refine LS.vv rfl rfl (by decide) (Val.addN (j := 1) rfl rfl (by first | omega | (simp only [List.length_set]; omega))) ?_ | refine LS.vv rfl rfl (by decide) (Val.add64 rfl rfl (by first | omega | (simp only [List.length_set]; omega))) ?_
                  refine LS.vv rfl rfl (by decide) (Val.move rfl) ?_
                  refine LS.vv rfl rfl (by decide) (Val.move rfl) ?_
                  refine LS.m rfl (Step.call body56 rfl rfl (by decide) rfl (CallsV.mono (ih (b1 - (mid + 1)) (by omega) D4 p n c B S (mid + 1) b1 lm _ (Nat.le_refl _) hM (Nat.le_trans hB0 hB.size) (by first | assumption | omega) hn2 (by omega) (by omega) (by omega) (by assumption)) ?_))
                  rintro _ w16 ⟨R, rfl, hR1, hR2, hM16, hb16⟩
                  replace hM := hM16
                  replace hB := hB.trans hb16
                  refine LS.nil ?_
                  refine W.reg ?_
                  refine LS.vv rfl rfl (by decide) (Val.move rfl) ?_
                  refine LS.vv rfl rfl (by decide) (Val.assign rfl) ?_
                  refine LS.nil ?_
                  refine inBlk_normal ?_
                  refine thenP_normal ?_
                  first
                    | (refine ⟨(r.2, r.1, b1, lm, wb, wp), (Sub.cons rfl (Sub.cons rfl (Sub.cons rfl (Sub.cons rfl (Sub.cons rfl (Sub.nil _)))))), (by repeat (first | exact Sub.nil _ | refine Sub.cons rfl ?_)), ⟨⟨hQ, hlm⟩, hM, hB⟩, by simp only; omega⟩)
                    | (refine ⟨(R, mid + 1, b1, lm, _, ap), (Sub.cons rfl (Sub.cons rfl (Sub.cons rfl (Sub.cons rfl (Sub.cons rfl (Sub.nil _)))))), (by repeat (first | exact Sub.nil _ | refine Sub.cons rfl ?_)), ⟨⟨hq1 R hR1 hR2, hlm⟩, hM, hB⟩, by simp only; omega⟩)
                    | (refine ⟨(R, a1, mid, lm, _, ap), (Sub.cons rfl (Sub.cons rfl (Sub.cons rfl (Sub.cons rfl (Sub.cons rfl (Sub.nil _)))))), (by repeat (first | exact Sub.nil _ | refine Sub.cons rfl ?_)), ⟨⟨hq2 R hR1 hR2, hlm⟩, hM, hB⟩, by simp only; omega⟩)

theorem pdq_any : ∀ N, PdqOk N := by
  intro N
  induction N using Nat.strongRecOn with
  | ind N ih => exact fun d p n c B S a b lim w0 h1 h2 h3 h4 h5 h6 h7 h8 h9 => pdq_step d p n c B S a b w0 h2 h3 h4 h5 lim N ih h1 h6 h7 h8 h9
theorem sorted_list {l : List Nat} {R : Array Nat} (hP : Go.Sort.PermIn 0 l.length l.toArray R) (hS : Go.Sort.SortedIn ltN 0 l.length R) : R.toList.Perm l ∧ R.toList.Pairwise (· ≤ ·) := by
  have hsz : R.size = l.length := by rw [hP.1]; simp
  refine ⟨?_, ?_⟩
  · have h := hP.2.2
    have e1 : R.extract 0 l.length = R := by rw [← hsz]; exact Array.extract_size
    have e2 : l.toArray.extract 0 l.length = l.toArray := by rw [show l.length = l.toArray.size by simp]; exact Array.extract_size
    rw [e1, e2] at h; exact h
  · rw [List.pairwise_iff_getElem]
    intro i j hi hj hij
    rw [Array.length_toList, hsz] at hi hj
    have := hS i j (Nat.zero_le _) hij hj
    rw [← gnA, ← gnA, gn_lt (by rw [Array.length_toList, hsz]; exact hj), gn_lt (by rw [Array.length_toList, hsz]; exact hi)] at this
    have := of_decide_eq_false this
    omega

theorem sort_u32 (l : List Nat) (p : Option Addr) (n c B : Nat) (S : List Ob) (w0 : World) (hM0 : Mem w0 B (⟨37, p, n, c, uv l⟩ :: S)) (hB0 : B ≤ w0.heap.size) (hn : l.length = n) (hn2 : n ≤ 1000000) :
    CallsV Try.prog 47 #[.slice p n c] w0 (fun v w => ∃ l2 : List Nat, v = .tuple #[] ∧ l2.Perm l ∧ l2.Pairwise (· ≤ ·) ∧ Mem w B (⟨37, p, n, c, uv l2⟩ :: S) ∧ Below B w0 w) := by
  refine enter0 Try.func47 rfl Try.ntmps47 (by simp) rfl ?_
  have hB := Below.refl B w0
  simp only [argLoc]
  have hM := hM0
  have hbl := bitLen_le (x := n) (k := 20) (by omega)
  refine W.seqR ?_
  refine LS.vv rfl rfl (by decide) (Val.move rfl) ?_
  refine LS.vv rfl rfl (by decide) (Val.len Try.underlying32 rfl) ?_
  refine LS.vv rfl rfl (by decide) (Val.assign rfl) ?_
  refine LS.nil ?_
  refine W.reg ?_
  refine LS.vv rfl rfl (by decide) (Val.move rfl) ?_
  refine LS.vv rfl rfl (by decide) (Val.move rfl) ?_
  refine LS.vv rfl rfl (by decide) (Val.move rfl) ?_
  refine LS.vv rfl rfl (by decide) (Val.conv rfl Try.underlying3 Try.underlying26 (IntWalk.u64_in _ (by first | omega | (simp only [List.length_set]; omega)))) ?_
  refine LS.m rfl (Step.call body37 rfl rfl (by decide) rfl (CallsV.mono (blen_any n _ (by omega)) ?_))
  rintro _ w1 ⟨rfl, hb1⟩
  replace hM := hM.below hb1
  replace hB := hB.trans (hb1.mono (Nat.le_trans hB0 hB.size))
  refine LS.m rfl (Step.call body56 rfl rfl (by decide) rfl (CallsV.mono (pdq_any n l.toArray p n c B S 0 n (bitLen n) _ (by omega) hM (Nat.le_trans hB0 hB.size) (by simpa using hn) hn2 (by omega) (Nat.zero_le _) (Nat.le_refl _) (Or.inl rfl)) ?_))
  rintro _ w2 ⟨R, rfl, hR1, hR2, hM2, hb2⟩
  replace hM := hM2
  replace hB := hB.trans hb2
  subst hn
  obtain ⟨hs1, hs2⟩ := sorted_list hR1 hR2
  refine LS.nil ?_
  refine ret0 (by first | exact .inl rfl | exact .inr rfl) ?_
  exact ⟨R.toList, rfl, hs1, hs2, hM, hB⟩

end Go.Proofs.Ytjmpkmomlpgbdaa
