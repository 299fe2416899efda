/-
  The walks of package hamm: Put whole, data, Fix; quipukeep.turned.
-/
import Derived.Test.YtbbmgcmibgdkiaaHamm
namespace Go.Proofs.Ytbbmgcmibgdkiaa
open Go Go.RowKit V
set_option linter.unusedVariables false

theorem putBad_any (r : Int) (d : List Bool) (p : Option Addr) (c : Nat) (w0 : World) (hbad : ¬ (2 ≤ r ∧ r ≤ 4 ∧ d.length = 2 ^ r.toNat - 1 - r.toNat)) :
    CallsV Try.prog 24 #[.int .i64 r, .slice p d.length c] w0 (fun v w => ∃ e : Nat, v = .tuple #[.slice none 0 0, .int .i64 (e : Int)] ∧ e ≠ 0 ∧ Below w0.heap.size w0 w) := by
  refine enter2 Try.func24 rfl Try.ntmps24 (by simp) rfl ?_
  have hB := Below.refl w0.heap.size w0
  simp only [argLoc, Nat.zero_add]
  refine W.seqR ?_
  refine LS.vv rfl rfl (by decide) (Val.assign rfl) ?_
  refine LS.vv rfl rfl (by decide) (Val.cast (v := .int .i64 ((0 : Nat) : Int)) (Val.assign rfl) rfl) ?_
  refine LS.nil ?_
  refine W.seq ?_
  refine W.seqR ?_
  refine LS.vv rfl rfl (by decide) (Val.move rfl) ?_
  refine LS.vv rfl rfl (by decide) (Val.lss rfl rfl) ?_
  refine LS.vv rfl rfl (by decide) (Val.move rfl) ?_
  refine LS.split 2 rfl (fun hg1 => ?_) (fun hg1 => ?_)
  ·
    first | (have hg1p := of_decide_eq_true hg1) | skip
    refine LS.s rfl rfl rfl hg1 (by decide) ?_
    refine LS.s rfl rfl rfl hg1 (by decide) ?_
    refine LS.vv rfl rfl (by decide) (Val.pickT rfl hg1 rfl) ?_
    refine LS.nil ?_
    refine W.condT rfl ?_
    refine W.seqR ?_
    refine LS.vv rfl rfl (by decide) (Val.assign rfl) ?_
    refine LS.vv rfl rfl (by decide) (Val.cast (v := .int .i64 ((4 : Nat) : Int)) (Val.assign rfl) rfl) ?_
    refine LS.nil ?_
    refine W.ret ?_
    refine thenP_ret ?_
    refine ret2 (by first | exact .inl rfl | exact .inr rfl) rfl rfl ?_
    first | exact ⟨4, rfl, by omega, hB⟩ | exact ⟨3, rfl, by omega, hB⟩
  ·
    first | (have hg1p := of_decide_eq_false hg1) | skip
    refine LS.vg rfl rfl rfl hg1 (by decide) (Val.move rfl) ?_
    refine LS.vg rfl rfl rfl hg1 (by decide) (Val.gtr rfl rfl) ?_
    refine LS.vv rfl rfl (by decide) (Val.pickF rfl hg1 rfl) ?_
    refine LS.nil ?_
    first | refine W.condD rfl (fun hc2 => ?_) (fun hc2 => ?_) | refine W.cond rfl (fun hc2 => ?_) (fun hc2 => ?_)
    ·
      refine W.seqR ?_
      refine LS.vv rfl rfl (by decide) (Val.assign rfl) ?_
      refine LS.vv rfl rfl (by decide) (Val.cast (v := .int .i64 ((4 : Nat) : Int)) (Val.assign rfl) rfl) ?_
      refine LS.nil ?_
      refine W.ret ?_
      refine thenP_ret ?_
      refine ret2 (by first | exact .inl rfl | exact .inr rfl) rfl rfl ?_
      first | exact ⟨4, rfl, by omega, hB⟩ | exact ⟨3, rfl, by omega, hB⟩
    ·
      obtain ⟨m, rfl⟩ := Int.eq_ofNat_of_zero_le (show 0 ≤ r by omega)
      rw [Int.toNat_natCast] at hbad
      have hp2 : 2 ^ 2 ≤ 2 ^ m := Nat.pow_le_pow_right (by omega) (by omega)
      have hp4 : 2 ^ m ≤ 2 ^ 4 := Nat.pow_le_pow_right (by omega) (by omega)
      have hsh : (1 : Nat) <<< m = 2 ^ m := by rw [Nat.shiftLeft_eq, Nat.one_mul]
      have hmn : m + 1 ≤ 2 ^ m := Nat.lt_two_pow_self
      generalize hN : 2 ^ m - 1 = n at *
      refine W.skip ?_
      refine thenP_normal ?_
      refine W.seqR ?_
      refine LS.vv rfl rfl (by decide) (Val.move rfl) ?_
      refine LS.vv rfl rfl (by decide) (Val.shl64 (i := 1) rfl rfl (by omega) (by omega)) ?_
      refine LS.vv rfl rfl (by decide) (Val.cast (v := .int .i64 (n : Int)) (Val.subN (j := 1) rfl rfl (by omega) (by omega)) (by rw [hsh, hN])) ?_
      refine LS.vv rfl rfl (by decide) (Val.assign rfl) ?_
      refine LS.nil ?_
      refine W.seq ?_
      refine W.seqR ?_
      refine LS.vv rfl rfl (by decide) (Val.move rfl) ?_
      refine LS.vv rfl rfl (by decide) (Val.len Try.underlying23 rfl) ?_
      refine LS.vv rfl rfl (by decide) (Val.move rfl) ?_
      refine LS.vv rfl rfl (by decide) (Val.move rfl) ?_
      first | refine LS.vv rfl rfl (by decide) (Val.subN rfl rfl (by omega) (by omega)) ?_ | refine LS.vv rfl rfl (by decide) (Val.sub64 rfl rfl (by omega)) ?_
      refine LS.vv rfl rfl (by decide) (Val.neq rfl rfl) ?_
      refine LS.nil ?_
      first | refine W.condD rfl (fun hc3 => ?_) (fun hc3 => ?_) | refine W.cond rfl (fun hc3 => ?_) (fun hc3 => ?_)
      ·
        refine W.seqR ?_
        refine LS.vv rfl rfl (by decide) (Val.assign rfl) ?_
        refine LS.vv rfl rfl (by decide) (Val.cast (v := .int .i64 ((3 : Nat) : Int)) (Val.assign rfl) rfl) ?_
        refine LS.nil ?_
        refine W.ret ?_
        refine thenP_ret ?_
        refine ret2 (by first | exact .inl rfl | exact .inr rfl) rfl rfl ?_
        first | exact ⟨4, rfl, by omega, hB⟩ | exact ⟨3, rfl, by omega, hB⟩
      ·
        exfalso; omega

theorem Put_any (r : Int) (d : List Bool) (p : Option Addr) (c : Nat) (w0 : World) (hr : Rd w0 p (bv d)) :
    CallsV Try.prog 24 #[.int .i64 r, .slice p d.length c] w0 (fun v w => ∃ (p2 : Option Addr) (c2 : Nat) (L : List Bool) (e : Nat), v = .tuple #[.slice p2 L.length c2, .int .i64 (e : Int)] ∧ Own w w0.heap.size 4 p2 L.length c2 (bv L) ∧ (e = 0 ↔ 2 ≤ r ∧ r ≤ 4 ∧ d.length = 2 ^ r.toNat - 1 - r.toNat) ∧ (e = 0 → L = wordOf r.toNat d) ∧ (e ≠ 0 → L = []) ∧ Below w0.heap.size w0 w) := by
  by_cases h : 2 ≤ r ∧ r ≤ 4 ∧ d.length = 2 ^ r.toNat - 1 - r.toNat
  · obtain ⟨m, rfl⟩ := Int.eq_ofNat_of_zero_le (show 0 ≤ r by omega)
    rw [Int.toNat_natCast] at h ⊢
    refine (putG_any m d p c w0 hr (by omega) (by omega) h.2.2).mono ?_
    rintro v w ⟨p2, c2, rfl, hO, hB⟩
    have hl := wordOf_len m d
    exact ⟨p2, c2, wordOf m d, 0, by rw [hl]; rfl, by rw [hl]; exact hO, ⟨fun _ => h, fun _ => rfl⟩, fun _ => rfl, fun h => absurd rfl h, hB⟩
  · refine (putBad_any r d p c w0 h).mono ?_
    rintro v w ⟨e, rfl, he, hB⟩
    exact ⟨none, 0, [], e, rfl, Own.nil _ _ _, ⟨fun h1 => absurd h1 he, fun h1 => absurd h1 h⟩, fun h1 => absurd h1 he, fun _ => rfl, hB⟩

theorem data_any (d : List Bool) (p : Option Addr) (c : Nat) (n : Nat) (w0 : World) (hr : Rd w0 p (bv d)) (hn : d.length = n) (hl : n ≤ 200) :
    CallsV Try.prog 49 #[.slice p n c] w0 (fun v w => ∃ (p2 : Option Addr) (c2 : Nat), v = .slice p2 (cntTo n) c2 ∧ Own w w0.heap.size 4 p2 (cntTo n) c2 (bv (datTo d n)) ∧ Below w0.heap.size w0 w) := by
  refine enter1 Try.func49 rfl Try.ntmps49 (by simp) rfl ?_
  have hB := Below.refl w0.heap.size w0
  simp only [argLoc]
  refine W.seqR ?_
  refine LS.vv rfl rfl (by decide) (Val.assign rfl) ?_
  refine LS.nil ?_
  refine W.seqR ?_
  refine LS.vv rfl rfl (by decide) (Val.assign rfl) ?_
  refine LS.nil ?_
  refine W.seq ?_
  refine W.seqR ?_
  refine LS.vv rfl rfl (by decide) (Val.move rfl) ?_
  refine LS.vv rfl rfl (by decide) (Val.len Try.underlying23 rfl) ?_
  refine LS.vv rfl rfl (by decide) (Val.cast (v := .int .i64 ((0 : Nat) : Int)) (Val.move rfl) rfl) ?_
  refine LS.nil ?_
  refine W.block ?_
  refine W.loop (α := Nat × Option Addr × Nat) (fun g => [(3, .slice g.2.1 (cntTo g.1) g.2.2), (8, .int .i64 (g.1 : Int))]) [(6, _), (7, _)] (fun g w => (g.1 ≤ n ∧ Own w w0.heap.size 4 g.2.1 (cntTo g.1) g.2.2 (bv (datTo d g.1))) ∧ Below w0.heap.size w0 w) (fun g => n - g.1) ((0, none, 0)) (Sub.cons rfl (Sub.cons rfl (Sub.nil _))) (Sub.cons rfl (Sub.cons rfl (Sub.nil _))) ?_ ?_
  · exact ⟨⟨Nat.zero_le _, Own.nil _ _ _⟩, hB⟩
  rintro ⟨k, p1, c1⟩ w1 ⟨⟨hk, hO⟩, hB⟩
  simp only [List.cons_append, List.nil_append]
  simp only at hk hO
  have hcl := cntTo_le k
  refine W.seqR ?_
  refine LS.vv rfl rfl (by decide) (Val.lss rfl rfl) ?_
  refine LS.nil ?_
  refine W.seq ?_
  first | refine W.condD rfl (fun hc1 => ?_) (fun hc1 => ?_) | refine W.cond rfl (fun hc1 => ?_) (fun hc1 => ?_)
  ·
    refine W.skip ?_
    refine thenP_normal ?_
    refine W.seq ?_
    refine W.block ?_
    refine W.seqR ?_
    refine LS.vv rfl rfl (by decide) (Val.move rfl) ?_
    refine LS.vv rfl rfl (by decide) (Val.index1 Try.underlying23 elem4 rfl rfl (by omega) hr (bv_lt (by omega))) ?_
    refine LS.m rfl (Step.load rfl rfl (by decide) flat4 rfl (hr.below hB) (bv_at (by omega)) ?_)
    refine LS.vv rfl rfl (by decide) (Val.assign rfl) ?_
    refine LS.vv rfl rfl (by decide) (Val.assign rfl) ?_
    refine LS.nil ?_
    refine W.seqR ?_
    refine LS.vv rfl rfl (by decide) (Val.move rfl) ?_
    first | refine LS.vv rfl rfl (by decide) (Val.addN (j := 1) rfl rfl (by omega)) ?_ | refine LS.vv rfl rfl (by decide) (Val.add64 rfl rfl (by omega)) ?_
    refine LS.m rfl (Step.call body47 rfl rfl (by decide) rfl (CallsV.mono (power_any k _ (by omega)) ?_))
    rintro _ w2 ⟨rfl, hb2⟩
    replace hB := hB.trans (hb2.mono hB.size)
    replace hO := hO.below hb2
    refine LS.vv rfl rfl (by decide) (Val.not rfl) ?_
    refine LS.nil ?_
    first | refine W.condD rfl (fun hc2 => ?_) (fun hc2 => ?_) | refine W.cond rfl (fun hc2 => ?_) (fun hc2 => ?_)
    ·
      refine W.reg ?_
      refine LS.vv rfl rfl (by decide) (Val.move rfl) ?_
      refine LS.vv rfl rfl (by decide) (Val.move rfl) ?_
      refine LS.m rfl (Step.lit (B := w0.heap.size) rfl rfl (by decide) Try.underlying23 elem4 rfl rfl (by omega) (by simp [Value.oneCell']) hB.size ?_)
      rintro w3 hO3 hg3 hbl3 hsz3
      replace hB := hB.trans (hbl3.mono hB.size)
      replace hO := hO.below hbl3
      refine LS.m rfl (Step.append (B := w0.heap.size) rfl rfl (by decide) Try.underlying23 elem4 rfl rfl rfl rfl (hO) (hO3.rd) (rfl) ((by simp [Value.oneCell'])) (by omega) (by omega) hB.size ?_)
      rintro p4 c4 w4 hO4 hg4 hbl4
      replace hB := hB.trans hbl4
      refine LS.vv rfl rfl (by decide) (Val.assign rfl) ?_
      refine LS.nil ?_
      refine inBlk_normal ?_
      refine thenP_normal ?_
      refine W.reg ?_
      first | refine LS.vv rfl rfl (by decide) (Val.addN (j := 1) rfl rfl (by omega)) ?_ | refine LS.vv rfl rfl (by decide) (Val.add64 rfl rfl (by omega)) ?_
      refine LS.vv rfl rfl (by decide) (Val.move rfl) ?_
      refine LS.nil ?_
      refine thenP_normal ?_
      first
        | (have hpk : pw k = false := by simpa using ‹(!pw k) = true›
           refine ⟨(k + 1, p4, c4), ?_, ?_, ⟨⟨by simp only; omega, ?_⟩, hB⟩, by simp only; omega⟩
           · exact Sub.cons' rfl (by simp only [cntTo_succ, hpk, Bool.false_eq_true, if_false]) (Sub.cons rfl (Sub.nil _))
           · repeat (first | exact Sub.nil _ | refine Sub.cons rfl ?_)
           · simp only [cntTo_succ, datTo_succ, hpk, Bool.false_eq_true, if_false, bv, List.map_append]; exact hO4)
        | (have hpk : pw k = true := by simpa using ‹(!pw k) = false›
           refine ⟨(k + 1, p1, c1), ?_, ?_, ⟨⟨by simp only; omega, ?_⟩, hB⟩, by simp only; omega⟩
           · exact Sub.cons' rfl (by simp only [cntTo_succ, hpk, if_true]) (Sub.cons rfl (Sub.nil _))
           · repeat (first | exact Sub.nil _ | refine Sub.cons rfl ?_)
           · simp only [cntTo_succ, datTo_succ, hpk, if_true]; exact hO)
    ·
      refine W.skip ?_
      refine inBlk_normal ?_
      refine thenP_normal ?_
      refine W.reg ?_
      first | refine LS.vv rfl rfl (by decide) (Val.addN (j := 1) rfl rfl (by omega)) ?_ | refine LS.vv rfl rfl (by decide) (Val.add64 rfl rfl (by omega)) ?_
      refine LS.vv rfl rfl (by decide) (Val.move rfl) ?_
      refine LS.nil ?_
      refine thenP_normal ?_
      first
        | (have hpk : pw k = false := by simpa using ‹(!pw k) = true›
           refine ⟨(k + 1, p4, c4), ?_, ?_, ⟨⟨by simp only; omega, ?_⟩, hB⟩, by simp only; omega⟩
           · exact Sub.cons' rfl (by simp only [cntTo_succ, hpk, Bool.false_eq_true, if_false]) (Sub.cons rfl (Sub.nil _))
           · repeat (first | exact Sub.nil _ | refine Sub.cons rfl ?_)
           · simp only [cntTo_succ, datTo_succ, hpk, Bool.false_eq_true, if_false, bv, List.map_append]; exact hO4)
        | (have hpk : pw k = true := by simpa using ‹(!pw k) = false›
           refine ⟨(k + 1, p1, c1), ?_, ?_, ⟨⟨by simp only; omega, ?_⟩, hB⟩, by simp only; omega⟩
           · exact Sub.cons' rfl (by simp only [cntTo_succ, hpk, if_true]) (Sub.cons rfl (Sub.nil _))
           · repeat (first | exact Sub.nil _ | refine Sub.cons rfl ?_)
           · simp only [cntTo_succ, datTo_succ, hpk, if_true]; exact hO)
  ·
    refine W.exit ?_
    refine thenP_exit ?_
    refine thenP_exit ?_
    refine inBlk_exit ?_
    refine thenP_normal ?_
    refine W.seqR ?_
    refine LS.vv rfl rfl (by decide) (Val.move rfl) ?_
    refine LS.vv rfl rfl (by decide) (Val.assign rfl) ?_
    refine LS.nil ?_
    refine W.ret ?_
    refine ret1 (by first | exact .inl rfl | exact .inr rfl) rfl ?_
    have hkn : k = n := by omega
    rw [hkn] at hO ⊢
    exact ⟨_, _, rfl, hO, hB⟩

theorem mended_zero {l : List Bool} (h : pt l = 0) : mended l = l := if_pos h
theorem mended_flip {l : List Bool} (h : pt l ≠ 0) : mended l = flipAt l (pt l - 1) := if_neg h

theorem fixG_any (m : Nat) (d : List Bool) (p : Option Addr) (c : Nat) (w0 : World) (hr : Rd w0 p (bv d)) (h2 : 2 ≤ m) (h4 : m ≤ 4) (hd : d.length = 2 ^ m - 1) :
    CallsV Try.prog 25 #[.int .i64 (m : Int), .slice p d.length c] w0 (fun v w => ∃ (p2 : Option Addr) (c2 : Nat), v = .tuple #[.slice p2 (2 ^ m - 1 - m) c2, .int .i64 (pt d : Int), .int .i64 0] ∧ Own w w0.heap.size 4 p2 (2 ^ m - 1 - m) c2 (bv (datTo (mended d) (2 ^ m - 1))) ∧ Below w0.heap.size w0 w) := by
  refine enter3 Try.func25 rfl Try.ntmps25 (by simp) rfl ?_
  have hB := Below.refl w0.heap.size w0
  simp only [argLoc, Nat.zero_add]
  have hp2 : 2 ^ 2 ≤ 2 ^ m := Nat.pow_le_pow_right (by omega) h2
  have hp4 : 2 ^ m ≤ 2 ^ 4 := Nat.pow_le_pow_right (by omega) h4
  have hsh : (1 : Nat) <<< m = 2 ^ m := by rw [Nat.shiftLeft_eq, Nat.one_mul]
  have hmn : m + 1 ≤ 2 ^ m := Nat.lt_two_pow_self
  have hcn := (pw_iff h2 h4 (show 0 < 2 ^ m - 1 by omega)).2
  have hpt : pt d < 2 ^ m := ptTo_lt (by omega)
  generalize hN : 2 ^ m - 1 = n at *
  have hml := mended_len d
  rw [hd] at hml
  refine W.seqR ?_
  refine LS.vv rfl rfl (by decide) (Val.assign rfl) ?_
  refine LS.vv rfl rfl (by decide) (Val.cast (v := .int .i64 ((0 : Nat) : Int)) (Val.assign rfl) rfl) ?_
  refine LS.vv rfl rfl (by decide) (Val.cast (v := .int .i64 ((0 : Nat) : Int)) (Val.assign rfl) rfl) ?_
  refine LS.nil ?_
  refine W.seq ?_
  refine W.seqR ?_
  refine LS.vv rfl rfl (by decide) (Val.move rfl) ?_
  refine LS.vv rfl rfl (by decide) (Val.lss rfl rfl) ?_
  refine LS.vv rfl rfl (by decide) (Val.move rfl) ?_
  refine LS.split 2 rfl (fun hg1 => ?_) (fun hg1 => ?_)
  ·
    first | (have hg1p := of_decide_eq_true hg1) | skip
    refine LS.s rfl rfl rfl hg1 (by decide) ?_
    refine LS.s rfl rfl rfl hg1 (by decide) ?_
    refine LS.vv rfl rfl (by decide) (Val.pickT rfl hg1 rfl) ?_
    refine LS.nil ?_
    refine W.condT rfl ?_
    refine W.seqR ?_
    refine LS.vv rfl rfl (by decide) (Val.assign rfl) ?_
    refine LS.vv rfl rfl (by decide) (Val.cast (v := .int .i64 ((0 : Nat) : Int)) (Val.assign rfl) rfl) ?_
    refine LS.vv rfl rfl (by decide) (Val.cast (v := .int .i64 ((4 : Nat) : Int)) (Val.assign rfl) rfl) ?_
    refine LS.nil ?_
    refine W.ret ?_
    refine thenP_ret ?_
    refine ret3 (by first | exact .inl rfl | exact .inr rfl) rfl rfl rfl ?_
    first | (exfalso; omega) | (refine ⟨p6, c6, by rw [hd, hcn]; rfl, ?_, hB⟩; rw [hd, hcn] at hOd; exact hOd.base hbs2)
  ·
    first | (have hg1p := of_decide_eq_false hg1) | skip
    refine LS.vg rfl rfl rfl hg1 (by decide) (Val.move rfl) ?_
    refine LS.vg rfl rfl rfl hg1 (by decide) (Val.gtr rfl rfl) ?_
    refine LS.vv rfl rfl (by decide) (Val.pickF rfl hg1 rfl) ?_
    refine LS.nil ?_
    first | refine W.condD rfl (fun hc2 => ?_) (fun hc2 => ?_) | refine W.cond rfl (fun hc2 => ?_) (fun hc2 => ?_)
    ·
      exfalso; omega
    ·
      refine W.skip ?_
      refine thenP_normal ?_
      refine W.seq ?_
      refine W.seqR ?_
      refine LS.vv rfl rfl (by decide) (Val.move rfl) ?_
      refine LS.vv rfl rfl (by decide) (Val.len Try.underlying23 rfl) ?_
      refine LS.vv rfl rfl (by decide) (Val.move rfl) ?_
      refine LS.vv rfl rfl (by decide) (Val.shl64 (i := 1) rfl rfl (by omega) (by omega)) ?_
      refine LS.vv rfl rfl (by decide) (Val.cast (v := .int .i64 (n : Int)) (Val.subN (j := 1) rfl rfl (by omega) (by omega)) (by rw [hsh, hN])) ?_
      refine LS.vv rfl rfl (by decide) (Val.neq rfl rfl) ?_
      refine LS.nil ?_
      first | refine W.condD rfl (fun hc3 => ?_) (fun hc3 => ?_) | refine W.cond rfl (fun hc3 => ?_) (fun hc3 => ?_)
      ·
        exfalso; omega
      ·
        refine W.skip ?_
        refine thenP_normal ?_
        refine W.seqR ?_
        refine LS.vv rfl rfl (by decide) (Val.move rfl) ?_
        refine LS.m rfl (Step.call body48 rfl rfl (by decide) rfl (CallsV.mono (pointer_any d _ _ _ _ (hr.below hB) rfl (by omega)) ?_))
        rintro _ w1 ⟨rfl, hb1⟩
        replace hB := hB.trans (hb1.mono hB.size)
        refine LS.vv rfl rfl (by decide) (Val.assign rfl) ?_
        refine LS.nil ?_
        refine W.seqR ?_
        refine LS.vv rfl rfl (by decide) (Val.move rfl) ?_
        have hbs := hB.size
        refine LS.m rfl (Step.call body46 rfl rfl (by decide) rfl (CallsV.mono (clone_bool d _ _ _ (hr.below hB) (by omega)) ?_))
        rintro _ w2 ⟨p5, c5, rfl, hO, hb2⟩
        replace hB := hB.trans (hb2.mono hB.size)
        replace hO := hO.base hbs
        refine LS.vv rfl rfl (by decide) (Val.assign rfl) ?_
        refine LS.nil ?_
        refine W.seq ?_
        refine W.seqR ?_
        refine LS.vv rfl rfl (by decide) (Val.move rfl) ?_
        refine LS.vv rfl rfl (by decide) (Val.gtr rfl rfl) ?_
        refine LS.nil ?_
        first | refine W.condD rfl (fun hc4 => ?_) (fun hc4 => ?_) | refine W.cond rfl (fun hc4 => ?_) (fun hc4 => ?_)
        ·
          refine W.reg ?_
          refine LS.vv rfl rfl (by decide) (Val.move rfl) ?_
          refine LS.vv rfl rfl (by decide) (Val.move rfl) ?_
          first | refine LS.vv rfl rfl (by decide) (Val.subN (j := 1) rfl rfl (by omega) (by omega)) ?_ | refine LS.vv rfl rfl (by decide) (Val.sub64 rfl rfl (by omega)) ?_
          refine LS.vv rfl rfl (by decide) (Val.move rfl) ?_
          refine LS.vv rfl rfl (by decide) (Val.move rfl) ?_
          first | refine LS.vv rfl rfl (by decide) (Val.subN (j := 1) rfl rfl (by omega) (by omega)) ?_ | refine LS.vv rfl rfl (by decide) (Val.sub64 rfl rfl (by omega)) ?_
          refine LS.vv rfl rfl (by decide) (Val.index1 Try.underlying23 elem4 rfl rfl (by omega) hO.rd (bv_lt (by omega))) ?_
          refine LS.m rfl (Step.load rfl rfl (by decide) flat4 rfl hO.rd (bv_at (by omega)) ?_)
          refine LS.vv rfl rfl (by decide) (Val.not rfl) ?_
          refine LS.vv rfl rfl (by decide) (Val.index1 Try.underlying23 elem4 rfl rfl (by omega) hO.rd (bv_lt (by omega))) ?_
          refine LS.m rfl (Step.store (B := w0.heap.size) rfl rfl flat4 elem4 rfl rfl rfl (hO) (by omega) hB.size ?_)
          rintro w3 hO3 hg3 hbl3 hsz3
          have hO2 := hO3
          rw [show (bv d).set (pt d - 1) (Value.bool (!gb d (pt d - 1))) = bv (flipAt d (pt d - 1)) from by (rw [flipAt, bv, bv, List.map_set]), ← mended_flip (show pt d ≠ 0 by omega)] at hO2
          replace hB := hB.trans hbl3
          refine LS.nil ?_
          refine thenP_normal ?_
          refine W.seqR ?_
          refine LS.vv rfl rfl (by decide) (Val.move rfl) ?_
          first | have hOm := hO2 | (have hOm := hO; rw [show bv d = bv (mended d) by rw [mended_zero (show pt d = 0 by omega)]] at hOm)
          have hbs2 := hB.size
          refine LS.m rfl (Step.call body49 rfl rfl (by decide) rfl (CallsV.mono (data_any (mended d) _ _ _ _ hOm.rd (by omega) (by omega)) ?_))
          rintro _ w4 ⟨p6, c6, rfl, hOd, hb4⟩
          replace hB := hB.trans (hb4.mono hB.size)
          refine LS.vv rfl rfl (by decide) (Val.move rfl) ?_
          refine LS.vv rfl rfl (by decide) (Val.assign rfl) ?_
          refine LS.vv rfl rfl (by decide) (Val.assign rfl) ?_
          refine LS.vv rfl rfl (by decide) (Val.cast (v := .int .i64 ((0 : Nat) : Int)) (Val.assign rfl) rfl) ?_
          refine LS.nil ?_
          refine W.ret ?_
          refine ret3 (by first | exact .inl rfl | exact .inr rfl) rfl rfl rfl ?_
          first | (exfalso; omega) | (refine ⟨p6, c6, by rw [hd, hcn]; rfl, ?_, hB⟩; rw [hd, hcn] at hOd; exact hOd.base hbs2)
        ·
          refine W.skip ?_
          refine thenP_normal ?_
          refine W.seqR ?_
          refine LS.vv rfl rfl (by decide) (Val.move rfl) ?_
          first | have hOm := hO2 | (have hOm := hO; rw [show bv d = bv (mended d) by rw [mended_zero (show pt d = 0 by omega)]] at hOm)
          have hbs2 := hB.size
          refine LS.m rfl (Step.call body49 rfl rfl (by decide) rfl (CallsV.mono (data_any (mended d) _ _ _ _ hOm.rd (by omega) (by omega)) ?_))
          rintro _ w5 ⟨p6, c6, rfl, hOd, hb5⟩
          replace hB := hB.trans (hb5.mono hB.size)
          refine LS.vv rfl rfl (by decide) (Val.move rfl) ?_
          refine LS.vv rfl rfl (by decide) (Val.assign rfl) ?_
          refine LS.vv rfl rfl (by decide) (Val.assign rfl) ?_
          refine LS.vv rfl rfl (by decide) (Val.cast (v := .int .i64 ((0 : Nat) : Int)) (Val.assign rfl) rfl) ?_
          refine LS.nil ?_
          refine W.ret ?_
          refine ret3 (by first | exact .inl rfl | exact .inr rfl) rfl rfl rfl ?_
          first | (exfalso; omega) | (refine ⟨p6, c6, by rw [hd, hcn]; rfl, ?_, hB⟩; rw [hd, hcn] at hOd; exact hOd.base hbs2)

theorem fixBad_any (r : Int) (d : List Bool) (p : Option Addr) (c : Nat) (w0 : World) (hbad : ¬ (2 ≤ r ∧ r ≤ 4 ∧ d.length = 2 ^ r.toNat - 1)) :
    CallsV Try.prog 25 #[.int .i64 r, .slice p d.length c] w0 (fun v w => ∃ e : Nat, v = .tuple #[.slice none 0 0, .int .i64 0, .int .i64 (e : Int)] ∧ e ≠ 0 ∧ Below w0.heap.size w0 w) := by
  refine enter3 Try.func25 rfl Try.ntmps25 (by simp) rfl ?_
  have hB := Below.refl w0.heap.size w0
  simp only [argLoc, Nat.zero_add]
  refine W.seqR ?_
  refine LS.vv rfl rfl (by decide) (Val.assign rfl) ?_
  refine LS.vv rfl rfl (by decide) (Val.cast (v := .int .i64 ((0 : Nat) : Int)) (Val.assign rfl) rfl) ?_
  refine LS.vv rfl rfl (by decide) (Val.cast (v := .int .i64 ((0 : Nat) : Int)) (Val.assign rfl) rfl) ?_
  refine LS.nil ?_
  refine W.seq ?_
  refine W.seqR ?_
  refine LS.vv rfl rfl (by decide) (Val.move rfl) ?_
  refine LS.vv rfl rfl (by decide) (Val.lss rfl rfl) ?_
  refine LS.vv rfl rfl (by decide) (Val.move rfl) ?_
  refine LS.split 2 rfl (fun hg1 => ?_) (fun hg1 => ?_)
  ·
    first | (have hg1p := of_decide_eq_true hg1) | skip
    refine LS.s rfl rfl rfl hg1 (by decide) ?_
    refine LS.s rfl rfl rfl hg1 (by decide) ?_
    refine LS.vv rfl rfl (by decide) (Val.pickT rfl hg1 rfl) ?_
    refine LS.nil ?_
    refine W.condT rfl ?_
    refine W.seqR ?_
    refine LS.vv rfl rfl (by decide) (Val.assign rfl) ?_
    refine LS.vv rfl rfl (by decide) (Val.cast (v := .int .i64 ((0 : Nat) : Int)) (Val.assign rfl) rfl) ?_
    refine LS.vv rfl rfl (by decide) (Val.cast (v := .int .i64 ((4 : Nat) : Int)) (Val.assign rfl) rfl) ?_
    refine LS.nil ?_
    refine W.ret ?_
    refine thenP_ret ?_
    refine ret3 (by first | exact .inl rfl | exact .inr rfl) rfl rfl rfl ?_
    first | exact ⟨4, rfl, by omega, hB⟩ | exact ⟨3, rfl, by omega, hB⟩
  ·
    first | (have hg1p := of_decide_eq_false hg1) | skip
    refine LS.vg rfl rfl rfl hg1 (by decide) (Val.move rfl) ?_
    refine LS.vg rfl rfl rfl hg1 (by decide) (Val.gtr rfl rfl) ?_
    refine LS.vv rfl rfl (by decide) (Val.pickF rfl hg1 rfl) ?_
    refine LS.nil ?_
    first | refine W.condD rfl (fun hc2 => ?_) (fun hc2 => ?_) | refine W.cond rfl (fun hc2 => ?_) (fun hc2 => ?_)
    ·
      refine W.seqR ?_
      refine LS.vv rfl rfl (by decide) (Val.assign rfl) ?_
      refine LS.vv rfl rfl (by decide) (Val.cast (v := .int .i64 ((0 : Nat) : Int)) (Val.assign rfl) rfl) ?_
      refine LS.vv rfl rfl (by decide) (Val.cast (v := .int .i64 ((4 : Nat) : Int)) (Val.assign rfl) rfl) ?_
      refine LS.nil ?_
      refine W.ret ?_
      refine thenP_ret ?_
      refine ret3 (by first | exact .inl rfl | exact .inr rfl) rfl rfl rfl ?_
      first | exact ⟨4, rfl, by omega, hB⟩ | exact ⟨3, rfl, by omega, hB⟩
    ·
      obtain ⟨m, rfl⟩ := Int.eq_ofNat_of_zero_le (show 0 ≤ r by omega)
      rw [Int.toNat_natCast] at hbad
      have hp2 : 2 ^ 2 ≤ 2 ^ m := Nat.pow_le_pow_right (by omega) (by omega)
      have hp4 : 2 ^ m ≤ 2 ^ 4 := Nat.pow_le_pow_right (by omega) (by omega)
      have hsh : (1 : Nat) <<< m = 2 ^ m := by rw [Nat.shiftLeft_eq, Nat.one_mul]
      have hmn : m + 1 ≤ 2 ^ m := Nat.lt_two_pow_self
      generalize hN : 2 ^ m - 1 = n at *
      refine W.skip ?_
      refine thenP_normal ?_
      refine W.seq ?_
      refine W.seqR ?_
      refine LS.vv rfl rfl (by decide) (Val.move rfl) ?_
      refine LS.vv rfl rfl (by decide) (Val.len Try.underlying23 rfl) ?_
      refine LS.vv rfl rfl (by decide) (Val.move rfl) ?_
      refine LS.vv rfl rfl (by decide) (Val.shl64 (i := 1) rfl rfl (by omega) (by omega)) ?_
      refine LS.vv rfl rfl (by decide) (Val.cast (v := .int .i64 (n : Int)) (Val.subN (j := 1) rfl rfl (by omega) (by omega)) (by rw [hsh, hN])) ?_
      refine LS.vv rfl rfl (by decide) (Val.neq rfl rfl) ?_
      refine LS.nil ?_
      first | refine W.condD rfl (fun hc3 => ?_) (fun hc3 => ?_) | refine W.cond rfl (fun hc3 => ?_) (fun hc3 => ?_)
      ·
        refine W.seqR ?_
        refine LS.vv rfl rfl (by decide) (Val.assign rfl) ?_
        refine LS.vv rfl rfl (by decide) (Val.cast (v := .int .i64 ((0 : Nat) : Int)) (Val.assign rfl) rfl) ?_
        refine LS.vv rfl rfl (by decide) (Val.cast (v := .int .i64 ((3 : Nat) : Int)) (Val.assign rfl) rfl) ?_
        refine LS.nil ?_
        refine W.ret ?_
        refine thenP_ret ?_
        refine ret3 (by first | exact .inl rfl | exact .inr rfl) rfl rfl rfl ?_
        first | exact ⟨4, rfl, by omega, hB⟩ | exact ⟨3, rfl, by omega, hB⟩
      ·
        exfalso; omega

theorem Fix_any (r : Int) (d : List Bool) (p : Option Addr) (c : Nat) (w0 : World) (hr : Rd w0 p (bv d)) :
    CallsV Try.prog 25 #[.int .i64 r, .slice p d.length c] w0 (fun v w => ∃ (p2 : Option Addr) (c2 : Nat) (L : List Bool) (P e : Nat), v = .tuple #[.slice p2 L.length c2, .int .i64 (P : Int), .int .i64 (e : Int)] ∧ Own w w0.heap.size 4 p2 L.length c2 (bv L) ∧ (e = 0 ↔ 2 ≤ r ∧ r ≤ 4 ∧ d.length = 2 ^ r.toNat - 1) ∧ (e = 0 → L = datTo (mended d) (2 ^ r.toNat - 1) ∧ P = pt d) ∧ (e ≠ 0 → L = []) ∧ Below w0.heap.size w0 w) := by
  by_cases h : 2 ≤ r ∧ r ≤ 4 ∧ d.length = 2 ^ r.toNat - 1
  · obtain ⟨m, rfl⟩ := Int.eq_ofNat_of_zero_le (show 0 ≤ r by omega)
    rw [Int.toNat_natCast] at h ⊢
    refine (fixG_any m d p c w0 hr (by omega) (by omega) h.2.2).mono ?_
    rintro v w ⟨p2, c2, rfl, hO, hB⟩
    have hp2 : 2 ^ 2 ≤ 2 ^ m := Nat.pow_le_pow_right (by omega) (by omega)
    have hl : (datTo (mended d) (2 ^ m - 1)).length = 2 ^ m - 1 - m := by rw [datTo_len]; exact (pw_iff (by omega) (by omega) (show 0 < 2 ^ m - 1 by omega)).2
    exact ⟨p2, c2, _, pt d, 0, by rw [hl]; rfl, by rw [hl]; exact hO, ⟨fun _ => h, fun _ => rfl⟩, fun _ => ⟨rfl, rfl⟩, fun h => absurd rfl h, hB⟩
  · refine (fixBad_any r d p c w0 h).mono ?_
    rintro v w ⟨e, rfl, he, hB⟩
    exact ⟨none, 0, [], 0, e, rfl, Own.nil _ _ _, ⟨fun h1 => absurd h1 he, fun h1 => absurd h1 h⟩, fun h1 => absurd h1 he, fun _ => rfl, hB⟩
def flips (l : List Bool) (ps : List Nat) : Nat → List Bool := iter (fun i l => flipAt l (gn ps i)) l
theorem flips_succ (l : List Bool) (ps : List Nat) (k : Nat) : flips l ps (k + 1) = flipAt (flips l ps k) (gn ps k) := rfl
theorem flips_len (l : List Bool) (ps : List Nat) : ∀ k, (flips l ps k).length = l.length
  | 0 => rfl
  | k + 1 => by rw [flips_succ, flipAt_len, flips_len l ps k]

theorem turned_any (d : List Bool) (p : Option Addr) (c : Nat) (n : Nat) (ps : List Nat) (q : Option Addr) (c3 : Nat) (w0 : World) (hr : Rd w0 p (bv d)) (hn : d.length = n) (hl : n ≤ 1000) (hq : Rd w0 q (nv ps)) (hps : ps.length ≤ 1000) (hlt : ∀ j, j < ps.length → gn ps j < n) :
    CallsV Try.prog 26 #[.slice p n c, .slice q ps.length c3] w0 (fun v w => ∃ (p2 : Option Addr) (c2 : Nat), v = .slice p2 n c2 ∧ Own w w0.heap.size 4 p2 n c2 (bv (flips d ps ps.length)) ∧ Below w0.heap.size w0 w) := by
  refine enter1 Try.func26 rfl Try.ntmps26 (by simp) rfl ?_
  have hB := Below.refl w0.heap.size w0
  simp only [argLoc, Nat.zero_add]
  refine W.seqR ?_
  refine LS.vv rfl rfl (by decide) (Val.assign rfl) ?_
  refine LS.nil ?_
  refine W.seqR ?_
  refine LS.m rfl (Step.lit (B := w0.heap.size) rfl rfl (by decide) Try.underlying23 elem4 rfl rfl (by omega) (by simp [Value.oneCell']) hB.size ?_)
  rintro w1 hO1 hg1 hbl1 hsz1
  replace hB := hB.trans (hbl1.mono hB.size)
  refine LS.vv rfl rfl (by decide) (Val.move rfl) ?_
  refine LS.m rfl (Step.append (B := w0.heap.size) rfl rfl (by decide) Try.underlying23 elem4 rfl rfl rfl rfl (hO1) (hr.below hB) (by simp [hn]) (one_map _ (fun _ => rfl) _) (by omega) (by omega) hB.size ?_)
  rintro p2 c2 w2 hO2 hg2 hbl2
  replace hB := hB.trans hbl2
  have hO := hO2
  have hzz : (0 : Nat) + n = n := Nat.zero_add _
  rw [hzz] at hO ⊢
  simp only [List.nil_append] at hO
  generalize p2 = px at *
  generalize c2 = cx at *
  refine LS.vv rfl rfl (by decide) (Val.assign rfl) ?_
  refine LS.nil ?_
  refine W.seq ?_
  refine W.seqR ?_
  refine LS.vv rfl rfl (by decide) (Val.move rfl) ?_
  refine LS.vv rfl rfl (by decide) (Val.len Try.underlying69 rfl) ?_
  refine LS.vv rfl rfl (by decide) (Val.cast (v := .int .i64 ((0 : Nat) : Int)) (Val.move rfl) rfl) ?_
  refine LS.nil ?_
  refine W.block ?_
  refine W.loop (α := Nat) (fun k => [(13, .int .i64 (k : Int))]) [(5, _), (11, _), (12, _)] (fun k w => (k ≤ ps.length ∧ Own w w0.heap.size 4 px n cx (bv (flips d ps k))) ∧ Below w0.heap.size w0 w) (fun k => ps.length - k) (0) (Sub.cons rfl (Sub.nil _)) (Sub.cons rfl (Sub.cons rfl (Sub.cons rfl (Sub.nil _)))) ?_ ?_
  · exact ⟨⟨Nat.zero_le _, hO⟩, hB⟩
  rintro k w3 ⟨⟨hk, hO⟩, hB⟩
  simp only [List.cons_append, List.nil_append]
  refine W.seqR ?_
  refine LS.vv rfl rfl (by decide) (Val.lss rfl rfl) ?_
  refine LS.nil ?_
  refine W.seq ?_
  first | refine W.condD rfl (fun hc1 => ?_) (fun hc1 => ?_) | refine W.cond rfl (fun hc1 => ?_) (fun hc1 => ?_)
  ·
    refine W.skip ?_
    refine thenP_normal ?_
    refine W.seq ?_
    refine W.block ?_
    refine W.seqR ?_
    refine LS.vv rfl rfl (by decide) (Val.index1 Try.underlying69 elem3 rfl rfl (by omega) hq (nv_lt (by omega))) ?_
    refine LS.m rfl (Step.load rfl rfl (by decide) flat3 rfl (hq.below hB) (nv_at (by omega)) ?_)
    refine LS.vv rfl rfl (by decide) (Val.assign rfl) ?_
    refine LS.nil ?_
    refine W.reg ?_
    refine LS.vv rfl rfl (by decide) (Val.move rfl) ?_
    refine LS.vv rfl rfl (by decide) (Val.move rfl) ?_
    refine LS.vv rfl rfl (by decide) (Val.move rfl) ?_
    refine LS.vv rfl rfl (by decide) (Val.move rfl) ?_
    have hltk := hlt k (by omega)
    have hfl := flips_len d ps k
    rw [hn] at hfl
    refine LS.vv rfl rfl (by decide) (Val.index1 Try.underlying23 elem4 rfl rfl (by omega) hO.rd (bv_lt (by omega))) ?_
    refine LS.m rfl (Step.load rfl rfl (by decide) flat4 rfl hO.rd (bv_at (by omega)) ?_)
    refine LS.vv rfl rfl (by decide) (Val.not rfl) ?_
    refine LS.vv rfl rfl (by decide) (Val.index1 Try.underlying23 elem4 rfl rfl (by omega) hO.rd (bv_lt (by omega))) ?_
    refine LS.m rfl (Step.store (B := w0.heap.size) rfl rfl flat4 elem4 rfl rfl rfl (hO) (by omega) hB.size ?_)
    rintro w4 hO4 hg4 hbl4 hsz4
    have hO2 := hO4
    replace hB := hB.trans hbl4
    refine LS.nil ?_
    refine inBlk_normal ?_
    refine thenP_normal ?_
    refine W.reg ?_
    first | refine LS.vv rfl rfl (by decide) (Val.addN (j := 1) rfl rfl (by omega)) ?_ | refine LS.vv rfl rfl (by decide) (Val.add64 rfl rfl (by omega)) ?_
    refine LS.vv rfl rfl (by decide) (Val.move rfl) ?_
    refine LS.nil ?_
    refine thenP_normal ?_
    refine ⟨k + 1, ?_, ?_, ⟨⟨by omega, ?_⟩, hB⟩, by omega⟩
    · exact Sub.cons rfl (Sub.nil _)
    · repeat (first | exact Sub.nil _ | refine Sub.cons rfl ?_)
    · rw [flips_succ, flipAt, bv, List.map_set]; exact hO2
  ·
    refine W.exit ?_
    refine thenP_exit ?_
    refine thenP_exit ?_
    refine inBlk_exit ?_
    refine thenP_normal ?_
    refine W.seqR ?_
    refine LS.vv rfl rfl (by decide) (Val.move rfl) ?_
    refine LS.vv rfl rfl (by decide) (Val.assign rfl) ?_
    refine LS.nil ?_
    refine W.ret ?_
    refine ret1 (by first | exact .inl rfl | exact .inr rfl) rfl ?_
    have hkn : k = ps.length := by omega
    rw [hkn] at hO
    exact ⟨_, _, rfl, hO, hB⟩

end Go.Proofs.Ytbbmgcmibgdkiaa
