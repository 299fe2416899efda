/-
  The walks of muller.add, muller.Put.
-/
import Derived.Test.YtjmpkmomlpgbdaaMuller
namespace Go.Proofs.Ytjmpkmomlpgbdaa
open Go Go.RowKit V
set_option linter.unusedVariables false
set_option linter.unusedSimpArgs false

def addK (L : List Bool) (p k : Nat) : List Bool := (List.range L.length).map fun x => if x < k then xor (gb L x) (inP p x) else gb L x
theorem addK_len (L : List Bool) (p k : Nat) : (addK L p k).length = L.length := by simp [addK]
theorem addK_gb {L : List Bool} {p k x : Nat} (hx : x < L.length) : gb (addK L p k) x = if x < k then xor (gb L x) (inP p x) else gb L x := by simp [addK, gb, hx]
theorem addK_zero (L : List Bool) (p : Nat) : addK L p 0 = L := by
  refine List.ext_getElem (by simp [addK]) fun i h1 h2 => ?_
  simp [addK, gb, h2]
theorem addK_set {L : List Bool} {p k : Nat} (h : inP p k = true) : (addK L p k).set k (!gb (addK L p k) k) = addK L p (k + 1) := by
  refine List.ext_getElem (by simp [addK]) fun i h1 h2 => ?_
  have hi : i < L.length := by simpa [addK] using h2
  rw [List.getElem_set]
  by_cases e : k = i
  · subst e
    rw [if_pos rfl, addK_gb hi, if_neg (by omega)]
    simp [addK, h]
  · rw [if_neg e]
    simp only [addK, List.getElem_map, List.getElem_range]
    by_cases h2 : i < k
    · rw [if_pos h2, if_pos (by omega)]
    · rw [if_neg h2, if_neg (by omega)]
theorem addK_same {L : List Bool} {p k : Nat} (h : inP p k = false) : addK L p k = addK L p (k + 1) := by
  refine List.ext_getElem (by simp [addK]) fun i h1 h2 => ?_
  simp only [addK, List.getElem_map, List.getElem_range]
  by_cases e : i = k
  · subst e; rw [if_neg (by omega), if_pos (by omega), h, Bool.xor_false]
  · by_cases h2 : i < k
    · rw [if_pos h2, if_pos (by omega)]
    · rw [if_neg h2, if_neg (by omega)]
def cw (n : Nat) (f : Nat → Bool) : List Bool := (List.range n).map f
theorem cw_len (n : Nat) (f : Nat → Bool) : (cw n f).length = n := by simp [cw]
theorem cw_gb {n : Nat} {f : Nat → Bool} {x : Nat} (h : x < n) : gb (cw n f) x = f x := by simp [cw, gb, h]
theorem addK_cw (n : Nat) (f : Nat → Bool) (p : Nat) : addK (cw n f) p n = cw n fun x => xor (f x) (inP p x) := by
  refine List.ext_getElem (by simp [addK, cw]) fun i h1 h2 => ?_
  have hi : i < n := by simpa [cw] using h2
  simp only [addK, List.getElem_map, List.getElem_range]
  rw [if_pos hi, cw_gb hi]; simp [cw]
theorem cw_rep (n : Nat) : List.replicate n false = cw n fun _ => false := by
  refine List.ext_getElem (by simp [cw]) fun i h1 h2 => by simp [cw]
theorem cw_congr {n : Nat} {f g : Nat → Bool} (h : ∀ x, x < n → f x = g x) : cw n f = cw n g := List.map_congr_left fun x hx => h x (List.mem_range.1 hx)
def mword (r m : Nat) (D : List Bool) : List Bool := cw (2 ^ m) fun x => mk (prods r m) (gb D) x (prods r m).length
theorem inP_dec (p x : Nat) : decide (((x &&& p : Nat) : Int) = (p : Int)) = inP p x := by
  unfold inP
  rw [Bool.eq_iff_iff]; simp; omega

theorem add_any (L : List Bool) (q : Nat) (p : Option Addr) (n c B : Nat) (S : List Ob) (w0 : World) (hM0 : Mem w0 B (⟨4, p, n, c, bv L⟩ :: S)) (hB0 : B ≤ w0.heap.size) (hn : L.length = n) (hn16 : n ≤ 16) (hq : q < 16) :
    CallsV Try.prog 27 #[.slice p n c, .int .i64 (q : Int)] w0 (fun v w => v = .tuple #[] ∧ Mem w B (⟨4, p, n, c, bv (addK L q n)⟩ :: S) ∧ Below B w0 w) := by
  refine enter0 Try.func27 rfl Try.ntmps27 (by simp) rfl ?_
  have hB := Below.refl B w0
  simp only [argLoc, Nat.zero_add]
  have hM := hM0
  subst hn
  refine W.seqR ?_
  refine LS.vv rfl rfl (by decide) (Val.move rfl) ?_
  refine LS.vv rfl rfl (by decide) (Val.len Try.underlying22 rfl) ?_
  refine LS.vv rfl rfl (by decide) (Val.cast (v := .int .i64 ((0 : Nat) : Int)) (Val.move rfl) rfl) ?_
  refine LS.nil ?_
  refine W.block ?_
  rw [show bv L = bv (addK L q 0) from by rw [addK_zero]] at hM
  refine W.loop (α := Nat) (fun k => [(7, .int .i64 (k : Int))]) [(0, _), (1, _), (6, _)] (fun k w => (k ≤ L.length) ∧ Mem w B (⟨4, p, L.length, c, bv (addK L q k)⟩ :: S) ∧ Below B w0 w) (fun k => L.length - k) (0) (Sub.cons rfl (Sub.nil _)) (Sub.cons rfl (Sub.cons rfl (Sub.cons rfl (Sub.nil _)))) ?_ ?_
  · exact ⟨Nat.zero_le _, hM, hB⟩
  rintro k w1 ⟨hk, hM, hB⟩
  try simp only at hM
  simp only [List.cons_append, List.nil_append]
  have hal := addK_len L q k
  refine W.seqR ?_
  refine LS.vv rfl rfl (by decide) (Val.lss rfl rfl) ?_
  refine LS.nil ?_
  refine W.seq ?_
  first | refine W.condD rfl (fun hc1 => ?_) (fun hc1 => ?_) | refine W.cond rfl (fun hc1 => ?_) (fun hc1 => ?_)
  ·
    refine W.skip ?_
    refine thenP_normal ?_
    refine W.seq ?_
    refine W.block ?_
    refine W.seqR ?_
    refine LS.vv rfl rfl (by decide) (Val.move rfl) ?_
    refine LS.vv rfl rfl (by decide) (Val.assign rfl) ?_
    refine LS.nil ?_
    refine W.seqR ?_
    refine LS.vv rfl rfl (by decide) (Val.move rfl) ?_
    refine LS.vv rfl rfl (by decide) (Val.move rfl) ?_
    refine LS.vv rfl rfl (by decide) (Val.and64 rfl rfl (by omega) (by omega)) ?_
    refine LS.vv rfl rfl (by decide) (Val.move rfl) ?_
    refine LS.vv rfl rfl (by decide) (Val.cast (v := .bool (inP q k)) (Val.eql rfl rfl) (by exact congrArg Value.bool (inP_dec q k))) ?_
    refine LS.nil ?_
    first | refine W.condD rfl (fun hc2 => ?_) (fun hc2 => ?_) | refine W.cond rfl (fun hc2 => ?_) (fun hc2 => ?_)
    ·
      refine W.reg ?_
      refine LS.vv rfl rfl (by decide) (Val.move rfl) ?_
      refine LS.vv rfl rfl (by decide) (Val.move rfl) ?_
      refine LS.vv rfl rfl (by decide) (Val.move rfl) ?_
      refine LS.vv rfl rfl (by decide) (Val.move rfl) ?_
      refine LS.vv rfl rfl (by decide) (Val.index1 Try.underlying22 elem4 rfl rfl (by omega) (hM.o0.rd) (bv_lt (by omega))) ?_
      refine LS.m rfl (Step.load rfl rfl (by decide) flat4 rfl (hM.o0.rd) (bv_at (by omega)) ?_)
      refine LS.vv rfl rfl (by decide) (Val.not rfl) ?_
      refine LS.vv rfl rfl (by decide) (Val.index1 Try.underlying22 elem4 rfl rfl (by omega) (hM.o0.rd) (bv_lt (by omega))) ?_
      refine LS.m rfl (Step.store (B := B) rfl rfl flat4 elem4 rfl rfl rfl (hM.o0) (by omega) (Nat.le_trans hB0 hB.size) ?_)
      rintro w2 hO2 hg2 hbl2 hsz2
      replace hM := hM.s0 hg2 hO2 inl_block
      try simp only [bv_app1, bv_app, bv_set, bv_rep, bv_one, bv_cons, bv_take, bv_drop, List.nil_append] at hM
      replace hB := hB.trans hbl2
      refine LS.nil ?_
      refine inBlk_normal ?_
      refine thenP_normal ?_
      refine W.reg ?_
      first | refine LS.vv rfl rfl (by decide) (Val.addN (j := 1) rfl rfl (by omega)) ?_ | refine LS.vv rfl rfl (by decide) (Val.add64 rfl rfl (by omega)) ?_
      refine LS.vv rfl rfl (by decide) (Val.move rfl) ?_
      refine LS.nil ?_
      refine thenP_normal ?_
      rw [addK_set (by unfold inP; exact beq_iff_eq.2 (by assumption))] at hM
      refine ⟨k + 1, ?_, ?_, ⟨by omega, hM, hB⟩, by omega⟩
      · exact (Sub.cons rfl (Sub.nil _))
      · repeat (first | exact Sub.nil _ | refine Sub.cons rfl ?_)
    ·
      refine W.skip ?_
      refine inBlk_normal ?_
      refine thenP_normal ?_
      refine W.reg ?_
      first | refine LS.vv rfl rfl (by decide) (Val.addN (j := 1) rfl rfl (by omega)) ?_ | refine LS.vv rfl rfl (by decide) (Val.add64 rfl rfl (by omega)) ?_
      refine LS.vv rfl rfl (by decide) (Val.move rfl) ?_
      refine LS.nil ?_
      refine thenP_normal ?_
      rw [addK_same (by unfold inP; exact beq_eq_false_iff_ne.2 (by assumption))] at hM
      refine ⟨k + 1, ?_, ?_, ⟨by omega, hM, hB⟩, by omega⟩
      · exact (Sub.cons rfl (Sub.nil _))
      · repeat (first | exact Sub.nil _ | refine Sub.cons rfl ?_)
  ·
    refine W.exit ?_
    refine thenP_exit ?_
    refine thenP_exit ?_
    refine inBlk_exit ?_
    refine ret0 (by first | exact .inl rfl | exact .inr rfl) ?_
    obtain rfl : k = L.length := by omega
    exact ⟨rfl, hM, hB⟩

theorem Put_any (r m : Int) (D : List Bool) (p : Option Addr) (c n : Nat) (w0 : World) (hr : Rd w0 p (bv D)) (hn : D.length = n) (hl : n ≤ 9223372036854775807) :
    CallsV Try.prog 9 #[.int .i64 r, .int .i64 m, .slice p n c] w0 (fun v w => ∃ (p2 : Option Addr) (c2 : Nat) (L : List Bool) (e : Nat), v = .tuple #[.slice p2 L.length c2, .int .i64 (e : Int)] ∧ Own w w0.heap.size 4 p2 L.length c2 (bv L) ∧ (e = 0 ↔ (0 ≤ r ∧ r ≤ m ∧ m ≤ 4) ∧ n = (prods r.toNat m.toNat).length) ∧ (e = 0 → L = mword r.toNat m.toNat D) ∧ (e ≠ 0 → L = []) ∧ Below w0.heap.size w0 w) := by
  refine enter2 Try.func9 rfl Try.ntmps9 (by simp) rfl ?_
  have hB := Below.refl w0.heap.size w0
  simp only [argLoc, Nat.zero_add, Nat.reduceAdd]
  have hM := Mem.nil w0 w0.heap.size
  subst hn
  refine W.seqR ?_
  refine LS.vv rfl rfl (by decide) (Val.assign rfl) ?_
  refine LS.vv rfl rfl (by decide) (Val.cast (v := .int .i64 ((0 : Nat) : Int)) (Val.assign rfl) rfl) ?_
  refine LS.nil ?_
  refine W.seq ?_
  refine W.seqR ?_
  refine LS.vv rfl rfl (by decide) (Val.move rfl) ?_
  refine LS.vv rfl rfl (by decide) (Val.move rfl) ?_
  refine LS.m rfl (Step.call body25 rfl rfl (by decide) rfl (CallsV.mono (wrong_any r m _) ?_))
  rintro _ w1 ⟨e0, rfl, he0, hb1⟩
  replace hM := hM.below hb1
  replace hB := hB.trans (hb1.mono hB.size)
  refine LS.vv rfl rfl (by decide) (Val.assign rfl) ?_
  refine LS.nil ?_
  refine W.seqR ?_
  refine LS.vv rfl rfl (by decide) (Val.move rfl) ?_
  refine LS.vv rfl rfl (by decide) (Val.neq rfl rfl) ?_
  refine LS.nil ?_
  first | refine W.condD rfl (fun hc1 => ?_) (fun hc1 => ?_) | refine W.cond rfl (fun hc1 => ?_) (fun hc1 => ?_)
  ·
    refine W.seqR ?_
    refine LS.vv rfl rfl (by decide) (Val.move rfl) ?_
    refine LS.vv rfl rfl (by decide) (Val.assign rfl) ?_
    refine LS.vv rfl rfl (by decide) (Val.assign rfl) ?_
    refine LS.nil ?_
    refine W.ret ?_
    refine thenP_ret ?_
    refine ret2 (by first | exact .inl rfl | exact .inr rfl) rfl rfl ?_
    first
      | exact ⟨none, 0, [], e0, rfl, Own.nil _ _ _, by omega, fun h => absurd h (by omega), fun _ => rfl, hB⟩
      | exact ⟨none, 0, [], 3, rfl, Own.nil _ _ _, by omega, fun h => by omega, fun _ => rfl, hB⟩
      | (obtain rfl : k = (prods R M).length := (by omega)
         have hw : mword R M D = (cw (2 ^ M) fun x => mk (prods R M) (gb D) x (prods R M).length) := rfl
         have hwl : (mword R M D).length = 2 ^ M := cw_len _ _
         refine ⟨_, 2 ^ M, mword R M D, 0, (by rw [hwl]), (by rw [hwl, hw]; exact hM.o0), by omega, fun _ => rfl, fun h => absurd rfl h, hB⟩)
  ·
    have hv := he0.1 (by omega)
    obtain ⟨R, rfl⟩ := Int.eq_ofNat_of_zero_le hv.1
    obtain ⟨M, rfl⟩ := Int.eq_ofNat_of_zero_le (show 0 ≤ m by omega)
    simp only [Int.toNat_natCast]
    obtain ⟨hp1, hp2⟩ := pow_le16 (m := M) (by omega)
    have hP := prodsP (m := M) (r := R) (by omega) (by omega)
    have hps := (prods_ok M (by omega) R (by omega)).2.2.2
    refine W.skip ?_
    refine thenP_normal ?_
    refine W.seqR ?_
    refine LS.vv rfl rfl (by decide) (Val.move rfl) ?_
    refine LS.vv rfl rfl (by decide) (Val.move rfl) ?_
    refine LS.m rfl (Step.call body26 rfl rfl (by decide) rfl (CallsV.mono (products_any R M _ (by omega)) ?_))
    rintro _ w2 ⟨pp, cp, rfl, hOp, hb2⟩
    replace hM := hM.add hB.size hb2 hOp
    replace hB := hB.trans (hb2.mono hB.size)
    refine LS.vv rfl rfl (by decide) (Val.assign rfl) ?_
    refine LS.nil ?_
    refine W.seq ?_
    refine W.seqR ?_
    refine LS.vv rfl rfl (by decide) (Val.move rfl) ?_
    refine LS.vv rfl rfl (by decide) (Val.len Try.underlying22 rfl) ?_
    refine LS.vv rfl rfl (by decide) (Val.move rfl) ?_
    refine LS.vv rfl rfl (by decide) (Val.len Try.underlying54 rfl) ?_
    refine LS.vv rfl rfl (by decide) (Val.neq rfl rfl) ?_
    refine LS.nil ?_
    first | refine W.condD rfl (fun hc2 => ?_) (fun hc2 => ?_) | refine W.cond rfl (fun hc2 => ?_) (fun hc2 => ?_)
    ·
      refine W.seqR ?_
      refine LS.vv rfl rfl (by decide) (Val.assign rfl) ?_
      refine LS.vv rfl rfl (by decide) (Val.cast (v := .int .i64 ((3 : Nat) : Int)) (Val.assign rfl) rfl) ?_
      refine LS.nil ?_
      refine W.ret ?_
      refine thenP_ret ?_
      refine ret2 (by first | exact .inl rfl | exact .inr rfl) rfl rfl ?_
      first
        | exact ⟨none, 0, [], e0, rfl, Own.nil _ _ _, by omega, fun h => absurd h (by omega), fun _ => rfl, hB⟩
        | exact ⟨none, 0, [], 3, rfl, Own.nil _ _ _, by omega, fun h => by omega, fun _ => rfl, hB⟩
        | (obtain rfl : k = (prods R M).length := (by omega)
           have hw : mword R M D = (cw (2 ^ M) fun x => mk (prods R M) (gb D) x (prods R M).length) := rfl
           have hwl : (mword R M D).length = 2 ^ M := cw_len _ _
           refine ⟨_, 2 ^ M, mword R M D, 0, (by rw [hwl]), (by rw [hwl, hw]; exact hM.o0), by omega, fun _ => rfl, fun h => absurd rfl h, hB⟩)
    ·
      refine W.skip ?_
      refine thenP_normal ?_
      refine W.seqR ?_
      refine LS.vv rfl rfl (by decide) (Val.move rfl) ?_
      refine LS.vv rfl rfl (by decide) (Val.cast (v := .int .i64 ((2 ^ M : Nat) : Int)) (Val.shl64 (i := 1) rfl rfl (by omega) (by omega)) (by rw [hp1])) ?_
      refine LS.m rfl (Step.make rfl rfl (by decide) Try.underlying22 elem4 rfl rfl rfl (by omega) (by omega) (Nat.le_refl _) ?_)
      rintro w3 hO3 hg3 hbl3
      replace hM := hM.add hB.size hbl3 hO3
      try simp only [bv_app1, bv_app, bv_set, bv_rep, bv_one, bv_cons, bv_take, bv_drop, List.nil_append] at hM
      replace hB := hB.trans (hbl3.mono hB.size)
      generalize w2.heap.size = gg3 at *
      refine LS.vv rfl rfl (by decide) (Val.assign rfl) ?_
      refine LS.nil ?_
      refine W.seq ?_
      refine W.seqR ?_
      refine LS.vv rfl rfl (by decide) (Val.move rfl) ?_
      refine LS.vv rfl rfl (by decide) (Val.len Try.underlying54 rfl) ?_
      refine LS.vv rfl rfl (by decide) (Val.cast (v := .int .i64 ((0 : Nat) : Int)) (Val.move rfl) rfl) ?_
      refine LS.nil ?_
      refine W.block ?_
      rw [show List.replicate (2 ^ M) false = (cw (2 ^ M) fun x => mk (prods R M) (gb D) x 0) from cw_rep _] at hM
      refine W.loop (α := Nat) (fun k => [(32, .int .i64 (k : Int))]) [(2, _), (10, _), (30, _), (31, _)] (fun k w => (k ≤ (prods R M).length) ∧ Mem w w0.heap.size [⟨4, some ⟨gg3, 0, none⟩, 2 ^ M, 2 ^ M, bv (cw (2 ^ M) fun x => mk (prods R M) (gb D) x k)⟩, ⟨3, pp, (prods R M).length, cp, nv (prods R M)⟩] ∧ Below w0.heap.size w0 w) (fun k => (prods R M).length - k) (0) (Sub.cons rfl (Sub.nil _)) (Sub.cons rfl (Sub.cons rfl (Sub.cons rfl (Sub.cons rfl (Sub.nil _))))) ?_ ?_
      · exact ⟨Nat.zero_le _, hM, hB⟩
      rintro k w4 ⟨hk, hM, hB⟩
      try simp only at hM
      simp only [List.cons_append, List.nil_append]
      refine W.seqR ?_
      refine LS.vv rfl rfl (by decide) (Val.lss rfl rfl) ?_
      refine LS.nil ?_
      refine W.seq ?_
      first | refine W.condD rfl (fun hc3 => ?_) (fun hc3 => ?_) | refine W.cond rfl (fun hc3 => ?_) (fun hc3 => ?_)
      ·
        refine W.skip ?_
        refine thenP_normal ?_
        refine W.seq ?_
        refine W.block ?_
        refine W.seqR ?_
        refine LS.vv rfl rfl (by decide) (Val.move rfl) ?_
        refine LS.vv rfl rfl (by decide) (Val.index1 Try.underlying54 elem3 rfl rfl (by omega) (hM.o1.rd) (nv_lt (by omega))) ?_
        refine LS.m rfl (Step.load rfl rfl (by decide) flat3 rfl (hM.o1.rd) (nv_at (by omega)) ?_)
        refine LS.vv rfl rfl (by decide) (Val.assign rfl) ?_
        refine LS.vv rfl rfl (by decide) (Val.assign rfl) ?_
        refine LS.nil ?_
        refine W.seqR ?_
        refine LS.vv rfl rfl (by decide) (Val.move rfl) ?_
        refine LS.vv rfl rfl (by decide) (Val.move rfl) ?_
        refine LS.vv rfl rfl (by decide) (Val.index1 Try.underlying22 elem4 rfl rfl (by omega) ((hr.below hB)) (bv_lt (by omega))) ?_
        refine LS.m rfl (Step.load rfl rfl (by decide) flat4 rfl ((hr.below hB)) (bv_at (by omega)) ?_)
        refine LS.nil ?_
        first | refine W.condD rfl (fun hc4 => ?_) (fun hc4 => ?_) | refine W.cond rfl (fun hc4 => ?_) (fun hc4 => ?_)
        ·
          refine W.reg ?_
          refine LS.vv rfl rfl (by decide) (Val.move rfl) ?_
          refine LS.vv rfl rfl (by decide) (Val.move rfl) ?_
          have hq := hP.lt k (by omega)
          refine LS.m rfl (Step.call body27 rfl rfl (by decide) rfl (CallsV.mono (add_any (cw (2 ^ M) fun x => mk (prods R M) (gb D) x k) (gn (prods R M) k) _ _ _ _ _ _ hM hB.size (cw_len _ _) (by omega) (by omega)) ?_))
          rintro _ w5 ⟨rfl, hM5, hb5⟩
          replace hM := hM5
          replace hB := hB.trans hb5
          refine LS.nil ?_
          refine inBlk_normal ?_
          refine thenP_normal ?_
          refine W.reg ?_
          first | refine LS.vv rfl rfl (by decide) (Val.addN (j := 1) rfl rfl (by omega)) ?_ | refine LS.vv rfl rfl (by decide) (Val.add64 rfl rfl (by omega)) ?_
          refine LS.vv rfl rfl (by decide) (Val.move rfl) ?_
          refine LS.nil ?_
          refine thenP_normal ?_
          have hst : (cw (2 ^ M) fun x => mk (prods R M) (gb D) x (k + 1)) = addK (cw (2 ^ M) fun x => mk (prods R M) (gb D) x k) (gn (prods R M) k) (2 ^ M) := by { rw [addK_cw]; refine cw_congr fun x _ => ?_; rw [mk, show gb D k = true by assumption, Bool.true_and] }
          refine ⟨k + 1, ?_, ?_, ⟨by omega, by rw [hst]; exact hM, hB⟩, by omega⟩
          · exact (Sub.cons rfl (Sub.nil _))
          · repeat (first | exact Sub.nil _ | refine Sub.cons rfl ?_)
        ·
          refine W.skip ?_
          refine inBlk_normal ?_
          refine thenP_normal ?_
          refine W.reg ?_
          first | refine LS.vv rfl rfl (by decide) (Val.addN (j := 1) rfl rfl (by omega)) ?_ | refine LS.vv rfl rfl (by decide) (Val.add64 rfl rfl (by omega)) ?_
          refine LS.vv rfl rfl (by decide) (Val.move rfl) ?_
          refine LS.nil ?_
          refine thenP_normal ?_
          have hst : (cw (2 ^ M) fun x => mk (prods R M) (gb D) x (k + 1)) = (cw (2 ^ M) fun x => mk (prods R M) (gb D) x k) := by { refine cw_congr fun x _ => ?_; rw [mk, show gb D k = false by assumption, Bool.false_and, Bool.xor_false] }
          refine ⟨k + 1, ?_, ?_, ⟨by omega, by rw [hst]; exact hM, hB⟩, by omega⟩
          · exact (Sub.cons rfl (Sub.nil _))
          · repeat (first | exact Sub.nil _ | refine Sub.cons rfl ?_)
      ·
        refine W.exit ?_
        refine thenP_exit ?_
        refine thenP_exit ?_
        refine inBlk_exit ?_
        refine thenP_normal ?_
        refine W.seqR ?_
        refine LS.vv rfl rfl (by decide) (Val.move rfl) ?_
        refine LS.vv rfl rfl (by decide) (Val.assign rfl) ?_
        refine LS.vv rfl rfl (by decide) (Val.cast (v := .int .i64 ((0 : Nat) : Int)) (Val.assign rfl) rfl) ?_
        refine LS.nil ?_
        refine W.ret ?_
        refine ret2 (by first | exact .inl rfl | exact .inr rfl) rfl rfl ?_
        first
          | exact ⟨none, 0, [], e0, rfl, Own.nil _ _ _, by omega, fun h => absurd h (by omega), fun _ => rfl, hB⟩
          | exact ⟨none, 0, [], 3, rfl, Own.nil _ _ _, by omega, fun h => by omega, fun _ => rfl, hB⟩
          | (obtain rfl : k = (prods R M).length := (by omega)
             have hw : mword R M D = (cw (2 ^ M) fun x => mk (prods R M) (gb D) x (prods R M).length) := rfl
             have hwl : (mword R M D).length = 2 ^ M := cw_len _ _
             refine ⟨_, 2 ^ M, mword R M D, 0, (by rw [hwl]), (by rw [hwl, hw]; exact hM.o0), by omega, fun _ => rfl, fun h => absurd rfl h, hB⟩)

theorem differ_any (a b : List Bool) (p q : Option Addr) (c d n : Nat) (w0 : World) (hr1 : Rd w0 p (bv a)) (hr2 : Rd w0 q (bv b)) (ha : a.length = n) (hb : b.length = n) (hl : n ≤ 1000) :
    CallsV Try.prog 11 #[.slice p n c, .slice q n d] w0 (fun v w => v = .int .i64 (cnt (fun i => xor (gb a i) (gb b i)) n : Int) ∧ Below w0.heap.size w0 w) := by
  refine enter1 Try.func11 rfl Try.ntmps11 (by simp) rfl ?_
  have hB := Below.refl w0.heap.size w0
  simp only [argLoc, Nat.zero_add]
  have hM := Mem.nil w0 w0.heap.size
  subst ha
  refine W.seqR ?_
  refine LS.vv rfl rfl (by decide) (Val.cast (v := .int .i64 ((0 : Nat) : Int)) (Val.assign rfl) rfl) ?_
  refine LS.nil ?_
  refine W.seqR ?_
  refine LS.vv rfl rfl (by decide) (Val.cast (v := .int .i64 ((0 : Nat) : Int)) (Val.assign rfl) rfl) ?_
  refine LS.nil ?_
  refine W.seq ?_
  refine W.seqR ?_
  refine LS.vv rfl rfl (by decide) (Val.cast (v := .int .i64 ((0 : Nat) : Int)) (Val.assign rfl) rfl) ?_
  refine LS.nil ?_
  refine W.block ?_
  refine W.loop (α := Nat) (fun k => [(5, .int .i64 (cnt (fun i => xor (gb a i) (gb b i)) k : Int)), (6, .int .i64 (k : Int))]) [(0, _), (1, _)] (fun k w => (k ≤ a.length) ∧ Mem w w0.heap.size [] ∧ Below w0.heap.size w0 w) (fun k => a.length - k) (0) (Sub.cons rfl (Sub.cons rfl (Sub.nil _))) (Sub.cons rfl (Sub.cons rfl (Sub.nil _))) ?_ ?_
  · exact ⟨Nat.zero_le _, hM, hB⟩
  rintro k w1 ⟨hk, hM, hB⟩
  try simp only at hM
  simp only [List.cons_append, List.nil_append]
  have hcl : cnt (fun i => xor (gb a i) (gb b i)) k ≤ k := cnt_self _ k
  refine W.seq ?_
  refine W.seqR ?_
  refine LS.vv rfl rfl (by decide) (Val.move rfl) ?_
  refine LS.vv rfl rfl (by decide) (Val.move rfl) ?_
  refine LS.vv rfl rfl (by decide) (Val.len Try.underlying22 rfl) ?_
  refine LS.vv rfl rfl (by decide) (Val.lss rfl rfl) ?_
  refine LS.vv rfl rfl (by decide) (Val.move rfl) ?_
  refine LS.split 4 rfl (fun hg1 => ?_) (fun hg1 => ?_)
  ·
    first | (have hg1p := of_decide_eq_true hg1) | skip
    refine LS.vg rfl rfl rfl hg1 (by decide) (Val.move rfl) ?_
    refine LS.vg rfl rfl rfl hg1 (by decide) (Val.move rfl) ?_
    refine LS.vg rfl rfl rfl hg1 (by decide) (Val.len Try.underlying22 rfl) ?_
    refine LS.vg rfl rfl rfl hg1 (by decide) (Val.lss rfl rfl) ?_
    refine LS.vv rfl rfl (by decide) (Val.pickT rfl hg1 rfl) ?_
    refine LS.nil ?_
    first | refine W.condD rfl (fun hc2 => ?_) (fun hc2 => ?_) | refine W.cond rfl (fun hc2 => ?_) (fun hc2 => ?_)
    ·
      refine W.skip ?_
      refine thenP_normal ?_
      refine W.seq ?_
      refine W.block ?_
      refine W.seqF 9 [(0, true), (1, true), (2, true), (3, true), (4, true), (5, true), (6, true), (7, true), (8, true)] mixed (by kernel_rfl) hB hM ?_
      replace hB := hB.drew
      replace hM := hM.drew
      refine DF.vv rfl rfl rfl (by decide) (Val.move rfl) ?_
      refine DF.vv rfl rfl rfl (by decide) (Val.move rfl) ?_
      refine DF.vv rfl rfl rfl (by decide) (Val.index1 Try.underlying22 elem4 rfl rfl (by omega) ((hr1.below hB)) (bv_lt (by omega))) ?_
      refine DF.vv rfl rfl rfl (by decide) (Val.load flat4 rfl (fun _ h => (hr1.below h.1)) (bv_at (by omega))) ?_
      refine DF.vv rfl rfl rfl (by decide) (Val.move rfl) ?_
      refine DF.vv rfl rfl rfl (by decide) (Val.move rfl) ?_
      refine DF.vv rfl rfl rfl (by decide) (Val.index1 Try.underlying22 elem4 rfl rfl (by omega) ((hr2.below hB)) (bv_lt (by omega))) ?_
      refine DF.vv rfl rfl rfl (by decide) (Val.load flat4 rfl (fun _ h => (hr2.below h.1)) (bv_at (by omega))) ?_
      refine DF.vv rfl rfl rfl (by decide) (Val.neqB Try.underlying4 rfl rfl) ?_
      refine DF.nil ?_
      first | refine W.condD rfl (fun hc3 => ?_) (fun hc3 => ?_) | refine W.cond rfl (fun hc3 => ?_) (fun hc3 => ?_)
      ·
        refine W.reg ?_
        refine LS.vv rfl rfl (by decide) (Val.move rfl) ?_
        first | refine LS.vv rfl rfl (by decide) (Val.addN (j := 1) rfl rfl (by omega)) ?_ | refine LS.vv rfl rfl (by decide) (Val.add64 rfl rfl (by omega)) ?_
        refine LS.vv rfl rfl (by decide) (Val.assign rfl) ?_
        refine LS.nil ?_
        refine inBlk_normal ?_
        refine thenP_normal ?_
        refine W.reg ?_
        refine LS.vv rfl rfl (by decide) (Val.move rfl) ?_
        first | refine LS.vv rfl rfl (by decide) (Val.addN (j := 1) rfl rfl (by omega)) ?_ | refine LS.vv rfl rfl (by decide) (Val.add64 rfl rfl (by omega)) ?_
        refine LS.vv rfl rfl (by decide) (Val.assign rfl) ?_
        refine LS.nil ?_
        refine thenP_normal ?_
        have hx : xor (gb a k) (gb b k) = decide (gb a k ≠ gb b k) := by cases gb a k <;> cases gb b k <;> rfl
        refine ⟨k + 1, ?_, ?_, ⟨by omega, hM, hB⟩, by omega⟩
        · exact Sub.cons' rfl (by rw [cnt]; simp only [hx]; first | (rw [if_pos (decide_eq_true (by assumption))]; done) | (rw [if_neg (by rw [decide_eq_false (by assumption)]; decide)]; rfl)) (Sub.cons rfl (Sub.nil _))
        · repeat (first | exact Sub.nil _ | refine Sub.cons rfl ?_)
      ·
        refine W.skip ?_
        refine inBlk_normal ?_
        refine thenP_normal ?_
        refine W.reg ?_
        refine LS.vv rfl rfl (by decide) (Val.move rfl) ?_
        first | refine LS.vv rfl rfl (by decide) (Val.addN (j := 1) rfl rfl (by omega)) ?_ | refine LS.vv rfl rfl (by decide) (Val.add64 rfl rfl (by omega)) ?_
        refine LS.vv rfl rfl (by decide) (Val.assign rfl) ?_
        refine LS.nil ?_
        refine thenP_normal ?_
        have hx : xor (gb a k) (gb b k) = decide (gb a k ≠ gb b k) := by cases gb a k <;> cases gb b k <;> rfl
        refine ⟨k + 1, ?_, ?_, ⟨by omega, hM, hB⟩, by omega⟩
        · exact Sub.cons' rfl (by rw [cnt]; simp only [hx]; first | (rw [if_pos (decide_eq_true (by assumption))]; done) | (rw [if_neg (by rw [decide_eq_false (by assumption)]; decide)]; rfl)) (Sub.cons rfl (Sub.nil _))
        · repeat (first | exact Sub.nil _ | refine Sub.cons rfl ?_)
    ·
      refine W.exit ?_
      refine thenP_exit ?_
      refine thenP_exit ?_
      refine inBlk_exit ?_
      refine thenP_normal ?_
      refine W.seqR ?_
      refine LS.vv rfl rfl (by decide) (Val.move rfl) ?_
      refine LS.vv rfl rfl (by decide) (Val.assign rfl) ?_
      refine LS.nil ?_
      refine W.ret ?_
      refine ret1 (by first | exact .inl rfl | exact .inr rfl) rfl ?_
      obtain rfl : k = a.length := by omega
      exact ⟨rfl, hB⟩
  ·
    first | (have hg1p := of_decide_eq_false hg1) | skip
    refine LS.s rfl rfl rfl hg1 (by decide) ?_
    refine LS.s rfl rfl rfl hg1 (by decide) ?_
    refine LS.s rfl rfl rfl hg1 (by decide) ?_
    refine LS.s rfl rfl rfl hg1 (by decide) ?_
    refine LS.vv rfl rfl (by decide) (Val.pickF rfl hg1 rfl) ?_
    refine LS.nil ?_
    refine W.condF rfl ?_
    refine W.exit ?_
    refine thenP_exit ?_
    refine thenP_exit ?_
    refine inBlk_exit ?_
    refine thenP_normal ?_
    refine W.seqR ?_
    refine LS.vv rfl rfl (by decide) (Val.move rfl) ?_
    refine LS.vv rfl rfl (by decide) (Val.assign rfl) ?_
    refine LS.nil ?_
    refine W.ret ?_
    refine ret1 (by first | exact .inl rfl | exact .inr rfl) rfl ?_
    obtain rfl : k = a.length := by omega
    exact ⟨rfl, hB⟩

end Go.Proofs.Ytjmpkmomlpgbdaa
