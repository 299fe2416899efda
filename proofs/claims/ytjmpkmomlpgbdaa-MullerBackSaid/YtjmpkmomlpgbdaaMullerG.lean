/-
  What most parts say: muller.Get.
-/
import Derived.Test.YtjmpkmomlpgbdaaMullerV
import Derived.Test.YtjmpkmomlpgbdaaLibB
import Derived.Test.YtjmpkmomlpgbdaaVheap2
namespace Go.Proofs.Ytjmpkmomlpgbdaa
open Go Go.RowKit V
set_option linter.unusedVariables false
set_option linter.unusedSimpArgs false

def vt (f : Nat → Bool) (q m : Nat) : Bool := decide (2 ^ (m - deg q) < 2 * yesP f q m)
def GF (ps : List Nat) (m r : Nat) (F0 : Nat → Bool) : Nat → (Nat → Bool) × (Nat → Bool)
  | 0 => (fun _ => false, F0)
  | j + 1 => (fun i => (GF ps m r F0 j).1 i || (decide (deg (gn ps i) + j = r) && vt (GF ps m r F0 j).2 (gn ps i) m),
      fun x => xor ((GF ps m r F0 j).2 x) (mk ps (fun i => decide (deg (gn ps i) + j = r) && ((GF ps m r F0 j).1 i || (decide (deg (gn ps i) + j = r) && vt (GF ps m r F0 j).2 (gn ps i) m))) x ps.length))
def Gd (ps : List Nat) (m r : Nat) (F0 : Nat → Bool) (j : Nat) : Nat → Bool := (GF ps m r F0 j).1
def Fd (ps : List Nat) (m r : Nat) (F0 : Nat → Bool) (j : Nat) : Nat → Bool := (GF ps m r F0 j).2
theorem Gd_succ (ps : List Nat) (m r : Nat) (F0 : Nat → Bool) (j i : Nat) : Gd ps m r F0 (j + 1) i = (Gd ps m r F0 j i || (decide (deg (gn ps i) + j = r) && vt (Fd ps m r F0 j) (gn ps i) m)) := rfl
theorem Fd_succ (ps : List Nat) (m r : Nat) (F0 : Nat → Bool) (j x : Nat) : Fd ps m r F0 (j + 1) x = xor (Fd ps m r F0 j x) (mk ps (fun i => decide (deg (gn ps i) + j = r) && Gd ps m r F0 (j + 1) i) x ps.length) := rfl
theorem yesP_congr {f g : Nat → Bool} {q m : Nat} (h : ∀ x, x < 2 ^ m → f x = g x) : yesP f q m = yesP g q m := by
  unfold yesP
  refine cnt_congr _ fun o _ => ?_
  rw [cs_congr q o _ h]
theorem get_ok {m r : Nat} {ps : List Nat} (hm : m < 5) (hp : Prods m r ps) {D e F0 : Nat → Bool} (hF : ∀ x, x < 2 ^ m → F0 x = xor (mk ps D x ps.length) (e x)) (he : 2 * cnt e (2 ^ m) < 2 ^ (m - r)) :
    ∀ j, j ≤ r + 1 → (∀ i, i < ps.length → Gd ps m r F0 j i = (D i && !decide (deg (gn ps i) + j ≤ r))) ∧ (∀ x, x < 2 ^ m → Fd ps m r F0 j x = xor (mk ps (fun i => D i && decide (deg (gn ps i) + j ≤ r)) x ps.length) (e x))
  | 0, _ => by
    refine ⟨fun i hi => ?_, fun x hx => ?_⟩
    · have := hp.deg i hi
      show false = _
      rw [show decide (deg (gn ps i) + 0 ≤ r) = true from decide_eq_true (by omega)]; simp
    · show F0 x = _
      rw [hF x hx]
      congr 1
      refine mk_congr ps x _ fun i hi => ?_
      have := hp.deg i hi
      rw [show decide (deg (gn ps i) + 0 ≤ r) = true from decide_eq_true (by omega)]; simp
  | j + 1, hj => by
    obtain ⟨ih1, ih2⟩ := get_ok hm hp hF he j (by omega)
    have hG : ∀ i, i < ps.length → Gd ps m r F0 (j + 1) i = (D i && !decide (deg (gn ps i) + (j + 1) ≤ r)) := fun i hi => by
      rw [Gd_succ, ih1 i hi]
      by_cases hd : deg (gn ps i) + j = r
      · have hv : vt (Fd ps m r F0 j) (gn ps i) m = (D i && decide (deg (gn ps i) + j ≤ r)) := by
          unfold vt
          exact vote_tells (D := fun i => D i && decide (deg (gn ps i) + j ≤ r)) hm hp hi (fun q hq hDq => by
            simp only [Bool.and_eq_true, decide_eq_true_eq] at hDq
            omega) ih2 he
        rw [hv, decide_eq_true hd, show decide (deg (gn ps i) + j ≤ r) = true from decide_eq_true (by omega), show decide (deg (gn ps i) + (j + 1) ≤ r) = false from decide_eq_false (by omega)]
        simp
      · rw [decide_eq_false hd]
        have : decide (deg (gn ps i) + (j + 1) ≤ r) = decide (deg (gn ps i) + j ≤ r) := decide_eq_decide.2 (by omega)
        rw [this]; simp
    refine ⟨hG, fun x hx => ?_⟩
    rw [Fd_succ, ih2 x hx]
    have e1 : mk ps (fun i => decide (deg (gn ps i) + j = r) && Gd ps m r F0 (j + 1) i) x ps.length = mk ps (fun i => decide (deg (gn ps i) + j = r) && D i) x ps.length := mk_congr ps x _ fun i hi => by
      rw [hG i hi]
      by_cases hd : deg (gn ps i) + j = r
      · rw [show decide (deg (gn ps i) + (j + 1) ≤ r) = false from decide_eq_false (by omega)]; simp
      · rw [decide_eq_false hd]; rfl
    have e2 : mk ps (fun i => D i && decide (deg (gn ps i) + (j + 1) ≤ r)) x ps.length = xor (mk ps (fun i => D i && decide (deg (gn ps i) + j ≤ r)) x ps.length) (mk ps (fun i => decide (deg (gn ps i) + j = r) && D i) x ps.length) := by
      rw [← mk_xor]
      refine mk_congr ps x _ fun i hi => ?_
      by_cases hd : deg (gn ps i) + j = r
      · rw [decide_eq_true hd, show decide (deg (gn ps i) + j ≤ r) = true from decide_eq_true (by omega), show decide (deg (gn ps i) + (j + 1) ≤ r) = false from decide_eq_false (by omega)]
        cases D i <;> rfl
      · rw [decide_eq_false hd]
        have : decide (deg (gn ps i) + (j + 1) ≤ r) = decide (deg (gn ps i) + j ≤ r) := decide_eq_decide.2 (by omega)
        rw [this]; simp
    rw [e1, e2]
    generalize mk ps (fun i => D i && decide (deg (gn ps i) + j ≤ r)) x ps.length = a
    generalize mk ps (fun i => decide (deg (gn ps i) + j = r) && D i) x ps.length = b
    cases a <;> cases b <;> cases e x <;> rfl
theorem cw_self (L : List Bool) : cw L.length (gb L) = L := by
  refine List.ext_getElem (by simp [cw]) fun i h1 h2 => ?_
  simp [cw, gb, h2]
theorem get_data {m r : Nat} {ps : List Nat} (hm : m < 5) (hp : Prods m r ps) {D : List Bool} (hD : D.length = ps.length) {e F0 : Nat → Bool} (hF : ∀ x, x < 2 ^ m → F0 x = xor (mk ps (gb D) x ps.length) (e x)) (he : 2 * cnt e (2 ^ m) < 2 ^ (m - r)) : cw ps.length (Gd ps m r F0 (r + 1)) = D := by
  conv => rhs; rw [← cw_self D, hD]
  refine cw_congr fun i hi => ?_
  rw [(get_ok hm hp hF he (r + 1) (Nat.le_refl _)).1 i hi, show decide (deg (gn ps i) + (r + 1) ≤ r) = false from decide_eq_false (by omega)]; simp
def pd (n : Nat) (G G' : Nat → Bool) (k : Nat) : List Bool := cw n fun i => if i < k then G' i else G i
theorem pd_zero (n : Nat) (G G' : Nat → Bool) : cw n G = pd n G G' 0 := cw_congr fun i _ => by rw [if_neg (by omega)]
theorem pd_all (n : Nat) (G G' : Nat → Bool) : pd n G G' n = cw n G' := cw_congr fun i hi => by rw [if_pos hi]
theorem pd_gb {n : Nat} {G G' : Nat → Bool} {k : Nat} (h : k < n) : gb (pd n G G' k) k = G k := by rw [pd, cw_gb h, if_neg (by omega)]
theorem pd_set {n : Nat} {G G' : Nat → Bool} {k : Nat} {b : Bool} (hb : b = G' k) : (pd n G G' k).set k b = pd n G G' (k + 1) := by
  subst hb
  refine List.ext_getElem (by simp [pd, cw]) fun i h1 h2 => ?_
  rw [List.getElem_set]
  by_cases e : k = i
  · subst e; rw [if_pos rfl]; simp [pd, cw]
  · rw [if_neg e]
    simp only [pd, cw, List.getElem_map, List.getElem_range]
    by_cases h : i < k
    · rw [if_pos h, if_pos (by omega)]
    · rw [if_neg h, if_neg (by omega)]

theorem Get_any (r m : Int) (L : List Bool) (p : Option Addr) (c n : Nat) (w0 : World) (hr : Rd w0 p (bv L)) (hn : L.length = n) (hl : n ≤ 1000) :
    CallsV Try.prog 12 #[.int .i64 r, .int .i64 m, .slice p n c] w0 (fun v w => ∃ (p2 : Option Addr) (c2 : Nat) (D : List Bool) (e : Nat), v = .tuple #[.slice p2 D.length c2, .int .i64 (e : Int)] ∧ Own w w0.heap.size 4 p2 D.length c2 (bv D) ∧ (e = 0 ↔ (0 ≤ r ∧ r ≤ m ∧ m ≤ 4) ∧ n = 2 ^ m.toNat) ∧ (e = 0 → D = cw (prods r.toNat m.toNat).length (Gd (prods r.toNat m.toNat) m.toNat r.toNat (gb L) (r.toNat + 1))) ∧ D.length ≤ 1000 ∧ Below w0.heap.size w0 w) := by
  refine enter2 Try.func12 rfl Try.ntmps12 (by simp) rfl ?_
  have hB := Below.refl w0.heap.size w0
  simp only [argLoc, Nat.zero_add, Nat.reduceAdd]
  have hM := Mem.nil w0 w0.heap.size
  subst hn
  refine W.seqR ?_
  refine LS.vv rfl rfl (by decide) (Val.assign rfl) ?_
  refine LS.vv rfl rfl (by decide) (Val.cast (v := .int .i64 ((0 : Nat) : Int)) (Val.assign rfl) rfl) ?_
  refine LS.nil ?_
  refine W.seq ?_
  refine W.seqR ?_
  refine LS.vv rfl rfl (by decide) (Val.move rfl) ?_
  refine LS.vv rfl rfl (by decide) (Val.move rfl) ?_
  refine LS.m rfl (Step.call body25 rfl rfl (by decide) rfl (CallsV.mono (wrong_any r m _) ?_))
  rintro _ w1 ⟨e0, rfl, he0, hb1⟩
  replace hM := hM.below hb1
  replace hB := hB.trans (hb1.mono hB.size)
  refine LS.vv rfl rfl (by decide) (Val.assign rfl) ?_
  refine LS.nil ?_
  refine W.seqR ?_
  refine LS.vv rfl rfl (by decide) (Val.move rfl) ?_
  refine LS.vv rfl rfl (by decide) (Val.neq rfl rfl) ?_
  refine LS.nil ?_
  first | refine W.condD rfl (fun hc1 => ?_) (fun hc1 => ?_) | refine W.cond rfl (fun hc1 => ?_) (fun hc1 => ?_)
  ·
    refine W.seqR ?_
    refine LS.vv rfl rfl (by decide) (Val.move rfl) ?_
    refine LS.vv rfl rfl (by decide) (Val.assign rfl) ?_
    refine LS.vv rfl rfl (by decide) (Val.assign rfl) ?_
    refine LS.nil ?_
    refine W.ret ?_
    refine thenP_ret ?_
    refine ret2 (by first | exact .inl rfl | exact .inr rfl) rfl rfl ?_
    first
      | exact ⟨none, 0, [], e0, rfl, Own.nil _ _ _, by omega, fun h => absurd h (by omega), by simp, hB⟩
      | (exact ⟨none, 0, [], 3, rfl, Own.nil _ _ _, ⟨fun h => by omega, fun h => by exfalso; have := h.2; omega⟩, fun h => by omega, by simp, hB⟩)
      | (obtain rfl : j = R + 1 := (by omega)
         have hwl : (cw (prods R M).length (Gd (prods R M) M R (gb L) (R + 1))).length = (prods R M).length := cw_len _ _
         exact ⟨_, (prods R M).length, cw (prods R M).length (Gd (prods R M) M R (gb L) (R + 1)), 0, (by rw [hwl]), (by rw [hwl]; exact hM.o0), ⟨fun _ => ⟨hv, by (try simp only [Int.toNat_natCast]); first | rfl | assumption | omega | trace_state⟩, fun _ => rfl⟩, fun _ => rfl, by omega, hB⟩)
  ·
    have hv := he0.1 (by omega)
    obtain ⟨R, rfl⟩ := Int.eq_ofNat_of_zero_le hv.1
    obtain ⟨M, rfl⟩ := Int.eq_ofNat_of_zero_le (show 0 ≤ m by omega)
    simp only [Int.toNat_natCast]
    obtain ⟨hp1, hp2⟩ := pow_le16 (m := M) (by omega)
    have hP := prodsP (m := M) (r := R) (by omega) (by omega)
    have hps := (prods_ok M (by omega) R (by omega)).2.2.2
    refine W.skip ?_
    refine thenP_normal ?_
    refine W.seq ?_
    refine W.seqR ?_
    refine LS.vv rfl rfl (by decide) (Val.move rfl) ?_
    refine LS.vv rfl rfl (by decide) (Val.len Try.underlying22 rfl) ?_
    refine LS.vv rfl rfl (by decide) (Val.move rfl) ?_
    refine LS.vv rfl rfl (by decide) (Val.cast (v := .int .i64 ((2 ^ M : Nat) : Int)) (Val.shl64 (i := 1) rfl rfl (by omega) (by omega)) (by rw [hp1])) ?_
    refine LS.vv rfl rfl (by decide) (Val.neq rfl rfl) ?_
    refine LS.nil ?_
    first | refine W.condD rfl (fun hc2 => ?_) (fun hc2 => ?_) | refine W.cond rfl (fun hc2 => ?_) (fun hc2 => ?_)
    ·
      refine W.seqR ?_
      refine LS.vv rfl rfl (by decide) (Val.assign rfl) ?_
      refine LS.vv rfl rfl (by decide) (Val.cast (v := .int .i64 ((3 : Nat) : Int)) (Val.assign rfl) rfl) ?_
      refine LS.nil ?_
      refine W.ret ?_
      refine thenP_ret ?_
      refine ret2 (by first | exact .inl rfl | exact .inr rfl) rfl rfl ?_
      first
        | exact ⟨none, 0, [], e0, rfl, Own.nil _ _ _, by omega, fun h => absurd h (by omega), by simp, hB⟩
        | (exact ⟨none, 0, [], 3, rfl, Own.nil _ _ _, ⟨fun h => by omega, fun h => by exfalso; have := h.2; omega⟩, fun h => by omega, by simp, hB⟩)
        | (obtain rfl : j = R + 1 := (by omega)
           have hwl : (cw (prods R M).length (Gd (prods R M) M R (gb L) (R + 1))).length = (prods R M).length := cw_len _ _
           exact ⟨_, (prods R M).length, cw (prods R M).length (Gd (prods R M) M R (gb L) (R + 1)), 0, (by rw [hwl]), (by rw [hwl]; exact hM.o0), ⟨fun _ => ⟨hv, by (try simp only [Int.toNat_natCast]); first | rfl | assumption | omega | trace_state⟩, fun _ => rfl⟩, fun _ => rfl, by omega, hB⟩)
    ·
      refine W.skip ?_
      refine thenP_normal ?_
      refine W.seqR ?_
      refine LS.vv rfl rfl (by decide) (Val.move rfl) ?_
      refine LS.m rfl (Step.call body28 rfl rfl (by decide) rfl (CallsV.mono (clone_bool L _ _ _ (hr.below hB) (by omega)) ?_))
      rintro _ w2 ⟨pl, cl, rfl, hOl, hb2⟩
      replace hM := hM.add hB.size hb2 hOl
      replace hB := hB.trans (hb2.mono hB.size)
      have hL2 : L.length = 2 ^ M := by omega
      refine LS.vv rfl rfl (by decide) (Val.assign rfl) ?_
      refine LS.nil ?_
      refine W.seqR ?_
      refine LS.vv rfl rfl (by decide) (Val.move rfl) ?_
      refine LS.vv rfl rfl (by decide) (Val.move rfl) ?_
      refine LS.m rfl (Step.call body26 rfl rfl (by decide) rfl (CallsV.mono (products_any R M _ (by omega)) ?_))
      rintro _ w3 ⟨pp, cp, rfl, hOp, hb3⟩
      replace hM := hM.add hB.size hb3 hOp
      replace hB := hB.trans (hb3.mono hB.size)
      refine LS.vv rfl rfl (by decide) (Val.assign rfl) ?_
      refine LS.nil ?_
      refine W.seqR ?_
      refine LS.vv rfl rfl (by decide) (Val.move rfl) ?_
      refine LS.vv rfl rfl (by decide) (Val.len Try.underlying54 rfl) ?_
      refine LS.m rfl (Step.make rfl rfl (by decide) Try.underlying22 elem4 rfl rfl rfl (by omega) (by omega) (Nat.le_refl _) ?_)
      rintro w4 hO4 hg4 hbl4
      replace hM := hM.add hB.size hbl4 hO4
      try simp only [bv_app1, bv_app, bv_set, bv_rep, bv_one, bv_cons, bv_take, bv_drop, List.nil_append] at hM
      replace hB := hB.trans (hbl4.mono hB.size)
      generalize w3.heap.size = gg4 at *
      refine LS.vv rfl rfl (by decide) (Val.assign rfl) ?_
      refine LS.nil ?_
      refine W.seq ?_
      refine W.seqR ?_
      refine LS.vv rfl rfl (by decide) (Val.move rfl) ?_
      refine LS.vv rfl rfl (by decide) (Val.assign rfl) ?_
      refine LS.nil ?_
      refine W.block ?_
      rw [show List.replicate (prods R M).length false = cw (prods R M).length (Gd (prods R M) M R (gb L) 0) from cw_rep _] at hM
      rw [show bv L = bv (cw (2 ^ M) (Fd (prods R M) M R (gb L) 0)) from by { have h9 := cw_self L; rw [hL2] at h9; exact congrArg bv h9.symm }] at hM
      rw [hL2] at hM
      rw [hL2]
      replace hM := hM.sw1
      refine W.loop (α := Nat) (fun j => [(11, .int .i64 ((R : Int) - (j : Int)))]) [(2, _), (9, _), (10, _)] (fun j w => (j ≤ R + 1) ∧ Mem w w0.heap.size [⟨4, some ⟨gg4, 0, none⟩, (prods R M).length, (prods R M).length, bv (cw (prods R M).length (Gd (prods R M) M R (gb L) j))⟩, ⟨4, pl, 2 ^ M, cl, bv (cw (2 ^ M) (Fd (prods R M) M R (gb L) j))⟩, ⟨3, pp, (prods R M).length, cp, nv (prods R M)⟩] ∧ Below w0.heap.size w0 w) (fun j => R + 1 - j) (0) (Sub.cons' rfl (by simp) (Sub.nil _)) (Sub.cons rfl (Sub.cons rfl (Sub.cons rfl (Sub.nil _)))) ?_ ?_
      · exact ⟨Nat.zero_le _, hM, hB⟩
      rintro j w5 ⟨hj, hM, hB⟩
      try simp only at hM
      simp only [List.cons_append, List.nil_append]
      refine W.seq ?_
      refine W.seqR ?_
      refine LS.vv rfl rfl (by decide) (Val.move rfl) ?_
      refine LS.vv rfl rfl (by decide) (Val.geq rfl rfl) ?_
      refine LS.nil ?_
      first | refine W.condD rfl (fun hc3 => ?_) (fun hc3 => ?_) | refine W.cond rfl (fun hc3 => ?_) (fun hc3 => ?_)
      ·
        refine W.skip ?_
        refine thenP_normal ?_
        refine W.seq ?_
        refine W.block ?_
        refine W.seq ?_
        refine W.seqR ?_
        refine LS.vv rfl rfl (by decide) (Val.move rfl) ?_
        refine LS.vv rfl rfl (by decide) (Val.len Try.underlying54 rfl) ?_
        refine LS.vv rfl rfl (by decide) (Val.cast (v := .int .i64 ((0 : Nat) : Int)) (Val.move rfl) rfl) ?_
        refine LS.nil ?_
        refine W.block ?_
        rw [pd_zero (prods R M).length (Gd (prods R M) M R (gb L) j) (Gd (prods R M) M R (gb L) (j + 1))] at hM
        refine W.loop (α := Nat) (fun k => [(42, .int .i64 (k : Int))]) [(2, _), (9, _), (10, _), (11, _), (40, _), (41, _)] (fun k w => (k ≤ (prods R M).length) ∧ Mem w w0.heap.size [⟨4, some ⟨gg4, 0, none⟩, (prods R M).length, (prods R M).length, bv (pd (prods R M).length (Gd (prods R M) M R (gb L) j) (Gd (prods R M) M R (gb L) (j + 1)) k)⟩, ⟨4, pl, 2 ^ M, cl, bv (cw (2 ^ M) (Fd (prods R M) M R (gb L) j))⟩, ⟨3, pp, (prods R M).length, cp, nv (prods R M)⟩] ∧ Below w0.heap.size w0 w) (fun k => (prods R M).length - k) (0) (Sub.cons rfl (Sub.nil _)) (Sub.cons rfl (Sub.cons rfl (Sub.cons rfl (Sub.cons rfl (Sub.cons rfl (Sub.cons rfl (Sub.nil _))))))) ?_ ?_
        · exact ⟨Nat.zero_le _, hM, hB⟩
        rintro k w6 ⟨hk, hM, hB⟩
        try simp only at hM
        simp only [List.cons_append, List.nil_append]
        have hpg := fun h : k < (prods R M).length => pd_gb (G := (Gd (prods R M) M R (gb L) j)) (G' := (Gd (prods R M) M R (gb L) (j + 1))) h
        have hgs := Gd_succ (prods R M) M R (gb L) j k
        have hcl : (pd (prods R M).length (Gd (prods R M) M R (gb L) j) (Gd (prods R M) M R (gb L) (j + 1)) k).length = (prods R M).length := cw_len _ _
        refine W.seqR ?_
        refine LS.vv rfl rfl (by decide) (Val.lss rfl rfl) ?_
        refine LS.nil ?_
        refine W.seq ?_
        first | refine W.condD rfl (fun hc4 => ?_) (fun hc4 => ?_) | refine W.cond rfl (fun hc4 => ?_) (fun hc4 => ?_)
        ·
          refine W.skip ?_
          refine thenP_normal ?_
          refine W.seq ?_
          refine W.block ?_
          refine W.seqR ?_
          refine LS.vv rfl rfl (by decide) (Val.move rfl) ?_
          refine LS.vv rfl rfl (by decide) (Val.index1 Try.underlying54 elem3 rfl rfl (by omega) (hM.o2.rd) (nv_lt (by omega))) ?_
          refine LS.m rfl (Step.load rfl rfl (by decide) flat3 rfl (hM.o2.rd) (nv_at (by omega)) ?_)
          refine LS.vv rfl rfl (by decide) (Val.assign rfl) ?_
          refine LS.vv rfl rfl (by decide) (Val.assign rfl) ?_
          refine LS.nil ?_
          refine W.reg ?_
          refine LS.vv rfl rfl (by decide) (Val.move rfl) ?_
          refine LS.vv rfl rfl (by decide) (Val.move rfl) ?_
          refine LS.vv rfl rfl (by decide) (Val.move rfl) ?_
          refine LS.vv rfl rfl (by decide) (Val.move rfl) ?_
          refine LS.vv rfl rfl (by decide) (Val.index1 Try.underlying22 elem4 rfl rfl (by omega) (hM.o0.rd) (bv_lt (by omega))) ?_
          refine LS.m rfl (Step.load rfl rfl (by decide) flat4 rfl (hM.o0.rd) (bv_at (by omega)) ?_)
          refine LS.vv rfl rfl (by decide) (Val.move rfl) ?_
          refine LS.split 6 rfl (fun hg5 => ?_) (fun hg5 => ?_)
          ·
            first | (have hg5p := of_decide_eq_true hg5) | skip
            refine LS.s rfl rfl rfl hg5 (by decide) ?_
            refine LS.s rfl rfl rfl hg5 (by decide) ?_
            refine LS.s rfl rfl rfl hg5 (by decide) ?_
            refine LS.s rfl rfl rfl hg5 (by decide) ?_
            refine LS.s rfl rfl rfl hg5 (by decide) ?_
            refine LS.skipU rfl rfl rfl (by decide) ?_
            refine LS.skipU rfl rfl rfl (by decide) ?_
            refine LS.skipU rfl rfl rfl (by decide) ?_
            refine LS.s rfl rfl rfl hg5 (by decide) ?_
            refine LS.vv rfl rfl (by decide) (Val.pickT rfl hg5 rfl) ?_
            refine LS.vv rfl rfl (by decide) (Val.index1 Try.underlying22 elem4 rfl rfl (by omega) (hM.o0.rd) (bv_lt (by omega))) ?_
            refine LS.m rfl (Step.store (B := w0.heap.size) rfl rfl flat4 elem4 rfl rfl rfl (hM.o0) (by omega) hB.size ?_)
            rintro w7 hO7 hg7 hbl7 hsz7
            replace hM := hM.s0 hg7 hO7 inl_block
            try simp only [bv_app1, bv_app, bv_set, bv_rep, bv_one, bv_cons, bv_take, bv_drop, List.nil_append] at hM
            replace hB := hB.trans hbl7
            refine LS.nil ?_
            refine inBlk_normal ?_
            refine thenP_normal ?_
            refine W.reg ?_
            first | refine LS.vv rfl rfl (by decide) (Val.addN (j := 1) rfl rfl (by omega)) ?_ | refine LS.vv rfl rfl (by decide) (Val.add64 rfl rfl (by omega)) ?_
            refine LS.vv rfl rfl (by decide) (Val.move rfl) ?_
            refine LS.nil ?_
            refine thenP_normal ?_
            replace hpg := hpg (by omega)
            first
              | rw [pd_set (b := true) (by rw [hgs, ← hpg]; simp [*])] at hM
              | rw [pd_set (b := false) (by rw [hgs, ← hpg, show gb (pd (prods R M).length (Gd (prods R M) M R (gb L) j) (Gd (prods R M) M R (gb L) (j + 1)) k) k = false by assumption, show decide (deg (gn (prods R M) k) + j = R) = false from decide_eq_false (by omega)]; rfl)] at hM
              | rw [pd_set (by rw [hgs, ← hpg, show gb (pd (prods R M).length (Gd (prods R M) M R (gb L) j) (Gd (prods R M) M R (gb L) (j + 1)) k) k = false by assumption, show decide (deg (gn (prods R M) k) + j = R) = true from decide_eq_true (by omega), Bool.false_or, Bool.true_and]; unfold vt; rw [yesP_congr (fun x hx => cw_gb hx)])] at hM
            refine ⟨k + 1, ?_, ?_, ⟨by omega, hM, hB⟩, by omega⟩
            · exact (Sub.cons rfl (Sub.nil _))
            · repeat (first | exact Sub.nil _ | refine Sub.cons rfl ?_)
          ·
            first | (have hg5p := of_decide_eq_false hg5) | skip
            refine LS.vg rfl rfl rfl hg5 (by decide) (Val.move rfl) ?_
            have hq := hP.lt k (by omega)
            refine LS.mg rfl rfl hg5 (Step.call body29 rfl rfl (by decide) rfl (CallsV.mono (degree_any (gn (prods R M) k) _ (by omega)) ?_))
            rintro _ w8 ⟨rfl, hb8⟩
            replace hM := hM.below hb8
            replace hB := hB.trans (hb8.mono hB.size)
            refine LS.vg rfl rfl rfl hg5 (by decide) (Val.move rfl) ?_
            refine LS.vg rfl rfl rfl hg5 (by decide) (Val.eql rfl rfl) ?_
            refine LS.vg rfl rfl rfl hg5 (by decide) (Val.move rfl) ?_
            refine LS.split 11 rfl (fun hg6 => ?_) (fun hg6 => ?_)
            ·
              first | (have hg6p := of_decide_eq_true hg6) | skip
              refine LS.vg rfl rfl rfl hg6 (by decide) (Val.move rfl) ?_
              refine LS.vg rfl rfl rfl hg6 (by decide) (Val.move rfl) ?_
              refine LS.mg rfl rfl hg6 (Step.call body30 rfl rfl (by decide) rfl (CallsV.mono (vote_any (cw (2 ^ M) (Fd (prods R M) M R (gb L) j)) (gn (prods R M) k) M _ _ _ _ hM.o1.rd (cw_len _ _) (by omega) rfl hq) ?_))
              rintro _ w9 ⟨rfl, hb9⟩
              replace hM := hM.below hb9
              replace hB := hB.trans (hb9.mono hB.size)
              refine LS.vg rfl rfl rfl hg5 (by decide) (Val.pickT rfl hg6 rfl) ?_
              refine LS.vv rfl rfl (by decide) (Val.pickF rfl hg5 rfl) ?_
              refine LS.vv rfl rfl (by decide) (Val.index1 Try.underlying22 elem4 rfl rfl (by omega) (hM.o0.rd) (bv_lt (by omega))) ?_
              refine LS.m rfl (Step.store (B := w0.heap.size) rfl rfl flat4 elem4 rfl rfl rfl (hM.o0) (by omega) hB.size ?_)
              rintro w10 hO10 hg10 hbl10 hsz10
              replace hM := hM.s0 hg10 hO10 inl_block
              try simp only [bv_app1, bv_app, bv_set, bv_rep, bv_one, bv_cons, bv_take, bv_drop, List.nil_append] at hM
              replace hB := hB.trans hbl10
              refine LS.nil ?_
              refine inBlk_normal ?_
              refine thenP_normal ?_
              refine W.reg ?_
              first | refine LS.vv rfl rfl (by decide) (Val.addN (j := 1) rfl rfl (by omega)) ?_ | refine LS.vv rfl rfl (by decide) (Val.add64 rfl rfl (by omega)) ?_
              refine LS.vv rfl rfl (by decide) (Val.move rfl) ?_
              refine LS.nil ?_
              refine thenP_normal ?_
              replace hpg := hpg (by omega)
              first
                | rw [pd_set (b := true) (by rw [hgs, ← hpg]; simp [*])] at hM
                | rw [pd_set (b := false) (by rw [hgs, ← hpg, show gb (pd (prods R M).length (Gd (prods R M) M R (gb L) j) (Gd (prods R M) M R (gb L) (j + 1)) k) k = false by assumption, show decide (deg (gn (prods R M) k) + j = R) = false from decide_eq_false (by omega)]; rfl)] at hM
                | rw [pd_set (by rw [hgs, ← hpg, show gb (pd (prods R M).length (Gd (prods R M) M R (gb L) j) (Gd (prods R M) M R (gb L) (j + 1)) k) k = false by assumption, show decide (deg (gn (prods R M) k) + j = R) = true from decide_eq_true (by omega), Bool.false_or, Bool.true_and]; unfold vt; rw [yesP_congr (fun x hx => cw_gb hx)])] at hM
              refine ⟨k + 1, ?_, ?_, ⟨by omega, hM, hB⟩, by omega⟩
              · exact (Sub.cons rfl (Sub.nil _))
              · repeat (first | exact Sub.nil _ | refine Sub.cons rfl ?_)
            ·
              first | (have hg6p := of_decide_eq_false hg6) | skip
              refine LS.s rfl rfl rfl hg6 (by decide) ?_
              refine LS.s rfl rfl rfl hg6 (by decide) ?_
              refine LS.s rfl rfl rfl hg6 (by decide) ?_
              refine LS.vg rfl rfl rfl hg5 (by decide) (Val.pickF rfl hg6 rfl) ?_
              refine LS.vv rfl rfl (by decide) (Val.pickF rfl hg5 rfl) ?_
              refine LS.vv rfl rfl (by decide) (Val.index1 Try.underlying22 elem4 rfl rfl (by omega) (hM.o0.rd) (bv_lt (by omega))) ?_
              refine LS.m rfl (Step.store (B := w0.heap.size) rfl rfl flat4 elem4 rfl rfl rfl (hM.o0) (by omega) hB.size ?_)
              rintro w11 hO11 hg11 hbl11 hsz11
              replace hM := hM.s0 hg11 hO11 inl_block
              try simp only [bv_app1, bv_app, bv_set, bv_rep, bv_one, bv_cons, bv_take, bv_drop, List.nil_append] at hM
              replace hB := hB.trans hbl11
              refine LS.nil ?_
              refine inBlk_normal ?_
              refine thenP_normal ?_
              refine W.reg ?_
              first | refine LS.vv rfl rfl (by decide) (Val.addN (j := 1) rfl rfl (by omega)) ?_ | refine LS.vv rfl rfl (by decide) (Val.add64 rfl rfl (by omega)) ?_
              refine LS.vv rfl rfl (by decide) (Val.move rfl) ?_
              refine LS.nil ?_
              refine thenP_normal ?_
              replace hpg := hpg (by omega)
              first
                | rw [pd_set (b := true) (by rw [hgs, ← hpg]; simp [*])] at hM
                | rw [pd_set (b := false) (by rw [hgs, ← hpg, show gb (pd (prods R M).length (Gd (prods R M) M R (gb L) j) (Gd (prods R M) M R (gb L) (j + 1)) k) k = false by assumption, show decide (deg (gn (prods R M) k) + j = R) = false from decide_eq_false (by omega)]; rfl)] at hM
                | rw [pd_set (by rw [hgs, ← hpg, show gb (pd (prods R M).length (Gd (prods R M) M R (gb L) j) (Gd (prods R M) M R (gb L) (j + 1)) k) k = false by assumption, show decide (deg (gn (prods R M) k) + j = R) = true from decide_eq_true (by omega), Bool.false_or, Bool.true_and]; unfold vt; rw [yesP_congr (fun x hx => cw_gb hx)])] at hM
              refine ⟨k + 1, ?_, ?_, ⟨by omega, hM, hB⟩, by omega⟩
              · exact (Sub.cons rfl (Sub.nil _))
              · repeat (first | exact Sub.nil _ | refine Sub.cons rfl ?_)
        ·
          refine W.exit ?_
          refine thenP_exit ?_
          refine thenP_exit ?_
          refine inBlk_exit ?_
          refine thenP_normal ?_
          refine W.seqR ?_
          refine LS.vv rfl rfl (by decide) (Val.move rfl) ?_
          refine LS.vv rfl rfl (by decide) (Val.len Try.underlying54 rfl) ?_
          refine LS.vv rfl rfl (by decide) (Val.cast (v := .int .i64 ((0 : Nat) : Int)) (Val.move rfl) rfl) ?_
          refine LS.nil ?_
          refine W.block ?_
          obtain rfl : k = (prods R M).length := by omega
          rw [pd_all] at hM
          rw [show cw (2 ^ M) (Fd (prods R M) M R (gb L) j) = (cw (2 ^ M) fun x => xor ((Fd (prods R M) M R (gb L) j) x) (mk (prods R M) (fun i => decide (deg (gn (prods R M) i) + j = R) && (Gd (prods R M) M R (gb L) (j + 1)) i) x 0)) from cw_congr fun x _ => by rw [mk, Bool.xor_false]] at hM
          refine W.loop (α := Nat) (fun k2 => [(68, .int .i64 (k2 : Int))]) [(2, _), (9, _), (10, _), (11, _), (66, _), (67, _)] (fun k2 w => (k2 ≤ (prods R M).length) ∧ Mem w w0.heap.size [⟨4, some ⟨gg4, 0, none⟩, (prods R M).length, (prods R M).length, bv (cw (prods R M).length (Gd (prods R M) M R (gb L) (j + 1)))⟩, ⟨4, pl, 2 ^ M, cl, bv (cw (2 ^ M) fun x => xor ((Fd (prods R M) M R (gb L) j) x) (mk (prods R M) (fun i => decide (deg (gn (prods R M) i) + j = R) && (Gd (prods R M) M R (gb L) (j + 1)) i) x k2))⟩, ⟨3, pp, (prods R M).length, cp, nv (prods R M)⟩] ∧ Below w0.heap.size w0 w) (fun k2 => (prods R M).length - k2) (0) (Sub.cons rfl (Sub.nil _)) (Sub.cons rfl (Sub.cons rfl (Sub.cons rfl (Sub.cons rfl (Sub.cons rfl (Sub.cons rfl (Sub.nil _))))))) ?_ ?_
          · exact ⟨Nat.zero_le _, hM, hB⟩
          rintro k2 w12 ⟨hk2, hM, hB⟩
          try simp only at hM
          simp only [List.cons_append, List.nil_append]
          have hcl2 : (cw (prods R M).length (Gd (prods R M) M R (gb L) (j + 1))).length = (prods R M).length := cw_len _ _
          refine W.seqR ?_
          refine LS.vv rfl rfl (by decide) (Val.lss rfl rfl) ?_
          refine LS.nil ?_
          refine W.seq ?_
          first | refine W.condD rfl (fun hc7 => ?_) (fun hc7 => ?_) | refine W.cond rfl (fun hc7 => ?_) (fun hc7 => ?_)
          ·
            refine W.skip ?_
            refine thenP_normal ?_
            refine W.seq ?_
            refine W.block ?_
            refine W.seqR ?_
            refine LS.vv rfl rfl (by decide) (Val.move rfl) ?_
            refine LS.vv rfl rfl (by decide) (Val.index1 Try.underlying54 elem3 rfl rfl (by omega) (hM.o2.rd) (nv_lt (by omega))) ?_
            refine LS.m rfl (Step.load rfl rfl (by decide) flat3 rfl (hM.o2.rd) (nv_at (by omega)) ?_)
            refine LS.vv rfl rfl (by decide) (Val.assign rfl) ?_
            refine LS.vv rfl rfl (by decide) (Val.assign rfl) ?_
            refine LS.nil ?_
            refine W.seqR ?_
            refine LS.vv rfl rfl (by decide) (Val.move rfl) ?_
            have hq := hP.lt k2 (by omega)
            refine LS.m rfl (Step.call body29 rfl rfl (by decide) rfl (CallsV.mono (degree_any (gn (prods R M) k2) _ (by omega)) ?_))
            rintro _ w13 ⟨rfl, hb13⟩
            replace hM := hM.below hb13
            replace hB := hB.trans (hb13.mono hB.size)
            refine LS.vv rfl rfl (by decide) (Val.move rfl) ?_
            refine LS.vv rfl rfl (by decide) (Val.eql rfl rfl) ?_
            refine LS.vv rfl rfl (by decide) (Val.move rfl) ?_
            refine LS.split 4 rfl (fun hg8 => ?_) (fun hg8 => ?_)
            ·
              first | (have hg8p := of_decide_eq_true hg8) | skip
              refine LS.vg rfl rfl rfl hg8 (by decide) (Val.move rfl) ?_
              refine LS.vg rfl rfl rfl hg8 (by decide) (Val.move rfl) ?_
              refine LS.vg rfl rfl rfl hg8 (by decide) (Val.index1 Try.underlying22 elem4 rfl rfl (by omega) (hM.o0.rd) (bv_lt (by omega))) ?_
              refine LS.mg rfl rfl hg8 (Step.load rfl rfl (by decide) flat4 rfl (hM.o0.rd) (bv_at (by omega)) ?_)
              refine LS.vv rfl rfl (by decide) (Val.pickT rfl hg8 rfl) ?_
              refine LS.nil ?_
              first | refine W.condD rfl (fun hc9 => ?_) (fun hc9 => ?_) | refine W.cond rfl (fun hc9 => ?_) (fun hc9 => ?_)
              ·
                refine W.reg ?_
                refine LS.vv rfl rfl (by decide) (Val.move rfl) ?_
                refine LS.vv rfl rfl (by decide) (Val.move rfl) ?_
                replace hM := hM.sw0
                refine LS.m rfl (Step.call body27 rfl rfl (by decide) rfl (CallsV.mono (add_any (cw (2 ^ M) fun x => xor ((Fd (prods R M) M R (gb L) j) x) (mk (prods R M) (fun i => decide (deg (gn (prods R M) i) + j = R) && (Gd (prods R M) M R (gb L) (j + 1)) i) x k2)) (gn (prods R M) k2) _ _ _ _ _ _ hM hB.size (cw_len _ _) (by omega) (by omega)) ?_))
                rintro _ w14 ⟨rfl, hM14, hb14⟩
                replace hM := hM14
                replace hB := hB.trans hb14
                refine LS.nil ?_
                refine inBlk_normal ?_
                refine thenP_normal ?_
                refine W.reg ?_
                first | refine LS.vv rfl rfl (by decide) (Val.addN (j := 1) rfl rfl (by omega)) ?_ | refine LS.vv rfl rfl (by decide) (Val.add64 rfl rfl (by omega)) ?_
                refine LS.vv rfl rfl (by decide) (Val.move rfl) ?_
                refine LS.nil ?_
                refine thenP_normal ?_
                replace hM := hM.sw0
                first
                  | (have hst : (cw (2 ^ M) fun x => xor ((Fd (prods R M) M R (gb L) j) x) (mk (prods R M) (fun i => decide (deg (gn (prods R M) i) + j = R) && (Gd (prods R M) M R (gb L) (j + 1)) i) x (k2 + 1))) = addK (cw (2 ^ M) fun x => xor ((Fd (prods R M) M R (gb L) j) x) (mk (prods R M) (fun i => decide (deg (gn (prods R M) i) + j = R) && (Gd (prods R M) M R (gb L) (j + 1)) i) x k2)) (gn (prods R M) k2) (2 ^ M) := (by rw [addK_cw]; refine cw_congr fun x _ => ?_; have h1 : decide (deg (gn (prods R M) k2) + j = R) = true := decide_eq_true (by omega); have h2 : (Gd (prods R M) M R (gb L) (j + 1)) k2 = true := (by rw [← cw_gb (f := (Gd (prods R M) M R (gb L) (j + 1))) (show k2 < (prods R M).length by omega)]; assumption); rw [mk]; simp only [h1, h2, Bool.true_and]; rw [Bool.xor_assoc])
                     rw [← hst] at hM)
                  | (have hst : (cw (2 ^ M) fun x => xor ((Fd (prods R M) M R (gb L) j) x) (mk (prods R M) (fun i => decide (deg (gn (prods R M) i) + j = R) && (Gd (prods R M) M R (gb L) (j + 1)) i) x (k2 + 1))) = (cw (2 ^ M) fun x => xor ((Fd (prods R M) M R (gb L) j) x) (mk (prods R M) (fun i => decide (deg (gn (prods R M) i) + j = R) && (Gd (prods R M) M R (gb L) (j + 1)) i) x k2)) := (by refine cw_congr fun x _ => ?_; have h3 : (decide (deg (gn (prods R M) k2) + j = R) && (Gd (prods R M) M R (gb L) (j + 1)) k2) = false := (by first | (rw [show decide (deg (gn (prods R M) k2) + j = R) = false from decide_eq_false (by omega)]; rfl) | (rw [show (Gd (prods R M) M R (gb L) (j + 1)) k2 = false from (by rw [← cw_gb (f := (Gd (prods R M) M R (gb L) (j + 1))) (show k2 < (prods R M).length by omega)]; assumption), Bool.and_false])); rw [mk]; simp only [h3, Bool.false_and, Bool.xor_false])
                     rw [← hst] at hM)
                refine ⟨k2 + 1, ?_, ?_, ⟨by omega, hM, hB⟩, by omega⟩
                · exact (Sub.cons rfl (Sub.nil _))
                · repeat (first | exact Sub.nil _ | refine Sub.cons rfl ?_)
              ·
                refine W.skip ?_
                refine inBlk_normal ?_
                refine thenP_normal ?_
                refine W.reg ?_
                first | refine LS.vv rfl rfl (by decide) (Val.addN (j := 1) rfl rfl (by omega)) ?_ | refine LS.vv rfl rfl (by decide) (Val.add64 rfl rfl (by omega)) ?_
                refine LS.vv rfl rfl (by decide) (Val.move rfl) ?_
                refine LS.nil ?_
                refine thenP_normal ?_
                first
                  | (have hst : (cw (2 ^ M) fun x => xor ((Fd (prods R M) M R (gb L) j) x) (mk (prods R M) (fun i => decide (deg (gn (prods R M) i) + j = R) && (Gd (prods R M) M R (gb L) (j + 1)) i) x (k2 + 1))) = addK (cw (2 ^ M) fun x => xor ((Fd (prods R M) M R (gb L) j) x) (mk (prods R M) (fun i => decide (deg (gn (prods R M) i) + j = R) && (Gd (prods R M) M R (gb L) (j + 1)) i) x k2)) (gn (prods R M) k2) (2 ^ M) := (by rw [addK_cw]; refine cw_congr fun x _ => ?_; have h1 : decide (deg (gn (prods R M) k2) + j = R) = true := decide_eq_true (by omega); have h2 : (Gd (prods R M) M R (gb L) (j + 1)) k2 = true := (by rw [← cw_gb (f := (Gd (prods R M) M R (gb L) (j + 1))) (show k2 < (prods R M).length by omega)]; assumption); rw [mk]; simp only [h1, h2, Bool.true_and]; rw [Bool.xor_assoc])
                     rw [← hst] at hM)
                  | (have hst : (cw (2 ^ M) fun x => xor ((Fd (prods R M) M R (gb L) j) x) (mk (prods R M) (fun i => decide (deg (gn (prods R M) i) + j = R) && (Gd (prods R M) M R (gb L) (j + 1)) i) x (k2 + 1))) = (cw (2 ^ M) fun x => xor ((Fd (prods R M) M R (gb L) j) x) (mk (prods R M) (fun i => decide (deg (gn (prods R M) i) + j = R) && (Gd (prods R M) M R (gb L) (j + 1)) i) x k2)) := (by refine cw_congr fun x _ => ?_; have h3 : (decide (deg (gn (prods R M) k2) + j = R) && (Gd (prods R M) M R (gb L) (j + 1)) k2) = false := (by first | (rw [show decide (deg (gn (prods R M) k2) + j = R) = false from decide_eq_false (by omega)]; rfl) | (rw [show (Gd (prods R M) M R (gb L) (j + 1)) k2 = false from (by rw [← cw_gb (f := (Gd (prods R M) M R (gb L) (j + 1))) (show k2 < (prods R M).length by omega)]; assumption), Bool.and_false])); rw [mk]; simp only [h3, Bool.false_and, Bool.xor_false])
                     rw [← hst] at hM)
                refine ⟨k2 + 1, ?_, ?_, ⟨by omega, hM, hB⟩, by omega⟩
                · exact (Sub.cons rfl (Sub.nil _))
                · repeat (first | exact Sub.nil _ | refine Sub.cons rfl ?_)
            ·
              first | (have hg8p := of_decide_eq_false hg8) | skip
              refine LS.s rfl rfl rfl hg8 (by decide) ?_
              refine LS.s rfl rfl rfl hg8 (by decide) ?_
              refine LS.s rfl rfl rfl hg8 (by decide) ?_
              refine LS.s rfl rfl rfl hg8 (by decide) ?_
              refine LS.vv rfl rfl (by decide) (Val.pickF rfl hg8 rfl) ?_
              refine LS.nil ?_
              refine W.condF rfl ?_
              refine W.skip ?_
              refine inBlk_normal ?_
              refine thenP_normal ?_
              refine W.reg ?_
              first | refine LS.vv rfl rfl (by decide) (Val.addN (j := 1) rfl rfl (by omega)) ?_ | refine LS.vv rfl rfl (by decide) (Val.add64 rfl rfl (by omega)) ?_
              refine LS.vv rfl rfl (by decide) (Val.move rfl) ?_
              refine LS.nil ?_
              refine thenP_normal ?_
              first
                | (have hst : (cw (2 ^ M) fun x => xor ((Fd (prods R M) M R (gb L) j) x) (mk (prods R M) (fun i => decide (deg (gn (prods R M) i) + j = R) && (Gd (prods R M) M R (gb L) (j + 1)) i) x (k2 + 1))) = addK (cw (2 ^ M) fun x => xor ((Fd (prods R M) M R (gb L) j) x) (mk (prods R M) (fun i => decide (deg (gn (prods R M) i) + j = R) && (Gd (prods R M) M R (gb L) (j + 1)) i) x k2)) (gn (prods R M) k2) (2 ^ M) := (by rw [addK_cw]; refine cw_congr fun x _ => ?_; have h1 : decide (deg (gn (prods R M) k2) + j = R) = true := decide_eq_true (by omega); have h2 : (Gd (prods R M) M R (gb L) (j + 1)) k2 = true := (by rw [← cw_gb (f := (Gd (prods R M) M R (gb L) (j + 1))) (show k2 < (prods R M).length by omega)]; assumption); rw [mk]; simp only [h1, h2, Bool.true_and]; rw [Bool.xor_assoc])
                   rw [← hst] at hM)
                | (have hst : (cw (2 ^ M) fun x => xor ((Fd (prods R M) M R (gb L) j) x) (mk (prods R M) (fun i => decide (deg (gn (prods R M) i) + j = R) && (Gd (prods R M) M R (gb L) (j + 1)) i) x (k2 + 1))) = (cw (2 ^ M) fun x => xor ((Fd (prods R M) M R (gb L) j) x) (mk (prods R M) (fun i => decide (deg (gn (prods R M) i) + j = R) && (Gd (prods R M) M R (gb L) (j + 1)) i) x k2)) := (by refine cw_congr fun x _ => ?_; have h3 : (decide (deg (gn (prods R M) k2) + j = R) && (Gd (prods R M) M R (gb L) (j + 1)) k2) = false := (by first | (rw [show decide (deg (gn (prods R M) k2) + j = R) = false from decide_eq_false (by omega)]; rfl) | (rw [show (Gd (prods R M) M R (gb L) (j + 1)) k2 = false from (by rw [← cw_gb (f := (Gd (prods R M) M R (gb L) (j + 1))) (show k2 < (prods R M).length by omega)]; assumption), Bool.and_false])); rw [mk]; simp only [h3, Bool.false_and, Bool.xor_false])
                   rw [← hst] at hM)
              refine ⟨k2 + 1, ?_, ?_, ⟨by omega, hM, hB⟩, by omega⟩
              · exact (Sub.cons rfl (Sub.nil _))
              · repeat (first | exact Sub.nil _ | refine Sub.cons rfl ?_)
          ·
            refine W.exit ?_
            refine thenP_exit ?_
            refine thenP_exit ?_
            refine inBlk_exit ?_
            refine inBlk_normal ?_
            refine thenP_normal ?_
            refine W.reg ?_
            refine LS.vv rfl rfl (by decide) (Val.move rfl) ?_
            refine LS.vv rfl rfl (by decide) (Val.cast (v := .int .i64 ((R : Int) - ((j + 1 : Nat) : Int))) (Val.sub64 (j := 1) rfl rfl (by omega)) (by congr 1; omega)) ?_
            refine LS.vv rfl rfl (by decide) (Val.assign rfl) ?_
            refine LS.nil ?_
            refine thenP_normal ?_
            obtain rfl : k2 = (prods R M).length := by omega
            rw [show (cw (2 ^ M) fun x => xor ((Fd (prods R M) M R (gb L) j) x) (mk (prods R M) (fun i => decide (deg (gn (prods R M) i) + j = R) && (Gd (prods R M) M R (gb L) (j + 1)) i) x (prods R M).length)) = cw (2 ^ M) (Fd (prods R M) M R (gb L) (j + 1)) from rfl] at hM
            refine ⟨j + 1, ?_, ?_, ⟨by omega, hM, hB⟩, by omega⟩
            · exact (Sub.cons rfl (Sub.nil _))
            · repeat (first | exact Sub.nil _ | refine Sub.cons rfl ?_)
      ·
        refine W.exit ?_
        refine thenP_exit ?_
        refine thenP_exit ?_
        refine inBlk_exit ?_
        refine thenP_normal ?_
        refine W.seqR ?_
        refine LS.vv rfl rfl (by decide) (Val.move rfl) ?_
        refine LS.vv rfl rfl (by decide) (Val.assign rfl) ?_
        refine LS.vv rfl rfl (by decide) (Val.cast (v := .int .i64 ((0 : Nat) : Int)) (Val.assign rfl) rfl) ?_
        refine LS.nil ?_
        refine W.ret ?_
        refine ret2 (by first | exact .inl rfl | exact .inr rfl) rfl rfl ?_
        first
          | exact ⟨none, 0, [], e0, rfl, Own.nil _ _ _, by omega, fun h => absurd h (by omega), by simp, hB⟩
          | (exact ⟨none, 0, [], 3, rfl, Own.nil _ _ _, ⟨fun h => by omega, fun h => by exfalso; have := h.2; omega⟩, fun h => by omega, by simp, hB⟩)
          | (obtain rfl : j = R + 1 := (by omega)
             have hwl : (cw (prods R M).length (Gd (prods R M) M R (gb L) (R + 1))).length = (prods R M).length := cw_len _ _
             exact ⟨_, (prods R M).length, cw (prods R M).length (Gd (prods R M) M R (gb L) (R + 1)), 0, (by rw [hwl]), (by rw [hwl]; exact hM.o0), ⟨fun _ => ⟨hv, by (try simp only [Int.toNat_natCast]); first | rfl | assumption | omega | trace_state⟩, fun _ => rfl⟩, fun _ => rfl, by omega, hB⟩)

end Go.Proofs.Ytjmpkmomlpgbdaa
