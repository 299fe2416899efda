/-
  The walk of double.Fill.
-/
import Derived.Test.YtnaebllojkodbaaDoubleD
namespace Go.Proofs.Ytnaebllojkodbaa
open Go Go.RowKit V
set_option linter.unusedVariables false

theorem clone_i64 (bs : List Int) (p : Option Addr) (c : Nat) (w0 : World) (hr : Rd w0 p (iv bs)) (hl : bs.length ≤ 1000000) :
    CallsV Try.prog 45 #[.slice p bs.length c] w0 (fun v w => ∃ (p2 : Option Addr) (c2 : Nat), v = .slice p2 bs.length c2 ∧ Own w w0.heap.size 3 p2 bs.length c2 (iv bs) ∧ Below w0.heap.size w0 w) := by
  refine enter1 Try.func45 rfl Try.ntmps45 (by simp) rfl ?_
  have hB := Below.refl w0.heap.size w0
  simp only [argLoc]
  refine W.seqR ?_
  refine LS.vv rfl rfl (by decide) (Val.assign rfl) ?_
  refine LS.nil ?_
  refine W.seq ?_
  refine W.seqR ?_
  refine LS.vv rfl rfl (by decide) (Val.move rfl) ?_
  refine LS.vv rfl rfl (by decide) (Val.eqlNil Try.underlying27 rfl rfl) ?_
  refine LS.nil ?_
  first | refine W.condD rfl (fun hc1 => ?_) (fun hc1 => ?_) | refine W.cond rfl (fun hc1 => ?_) (fun hc1 => ?_)
  ·
    refine W.seqR ?_
    refine LS.vv rfl rfl (by decide) (Val.assign rfl) ?_
    refine LS.nil ?_
    refine W.ret ?_
    refine thenP_ret ?_
    refine ret1 (by first | exact .inl rfl | exact .inr rfl) rfl ?_
    obtain rfl := Option.isNone_iff_eq_none.1 ‹_›
    have hn := hr.none_nil
    obtain rfl : bs = [] := by simpa [iv] using hn
    exact ⟨none, 0, rfl, Own.nil _ _ _, hB⟩
  ·
    refine W.skip ?_
    refine thenP_normal ?_
    refine W.seqR ?_
    refine LS.m rfl (Step.lit (B := w0.heap.size) rfl rfl (by decide) Try.underlying27 elem3 rfl rfl (by omega) (by simp [Value.oneCell']) hB.size ?_)
    rintro w1 hO1 hg1 hbl1 hsz1
    replace hB := hB.trans (hbl1.mono hB.size)
    refine LS.vv rfl rfl (by decide) (Val.move rfl) ?_
    refine LS.m rfl (Step.append (B := w0.heap.size) rfl rfl (by decide) Try.underlying27 elem3 rfl rfl rfl rfl (hO1) (hr.below hB) (by simp) (one_map _ (fun _ => rfl) _) (by omega) (by omega) hB.size ?_)
    rintro p2 c2 w2 hO2 hg2 hbl2
    replace hB := hB.trans hbl2
    refine LS.vv rfl rfl (by decide) (Val.assign rfl) ?_
    refine LS.nil ?_
    refine W.ret ?_
    refine ret1 (by first | exact .inl rfl | exact .inr rfl) rfl ?_
    have hz : (0 : Nat) + bs.length = bs.length := Nat.zero_add _
    rw [hz] at hO2 ⊢
    exact ⟨_, _, rfl, by simpa using hO2, hB⟩

theorem nv_cast (l : List Nat) : nv l = iv (l.map fun x : Nat => (x : Int)) := by simp [nv, iv]
theorem okF_of {x : Int} {y : Nat} (h : x = y) (hy : y < 16) : OkF [x] := fun z hz => by
  obtain rfl : z = x := by simpa using hz
  omega
theorem solve_facts {F : List Nat} {ls : List Bool} {n : Nat} (hs : Sm F) (hF : F.length = n + 2) : (solve F ls n).length = n ∧ Sm (solve F ls n) := by
  have hst := sm_take hs n
  have htl : (F.take n).length = n := by rw [List.length_take]; omega
  obtain ⟨g1, g2, _⟩ := dfill_facts (ins := pos ls n) (h := !gb ls n) hst (xor16 (pS_lt hst) (hs n)) (xor16 (qS_lt hst) (hs (n + 1))) (fun b hb => by rw [htl]; exact (pos_mem.1 hb).1)
  exact ⟨g1.trans htl, g2⟩
theorem fits_no1 {F D : List Nat} {ls : List Bool} {n : Nat} {z : Int} (h : (!gb ls n) = true) (hk : gb ls n = false → z = (gn F n : Int)) (hne : (pS D : Int) ≠ z) : fits F ls n D = false := by
  have h0 : gb ls n = false := by simpa using h
  rw [hk h0] at hne
  unfold fits
  rw [h0, decide_eq_false (fun e => hne (by rw [e]))]; rfl
theorem fits_no2 {F D : List Nat} {ls : List Bool} {n : Nat} {z : Int} (h : (!gb ls (n + 1)) = true) (hk : gb ls (n + 1) = false → z = (gn F (n + 1) : Int)) (hne : (qS D : Int) ≠ z) : fits F ls n D = false := by
  have h0 : gb ls (n + 1) = false := by simpa using h
  rw [hk h0] at hne
  unfold fits
  rw [h0, decide_eq_false (fun e : qS D = gn F (n + 1) => hne (by rw [e]))]; simp
theorem fits_yes {F D : List Nat} {ls : List Bool} {n : Nat} {z1 z2 : Int} (hk1 : gb ls n = false → z1 = (gn F n : Int)) (hk2 : gb ls (n + 1) = false → z2 = (gn F (n + 1) : Int)) (h1 : gb ls n = true ∨ (pS D : Int) = z1) (h2 : gb ls (n + 1) = true ∨ (qS D : Int) = z2) : fits F ls n D = true := by
  unfold fits
  cases hb1 : gb ls n <;> cases hb2 : gb ls (n + 1)
  · have e1 := h1.resolve_left (by simp [hb1]); have e2 := h2.resolve_left (by simp [hb2]); rw [hk1 hb1] at e1; rw [hk2 hb2] at e2; simp; omega
  · have e1 := h1.resolve_left (by simp [hb1]); rw [hk1 hb1] at e1; simp; omega
  · have e2 := h2.resolve_left (by simp [hb2]); rw [hk2 hb2] at e2; simp; omega
  · rfl
theorem clone_nat (l : List Nat) (p : Option Addr) (c m : Nat) (w0 : World) (hr : Rd w0 p (nv l)) (hm : l.length = m) (hl : m ≤ 1000000) : CallsV Try.prog 45 #[.slice p m c] w0 (fun v w => ∃ (p2 : Option Addr) (c2 : Nat), v = .slice p2 m c2 ∧ Own w w0.heap.size 3 p2 m c2 (nv l) ∧ Below w0.heap.size w0 w) := by
  subst hm
  have := clone_i64 (l.map fun x : Nat => (x : Int)) p c w0 (by rw [← nv_cast]; exact hr) (by simpa using hl)
  rw [← nv_cast, List.length_map] at this
  exact this
theorem gz_set {l : List Int} {a j : Nat} {x : Int} (h : a < l.length) : gz (l.set a x) j = if j = a then x else gz l j := by
  unfold gz
  simp only [List.getD_eq_getElem?_getD, List.getElem?_set]
  by_cases e : a = j
  · subst e; simp [h]
  · simp [e, Ne.symm e]
theorem cast_of {F : List Nat} {ys : List Int} (hl : ys.length = F.length) (h : ∀ j, j < F.length → gz ys j = gn F j) : iv ys = nv F := by
  rw [nv_cast]
  congr 1
  refine gz_eq_of (by simpa using hl) fun j hj => ?_
  rw [h j (by omega), gz_lt (by simp; omega), List.getElem_map, gn_lt (by omega)]
theorem np_pos (ls : List Bool) (n : Nat) : np (pos ls (n + 2)) (fun x => decide ((n : Int) ≤ (x : Int))) (pos ls (n + 2)).length = pos ls n := by
  unfold np
  rw [List.take_length, ← pos_cut ls n]
  refine List.filter_congr fun a _ => ?_
  congr 1
  rw [decide_eq_decide]; omega

theorem Fill_any (F : List Nat) (L : List Int) (ls : List Bool) (n : Nat) (pl plo : Option Addr) (cl clo : Nat) (w0 : World) (hr : Rd w0 pl (iv L)) (hrl : Rd w0 plo (bv ls)) (hL : L.length = n + 2) (hls : ls.length = n + 2) (hF : F.length = n + 2) (h1 : 1 ≤ n) (h12 : n ≤ 12) (hs : Sm F) (hc : (pos ls (n + 2)).length ≤ 2)
    (hk : ∀ j, j < n + 2 → gb ls j = false → gz L j = gn F j) (hz : ∀ j, j < n + 2 → gb ls j = true → gn F j = 0) :
    CallsV Try.prog 30 #[.slice pl L.length cl, .slice plo ls.length clo] w0 (fun v w => ∃ (p2 : Option Addr) (c2 : Nat) (D : List Nat) (e : Nat), v = .tuple #[.slice p2 D.length c2, .int .i64 (e : Int)] ∧ Rd w p2 (nv D) ∧ (fits F ls n (solve F ls n) = true → e = 0 ∧ D = solve F ls n) ∧ (fits F ls n (solve F ls n) = false → e = 8 ∧ D = []) ∧ Below w0.heap.size w0 w) := by
  refine enter2 Try.func30 rfl Try.ntmps30 (by simp) rfl ?_
  have hB := Below.refl w0.heap.size w0
  simp only [argLoc, Nat.zero_add]
  have hM := Mem.nil w0 w0.heap.size
  refine W.seqR ?_
  refine LS.vv rfl rfl (by decide) (Val.assign rfl) ?_
  refine LS.vv rfl rfl (by decide) (Val.cast (v := .int .i64 ((0 : Nat) : Int)) (Val.assign rfl) rfl) ?_
  refine LS.nil ?_
  refine W.seqR ?_
  refine LS.vv rfl rfl (by decide) (Val.move rfl) ?_
  refine LS.vv rfl rfl (by decide) (Val.len Try.underlying27 rfl) ?_
  refine LS.vv rfl rfl (by decide) (Val.cast (Val.subN (i := L.length) (j := 2) rfl rfl (by omega) (by omega)) (congrArg (Value.int .i64) (show ((L.length - 2 : Nat) : Int) = (n : Int) by omega))) ?_
  refine LS.m rfl (Step.alloc rfl rfl (by decide) elem3 rfl (by decide) ?_)
  rintro w1 hO1 hg1 hbl1 hsz1
  replace hM := hM.add hB.size hbl1 hO1
  replace hB := hB.trans (hbl1.mono hB.size)
  skip
  refine LS.m rfl (Step.storeBox (B := w0.heap.size) rfl rfl flat3 elem3 rfl rfl rfl (hM.o0) hB.size ?_)
  rintro w2 hO2 hg2 hbl2 hsz2
  replace hM := hM.s0 hg2 hO2 inl_block
  replace hB := hB.trans hbl2
  refine LS.nil ?_
  refine W.seq ?_
  refine W.seqR ?_
  refine LS.m rfl (Step.loadBox rfl rfl (by decide) flat3 rfl (hM.o0.rd) ?_)
  refine LS.vv rfl rfl (by decide) (Val.lss rfl rfl) ?_
  refine LS.vv rfl rfl (by decide) (Val.move rfl) ?_
  refine LS.split 2 rfl (fun hg1 => ?_) (fun hg1 => ?_)
  ·
    first | (have hg1p := of_decide_eq_true hg1) | skip
    refine LS.s rfl rfl rfl hg1 (by decide) ?_
    refine LS.s rfl rfl rfl hg1 (by decide) ?_
    refine LS.s rfl rfl rfl hg1 (by decide) ?_
    refine LS.s rfl rfl rfl hg1 (by decide) ?_
    refine LS.s rfl rfl rfl hg1 (by decide) ?_
    refine LS.vv rfl rfl (by decide) (Val.pickT rfl hg1 rfl) ?_
    refine LS.nil ?_
    refine W.condT rfl ?_
    refine W.seqR ?_
    refine LS.vv rfl rfl (by decide) (Val.assign rfl) ?_
    refine LS.vv rfl rfl (by decide) (Val.cast (v := .int .i64 ((3 : Nat) : Int)) (Val.assign rfl) rfl) ?_
    refine LS.nil ?_
    refine W.ret ?_
    refine thenP_ret ?_
    refine ret2 (by first | exact .inl rfl | exact .inr rfl) rfl rfl ?_
    first | (exfalso; omega) | (refine ⟨none, 0, [], 8, rfl, Rd.nil _ _, fun hf => ?_, fun _ => ⟨rfl, rfl⟩, hB⟩; exfalso; first | (rw [fits_no1 ‹(!gb ls n) = true› (hk n (by omega)) (by omega)] at hf; cases hf; done) | (rw [fits_no2 ‹(!gb ls (n + 1)) = true› (hk (n + 1) (by omega)) (by omega)] at hf; cases hf; done)) | (refine ⟨pa, n, solve F ls n, 0, by rw [hsf.1], (by rw [← hsol]; exact hM.o1.rd.take_nv (k := n)), fun _ => ⟨rfl, rfl⟩, fun hf => ?_, hB⟩; exfalso; rw [fits_yes (hk n (by omega)) (hk (n + 1) (by omega)) (by first | exact .inl (by simpa using ‹(!gb ls n) = false›) | exact .inr (by omega)) (by first | exact .inl (by simpa using ‹(!gb ls (n + 1)) = false›) | exact .inr (by omega))] at hf; cases hf)
  ·
    first | (have hg1p := of_decide_eq_false hg1) | skip
    refine LS.vg rfl rfl rfl hg1 (by decide) (Val.move rfl) ?_
    refine LS.vg rfl rfl rfl hg1 (by decide) (Val.len Try.underlying35 rfl) ?_
    refine LS.vg rfl rfl rfl hg1 (by decide) (Val.move rfl) ?_
    refine LS.vg rfl rfl rfl hg1 (by decide) (Val.len Try.underlying27 rfl) ?_
    refine LS.vg rfl rfl rfl hg1 (by decide) (Val.neq rfl rfl) ?_
    refine LS.vv rfl rfl (by decide) (Val.pickF rfl hg1 rfl) ?_
    refine LS.nil ?_
    first | refine W.condD rfl (fun hc2 => ?_) (fun hc2 => ?_) | refine W.cond rfl (fun hc2 => ?_) (fun hc2 => ?_)
    ·
      refine W.seqR ?_
      refine LS.vv rfl rfl (by decide) (Val.assign rfl) ?_
      refine LS.vv rfl rfl (by decide) (Val.cast (v := .int .i64 ((3 : Nat) : Int)) (Val.assign rfl) rfl) ?_
      refine LS.nil ?_
      refine W.ret ?_
      refine thenP_ret ?_
      refine ret2 (by first | exact .inl rfl | exact .inr rfl) rfl rfl ?_
      first | (exfalso; omega) | (refine ⟨none, 0, [], 8, rfl, Rd.nil _ _, fun hf => ?_, fun _ => ⟨rfl, rfl⟩, hB⟩; exfalso; first | (rw [fits_no1 ‹(!gb ls n) = true› (hk n (by omega)) (by omega)] at hf; cases hf; done) | (rw [fits_no2 ‹(!gb ls (n + 1)) = true› (hk (n + 1) (by omega)) (by omega)] at hf; cases hf; done)) | (refine ⟨pa, n, solve F ls n, 0, by rw [hsf.1], (by rw [← hsol]; exact hM.o1.rd.take_nv (k := n)), fun _ => ⟨rfl, rfl⟩, fun hf => ?_, hB⟩; exfalso; rw [fits_yes (hk n (by omega)) (hk (n + 1) (by omega)) (by first | exact .inl (by simpa using ‹(!gb ls n) = false›) | exact .inr (by omega)) (by first | exact .inl (by simpa using ‹(!gb ls (n + 1)) = false›) | exact .inr (by omega))] at hf; cases hf)
    ·
      refine W.skip ?_
      refine thenP_normal ?_
      refine W.seq ?_
      refine W.seqR ?_
      refine LS.m rfl (Step.loadBox rfl rfl (by decide) flat3 rfl (hM.o0.rd) ?_)
      refine LS.vv rfl rfl (by decide) (Val.gtr rfl rfl) ?_
      refine LS.nil ?_
      first | refine W.condD rfl (fun hc3 => ?_) (fun hc3 => ?_) | refine W.cond rfl (fun hc3 => ?_) (fun hc3 => ?_)
      ·
        refine W.seqR ?_
        refine LS.vv rfl rfl (by decide) (Val.assign rfl) ?_
        refine LS.vv rfl rfl (by decide) (Val.cast (v := .int .i64 ((1 : Nat) : Int)) (Val.assign rfl) rfl) ?_
        refine LS.nil ?_
        refine W.ret ?_
        refine thenP_ret ?_
        refine ret2 (by first | exact .inl rfl | exact .inr rfl) rfl rfl ?_
        first | (exfalso; omega) | (refine ⟨none, 0, [], 8, rfl, Rd.nil _ _, fun hf => ?_, fun _ => ⟨rfl, rfl⟩, hB⟩; exfalso; first | (rw [fits_no1 ‹(!gb ls n) = true› (hk n (by omega)) (by omega)] at hf; cases hf; done) | (rw [fits_no2 ‹(!gb ls (n + 1)) = true› (hk (n + 1) (by omega)) (by omega)] at hf; cases hf; done)) | (refine ⟨pa, n, solve F ls n, 0, by rw [hsf.1], (by rw [← hsol]; exact hM.o1.rd.take_nv (k := n)), fun _ => ⟨rfl, rfl⟩, fun hf => ?_, hB⟩; exfalso; rw [fits_yes (hk n (by omega)) (hk (n + 1) (by omega)) (by first | exact .inl (by simpa using ‹(!gb ls n) = false›) | exact .inr (by omega)) (by first | exact .inl (by simpa using ‹(!gb ls (n + 1)) = false›) | exact .inr (by omega))] at hf; cases hf)
      ·
        refine W.skip ?_
        refine thenP_normal ?_
        refine W.seqR ?_
        refine LS.vv rfl rfl (by decide) (Val.move rfl) ?_
        refine LS.m rfl (Step.call body45 rfl rfl (by decide) rfl (CallsV.mono (clone_i64 L _ _ _ (hr.below hB) (by omega)) ?_))
        rintro _ w3 ⟨pa, ca, rfl, hO, hb3⟩
        replace hM := hM.add hB.size hb3 hO
        replace hB := hB.trans (hb3.mono hB.size)
        refine LS.vv rfl rfl (by decide) (Val.assign rfl) ?_
        refine LS.nil ?_
        refine W.seqR ?_
        refine LS.vv rfl rfl (by decide) (Val.assign rfl) ?_
        refine LS.nil ?_
        refine W.seq ?_
        refine W.seqR ?_
        refine LS.vv rfl rfl (by decide) (Val.move rfl) ?_
        refine LS.vv rfl rfl (by decide) (Val.len Try.underlying27 rfl) ?_
        refine LS.vv rfl rfl (by decide) (Val.cast (v := .int .i64 ((0 : Nat) : Int)) (Val.move rfl) rfl) ?_
        refine LS.nil ?_
        refine W.block ?_
        replace hM := hM.addNil 3
        refine W.loop (α := Nat × (Option Addr × Nat) × List Int) (fun g => [(8, .slice g.2.1.1 (pos ls g.1).length g.2.1.2), (34, .int .i64 (g.1 : Int))]) [(0, _), (1, _), (6, _), (7, _), (32, _), (33, _)] (fun g w => (g.1 ≤ L.length ∧ g.2.2.length = L.length ∧ (∀ j, j < g.1 → gz g.2.2 j = gn F j) ∧ ∀ j, g.1 ≤ j → gz g.2.2 j = gz L j) ∧ Mem w w0.heap.size [⟨3, g.2.1.1, (pos ls g.1).length, g.2.1.2, nv (pos ls g.1)⟩, ⟨3, pa, L.length, ca, iv g.2.2⟩, ⟨3, some ⟨w0.heap.size, 0, none⟩, 1, 1, [.int .i64 (n : Int)]⟩] ∧ Below w0.heap.size w0 w) (fun g => L.length - g.1) ((0, (none, 0), L)) (Sub.cons rfl (Sub.cons rfl (Sub.nil _))) (Sub.cons rfl (Sub.cons rfl (Sub.cons rfl (Sub.cons rfl (Sub.cons rfl (Sub.cons rfl (Sub.nil _))))))) ?_ ?_
        · exact ⟨⟨Nat.zero_le _, rfl, fun j hj => absurd hj (by simp), fun _ _ => rfl⟩, hM, hB⟩
        rintro ⟨k, ⟨pg, cg⟩, ys⟩ w4 ⟨⟨hkl, hyl, hy1, hy2⟩, hM, hB⟩
        try simp only at hM
        simp only [List.cons_append, List.nil_append]
        simp only at hkl hyl hy1 hy2
        have hplk := pos_le ls (show k ≤ n + 2 by omega)
        refine W.seqR ?_
        refine LS.vv rfl rfl (by decide) (Val.lss rfl rfl) ?_
        refine LS.nil ?_
        refine W.seq ?_
        first | refine W.condD rfl (fun hc4 => ?_) (fun hc4 => ?_) | refine W.cond rfl (fun hc4 => ?_) (fun hc4 => ?_)
        ·
          refine W.skip ?_
          refine thenP_normal ?_
          refine W.seq ?_
          refine W.block ?_
          refine W.seqR ?_
          refine LS.vv rfl rfl (by decide) (Val.move rfl) ?_
          refine LS.vv rfl rfl (by decide) (Val.index1 Try.underlying27 elem3 rfl rfl (by omega) ((hr.below hB)) (iv_lt (by omega))) ?_
          refine LS.m rfl (Step.load rfl rfl (by decide) flat3 rfl ((hr.below hB)) (iv_at (by omega)) ?_)
          refine LS.vv rfl rfl (by decide) (Val.assign rfl) ?_
          refine LS.vv rfl rfl (by decide) (Val.assign rfl) ?_
          refine LS.nil ?_
          refine W.seqR ?_
          refine LS.vv rfl rfl (by decide) (Val.move rfl) ?_
          refine LS.vv rfl rfl (by decide) (Val.move rfl) ?_
          refine LS.vv rfl rfl (by decide) (Val.index1 Try.underlying35 elem4 rfl rfl (by omega) ((hrl.below hB)) (bv_lt (by omega))) ?_
          refine LS.m rfl (Step.load rfl rfl (by decide) flat4 rfl ((hrl.below hB)) (bv_at (by omega)) ?_)
          refine LS.nil ?_
          first | refine W.condD rfl (fun hc5 => ?_) (fun hc5 => ?_) | refine W.cond rfl (fun hc5 => ?_) (fun hc5 => ?_)
          ·
            refine W.seqR ?_
            refine LS.vv rfl rfl (by decide) (Val.move rfl) ?_
            refine LS.vv rfl rfl (by decide) (Val.move rfl) ?_
            refine LS.vv rfl rfl (by decide) (Val.index1 Try.underlying27 elem3 rfl rfl (by omega) (hM.o1.rd) (iv_lt (by omega))) ?_
            refine LS.m rfl (Step.store (B := w0.heap.size) rfl rfl flat3 elem3 rfl rfl rfl (hM.o1) (by omega) hB.size ?_)
            rintro w5 hO5 hg5 hbl5 hsz5
            replace hM := hM.s1 hg5 hO5 inl_block
            try simp only [iv_app1, iv_app, iv_set, iv_rep, iv_one, iv_cons, iv_take, iv_drop, List.nil_append] at hM
            replace hB := hB.trans hbl5
            refine LS.nil ?_
            refine W.reg ?_
            refine LS.vv rfl rfl (by decide) (Val.move rfl) ?_
            refine LS.vv rfl rfl (by decide) (Val.move rfl) ?_
            refine LS.m rfl (Step.lit rfl rfl (by decide) Try.underlying27 elem3 rfl rfl (by omega) (by simp [Value.oneCell']) (Nat.le_refl _) ?_)
            rintro w6 hO6 hg6 hbl6 hsz6
            replace hM := hM.add hB.size hbl6 hO6
            try simp only [nv_app1, nv_app, nv_set, nv_rep, nv_one, nv_cons, nv_take, nv_drop, List.nil_append] at hM
            replace hB := hB.trans (hbl6.mono hB.size)
            generalize w5.heap.size = gg6 at *
            refine LS.m rfl (Step.append2 (B := w0.heap.size) rfl rfl (by decide) Try.underlying27 elem3 rfl rfl rfl rfl (hM.o1) (hM.o0.rd) (by first | rfl | (simp; done) | (simp; omega)) (by first | exact one_map _ (fun _ => rfl) _ | simp [Value.oneCell']) (by omega) (by omega) hB.size ?_)
            rintro p7 c7 w7 hO7 hg7 hbl7 hbk7
            replace hM := hM.s1 hg7 hO7 hbk7
            replace hM := hM.tail
            try simp only [nv_app1, nv_app, nv_set, nv_rep, nv_one, nv_cons, nv_take, nv_drop, List.nil_append] at hM
            replace hB := hB.trans hbl7
            refine LS.vv rfl rfl (by decide) (Val.assign rfl) ?_
            refine LS.nil ?_
            refine inBlk_normal ?_
            refine thenP_normal ?_
            refine W.reg ?_
            first | refine LS.vv rfl rfl (by decide) (Val.addN (j := 1) rfl rfl (by omega)) ?_ | refine LS.vv rfl rfl (by decide) (Val.add64 rfl rfl (by omega)) ?_
            refine LS.vv rfl rfl (by decide) (Val.move rfl) ?_
            refine LS.nil ?_
            refine thenP_normal ?_
            have hps : pos ls (k + 1) = pos ls k ++ [k] := by rw [pos_succ, if_pos ‹gb ls k = true›]
            refine ⟨(k + 1, (p7, c7), ys.set k 0), ?_, ?_, ⟨⟨by simp only; omega, by simpa using hyl, fun j hj => ?_, fun j hj => ?_⟩, ?_, hB⟩, by simp only; omega⟩
            · exact Sub.cons' rfl (by simp only [hps, List.length_append, List.length_cons, List.length_nil]) (Sub.cons rfl (Sub.nil _))
            · repeat (first | exact Sub.nil _ | refine Sub.cons rfl ?_)
            · simp only at hj ⊢; rw [gz_set (by omega)]
              by_cases ej : j = k
              · subst ej; rw [if_pos rfl, hz j (by omega) ‹gb ls j = true›]; rfl
              · rw [if_neg ej]; exact hy1 j (by omega)
            · simp only at hj ⊢; rw [gz_set (by omega), if_neg (by omega)]; exact hy2 j (by omega)
            · simp only [hps, List.length_append, List.length_cons, List.length_nil]; exact hM
          ·
            refine W.seqR ?_
            refine LS.vv rfl rfl (by decide) (Val.move rfl) ?_
            refine LS.m rfl (Step.lit rfl rfl (by decide) Try.underlying27 elem3 rfl rfl (by omega) (by simp [Value.oneCell']) (Nat.le_refl _) ?_)
            rintro w8 hO8 hg8 hbl8 hsz8
            replace hM := hM.add hB.size hbl8 hO8
            try simp only [iv_app1, iv_app, iv_set, iv_rep, iv_one, iv_cons, iv_take, iv_drop, List.nil_append] at hM
            replace hB := hB.trans (hbl8.mono hB.size)
            generalize w4.heap.size = gg8 at *
            refine LS.m rfl (Step.call body31 rfl rfl (by decide) rfl (CallsV.mono (fcheck_any [gz L k] _ _ _ hM.o0.rd (by simp)) ?_))
            rintro _ w9 ⟨e, rfl, he, he4, hb9⟩
            replace hM := hM.below hb9
            replace hB := hB.trans (hb9.mono hB.size)
            have hE : e = 0 := he.2 (okF_of (hk k (by omega) (by simp_all)) (hs k))
            refine LS.vv rfl rfl (by decide) (Val.assign rfl) ?_
            refine LS.nil ?_
            refine W.seqR ?_
            refine LS.vv rfl rfl (by decide) (Val.move rfl) ?_
            refine LS.vv rfl rfl (by decide) (Val.neq rfl rfl) ?_
            refine LS.nil ?_
            first | refine W.condD rfl (fun hc6 => ?_) (fun hc6 => ?_) | refine W.cond rfl (fun hc6 => ?_) (fun hc6 => ?_)
            ·
              refine W.seqR ?_
              refine LS.vv rfl rfl (by decide) (Val.move rfl) ?_
              refine LS.vv rfl rfl (by decide) (Val.assign rfl) ?_
              refine LS.vv rfl rfl (by decide) (Val.assign rfl) ?_
              refine LS.nil ?_
              refine W.ret ?_
              refine inBlk_ret ?_
              refine thenP_ret ?_
              refine thenP_ret ?_
              refine inBlk_ret ?_
              refine thenP_ret ?_
              refine ret2 (by first | exact .inl rfl | exact .inr rfl) rfl rfl ?_
              first | (exfalso; omega) | (refine ⟨none, 0, [], 8, rfl, Rd.nil _ _, fun hf => ?_, fun _ => ⟨rfl, rfl⟩, hB⟩; exfalso; first | (rw [fits_no1 ‹(!gb ls n) = true› (hk n (by omega)) (by omega)] at hf; cases hf; done) | (rw [fits_no2 ‹(!gb ls (n + 1)) = true› (hk (n + 1) (by omega)) (by omega)] at hf; cases hf; done)) | (refine ⟨pa, n, solve F ls n, 0, by rw [hsf.1], (by rw [← hsol]; exact hM.o1.rd.take_nv (k := n)), fun _ => ⟨rfl, rfl⟩, fun hf => ?_, hB⟩; exfalso; rw [fits_yes (hk n (by omega)) (hk (n + 1) (by omega)) (by first | exact .inl (by simpa using ‹(!gb ls n) = false›) | exact .inr (by omega)) (by first | exact .inl (by simpa using ‹(!gb ls (n + 1)) = false›) | exact .inr (by omega))] at hf; cases hf)
            ·
              refine W.skip ?_
              refine inBlk_normal ?_
              refine thenP_normal ?_
              refine W.reg ?_
              first | refine LS.vv rfl rfl (by decide) (Val.addN (j := 1) rfl rfl (by omega)) ?_ | refine LS.vv rfl rfl (by decide) (Val.add64 rfl rfl (by omega)) ?_
              refine LS.vv rfl rfl (by decide) (Val.move rfl) ?_
              refine LS.nil ?_
              refine thenP_normal ?_
              have hgf : gb ls k = false := by simp_all
              have hps : pos ls (k + 1) = pos ls k := by rw [pos_succ, if_neg (by simp [hgf]), List.append_nil]
              refine ⟨(k + 1, (pg, cg), ys), ?_, ?_, ⟨⟨by simp only; omega, hyl, fun j hj => ?_, fun j hj => ?_⟩, ?_, hB⟩, by simp only; omega⟩
              · exact Sub.cons' rfl (by simp only [hps]) (Sub.cons rfl (Sub.nil _))
              · repeat (first | exact Sub.nil _ | refine Sub.cons rfl ?_)
              · simp only at hj ⊢
                by_cases ej : j = k
                · subst ej; rw [hy2 j (Nat.le_refl _)]; exact hk j (by omega) hgf
                · exact hy1 j (by omega)
              · exact hy2 j (by simp only at hj; omega)
              · simp only [hps]; exact hM.tail
        ·
          obtain rfl : k = L.length := by omega
          have hyv : iv ys = nv F := cast_of (by omega) fun j hj => hy1 j (by omega)
          rw [hL, hyv] at hM
          rw [hL]
          have hca := hM.o1.le_cap
          refine W.exit ?_
          refine thenP_exit ?_
          refine thenP_exit ?_
          refine inBlk_exit ?_
          refine thenP_normal ?_
          refine W.seq ?_
          refine W.seqR ?_
          refine LS.vv rfl rfl (by decide) (Val.move rfl) ?_
          refine LS.vv rfl rfl (by decide) (Val.len Try.underlying27 rfl) ?_
          refine LS.vv rfl rfl (by decide) (Val.gtr rfl rfl) ?_
          refine LS.nil ?_
          first | refine W.condD rfl (fun hc7 => ?_) (fun hc7 => ?_) | refine W.cond rfl (fun hc7 => ?_) (fun hc7 => ?_)
          ·
            refine W.seqR ?_
            refine LS.vv rfl rfl (by decide) (Val.assign rfl) ?_
            refine LS.vv rfl rfl (by decide) (Val.cast (v := .int .i64 ((5 : Nat) : Int)) (Val.assign rfl) rfl) ?_
            refine LS.nil ?_
            refine W.ret ?_
            refine thenP_ret ?_
            refine ret2 (by first | exact .inl rfl | exact .inr rfl) rfl rfl ?_
            first | (exfalso; omega) | (refine ⟨none, 0, [], 8, rfl, Rd.nil _ _, fun hf => ?_, fun _ => ⟨rfl, rfl⟩, hB⟩; exfalso; first | (rw [fits_no1 ‹(!gb ls n) = true› (hk n (by omega)) (by omega)] at hf; cases hf; done) | (rw [fits_no2 ‹(!gb ls (n + 1)) = true› (hk (n + 1) (by omega)) (by omega)] at hf; cases hf; done)) | (refine ⟨pa, n, solve F ls n, 0, by rw [hsf.1], (by rw [← hsol]; exact hM.o1.rd.take_nv (k := n)), fun _ => ⟨rfl, rfl⟩, fun hf => ?_, hB⟩; exfalso; rw [fits_yes (hk n (by omega)) (hk (n + 1) (by omega)) (by first | exact .inl (by simpa using ‹(!gb ls n) = false›) | exact .inr (by omega)) (by first | exact .inl (by simpa using ‹(!gb ls (n + 1)) = false›) | exact .inr (by omega))] at hf; cases hf)
          ·
            refine W.skip ?_
            refine thenP_normal ?_
            refine W.seqR ?_
            refine LS.vv rfl rfl (by decide) (Val.move rfl) ?_
            refine LS.m rfl (Step.loadBox rfl rfl (by decide) flat3 rfl (hM.o2.rd) ?_)
            refine LS.m rfl (Step.loadBox rfl rfl (by decide) flat3 rfl (hM.o2.rd) ?_)
            refine LS.vv rfl rfl (by decide) (Val.sliceToMax Try.underlying27 elem3 rfl rfl rfl (by omega)) ?_
            refine LS.vv rfl rfl (by decide) (Val.assign rfl) ?_
            refine LS.nil ?_
            refine W.seqR ?_
            refine LS.vv rfl rfl (by decide) (Val.move rfl) ?_
            refine LS.m rfl (Step.call body44 rfl rfl (by decide) rfl (CallsV.mono (sums_any (F.take n) _ _ _ _ (hM.o1.rd.take_nv (k := n)) (by rw [List.length_take]; omega) (sm_take hs n) (by omega)) ?_))
            rintro _ w10 ⟨rfl, hb10⟩
            replace hM := hM.below hb10
            replace hB := hB.trans (hb10.mono hB.size)
            have hpl := pS_lt (sm_take hs n)
            have hql := qS_lt (sm_take hs n)
            have hFn := hs n
            have hFn1 := hs (n + 1)
            refine LS.vv rfl rfl (by decide) (Val.move rfl) ?_
            refine LS.vv rfl rfl (by decide) (Val.extract rfl rfl) ?_
            refine LS.vv rfl rfl (by decide) (Val.extract rfl rfl) ?_
            refine LS.vv rfl rfl (by decide) (Val.assign rfl) ?_
            refine LS.vv rfl rfl (by decide) (Val.assign rfl) ?_
            refine LS.nil ?_
            refine W.seqR ?_
            refine LS.vv rfl rfl (by decide) (Val.move rfl) ?_
            refine LS.m rfl (Step.call body45 rfl rfl (by decide) rfl (CallsV.mono (clone_nat (pos ls (n + 2)) _ _ _ _ hM.o0.rd rfl (by omega)) ?_))
            rintro _ w11 ⟨pc, cc, rfl, hOc, hb11⟩
            replace hM := hM.add hB.size hb11 hOc
            replace hB := hB.trans (hb11.mono hB.size)
            refine LS.vv rfl rfl (by decide) (Val.makeFunc rfl) ?_
            refine LS.m rfl (Step.call body46 rfl rfl (by decide) rfl (CallsV.mono (del_any (pos ls (n + 2)) (fun x => decide ((n : Int) ≤ (x : Int))) 47 #[.pointer (some ⟨w0.heap.size, 0, none⟩)] _ _ _ _ _ _ body47 hM hB.size rfl (by omega) (fun x w xs hm => fill1_any (x : Int) (n : Int) _ w hm.o3.rd)) ?_))
            rintro _ w12 ⟨rfl, hM12, hb12⟩
            replace hM := hM12
            replace hB := hB.trans hb12
            rw [np_pos] at hM ⊢
            replace hM := hM.drop1
            have hpn := pos_le ls (show n ≤ n + 2 by omega)
            refine LS.vv rfl rfl (by decide) (Val.assign rfl) ?_
            refine LS.nil ?_
            refine W.seqF 20 [(0, true), (1, true), (2, true), (3, true), (4, true), (5, true), (6, true), (7, true), (8, true), (9, true), (10, true), (11, true), (12, true), (13, true), (14, true), (15, true), (16, true), (17, true), (18, true), (19, true), (20, false)] mixed (by kernel_rfl) hB hM ?_
            replace hB := hB.drew
            replace hM := hM.drew
            refine DF.vv rfl rfl rfl (by decide) (Val.move rfl) ?_
            refine DF.vv rfl rfl rfl (by decide) (Val.move rfl) ?_
            refine DF.vv rfl rfl rfl (by decide) (Val.move rfl) ?_
            refine DF.vv rfl rfl rfl (by decide) (Val.move rfl) ?_
            refine DF.vv rfl rfl rfl (by decide) (Val.loadBox flat3 rfl (fun _ h => h.2.o2.rd)) ?_
            refine DF.vv rfl rfl rfl (by decide) (Val.index1 Try.underlying27 elem3 rfl rfl (by omega) (hM.o1.rd) (nv_lt (by omega))) ?_
            refine DF.vv rfl rfl rfl (by decide) (Val.load flat3 rfl (fun _ h => h.2.o1.rd) (nv_at (by omega))) ?_
            refine DF.vv rfl rfl rfl (by decide) (Val.xor64 rfl rfl (by omega) (by omega)) ?_
            refine DF.vv rfl rfl rfl (by decide) (Val.move rfl) ?_
            refine DF.vv rfl rfl rfl (by decide) (Val.move rfl) ?_
            refine DF.vv rfl rfl rfl (by decide) (Val.loadBox flat3 rfl (fun _ h => h.2.o2.rd)) ?_
            first | refine DF.vv rfl rfl rfl (by decide) (Val.addN (j := 1) rfl rfl (by omega)) ?_ | refine DF.vv rfl rfl rfl (by decide) (Val.add64 rfl rfl (by omega)) ?_
            refine DF.vv rfl rfl rfl (by decide) (Val.index1 Try.underlying27 elem3 rfl rfl (by omega) (hM.o1.rd) (nv_lt (by omega))) ?_
            refine DF.vv rfl rfl rfl (by decide) (Val.load flat3 rfl (fun _ h => h.2.o1.rd) (nv_at (by omega))) ?_
            refine DF.vv rfl rfl rfl (by decide) (Val.xor64 rfl rfl (by omega) (by omega)) ?_
            refine DF.vv rfl rfl rfl (by decide) (Val.move rfl) ?_
            refine DF.vv rfl rfl rfl (by decide) (Val.loadBox flat3 rfl (fun _ h => h.2.o2.rd)) ?_
            refine DF.vv rfl rfl rfl (by decide) (Val.index1 Try.underlying35 elem4 rfl rfl (by omega) ((hrl.below hB)) (bv_lt (by omega))) ?_
            refine DF.vv rfl rfl rfl (by decide) (Val.load flat4 rfl (fun _ h => (hrl.below h.1)) (bv_at (by omega))) ?_
            refine DF.vv rfl rfl rfl (by decide) (Val.not rfl) ?_
            refine DF.m rfl rfl (Step.call body48 rfl rfl (by decide) rfl (CallsV.mono (fill_any F (pos ls n ++ List.replicate ((pos ls (n + 2)).length - (pos ls n).length) 0) _ _ n _ _ (pos ls (n + 2)).length (n + 2) (pos ls n).length _ _ _ _ _ _ _ _ hM hB.size (by simp; omega) (by omega) (by omega) (xor16 hpl hFn) (xor16 hql hFn1) (by omega) h12 (fun a ha => by rw [List.take_left] at ha; exact (pos_mem.1 ha).1)) ?_))
            rintro _ w13 ⟨hM13, hb13⟩
            replace hM := hM13
            replace hB := hB.trans hb13
            rw [List.take_left] at hM
            have hsol : (dfill F (pos ls n) (pS (F.take n) ^^^ gn F n) (qS (F.take n) ^^^ gn F (n + 1)) (!gb ls n)).take n = solve F ls n := dfill_take
            have hsf := solve_facts (ls := ls) hs hF
            refine ⟨fun h => absurd rfl h, ?_⟩
            refine DF.nil ?_
            refine W.seqR ?_
            refine LS.vv rfl rfl (by decide) (Val.move rfl) ?_
            refine LS.m rfl (Step.call body44 rfl rfl (by decide) rfl (CallsV.mono (sums_any (solve F ls n) _ _ _ _ (by rw [← hsol]; exact hM.o1.rd.take_nv (k := n)) hsf.1 hsf.2 (by omega)) ?_))
            rintro _ w14 ⟨rfl, hb14⟩
            replace hM := hM.below hb14
            replace hB := hB.trans (hb14.mono hB.size)
            refine LS.vv rfl rfl (by decide) (Val.move rfl) ?_
            refine LS.vv rfl rfl (by decide) (Val.extract rfl rfl) ?_
            refine LS.vv rfl rfl (by decide) (Val.extract rfl rfl) ?_
            refine LS.vv rfl rfl (by decide) (Val.assign rfl) ?_
            refine LS.vv rfl rfl (by decide) (Val.assign rfl) ?_
            refine LS.nil ?_
            refine W.seq ?_
            refine W.seqR ?_
            refine LS.vv rfl rfl (by decide) (Val.move rfl) ?_
            refine LS.m rfl (Step.loadBox rfl rfl (by decide) flat3 rfl (hM.o2.rd) ?_)
            refine LS.vv rfl rfl (by decide) (Val.index1 Try.underlying35 elem4 rfl rfl (by omega) ((hrl.below hB)) (bv_lt (by omega))) ?_
            refine LS.m rfl (Step.load rfl rfl (by decide) flat4 rfl ((hrl.below hB)) (bv_at (by omega)) ?_)
            refine LS.vv rfl rfl (by decide) (Val.not rfl) ?_
            refine LS.vv rfl rfl (by decide) (Val.move rfl) ?_
            refine LS.split 5 rfl (fun hg8 => ?_) (fun hg8 => ?_)
            ·
              first | (have hg8p := of_decide_eq_true hg8) | skip
              refine LS.vg rfl rfl rfl hg8 (by decide) (Val.move rfl) ?_
              refine LS.vg rfl rfl rfl hg8 (by decide) (Val.move rfl) ?_
              refine LS.mg rfl rfl hg8 (Step.loadBox rfl rfl (by decide) flat3 rfl (hM.o2.rd) ?_)
              refine LS.vg rfl rfl rfl hg8 (by decide) (Val.index1 Try.underlying27 elem3 rfl rfl (by omega) ((hr.below hB)) (iv_lt (by omega))) ?_
              refine LS.mg rfl rfl hg8 (Step.load rfl rfl (by decide) flat3 rfl ((hr.below hB)) (iv_at (by omega)) ?_)
              refine LS.vg rfl rfl rfl hg8 (by decide) (Val.neq rfl rfl) ?_
              refine LS.vv rfl rfl (by decide) (Val.pickT rfl hg8 rfl) ?_
              refine LS.vv rfl rfl (by decide) (Val.move rfl) ?_
              refine LS.split 13 rfl (fun hg9 => ?_) (fun hg9 => ?_)
              ·
                first | (have hg9p := of_decide_eq_true hg9) | skip
                refine LS.s rfl rfl rfl hg9 (by decide) ?_
                refine LS.s rfl rfl rfl hg9 (by decide) ?_
                refine LS.s rfl rfl rfl hg9 (by decide) ?_
                refine LS.s rfl rfl rfl hg9 (by decide) ?_
                refine LS.s rfl rfl rfl hg9 (by decide) ?_
                refine LS.s rfl rfl rfl hg9 (by decide) ?_
                refine LS.s rfl rfl rfl hg9 (by decide) ?_
                refine LS.skipU rfl rfl rfl (by decide) ?_
                refine LS.skipU rfl rfl rfl (by decide) ?_
                refine LS.skipU rfl rfl rfl (by decide) ?_
                refine LS.skipU rfl rfl rfl (by decide) ?_
                refine LS.skipU rfl rfl rfl (by decide) ?_
                refine LS.skipU rfl rfl rfl (by decide) ?_
                refine LS.skipU rfl rfl rfl (by decide) ?_
                refine LS.s rfl rfl rfl hg9 (by decide) ?_
                refine LS.vv rfl rfl (by decide) (Val.pickT rfl hg9 rfl) ?_
                refine LS.nil ?_
                refine W.condT rfl ?_
                refine W.seqR ?_
                refine LS.vv rfl rfl (by decide) (Val.assign rfl) ?_
                refine LS.vv rfl rfl (by decide) (Val.cast (v := .int .i64 ((8 : Nat) : Int)) (Val.assign rfl) rfl) ?_
                refine LS.nil ?_
                refine W.ret ?_
                refine thenP_ret ?_
                refine ret2 (by first | exact .inl rfl | exact .inr rfl) rfl rfl ?_
                first | (exfalso; omega) | (refine ⟨none, 0, [], 8, rfl, Rd.nil _ _, fun hf => ?_, fun _ => ⟨rfl, rfl⟩, hB⟩; exfalso; first | (rw [fits_no1 ‹(!gb ls n) = true› (hk n (by omega)) (by omega)] at hf; cases hf; done) | (rw [fits_no2 ‹(!gb ls (n + 1)) = true› (hk (n + 1) (by omega)) (by omega)] at hf; cases hf; done)) | (refine ⟨pa, n, solve F ls n, 0, by rw [hsf.1], (by rw [← hsol]; exact hM.o1.rd.take_nv (k := n)), fun _ => ⟨rfl, rfl⟩, fun hf => ?_, hB⟩; exfalso; rw [fits_yes (hk n (by omega)) (hk (n + 1) (by omega)) (by first | exact .inl (by simpa using ‹(!gb ls n) = false›) | exact .inr (by omega)) (by first | exact .inl (by simpa using ‹(!gb ls (n + 1)) = false›) | exact .inr (by omega))] at hf; cases hf)
              ·
                first | (have hg9p := of_decide_eq_false hg9) | skip
                refine LS.vg rfl rfl rfl hg9 (by decide) (Val.move rfl) ?_
                refine LS.mg rfl rfl hg9 (Step.loadBox rfl rfl (by decide) flat3 rfl (hM.o2.rd) ?_)
                first | refine LS.vg rfl rfl rfl hg9 (by decide) (Val.addN (j := 1) rfl rfl (by omega)) ?_ | refine LS.vg rfl rfl rfl hg9 (by decide) (Val.add64 rfl rfl (by omega)) ?_
                refine LS.vg rfl rfl rfl hg9 (by decide) (Val.index1 Try.underlying35 elem4 rfl rfl (by omega) ((hrl.below hB)) (bv_lt (by omega))) ?_
                refine LS.mg rfl rfl hg9 (Step.load rfl rfl (by decide) flat4 rfl ((hrl.below hB)) (bv_at (by omega)) ?_)
                refine LS.vg rfl rfl rfl hg9 (by decide) (Val.not rfl) ?_
                refine LS.vg rfl rfl rfl hg9 (by decide) (Val.move rfl) ?_
                refine LS.split 20 rfl (fun hg10 => ?_) (fun hg10 => ?_)
                ·
                  first | (have hg10p := of_decide_eq_true hg10) | skip
                  refine LS.vg rfl rfl rfl hg10 (by decide) (Val.move rfl) ?_
                  refine LS.vg rfl rfl rfl hg10 (by decide) (Val.move rfl) ?_
                  refine LS.mg rfl rfl hg10 (Step.loadBox rfl rfl (by decide) flat3 rfl (hM.o2.rd) ?_)
                  first | refine LS.vg rfl rfl rfl hg10 (by decide) (Val.addN (j := 1) rfl rfl (by omega)) ?_ | refine LS.vg rfl rfl rfl hg10 (by decide) (Val.add64 rfl rfl (by omega)) ?_
                  refine LS.vg rfl rfl rfl hg10 (by decide) (Val.index1 Try.underlying27 elem3 rfl rfl (by omega) ((hr.below hB)) (iv_lt (by omega))) ?_
                  refine LS.mg rfl rfl hg10 (Step.load rfl rfl (by decide) flat3 rfl ((hr.below hB)) (iv_at (by omega)) ?_)
                  refine LS.vg rfl rfl rfl hg10 (by decide) (Val.neq rfl rfl) ?_
                  refine LS.vg rfl rfl rfl hg9 (by decide) (Val.pickT rfl hg10 rfl) ?_
                  refine LS.vv rfl rfl (by decide) (Val.pickF rfl hg9 rfl) ?_
                  refine LS.nil ?_
                  first | refine W.condD rfl (fun hc11 => ?_) (fun hc11 => ?_) | refine W.cond rfl (fun hc11 => ?_) (fun hc11 => ?_)
                  ·
                    refine W.seqR ?_
                    refine LS.vv rfl rfl (by decide) (Val.assign rfl) ?_
                    refine LS.vv rfl rfl (by decide) (Val.cast (v := .int .i64 ((8 : Nat) : Int)) (Val.assign rfl) rfl) ?_
                    refine LS.nil ?_
                    refine W.ret ?_
                    refine thenP_ret ?_
                    refine ret2 (by first | exact .inl rfl | exact .inr rfl) rfl rfl ?_
                    first | (exfalso; omega) | (refine ⟨none, 0, [], 8, rfl, Rd.nil _ _, fun hf => ?_, fun _ => ⟨rfl, rfl⟩, hB⟩; exfalso; first | (rw [fits_no1 ‹(!gb ls n) = true› (hk n (by omega)) (by omega)] at hf; cases hf; done) | (rw [fits_no2 ‹(!gb ls (n + 1)) = true› (hk (n + 1) (by omega)) (by omega)] at hf; cases hf; done)) | (refine ⟨pa, n, solve F ls n, 0, by rw [hsf.1], (by rw [← hsol]; exact hM.o1.rd.take_nv (k := n)), fun _ => ⟨rfl, rfl⟩, fun hf => ?_, hB⟩; exfalso; rw [fits_yes (hk n (by omega)) (hk (n + 1) (by omega)) (by first | exact .inl (by simpa using ‹(!gb ls n) = false›) | exact .inr (by omega)) (by first | exact .inl (by simpa using ‹(!gb ls (n + 1)) = false›) | exact .inr (by omega))] at hf; cases hf)
                  ·
                    refine W.skip ?_
                    refine thenP_normal ?_
                    refine W.seqR ?_
                    refine LS.vv rfl rfl (by decide) (Val.move rfl) ?_
                    refine LS.vv rfl rfl (by decide) (Val.assign rfl) ?_
                    refine LS.vv rfl rfl (by decide) (Val.cast (v := .int .i64 ((0 : Nat) : Int)) (Val.assign rfl) rfl) ?_
                    refine LS.nil ?_
                    refine W.ret ?_
                    refine ret2 (by first | exact .inl rfl | exact .inr rfl) rfl rfl ?_
                    first | (exfalso; omega) | (refine ⟨none, 0, [], 8, rfl, Rd.nil _ _, fun hf => ?_, fun _ => ⟨rfl, rfl⟩, hB⟩; exfalso; first | (rw [fits_no1 ‹(!gb ls n) = true› (hk n (by omega)) (by omega)] at hf; cases hf; done) | (rw [fits_no2 ‹(!gb ls (n + 1)) = true› (hk (n + 1) (by omega)) (by omega)] at hf; cases hf; done)) | (refine ⟨pa, n, solve F ls n, 0, by rw [hsf.1], (by rw [← hsol]; exact hM.o1.rd.take_nv (k := n)), fun _ => ⟨rfl, rfl⟩, fun hf => ?_, hB⟩; exfalso; rw [fits_yes (hk n (by omega)) (hk (n + 1) (by omega)) (by first | exact .inl (by simpa using ‹(!gb ls n) = false›) | exact .inr (by omega)) (by first | exact .inl (by simpa using ‹(!gb ls (n + 1)) = false›) | exact .inr (by omega))] at hf; cases hf)
                ·
                  first | (have hg10p := of_decide_eq_false hg10) | skip
                  refine LS.s rfl rfl rfl hg10 (by decide) ?_
                  refine LS.s rfl rfl rfl hg10 (by decide) ?_
                  refine LS.s rfl rfl rfl hg10 (by decide) ?_
                  refine LS.s rfl rfl rfl hg10 (by decide) ?_
                  refine LS.s rfl rfl rfl hg10 (by decide) ?_
                  refine LS.s rfl rfl rfl hg10 (by decide) ?_
                  refine LS.s rfl rfl rfl hg10 (by decide) ?_
                  refine LS.vg rfl rfl rfl hg9 (by decide) (Val.pickF rfl hg10 rfl) ?_
                  refine LS.vv rfl rfl (by decide) (Val.pickF rfl hg9 rfl) ?_
                  refine LS.nil ?_
                  refine W.condF rfl ?_
                  refine W.skip ?_
                  refine thenP_normal ?_
                  refine W.seqR ?_
                  refine LS.vv rfl rfl (by decide) (Val.move rfl) ?_
                  refine LS.vv rfl rfl (by decide) (Val.assign rfl) ?_
                  refine LS.vv rfl rfl (by decide) (Val.cast (v := .int .i64 ((0 : Nat) : Int)) (Val.assign rfl) rfl) ?_
                  refine LS.nil ?_
                  refine W.ret ?_
                  refine ret2 (by first | exact .inl rfl | exact .inr rfl) rfl rfl ?_
                  first | (exfalso; omega) | (refine ⟨none, 0, [], 8, rfl, Rd.nil _ _, fun hf => ?_, fun _ => ⟨rfl, rfl⟩, hB⟩; exfalso; first | (rw [fits_no1 ‹(!gb ls n) = true› (hk n (by omega)) (by omega)] at hf; cases hf; done) | (rw [fits_no2 ‹(!gb ls (n + 1)) = true› (hk (n + 1) (by omega)) (by omega)] at hf; cases hf; done)) | (refine ⟨pa, n, solve F ls n, 0, by rw [hsf.1], (by rw [← hsol]; exact hM.o1.rd.take_nv (k := n)), fun _ => ⟨rfl, rfl⟩, fun hf => ?_, hB⟩; exfalso; rw [fits_yes (hk n (by omega)) (hk (n + 1) (by omega)) (by first | exact .inl (by simpa using ‹(!gb ls n) = false›) | exact .inr (by omega)) (by first | exact .inl (by simpa using ‹(!gb ls (n + 1)) = false›) | exact .inr (by omega))] at hf; cases hf)
            ·
              first | (have hg8p := of_decide_eq_false hg8) | skip
              refine LS.s rfl rfl rfl hg8 (by decide) ?_
              refine LS.s rfl rfl rfl hg8 (by decide) ?_
              refine LS.s rfl rfl rfl hg8 (by decide) ?_
              refine LS.s rfl rfl rfl hg8 (by decide) ?_
              refine LS.s rfl rfl rfl hg8 (by decide) ?_
              refine LS.s rfl rfl rfl hg8 (by decide) ?_
              refine LS.vv rfl rfl (by decide) (Val.pickF rfl hg8 rfl) ?_
              refine LS.vv rfl rfl (by decide) (Val.move rfl) ?_
              refine LS.vg rfl rfl rfl rfl (by decide) (Val.move rfl) ?_
              refine LS.mg rfl rfl rfl (Step.loadBox rfl rfl (by decide) flat3 rfl (hM.o2.rd) ?_)
              first | refine LS.vg rfl rfl rfl rfl (by decide) (Val.addN (j := 1) rfl rfl (by omega)) ?_ | refine LS.vg rfl rfl rfl rfl (by decide) (Val.add64 rfl rfl (by omega)) ?_
              refine LS.vg rfl rfl rfl rfl (by decide) (Val.index1 Try.underlying35 elem4 rfl rfl (by omega) ((hrl.below hB)) (bv_lt (by omega))) ?_
              refine LS.mg rfl rfl rfl (Step.load rfl rfl (by decide) flat4 rfl ((hrl.below hB)) (bv_at (by omega)) ?_)
              refine LS.vg rfl rfl rfl rfl (by decide) (Val.not rfl) ?_
              refine LS.vg rfl rfl rfl rfl (by decide) (Val.move rfl) ?_
              refine LS.split 20 rfl (fun hg12 => ?_) (fun hg12 => ?_)
              ·
                first | (have hg12p := of_decide_eq_true hg12) | skip
                refine LS.vg rfl rfl rfl hg12 (by decide) (Val.move rfl) ?_
                refine LS.vg rfl rfl rfl hg12 (by decide) (Val.move rfl) ?_
                refine LS.mg rfl rfl hg12 (Step.loadBox rfl rfl (by decide) flat3 rfl (hM.o2.rd) ?_)
                first | refine LS.vg rfl rfl rfl hg12 (by decide) (Val.addN (j := 1) rfl rfl (by omega)) ?_ | refine LS.vg rfl rfl rfl hg12 (by decide) (Val.add64 rfl rfl (by omega)) ?_
                refine LS.vg rfl rfl rfl hg12 (by decide) (Val.index1 Try.underlying27 elem3 rfl rfl (by omega) ((hr.below hB)) (iv_lt (by omega))) ?_
                refine LS.mg rfl rfl hg12 (Step.load rfl rfl (by decide) flat3 rfl ((hr.below hB)) (iv_at (by omega)) ?_)
                refine LS.vg rfl rfl rfl hg12 (by decide) (Val.neq rfl rfl) ?_
                refine LS.vg rfl rfl rfl rfl (by decide) (Val.pickT rfl hg12 rfl) ?_
                refine LS.vv rfl rfl (by decide) (Val.pickF rfl rfl rfl) ?_
                refine LS.nil ?_
                first | refine W.condD rfl (fun hc13 => ?_) (fun hc13 => ?_) | refine W.cond rfl (fun hc13 => ?_) (fun hc13 => ?_)
                ·
                  refine W.seqR ?_
                  refine LS.vv rfl rfl (by decide) (Val.assign rfl) ?_
                  refine LS.vv rfl rfl (by decide) (Val.cast (v := .int .i64 ((8 : Nat) : Int)) (Val.assign rfl) rfl) ?_
                  refine LS.nil ?_
                  refine W.ret ?_
                  refine thenP_ret ?_
                  refine ret2 (by first | exact .inl rfl | exact .inr rfl) rfl rfl ?_
                  first | (exfalso; omega) | (refine ⟨none, 0, [], 8, rfl, Rd.nil _ _, fun hf => ?_, fun _ => ⟨rfl, rfl⟩, hB⟩; exfalso; first | (rw [fits_no1 ‹(!gb ls n) = true› (hk n (by omega)) (by omega)] at hf; cases hf; done) | (rw [fits_no2 ‹(!gb ls (n + 1)) = true› (hk (n + 1) (by omega)) (by omega)] at hf; cases hf; done)) | (refine ⟨pa, n, solve F ls n, 0, by rw [hsf.1], (by rw [← hsol]; exact hM.o1.rd.take_nv (k := n)), fun _ => ⟨rfl, rfl⟩, fun hf => ?_, hB⟩; exfalso; rw [fits_yes (hk n (by omega)) (hk (n + 1) (by omega)) (by first | exact .inl (by simpa using ‹(!gb ls n) = false›) | exact .inr (by omega)) (by first | exact .inl (by simpa using ‹(!gb ls (n + 1)) = false›) | exact .inr (by omega))] at hf; cases hf)
                ·
                  refine W.skip ?_
                  refine thenP_normal ?_
                  refine W.seqR ?_
                  refine LS.vv rfl rfl (by decide) (Val.move rfl) ?_
                  refine LS.vv rfl rfl (by decide) (Val.assign rfl) ?_
                  refine LS.vv rfl rfl (by decide) (Val.cast (v := .int .i64 ((0 : Nat) : Int)) (Val.assign rfl) rfl) ?_
                  refine LS.nil ?_
                  refine W.ret ?_
                  refine ret2 (by first | exact .inl rfl | exact .inr rfl) rfl rfl ?_
                  first | (exfalso; omega) | (refine ⟨none, 0, [], 8, rfl, Rd.nil _ _, fun hf => ?_, fun _ => ⟨rfl, rfl⟩, hB⟩; exfalso; first | (rw [fits_no1 ‹(!gb ls n) = true› (hk n (by omega)) (by omega)] at hf; cases hf; done) | (rw [fits_no2 ‹(!gb ls (n + 1)) = true› (hk (n + 1) (by omega)) (by omega)] at hf; cases hf; done)) | (refine ⟨pa, n, solve F ls n, 0, by rw [hsf.1], (by rw [← hsol]; exact hM.o1.rd.take_nv (k := n)), fun _ => ⟨rfl, rfl⟩, fun hf => ?_, hB⟩; exfalso; rw [fits_yes (hk n (by omega)) (hk (n + 1) (by omega)) (by first | exact .inl (by simpa using ‹(!gb ls n) = false›) | exact .inr (by omega)) (by first | exact .inl (by simpa using ‹(!gb ls (n + 1)) = false›) | exact .inr (by omega))] at hf; cases hf)
              ·
                first | (have hg12p := of_decide_eq_false hg12) | skip
                refine LS.s rfl rfl rfl hg12 (by decide) ?_
                refine LS.s rfl rfl rfl hg12 (by decide) ?_
                refine LS.s rfl rfl rfl hg12 (by decide) ?_
                refine LS.s rfl rfl rfl hg12 (by decide) ?_
                refine LS.s rfl rfl rfl hg12 (by decide) ?_
                refine LS.s rfl rfl rfl hg12 (by decide) ?_
                refine LS.s rfl rfl rfl hg12 (by decide) ?_
                refine LS.vg rfl rfl rfl rfl (by decide) (Val.pickF rfl hg12 rfl) ?_
                refine LS.vv rfl rfl (by decide) (Val.pickF rfl rfl rfl) ?_
                refine LS.nil ?_
                refine W.condF rfl ?_
                refine W.skip ?_
                refine thenP_normal ?_
                refine W.seqR ?_
                refine LS.vv rfl rfl (by decide) (Val.move rfl) ?_
                refine LS.vv rfl rfl (by decide) (Val.assign rfl) ?_
                refine LS.vv rfl rfl (by decide) (Val.cast (v := .int .i64 ((0 : Nat) : Int)) (Val.assign rfl) rfl) ?_
                refine LS.nil ?_
                refine W.ret ?_
                refine ret2 (by first | exact .inl rfl | exact .inr rfl) rfl rfl ?_
                first | (exfalso; omega) | (refine ⟨none, 0, [], 8, rfl, Rd.nil _ _, fun hf => ?_, fun _ => ⟨rfl, rfl⟩, hB⟩; exfalso; first | (rw [fits_no1 ‹(!gb ls n) = true› (hk n (by omega)) (by omega)] at hf; cases hf; done) | (rw [fits_no2 ‹(!gb ls (n + 1)) = true› (hk (n + 1) (by omega)) (by omega)] at hf; cases hf; done)) | (refine ⟨pa, n, solve F ls n, 0, by rw [hsf.1], (by rw [← hsol]; exact hM.o1.rd.take_nv (k := n)), fun _ => ⟨rfl, rfl⟩, fun hf => ?_, hB⟩; exfalso; rw [fits_yes (hk n (by omega)) (hk (n + 1) (by omega)) (by first | exact .inl (by simpa using ‹(!gb ls n) = false›) | exact .inr (by omega)) (by first | exact .inl (by simpa using ‹(!gb ls (n + 1)) = false›) | exact .inr (by omega))] at hf; cases hf)

end Go.Proofs.Ytnaebllojkodbaa
