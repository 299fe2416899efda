/-
  Packages alpha: lens, Make.
-/
import Derived.Test.YtohflgcbpmoinaaAlpha
import Derived.Test.YtohflgcbpmoinaaAlphaRPlain
import Derived.Test.YtohflgcbpmoinaaLibD
import Derived.Test.YtohflgcbpmoinaaCode
import Derived.Test.YtohflgcbpmoinaaVtb
namespace Go.Proofs.Ytohflgcbpmoinaa
open Go Go.RowKit V
set_option linter.unusedVariables false
set_option linter.unusedSimpArgs false

theorem body24 : Body Try.prog 24 := ⟨_, Try.func24, by kernel_rfl, rfl⟩

theorem Dp.small {ws : List Nat} {n : Nat} {T : Nat → Nat → Nat} (h : Dp ws n T (n + 1)) (hw : ∀ x ∈ ws, x ≤ 1048576) : ∀ s i j, j - i ≤ s → j ≤ n → T i j ≤ (j - i) * (j - i) * 1048576
  | 0, i, j, h1, _ => by rw [h.zero i j (by omega)]; exact Nat.zero_le _
  | s + 1, i, j, h1, h2 => by
    by_cases e : j < i + 2
    · rw [h.zero i j e]; exact Nat.zero_le _
    · obtain ⟨k, k1, k2, k3⟩ := h.att i j (by omega) h2 (by omega)
      have e1 := h.small hw s i k (by omega) (by omega)
      have e2 := h.small hw s k j (by omega) h2
      have e3 := sumR_le hw i (j - i)
      generalize ha : k - i = a at *
      generalize hb : j - k = b at *
      rw [show j - i = a + b by omega] at e3 k3 ⊢
      have q := quad (a := a) (b := b) (by omega) (by omega)
      omega
theorem Dp.lt {ws : List Nat} {n : Nat} {T : Nat → Nat → Nat} (h : Dp ws n T (n + 1)) (hw : ∀ x ∈ ws, x ≤ 1048576) (hn : n ≤ 8) {i j : Nat} (hj : j ≤ n) : T i j ≤ 67108864 := by
  have h1 := h.small hw (j - i) i j (Nat.le_refl _) hj
  have h2 : (j - i) * (j - i) ≤ 8 * 8 := Nat.mul_le_mul (by omega) (by omega)
  have h3 : (j - i) * (j - i) * 1048576 ≤ 8 * 8 * 1048576 := Nat.mul_le_mul_right _ h2
  omega
structure Tbl (w : World) (ws : List Nat) (T : List Tx) (g m c mo co : Nat) (p po : Option Addr) : Prop where
  hra : Rd w (some ⟨g, 0, none⟩) [.slice p m c, .slice po mo co]
  hr : Rd w p (nv ws)
  ho : Rd w po (tv T)
  row : ∀ k, k < T.length → Rd w (gT T k).p (nv (gT T k).l)
theorem Tbl.below {w w2 : World} {ws : List Nat} {T : List Tx} {g m c mo co : Nat} {p po : Option Addr} (h : Tbl w ws T g m c mo co p po) (hb : Below w.heap.size w w2) : Tbl w2 ws T g m c mo co p po := ⟨h.hra.below hb, h.hr.below hb, h.ho.below hb, fun k hk => (h.row k hk).below hb⟩
def LnO (ws : List Nat) (T : Nat → Nat → Nat) (i j d : Nat) (l : List Nat) : Prop := (i = j → l = []) ∧ (i < j → Ln ws T i j d l)
theorem LnO.al {ws : List Nat} {T : Nat → Nat → Nat} {n : Nat} {l : List Nat} (h : LnO ws T 0 n 0 l) (hl : l.length = n) (h8 : n ≤ 8) : Al l := by
  by_cases e : n = 0
  · rw [h.1 e.symm]; exact Al.nil
  · exact (h.2 (by omega)).tree.al0 (by omega)
theorem Dp.uniq {ws : List Nat} {n : Nat} {T T2 : Nat → Nat → Nat} (h : Dp ws n T (n + 1)) (h2 : Dp ws n T2 (n + 1)) : ∀ s i j, j - i ≤ s → j ≤ n → T i j = T2 i j
  | 0, i, j, a, b => by rw [h.zero i j (by omega), h2.zero i j (by omega)]
  | s + 1, i, j, a, b => by
    by_cases e : j < i + 2
    · rw [h.zero i j e, h2.zero i j e]
    · obtain ⟨k, k1, k2, k3⟩ := h.att i j (by omega) b (by omega)
      obtain ⟨q, q1, q2, q3⟩ := h2.att i j (by omega) b (by omega)
      have l1 := h.le i j q q1 q2 b (by omega)
      have l2 := h2.le i j k k1 k2 b (by omega)
      have e1 := h.uniq h2 s i k (by omega) (by omega)
      have e2 := h.uniq h2 s k j (by omega) b
      have e3 := h.uniq h2 s i q (by omega) (by omega)
      have e4 := h.uniq h2 s q j (by omega) b
      omega
theorem LnO.cost {ws : List Nat} {T T2 : Nat → Nat → Nat} {n x : Nat} {l : List Nat} (h : LnO ws T 0 n 0 l) (hd : Dp ws n T (n + 1)) (hd2 : Dp ws n T2 (n + 1)) (hw : ws.length = n) (hl : l.length = n) (hx : x = T2 0 n) : Go.Proofs.Ytohflgcbpmoinaa.cost ws l = x := by
  rw [hx, ← hd.uniq hd2 n 0 n (by omega) (Nat.le_refl _)]
  by_cases e : n = 0
  · rw [h.1 e.symm, hd.zero 0 n (by omega)]; simp [Go.Proofs.Ytohflgcbpmoinaa.cost]
  · have := (h.2 (by omega)).cost
    rw [List.drop_zero, Nat.sub_zero, List.take_of_length_le (by omega), Nat.zero_mul, Nat.add_zero] at this
    exact this
theorem Own.short {w : World} {B : Nat} {e : TypeId} {p : Option Addr} {m c : Nat} {xs : List Value} (h : Own w B e p m c xs) : Own w B e p 0 c [] := by
  obtain ⟨hl, ⟨hv, _⟩ | ⟨g, cap, cur, hv, hb, hg, h1, h2, h3, h4⟩⟩ := h
  · cases hv; exact ⟨by simp, .inl ⟨rfl, rfl⟩⟩
  · cases hv; exact ⟨by simp, .inr ⟨g, c, cur, rfl, hb, hg, Nat.zero_le _, h2, h3, by simp⟩⟩

theorem before_any (xs ys : List Nat) (p q : Option Addr) (n m c d : Nat) (w0 : World) (hx : Rd w0 p (nv xs)) (hy : Rd w0 q (nv ys)) (hn : xs.length = n) (hm : ys.length = m) (hnm : n ≤ m) (hmx : n ≤ 1000) :
    CallsV Try.prog 34 #[.slice p n c, .slice q m d] w0 (fun v w => ∃ b : Bool, v = .bool b ∧ Below w0.heap.size w0 w) := by
  refine enter1 Try.func34 rfl Try.ntmps34 (by simp) rfl ?_
  have hB := Below.refl w0.heap.size w0
  simp only [argLoc, Nat.zero_add]
  have hM := Mem.nil w0 w0.heap.size
  subst hn
  subst hm
  refine W.seqR ?_
  refine LS.vv rfl rfl (by decide) (Val.assign rfl) ?_
  refine LS.nil ?_
  refine W.seq ?_
  refine W.seqR ?_
  refine LS.vv rfl rfl (by decide) (Val.move rfl) ?_
  refine LS.vv rfl rfl (by decide) (Val.len Try.underlying23 rfl) ?_
  refine LS.vv rfl rfl (by decide) (Val.cast (v := .int .i64 ((0 : Nat) : Int)) (Val.move rfl) rfl) ?_
  refine LS.nil ?_
  refine W.block ?_
  refine W.loop (α := Nat) (fun k => [(9, .int .i64 (k : Int))]) [(1, _), (7, _), (8, _)] (fun k w => (k ≤ xs.length) ∧ Mem w w0.heap.size [] ∧ Below w0.heap.size w0 w) (fun k => xs.length - k) (0) (Sub.cons rfl (Sub.nil _)) (Sub.cons rfl (Sub.cons rfl (Sub.cons rfl (Sub.nil _)))) ?_ ?_
  · exact ⟨Nat.zero_le _, hM, hB⟩
  rintro k w1 ⟨hk, hM, hB⟩
  try simp only at hM
  simp only [List.cons_append, List.nil_append]
  refine W.seqR ?_
  refine LS.vv rfl rfl (by decide) (Val.lss rfl rfl) ?_
  refine LS.nil ?_
  refine W.seq ?_
  first | refine W.condD rfl (fun hc1 => ?_) (fun hc1 => ?_) | refine W.cond rfl (fun hc1 => ?_) (fun hc1 => ?_)
  ·
    refine W.skip ?_
    refine thenP_normal ?_
    refine W.seq ?_
    refine W.block ?_
    refine W.seqR ?_
    refine LS.vv rfl rfl (by decide) (Val.move rfl) ?_
    refine LS.vv rfl rfl (by decide) (Val.index1 Try.underlying23 elem3 rfl rfl (by omega) ((hx.below hB)) (nv_lt (by omega))) ?_
    refine LS.m rfl (Step.load rfl rfl (by decide) flat3 rfl ((hx.below hB)) (nv_at (by omega)) ?_)
    refine LS.vv rfl rfl (by decide) (Val.assign rfl) ?_
    refine LS.vv rfl rfl (by decide) (Val.assign rfl) ?_
    refine LS.nil ?_
    refine W.seqR ?_
    refine LS.vv rfl rfl (by decide) (Val.move rfl) ?_
    refine LS.vv rfl rfl (by decide) (Val.move rfl) ?_
    refine LS.vv rfl rfl (by decide) (Val.move rfl) ?_
    refine LS.vv rfl rfl (by decide) (Val.index1 Try.underlying23 elem3 rfl rfl (by omega) ((hy.below hB)) (nv_lt (by omega))) ?_
    refine LS.m rfl (Step.load rfl rfl (by decide) flat3 rfl ((hy.below hB)) (nv_at (by omega)) ?_)
    refine LS.vv rfl rfl (by decide) (Val.neq rfl rfl) ?_
    refine LS.nil ?_
    first | refine W.condD rfl (fun hc2 => ?_) (fun hc2 => ?_) | refine W.cond rfl (fun hc2 => ?_) (fun hc2 => ?_)
    ·
      refine W.seqR ?_
      refine LS.vv rfl rfl (by decide) (Val.move rfl) ?_
      refine LS.vv rfl rfl (by decide) (Val.move rfl) ?_
      refine LS.vv rfl rfl (by decide) (Val.move rfl) ?_
      refine LS.vv rfl rfl (by decide) (Val.index1 Try.underlying23 elem3 rfl rfl (by omega) ((hy.below hB)) (nv_lt (by omega))) ?_
      refine LS.m rfl (Step.load rfl rfl (by decide) flat3 rfl ((hy.below hB)) (nv_at (by omega)) ?_)
      refine LS.vv rfl rfl (by decide) (Val.lss rfl rfl) ?_
      refine LS.vv rfl rfl (by decide) (Val.assign rfl) ?_
      refine LS.nil ?_
      refine W.ret ?_
      refine inBlk_ret ?_
      refine thenP_ret ?_
      refine thenP_ret ?_
      refine inBlk_ret ?_
      refine thenP_ret ?_
      refine ret1 (by first | exact .inl rfl | exact .inr rfl) rfl ?_
      exact ⟨_, rfl, hB⟩
    ·
      refine W.skip ?_
      refine inBlk_normal ?_
      refine thenP_normal ?_
      refine W.reg ?_
      first | refine LS.vv rfl rfl (by decide) (Val.addN (j := 1) rfl rfl (by omega)) ?_ | refine LS.vv rfl rfl (by decide) (Val.add64 rfl rfl (by omega)) ?_
      refine LS.vv rfl rfl (by decide) (Val.move rfl) ?_
      refine LS.nil ?_
      refine thenP_normal ?_
      refine ⟨k + 1, ?_, ?_, ⟨by omega, hM, hB⟩, by omega⟩
      · exact (Sub.cons rfl (Sub.nil _))
      · repeat (first | exact Sub.nil _ | refine Sub.cons rfl ?_)
  ·
    refine W.exit ?_
    refine thenP_exit ?_
    refine thenP_exit ?_
    refine inBlk_exit ?_
    refine thenP_normal ?_
    refine W.seqR ?_
    refine LS.vv rfl rfl (by decide) (Val.assign rfl) ?_
    refine LS.nil ?_
    refine W.ret ?_
    refine ret1 (by first | exact .inl rfl | exact .inr rfl) rfl ?_
    exact ⟨_, rfl, hB⟩

theorem lens_step (ws : List Nat) (T : List Tx) (p po : Option Addr) (g m c co : Nat) (hm : ws.length = m) (hmc : m ≤ c) (h8 : m ≤ 8) (hw : ∀ x ∈ ws, x ≤ 1048576) (hdp : Dp ws m (tab T) (m + 1)) (hTl : T.length = m + 1) (hrl : ∀ k, k < m + 1 → (gT T k).l.length = m + 1) (N : Nat) (ih : ∀ (i j d : Nat) (w0 : World), j - i < N → Tbl w0 ws T g m c (m + 1) co p po → i ≤ j → j ≤ m → d ≤ 100 - (j - i) → CallsV Try.prog 24 #[.pointer (some ⟨g, 0, none⟩), .int .i64 (i : Int), .int .i64 (j : Int), .int .i64 (d : Int)] w0 (fun v w => ∃ (p2 : Option Addr) (c2 : Nat) (l : List Nat), v = .slice p2 (j - i) c2 ∧ Own w w0.heap.size 3 p2 (j - i) c2 (nv l) ∧ l.length = j - i ∧ LnO ws (tab T) i j d l ∧ Below w0.heap.size w0 w)) (i j d : Nat) (w0 : World) (htb : Tbl w0 ws T g m c (m + 1) co p po) (hN : j - i ≤ N) (hij : i ≤ j) (hj : j ≤ m) (hd : d ≤ 100 - (j - i)) :
    CallsV Try.prog 24 #[.pointer (some ⟨g, 0, none⟩), .int .i64 (i : Int), .int .i64 (j : Int), .int .i64 (d : Int)] w0 (fun v w => ∃ (p2 : Option Addr) (c2 : Nat) (l : List Nat), v = .slice p2 (j - i) c2 ∧ Own w w0.heap.size 3 p2 (j - i) c2 (nv l) ∧ l.length = j - i ∧ LnO ws (tab T) i j d l ∧ Below w0.heap.size w0 w) := by
  refine enter1 Try.func24 rfl Try.ntmps24 (by simp) rfl ?_
  have hB := Below.refl w0.heap.size w0
  simp only [argLoc, Nat.zero_add, Nat.reduceAdd]
  have hM := Mz.nil w0 w0.heap.size
  have hTb : ∀ a b, b ≤ m → gn (gT T a).l b ≤ 67108864 := fun a b hb => hdp.lt (i := a) (j := b) hw h8 hb
  refine W.seqR ?_
  refine LS.vv rfl rfl (by decide) (Val.assign rfl) ?_
  refine LS.nil ?_
  refine W.seq ?_
  refine W.seqR ?_
  refine LS.vv rfl rfl (by decide) (Val.move rfl) ?_
  refine LS.vv rfl rfl (by decide) (Val.move rfl) ?_
  first | refine LS.vv rfl rfl (by decide) (Val.subN rfl rfl (by omega) (by omega)) ?_ | refine LS.vv rfl rfl (by decide) (Val.sub64 rfl rfl (by omega)) ?_
  refine LS.vv rfl rfl (by decide) (Val.lss rfl rfl) ?_
  refine LS.nil ?_
  first | refine W.condD rfl (fun hc1 => ?_) (fun hc1 => ?_) | refine W.cond rfl (fun hc1 => ?_) (fun hc1 => ?_)
  ·
    refine W.seqR ?_
    refine LS.vv rfl rfl (by decide) (Val.move rfl) ?_
    refine LS.m rfl (Step.litZ rfl rfl (by decide) Try.underlying23 elem3 rfl (by decide) rfl rfl (by decide) ?_)
    rintro w1 hO1 hg1 hbl1 hsz1
    replace hM := hM.add hB.size hbl1 hO1
    try simp only [nv_app1, nv_app, nv_set, nv_rep, nv_one, nv_cons, nv_take, nv_drop, List.nil_append] at hM
    try simp only [List.length_cons, List.length_nil, Nat.zero_add, Nat.reduceAdd, Value.cells, List.toList_toArray, List.append_nil, List.set_cons_zero, List.set_cons_succ] at hM
    replace hB := hB.trans (hbl1.mono hB.size)
    skip
    refine LS.vv rfl rfl (by decide) (Val.move rfl) ?_
    refine LS.vv rfl rfl (by decide) (Val.move rfl) ?_
    first | refine LS.vv rfl rfl (by decide) (Val.subN rfl rfl (by omega) (by omega)) ?_ | refine LS.vv rfl rfl (by decide) (Val.sub64 rfl rfl (by omega)) ?_
    refine LS.vv rfl rfl (by decide) (Val.sliceTo Try.underlying23 elem3 rfl rfl (by omega)) ?_
    refine LS.vv rfl rfl (by decide) (Val.assign rfl) ?_
    refine LS.nil ?_
    refine W.ret ?_
    refine thenP_ret ?_
    refine ret1 (by first | exact .inl rfl | exact .inr rfl) rfl ?_
    first
      | (have hij2 : j = i ∨ j = i + 1 := (by omega)
         rcases hij2 with rfl | rfl
         · refine ⟨_, 1, [], rfl, ?_, (by simp), ⟨fun _ => rfl, fun h => absurd h (by omega)⟩, hB⟩
           have := hM.o0.own
           rw [Nat.sub_self]
           exact Own.short this
         · refine ⟨_, 1, [d], (by rw [show i + 1 - i = 1 by omega]), (by rw [show i + 1 - i = 1 by omega]; exact hM.o0.own), (by simp), ⟨fun h => absurd h (by omega), fun _ => Ln.leaf (hdp.zero i (i + 1) (by omega)) (by omega)⟩, hB⟩)
      | (obtain rfl : k = j := (by omega)
         have hln : Ln ws (tab T) i k d lf := by { rcases hfo with ⟨_, _, q3⟩ | q1; (exfalso; obtain ⟨k2, a1, a2, a3⟩ := hdp.att i k (by omega) hj (by omega); exact q3 k2 a1 a2 a3.symm); exact q1 }
         have hll := hln.len
         exact ⟨pf, cf, lf, (by rw [hll]), (by rw [← hll]; exact hM.o0.own), hll, ⟨fun h => absurd h (by omega), fun _ => hln⟩, hB⟩)
  ·
    refine W.skip ?_
    refine thenP_normal ?_
    refine W.seqR ?_
    refine LS.vv rfl rfl (by decide) (Val.assign rfl) ?_
    refine LS.nil ?_
    refine W.seq ?_
    refine W.seqR ?_
    refine LS.vv rfl rfl (by decide) (Val.move rfl) ?_
    first | refine LS.vv rfl rfl (by decide) (Val.addN (j := 1) rfl rfl (by omega)) ?_ | refine LS.vv rfl rfl (by decide) (Val.add64 rfl rfl (by omega)) ?_
    refine LS.vv rfl rfl (by decide) (Val.assign rfl) ?_
    refine LS.nil ?_
    refine W.block ?_
    replace hM := hM.addNil 3 1
    refine W.loop (α := Nat × Option Addr × Nat × List Nat) (fun g1 => [(9, .slice g1.2.1 g1.2.2.2.length g1.2.2.1), (10, .int .i64 (g1.1 : Int))]) [(0, _), (1, _), (2, _), (3, _)] (fun g1 w => (i < g1.1 ∧ g1.1 ≤ j ∧ ((g1.2.2.2 = [] ∧ g1.2.1 = none ∧ ∀ k2, i < k2 → k2 < g1.1 → tab T i k2 + tab T k2 j + sumR ws i (j - i) ≠ tab T i j) ∨ Ln ws (tab T) i j d g1.2.2.2)) ∧ Mz w w0.heap.size [⟨3, 1, g1.2.1, g1.2.2.2.length, g1.2.2.1, nv g1.2.2.2⟩] ∧ Below w0.heap.size w0 w) (fun g1 => j - g1.1) ((i + 1, none, 0, [])) (Sub.cons rfl (Sub.cons rfl (Sub.nil _))) (Sub.cons rfl (Sub.cons rfl (Sub.cons rfl (Sub.cons rfl (Sub.nil _))))) ?_ ?_
    · exact ⟨⟨by simp only; omega, by simp only; omega, .inl ⟨rfl, rfl, fun k2 a1 a2 => absurd a2 (by simp only; omega)⟩⟩, hM, hB⟩
    rintro ⟨k, pf, cf, lf⟩ w2 ⟨⟨hik, hkj, hfo⟩, hM, hB⟩
    try simp only at hM
    simp only [List.cons_append, List.nil_append]
    simp only at hik hkj hfo
    refine W.seq ?_
    refine W.seqR ?_
    refine LS.vv rfl rfl (by decide) (Val.move rfl) ?_
    refine LS.vv rfl rfl (by decide) (Val.move rfl) ?_
    refine LS.vv rfl rfl (by decide) (Val.lss rfl rfl) ?_
    refine LS.nil ?_
    first | refine W.condD rfl (fun hc2 => ?_) (fun hc2 => ?_) | refine W.cond rfl (fun hc2 => ?_) (fun hc2 => ?_)
    ·
      have hb1 := hTb i k (by omega)
      have hb2 := hTb k j (by omega)
      have hb3 := hTb i j (by omega)
      have hsr := sumR_le hw i (j - i)
      have hsr2 : (j - i) * 1048576 ≤ 8388608 := by omega
      have hri := hrl i (by omega)
      have hrk := hrl k (by omega)
      refine W.skip ?_
      refine thenP_normal ?_
      refine W.seq ?_
      refine W.block ?_
      refine W.seq ?_
      refine W.seqFz 37 [(0, true), (1, true), (2, true), (3, true), (4, true), (5, true), (6, true), (7, true), (8, true), (9, true), (10, true), (11, true), (12, true), (13, true), (14, true), (15, true), (16, true), (17, true), (18, true), (19, true), (20, true), (21, true), (22, true), (23, true), (26, true), (27, true), (28, true), (29, true), (30, true), (31, true), (32, true), (33, true), (34, true), (35, true), (24, false), (25, true), (36, true)] mixed (by kernel_rfl) hB hM ?_
      replace hB := hB.drew
      replace hM := hM.drew
      refine DF.vv rfl rfl rfl (by decide) (Val.move rfl) ?_
      first | refine DF.vv rfl rfl rfl (by decide) (Val.nilCheck rfl) ?_ | refine DF.vv rfl rfl rfl (by decide) (Val.nilCheckP rfl) ?_
      refine DF.vv rfl rfl rfl (by decide) (Val.fieldAddr0 fld47_1 rfl) ?_
      refine DF.vv rfl rfl rfl (by decide) (Val.load flat45 rfl (fun _ h => ((htb.below h.1)).hra) (rfl)) ?_
      refine DF.vv rfl rfl rfl (by decide) (Val.move rfl) ?_
      refine DF.vv rfl rfl rfl (by decide) (Val.index1 Try.underlying45 elem22 rfl rfl (by omega) (((htb.below hB)).ho) (by rw [tv_len]; omega)) ?_
      refine DF.vv rfl rfl rfl (by decide) (Val.load flat22 rfl (fun _ h => ((htb.below h.1)).ho) (tv_at (by omega))) ?_
      refine DF.vv rfl rfl rfl (by decide) (Val.move rfl) ?_
      refine DF.vv rfl rfl rfl (by decide) (Val.index1 Try.underlying22 elem2 rfl rfl (by omega) (((htb.below hB)).row i (by omega)) (nv_lt (by omega))) ?_
      refine DF.vv rfl rfl rfl (by decide) (Val.load flat2 rfl (fun _ h => ((htb.below h.1)).row i (by omega)) (nv_at (by omega))) ?_
      refine DF.vv rfl rfl rfl (by decide) (Val.move rfl) ?_
      first | refine DF.vv rfl rfl rfl (by decide) (Val.nilCheck rfl) ?_ | refine DF.vv rfl rfl rfl (by decide) (Val.nilCheckP rfl) ?_
      refine DF.vv rfl rfl rfl (by decide) (Val.fieldAddr0 fld47_1 rfl) ?_
      refine DF.vv rfl rfl rfl (by decide) (Val.load flat45 rfl (fun _ h => ((htb.below h.1)).hra) (rfl)) ?_
      refine DF.vv rfl rfl rfl (by decide) (Val.move rfl) ?_
      refine DF.vv rfl rfl rfl (by decide) (Val.index1 Try.underlying45 elem22 rfl rfl (by omega) (((htb.below hB)).ho) (by rw [tv_len]; omega)) ?_
      refine DF.vv rfl rfl rfl (by decide) (Val.load flat22 rfl (fun _ h => ((htb.below h.1)).ho) (tv_at (by omega))) ?_
      refine DF.vv rfl rfl rfl (by decide) (Val.move rfl) ?_
      refine DF.vv rfl rfl rfl (by decide) (Val.index1 Try.underlying22 elem2 rfl rfl (by omega) (((htb.below hB)).row k (by omega)) (nv_lt (by omega))) ?_
      refine DF.vv rfl rfl rfl (by decide) (Val.load flat2 rfl (fun _ h => ((htb.below h.1)).row k (by omega)) (nv_at (by omega))) ?_
      first | refine DF.vv rfl rfl rfl (by decide) (Val.addN rfl rfl (by omega)) ?_ | refine DF.vv rfl rfl rfl (by decide) (Val.add64 rfl rfl (by omega)) ?_
      refine DF.vv rfl rfl rfl (by decide) (Val.move rfl) ?_
      refine DF.vv rfl rfl rfl (by decide) (Val.move rfl) ?_
      refine DF.vv rfl rfl rfl (by decide) (Val.move rfl) ?_
      refine DF.vv rfl rfl rfl (by decide) (Val.move rfl) ?_
      first | refine DF.vv rfl rfl rfl (by decide) (Val.nilCheck rfl) ?_ | refine DF.vv rfl rfl rfl (by decide) (Val.nilCheckP rfl) ?_
      refine DF.vv rfl rfl rfl (by decide) (Val.fieldAddr0 fld47_1 rfl) ?_
      refine DF.vv rfl rfl rfl (by decide) (Val.load flat45 rfl (fun _ h => ((htb.below h.1)).hra) (rfl)) ?_
      refine DF.vv rfl rfl rfl (by decide) (Val.move rfl) ?_
      refine DF.vv rfl rfl rfl (by decide) (Val.index1 Try.underlying45 elem22 rfl rfl (by omega) (((htb.below hB)).ho) (by rw [tv_len]; omega)) ?_
      refine DF.vv rfl rfl rfl (by decide) (Val.load flat22 rfl (fun _ h => ((htb.below h.1)).ho) (tv_at (by omega))) ?_
      refine DF.vv rfl rfl rfl (by decide) (Val.move rfl) ?_
      refine DF.vv rfl rfl rfl (by decide) (Val.index1 Try.underlying22 elem2 rfl rfl (by omega) (((htb.below hB)).row i (by omega)) (nv_lt (by omega))) ?_
      refine DF.vv rfl rfl rfl (by decide) (Val.load flat2 rfl (fun _ h => ((htb.below h.1)).row i (by omega)) (nv_at (by omega))) ?_
      refine DF.m rfl rfl (Step.call body33 rfl rfl (by decide) rfl (CallsV.mono (bsum_any ws p po g c m (m + 1) co i j _ ((htb.below hB)).hra ((htb.below hB)).hr hm hmc hij hj h8 hw) ?_))
      rintro _ w3 ⟨rfl, hb3⟩
      replace hM := hM.below hb3
      replace hB := hB.trans (hb3.mono hB.size)
      refine ⟨fun _ => ⟨hB, hM⟩, ?_⟩
      first | refine DF.vv rfl rfl rfl (by decide) (Val.addN rfl rfl (by omega)) ?_ | refine DF.vv rfl rfl rfl (by decide) (Val.add64 rfl rfl (by omega)) ?_
      refine DF.vv rfl rfl rfl (by decide) (Val.neq rfl rfl) ?_
      refine DF.nil ?_
      first | refine W.condD rfl (fun hc3 => ?_) (fun hc3 => ?_) | refine W.cond rfl (fun hc3 => ?_) (fun hc3 => ?_)
      ·
        refine W.exit ?_
        refine thenP_exit ?_
        refine inBlk_exit ?_
        refine thenP_normal ?_
        refine W.reg ?_
        refine LS.vv rfl rfl (by decide) (Val.move rfl) ?_
        first | refine LS.vv rfl rfl (by decide) (Val.addN (j := 1) rfl rfl (by omega)) ?_ | refine LS.vv rfl rfl (by decide) (Val.add64 rfl rfl (by omega)) ?_
        refine LS.vv rfl rfl (by decide) (Val.assign rfl) ?_
        refine LS.nil ?_
        refine thenP_normal ?_
        first
          | (refine ⟨(k + 1, pf, cf, lf), (Sub.cons rfl (Sub.cons rfl (Sub.nil _))), (by repeat (first | exact Sub.nil _ | refine Sub.cons rfl ?_)), ⟨⟨by simp only; omega, by simp only; omega, ?_⟩, hM, hB⟩, by simp only; omega⟩; rcases hfo with ⟨q1, q2, q3⟩ | q1; (refine .inl ⟨q1, q2, fun k2 a1 a2 => ?_⟩; by_cases e : k2 = k; (subst e; show gn (gT T i).l k2 + gn (gT T k2).l j + sumR ws i (j - i) ≠ gn (gT T i).l j; omega); exact q3 k2 a1 (by simp only at a2; omega)); exact .inr q1)
          | (refine ⟨(k + 1, pf, cf, lf), (Sub.cons rfl (Sub.cons rfl (Sub.nil _))), (by repeat (first | exact Sub.nil _ | refine Sub.cons rfl ?_)), ⟨⟨by simp only; omega, by simp only; omega, ?_⟩, hM, hB⟩, by simp only; omega⟩; exact .inr hfo3)
          | (refine ⟨(k + 1, p0, c0, la ++ lb), (Sub.cons' rfl (by simp only [hal, hbl, List.length_append]) (Sub.cons rfl (Sub.nil _))), (by repeat (first | exact Sub.nil _ | refine Sub.cons rfl ?_)), ⟨⟨by simp only; omega, by simp only; omega, .inr hnode⟩, (by simp only [List.length_append, hal, hbl]; exact hMw.er0.er1), hB⟩, by simp only; omega⟩)
      ·
        refine W.skip ?_
        refine thenP_normal ?_
        refine W.seqR ?_
        refine LS.vv rfl rfl (by decide) (Val.move rfl) ?_
        refine LS.vv rfl rfl (by decide) (Val.move rfl) ?_
        refine LS.vv rfl rfl (by decide) (Val.move rfl) ?_
        refine LS.vv rfl rfl (by decide) (Val.move rfl) ?_
        first | refine LS.vv rfl rfl (by decide) (Val.addN (j := 1) rfl rfl (by omega)) ?_ | refine LS.vv rfl rfl (by decide) (Val.add64 rfl rfl (by omega)) ?_
        have hTeq : gn (gT T i).l k + gn (gT T k).l j + sumR ws i (j - i) = gn (gT T i).l j := by omega
        refine LS.m rfl (Step.call body24 rfl rfl (by decide) rfl (CallsV.mono (ih i k (d + 1) _ (by omega) ((htb.below hB)) (by omega) (by omega) (by omega)) ?_))
        rintro _ w4 ⟨pa, ca, la, rfl, hOa, hal, hla, hb4⟩
        replace hM := hM.add hB.size hb4 hOa.toZ
        replace hB := hB.trans (hb4.mono hB.size)
        refine LS.vv rfl rfl (by decide) (Val.move rfl) ?_
        refine LS.vv rfl rfl (by decide) (Val.move rfl) ?_
        refine LS.vv rfl rfl (by decide) (Val.move rfl) ?_
        refine LS.vv rfl rfl (by decide) (Val.move rfl) ?_
        first | refine LS.vv rfl rfl (by decide) (Val.addN (j := 1) rfl rfl (by omega)) ?_ | refine LS.vv rfl rfl (by decide) (Val.add64 rfl rfl (by omega)) ?_
        refine LS.m rfl (Step.call body24 rfl rfl (by decide) rfl (CallsV.mono (ih k j (d + 1) _ (by omega) ((htb.below hB)) (by omega) (by omega) (by omega)) ?_))
        rintro _ w5 ⟨pb, cb, lb, rfl, hOb, hbl, hlb, hb5⟩
        replace hM := hM.add hB.size hb5 hOb.toZ
        replace hB := hB.trans (hb5.mono hB.size)
        refine LS.m rfl (Step.appendZ (B := w0.heap.size) rfl rfl (by decide) Try.underlying23 elem3 rfl (by decide) rfl rfl (hM.o1) (hM.o0.rd) (by simp only [nv, List.length_map]; omega) (by first | exact one_map _ (fun _ => rfl) _ | simp [Value.oneCell']) (by omega) (by omega) hB.size ?_)
        rintro p6 c6 w6 hO6 hg6 hbl6 hbk6
        replace hM := hM.s1 (e := _) hg6 hO6 hbk6
        try simp only [nv_app1, nv_app, nv_set, nv_rep, nv_one, nv_cons, nv_take, nv_drop, List.nil_append] at hM
        replace hB := hB.trans hbl6
        have hnode := (hla.2 (by omega)).node (hlb.2 (by omega)) (show i < k by omega) (show k < j by omega) (by omega) hTeq
        have hnl := hnode.len
        have hMw := hM
        refine LS.vv rfl rfl (by decide) (Val.assign rfl) ?_
        refine LS.nil ?_
        refine W.seqR ?_
        refine LS.vv rfl rfl (by decide) (Val.move rfl) ?_
        refine LS.vv rfl rfl (by decide) (Val.eqlNil Try.underlying23 rfl rfl) ?_
        refine LS.vv rfl rfl (by decide) (Val.move rfl) ?_
        refine LS.split 2 rfl (fun hg4 => ?_) (fun hg4 => ?_)
        ·
          first | (have hg4p := of_decide_eq_true hg4) | skip
          refine LS.s rfl rfl rfl hg4 (by decide) ?_
          refine LS.s rfl rfl rfl hg4 (by decide) ?_
          refine LS.s rfl rfl rfl hg4 (by decide) ?_
          refine LS.vv rfl rfl (by decide) (Val.pickT rfl hg4 rfl) ?_
          refine LS.nil ?_
          refine W.condT rfl ?_
          refine W.reg ?_
          refine LS.vv rfl rfl (by decide) (Val.move rfl) ?_
          refine LS.vv rfl rfl (by decide) (Val.assign rfl) ?_
          refine LS.nil ?_
          refine inBlk_normal ?_
          refine thenP_normal ?_
          refine W.reg ?_
          refine LS.vv rfl rfl (by decide) (Val.move rfl) ?_
          first | refine LS.vv rfl rfl (by decide) (Val.addN (j := 1) rfl rfl (by omega)) ?_ | refine LS.vv rfl rfl (by decide) (Val.add64 rfl rfl (by omega)) ?_
          refine LS.vv rfl rfl (by decide) (Val.assign rfl) ?_
          refine LS.nil ?_
          refine thenP_normal ?_
          replace hM := hM.er1.er0
          first
            | (refine ⟨(k + 1, pf, cf, lf), (Sub.cons rfl (Sub.cons rfl (Sub.nil _))), (by repeat (first | exact Sub.nil _ | refine Sub.cons rfl ?_)), ⟨⟨by simp only; omega, by simp only; omega, ?_⟩, hM, hB⟩, by simp only; omega⟩; rcases hfo with ⟨q1, q2, q3⟩ | q1; (refine .inl ⟨q1, q2, fun k2 a1 a2 => ?_⟩; by_cases e : k2 = k; (subst e; show gn (gT T i).l k2 + gn (gT T k2).l j + sumR ws i (j - i) ≠ gn (gT T i).l j; omega); exact q3 k2 a1 (by simp only at a2; omega)); exact .inr q1)
            | (refine ⟨(k + 1, pf, cf, lf), (Sub.cons rfl (Sub.cons rfl (Sub.nil _))), (by repeat (first | exact Sub.nil _ | refine Sub.cons rfl ?_)), ⟨⟨by simp only; omega, by simp only; omega, ?_⟩, hM, hB⟩, by simp only; omega⟩; exact .inr hfo3)
            | (refine ⟨(k + 1, p6, c6, la ++ lb), (Sub.cons' rfl (by simp only [hal, hbl, List.length_append]) (Sub.cons rfl (Sub.nil _))), (by repeat (first | exact Sub.nil _ | refine Sub.cons rfl ?_)), ⟨⟨by simp only; omega, by simp only; omega, .inr hnode⟩, (by simp only [List.length_append, hal, hbl]; exact hMw.er0.er1), hB⟩, by simp only; omega⟩)
        ·
          first | (have hg4p := of_decide_eq_false hg4) | skip
          refine LS.vg rfl rfl rfl hg4 (by decide) (Val.move rfl) ?_
          refine LS.vg rfl rfl rfl hg4 (by decide) (Val.move rfl) ?_
          have hfo3 : Ln ws (tab T) i j d lf := by { rcases hfo with ⟨_, hp0, _⟩ | h1; (exfalso; subst hp0; simp_all); exact h1 }
          have hfo2 := hfo3.len
          refine LS.mg rfl rfl hg4 (Step.call body34 rfl rfl (by decide) rfl (CallsV.mono (before_any (la ++ lb) lf _ _ _ _ _ _ _ hM.o1.rd hM.o2.rd (by rw [hnl]; omega) rfl (by omega) (by omega)) ?_))
          rintro _ w7 ⟨bb, rfl, hb7⟩
          replace hM := hM.below hb7
          replace hB := hB.trans (hb7.mono hB.size)
          replace hMw := hMw.below hb7
          refine LS.vv rfl rfl (by decide) (Val.pickF rfl hg4 rfl) ?_
          refine LS.nil ?_
          first | refine W.condD rfl (fun hc5 => ?_) (fun hc5 => ?_) | refine W.cond rfl (fun hc5 => ?_) (fun hc5 => ?_)
          ·
            refine W.reg ?_
            refine LS.vv rfl rfl (by decide) (Val.move rfl) ?_
            refine LS.vv rfl rfl (by decide) (Val.assign rfl) ?_
            refine LS.nil ?_
            refine inBlk_normal ?_
            refine thenP_normal ?_
            refine W.reg ?_
            refine LS.vv rfl rfl (by decide) (Val.move rfl) ?_
            first | refine LS.vv rfl rfl (by decide) (Val.addN (j := 1) rfl rfl (by omega)) ?_ | refine LS.vv rfl rfl (by decide) (Val.add64 rfl rfl (by omega)) ?_
            refine LS.vv rfl rfl (by decide) (Val.assign rfl) ?_
            refine LS.nil ?_
            refine thenP_normal ?_
            replace hM := hM.er1.er0
            first
              | (refine ⟨(k + 1, pf, cf, lf), (Sub.cons rfl (Sub.cons rfl (Sub.nil _))), (by repeat (first | exact Sub.nil _ | refine Sub.cons rfl ?_)), ⟨⟨by simp only; omega, by simp only; omega, ?_⟩, hM, hB⟩, by simp only; omega⟩; rcases hfo with ⟨q1, q2, q3⟩ | q1; (refine .inl ⟨q1, q2, fun k2 a1 a2 => ?_⟩; by_cases e : k2 = k; (subst e; show gn (gT T i).l k2 + gn (gT T k2).l j + sumR ws i (j - i) ≠ gn (gT T i).l j; omega); exact q3 k2 a1 (by simp only at a2; omega)); exact .inr q1)
              | (refine ⟨(k + 1, pf, cf, lf), (Sub.cons rfl (Sub.cons rfl (Sub.nil _))), (by repeat (first | exact Sub.nil _ | refine Sub.cons rfl ?_)), ⟨⟨by simp only; omega, by simp only; omega, ?_⟩, hM, hB⟩, by simp only; omega⟩; exact .inr hfo3)
              | (refine ⟨(k + 1, p6, c6, la ++ lb), (Sub.cons' rfl (by simp only [hal, hbl, List.length_append]) (Sub.cons rfl (Sub.nil _))), (by repeat (first | exact Sub.nil _ | refine Sub.cons rfl ?_)), ⟨⟨by simp only; omega, by simp only; omega, .inr hnode⟩, (by simp only [List.length_append, hal, hbl]; exact hMw.er0.er1), hB⟩, by simp only; omega⟩)
          ·
            refine W.skip ?_
            refine inBlk_normal ?_
            refine thenP_normal ?_
            refine W.reg ?_
            refine LS.vv rfl rfl (by decide) (Val.move rfl) ?_
            first | refine LS.vv rfl rfl (by decide) (Val.addN (j := 1) rfl rfl (by omega)) ?_ | refine LS.vv rfl rfl (by decide) (Val.add64 rfl rfl (by omega)) ?_
            refine LS.vv rfl rfl (by decide) (Val.assign rfl) ?_
            refine LS.nil ?_
            refine thenP_normal ?_
            replace hM := hM.er1.er0
            first
              | (refine ⟨(k + 1, pf, cf, lf), (Sub.cons rfl (Sub.cons rfl (Sub.nil _))), (by repeat (first | exact Sub.nil _ | refine Sub.cons rfl ?_)), ⟨⟨by simp only; omega, by simp only; omega, ?_⟩, hM, hB⟩, by simp only; omega⟩; rcases hfo with ⟨q1, q2, q3⟩ | q1; (refine .inl ⟨q1, q2, fun k2 a1 a2 => ?_⟩; by_cases e : k2 = k; (subst e; show gn (gT T i).l k2 + gn (gT T k2).l j + sumR ws i (j - i) ≠ gn (gT T i).l j; omega); exact q3 k2 a1 (by simp only at a2; omega)); exact .inr q1)
              | (refine ⟨(k + 1, pf, cf, lf), (Sub.cons rfl (Sub.cons rfl (Sub.nil _))), (by repeat (first | exact Sub.nil _ | refine Sub.cons rfl ?_)), ⟨⟨by simp only; omega, by simp only; omega, ?_⟩, hM, hB⟩, by simp only; omega⟩; exact .inr hfo3)
              | (refine ⟨(k + 1, p6, c6, la ++ lb), (Sub.cons' rfl (by simp only [hal, hbl, List.length_append]) (Sub.cons rfl (Sub.nil _))), (by repeat (first | exact Sub.nil _ | refine Sub.cons rfl ?_)), ⟨⟨by simp only; omega, by simp only; omega, .inr hnode⟩, (by simp only [List.length_append, hal, hbl]; exact hMw.er0.er1), hB⟩, by simp only; omega⟩)
    ·
      refine W.exit ?_
      refine thenP_exit ?_
      refine thenP_exit ?_
      refine inBlk_exit ?_
      refine thenP_normal ?_
      refine W.seqR ?_
      refine LS.vv rfl rfl (by decide) (Val.move rfl) ?_
      refine LS.vv rfl rfl (by decide) (Val.assign rfl) ?_
      refine LS.nil ?_
      refine W.ret ?_
      refine ret1 (by first | exact .inl rfl | exact .inr rfl) rfl ?_
      first
        | (have hij2 : j = i ∨ j = i + 1 := (by omega)
           rcases hij2 with rfl | rfl
           · refine ⟨_, 1, [], rfl, ?_, (by simp), ⟨fun _ => rfl, fun h => absurd h (by omega)⟩, hB⟩
             have := hM.o0.own
             rw [Nat.sub_self]
             exact Own.short this
           · refine ⟨_, 1, [d], (by rw [show i + 1 - i = 1 by omega]), (by rw [show i + 1 - i = 1 by omega]; exact hM.o0.own), (by simp), ⟨fun h => absurd h (by omega), fun _ => Ln.leaf (hdp.zero i (i + 1) (by omega)) (by omega)⟩, hB⟩)
        | (obtain rfl : k = j := (by omega)
           have hln : Ln ws (tab T) i k d lf := by { rcases hfo with ⟨_, _, q3⟩ | q1; (exfalso; obtain ⟨k2, a1, a2, a3⟩ := hdp.att i k (by omega) hj (by omega); exact q3 k2 a1 a2 a3.symm); exact q1 }
           have hll := hln.len
           exact ⟨pf, cf, lf, (by rw [hll]), (by rw [← hll]; exact hM.o0.own), hll, ⟨fun h => absurd h (by omega), fun _ => hln⟩, hB⟩)

theorem alens_any (ws : List Nat) (T : List Tx) (p po : Option Addr) (g m c co : Nat) (hm : ws.length = m) (hmc : m ≤ c) (h8 : m ≤ 8) (hw : ∀ x ∈ ws, x ≤ 1048576) (hdp : Dp ws m (tab T) (m + 1)) (hTl : T.length = m + 1) (hrl : ∀ k, k < m + 1 → (gT T k).l.length = m + 1) : ∀ (N i j d : Nat) (w0 : World), j - i ≤ N → Tbl w0 ws T g m c (m + 1) co p po → i ≤ j → j ≤ m → d ≤ 100 - (j - i) → CallsV Try.prog 24 #[.pointer (some ⟨g, 0, none⟩), .int .i64 (i : Int), .int .i64 (j : Int), .int .i64 (d : Int)] w0 (fun v w => ∃ (p2 : Option Addr) (c2 : Nat) (l : List Nat), v = .slice p2 (j - i) c2 ∧ Own w w0.heap.size 3 p2 (j - i) c2 (nv l) ∧ l.length = j - i ∧ LnO ws (tab T) i j d l ∧ Below w0.heap.size w0 w)
  | 0, i, j, d, w0, h1, h2, h3, h4, h5 => lens_step ws T p po g m c co hm hmc h8 hw hdp hTl hrl 0 (fun _ _ _ _ h => absurd h (by omega)) i j d w0 h2 h1 h3 h4 h5
  | N + 1, i, j, d, w0, h1, h2, h3, h4, h5 => lens_step ws T p po g m c co hm hmc h8 hw hdp hTl hrl (N + 1) (fun i j d w0 q1 q2 q3 q4 q5 => alens_any ws T p po g m c co hm hmc h8 hw hdp hTl hrl N i j d w0 (by omega) q2 q3 q4 q5) i j d w0 h2 h1 h3 h4 h5

theorem alensW_any (zs : List Int) (p : Option Addr) (c m : Nat) (w0 : World) (hr : Rd w0 p (iv zs)) (hm : zs.length = m) (hmc : m ≤ c) :
    CallsV Try.prog 9 #[.slice p m c] w0 (fun v w => ∃ (e : Nat) (p2 : Option Addr) (c2 : Nat) (l : List Nat), v = .tuple #[.slice p2 l.length c2, .int .i64 (e : Int)] ∧ (e = 0 ↔ (zs.length ≤ 8 ∧ ∀ z ∈ zs, 0 ≤ z ∧ z ≤ 1048576)) ∧ (e = 0 → ∃ T, Dp (zs.map Int.toNat) zs.length T (zs.length + 1) ∧ l.length = zs.length ∧ LnO (zs.map Int.toNat) T 0 zs.length 0 l) ∧ Own w w0.heap.size 3 p2 l.length c2 (nv l) ∧ Below w0.heap.size w0 w) := by
  refine enter2 Try.func9 rfl Try.ntmps9 (by simp) rfl ?_
  have hB := Below.refl w0.heap.size w0
  simp only [argLoc]
  have hM := Mz.nil w0 w0.heap.size
  subst hm
  refine W.seqR ?_
  refine LS.vv rfl rfl (by decide) (Val.assign rfl) ?_
  refine LS.vv rfl rfl (by decide) (Val.cast (v := .int .i64 ((0 : Nat) : Int)) (Val.assign rfl) rfl) ?_
  refine LS.nil ?_
  refine W.seq ?_
  refine W.seqR ?_
  refine LS.vv rfl rfl (by decide) (Val.move rfl) ?_
  refine LS.m rfl (Step.call body22 rfl rfl (by decide) rfl (CallsV.mono (check_any zs _ _ _ _ (hr.below hB) rfl) ?_))
  rintro _ w1 ⟨e, rfl, he, hb1⟩
  replace hM := hM.below hb1
  replace hB := hB.trans (hb1.mono hB.size)
  refine LS.vv rfl rfl (by decide) (Val.assign rfl) ?_
  refine LS.nil ?_
  refine W.seqR ?_
  refine LS.vv rfl rfl (by decide) (Val.move rfl) ?_
  refine LS.vv rfl rfl (by decide) (Val.neq rfl rfl) ?_
  refine LS.nil ?_
  first | refine W.condD rfl (fun hc1 => ?_) (fun hc1 => ?_) | refine W.cond rfl (fun hc1 => ?_) (fun hc1 => ?_)
  ·
    refine W.seqR ?_
    refine LS.vv rfl rfl (by decide) (Val.move rfl) ?_
    refine LS.vv rfl rfl (by decide) (Val.assign rfl) ?_
    refine LS.vv rfl rfl (by decide) (Val.assign rfl) ?_
    refine LS.nil ?_
    refine W.ret ?_
    refine thenP_ret ?_
    refine ret2 (by first | exact .inl rfl | exact .inr rfl) rfl rfl ?_
    first | exact ⟨e, none, 0, [], rfl, he, fun h => absurd h (by omega), Own.nil _ _ _, hB⟩ | (rw [Nat.sub_zero] at hll hOl; exact ⟨0, pl, cl, l, (by rw [hll, Nat.sub_zero]), ⟨fun _ => hok, fun _ => rfl⟩, fun _ => ⟨tab T, hdp, hll, hln⟩, (by rw [hll]; exact hOl.base (Nat.le_trans hb1.size hb2.size)), hB⟩)
  ·
    refine W.skip ?_
    refine thenP_normal ?_
    refine W.seqR ?_
    refine LS.vv rfl rfl (by decide) (Val.move rfl) ?_
    have hok := he.1 (by omega)
    have hr2 : Rd w0 p (nv (zs.map Int.toNat)) := by rw [← iv_toNat (fun z h => (hok.2 z h).1)]; exact hr
    have hwn := okW_nat hok.2
    refine LS.m rfl (Step.call body23 rfl rfl (by decide) rfl (CallsV.mono (reckon_any (zs.map Int.toNat) _ _ _ _ (hr2.below hB) (by rw [List.length_map]) hmc hok.1 hwn) ?_))
    rintro _ w2 ⟨g, co, po, T, rfl, hMr, hdp, hTl, hrows, hb2⟩
    replace hM := hM.below hb2
    replace hB := hB.trans (hb2.mono hB.size)
    refine LS.vv rfl rfl (by decide) (Val.move rfl) ?_
    refine LS.vv rfl rfl (by decide) (Val.len Try.underlying22 rfl) ?_
    have hwl : (zs.map Int.toNat).length = zs.length := by rw [List.length_map]
    refine LS.m rfl (Step.call body24 rfl rfl (by decide) rfl (CallsV.mono (alens_any (zs.map Int.toNat) T p po g zs.length c co hwl hmc hok.1 hwn hdp hTl hrows zs.length 0 zs.length 0 _ (by omega) ⟨hMr.o0.rd, hr2.below hB, hMr.o1.rd, fun k hk => txR hMr hk⟩ (by omega) (by omega) (by omega)) ?_))
    rintro _ w3 ⟨pl, cl, l, rfl, hOl, hll, hln, hb3⟩
    replace hM := hM.below hb3
    replace hB := hB.trans (hb3.mono hB.size)
    refine LS.vv rfl rfl (by decide) (Val.assign rfl) ?_
    refine LS.vv rfl rfl (by decide) (Val.cast (v := .int .i64 ((0 : Nat) : Int)) (Val.assign rfl) rfl) ?_
    refine LS.nil ?_
    refine W.ret ?_
    refine ret2 (by first | exact .inl rfl | exact .inr rfl) rfl rfl ?_
    first | exact ⟨e, none, 0, [], rfl, he, fun h => absurd h (by omega), Own.nil _ _ _, hB⟩ | (rw [Nat.sub_zero] at hll hOl; exact ⟨0, pl, cl, l, (by rw [hll, Nat.sub_zero]), ⟨fun _ => hok, fun _ => rfl⟩, fun _ => ⟨tab T, hdp, hll, hln⟩, (by rw [hll]; exact hOl.base (Nat.le_trans hb1.size hb2.size)), hB⟩)

theorem iv_cast (l : List Nat) : iv (l.map fun x : Nat => (x : Int)) = nv l := (nv_iv l).symm

theorem rises_any (xs ys : List Bool) (p q : Option Addr) (n m c d : Nat) (w0 : World) (hx : Rd w0 p (bv xs)) (hy : Rd w0 q (bv ys)) (hn : xs.length = n) (hm : ys.length = m) (hmx : n ≤ 1000) :
    CallsV Try.prog 14 #[.slice p n c, .slice q m d] w0 (fun v w => v = .bool (rs xs ys) ∧ Below w0.heap.size w0 w) := by
  refine enter1 Try.func14 rfl Try.ntmps14 (by simp) rfl ?_
  have hB := Below.refl w0.heap.size w0
  simp only [argLoc, Nat.zero_add]
  have hM := Mem.nil w0 w0.heap.size
  subst hn
  subst hm
  refine W.seqR ?_
  refine LS.vv rfl rfl (by decide) (Val.assign rfl) ?_
  refine LS.nil ?_
  refine W.seq ?_
  refine W.seqR ?_
  refine LS.vv rfl rfl (by decide) (Val.cast (v := .int .i64 ((0 : Nat) : Int)) (Val.assign rfl) rfl) ?_
  refine LS.nil ?_
  refine W.block ?_
  refine W.loop (α := Nat) (fun k => [(5, .int .i64 (k : Int))]) [(0, _), (1, _)] (fun k w => ((k ≤ xs.length ∨ k ≤ ys.length) ∧ k ≤ xs.length ∧ rs (xs.drop k) (ys.drop k) = rs xs ys) ∧ Mem w w0.heap.size [] ∧ Below w0.heap.size w0 w) (fun k => xs.length - k) (0) (Sub.cons rfl (Sub.nil _)) (Sub.cons rfl (Sub.cons rfl (Sub.nil _))) ?_ ?_
  · exact ⟨⟨.inl (Nat.zero_le _), Nat.zero_le _, rfl⟩, hM, hB⟩
  rintro k w1 ⟨⟨_, hk, hrs⟩, hM, hB⟩
  try simp only at hM
  simp only [List.cons_append, List.nil_append]
  have hrd := fun h1 h2 => rs_drop (a := xs) (b := ys) (k := k) h1 h2
  refine W.seq ?_
  refine W.seqR ?_
  refine LS.vv rfl rfl (by decide) (Val.move rfl) ?_
  refine LS.vv rfl rfl (by decide) (Val.move rfl) ?_
  refine LS.vv rfl rfl (by decide) (Val.len Try.underlying35 rfl) ?_
  refine LS.vv rfl rfl (by decide) (Val.lss rfl rfl) ?_
  refine LS.vv rfl rfl (by decide) (Val.move rfl) ?_
  refine LS.split 4 rfl (fun hg1 => ?_) (fun hg1 => ?_)
  ·
    first | (have hg1p := of_decide_eq_true hg1) | skip
    refine LS.vg rfl rfl rfl hg1 (by decide) (Val.move rfl) ?_
    refine LS.vg rfl rfl rfl hg1 (by decide) (Val.move rfl) ?_
    refine LS.vg rfl rfl rfl hg1 (by decide) (Val.len Try.underlying35 rfl) ?_
    refine LS.vg rfl rfl rfl hg1 (by decide) (Val.lss rfl rfl) ?_
    refine LS.vv rfl rfl (by decide) (Val.pickT rfl hg1 rfl) ?_
    refine LS.nil ?_
    first | refine W.condD rfl (fun hc2 => ?_) (fun hc2 => ?_) | refine W.cond rfl (fun hc2 => ?_) (fun hc2 => ?_)
    ·
      refine W.skip ?_
      refine thenP_normal ?_
      refine W.seq ?_
      refine W.block ?_
      refine W.seqF 9 [(0, true), (1, true), (2, true), (3, true), (4, true), (5, true), (6, true), (7, true), (8, true)] mixed (by kernel_rfl) hB hM ?_
      replace hB := hB.drew
      replace hM := hM.drew
      refine DF.vv rfl rfl rfl (by decide) (Val.move rfl) ?_
      refine DF.vv rfl rfl rfl (by decide) (Val.move rfl) ?_
      refine DF.vv rfl rfl rfl (by decide) (Val.index1 Try.underlying35 elem4 rfl rfl (by omega) ((hx.below hB)) (bv_lt (by omega))) ?_
      refine DF.vv rfl rfl rfl (by decide) (Val.load flat4 rfl (fun _ h => (hx.below h.1)) (bv_at (by omega))) ?_
      refine DF.vv rfl rfl rfl (by decide) (Val.move rfl) ?_
      refine DF.vv rfl rfl rfl (by decide) (Val.move rfl) ?_
      refine DF.vv rfl rfl rfl (by decide) (Val.index1 Try.underlying35 elem4 rfl rfl (by omega) ((hy.below hB)) (bv_lt (by omega))) ?_
      refine DF.vv rfl rfl rfl (by decide) (Val.load flat4 rfl (fun _ h => (hy.below h.1)) (bv_at (by omega))) ?_
      refine DF.vv rfl rfl rfl (by decide) (Val.neqB Try.underlying4 rfl rfl) ?_
      refine DF.nil ?_
      first | refine W.condD rfl (fun hc3 => ?_) (fun hc3 => ?_) | refine W.cond rfl (fun hc3 => ?_) (fun hc3 => ?_)
      ·
        refine W.seqR ?_
        refine LS.vv rfl rfl (by decide) (Val.move rfl) ?_
        refine LS.vv rfl rfl (by decide) (Val.move rfl) ?_
        refine LS.vv rfl rfl (by decide) (Val.index1 Try.underlying35 elem4 rfl rfl (by omega) ((hy.below hB)) (bv_lt (by omega))) ?_
        refine LS.m rfl (Step.load rfl rfl (by decide) flat4 rfl ((hy.below hB)) (bv_at (by omega)) ?_)
        refine LS.vv rfl rfl (by decide) (Val.assign rfl) ?_
        refine LS.nil ?_
        refine W.ret ?_
        refine inBlk_ret ?_
        refine thenP_ret ?_
        refine thenP_ret ?_
        refine inBlk_ret ?_
        refine thenP_ret ?_
        refine ret1 (by first | exact .inl rfl | exact .inr rfl) rfl ?_
        first
          | (have hrd2 := hrd (by omega) (by omega)
             rw [if_neg (by simp_all)] at hrd2
             exact ⟨by rw [← hrs, hrd2], hB⟩)
          | exact ⟨by rw [← hrs, rs_end (by omega)], hB⟩
      ·
        refine W.skip ?_
        refine inBlk_normal ?_
        refine thenP_normal ?_
        refine W.reg ?_
        refine LS.vv rfl rfl (by decide) (Val.move rfl) ?_
        first | refine LS.vv rfl rfl (by decide) (Val.addN (j := 1) rfl rfl (by omega)) ?_ | refine LS.vv rfl rfl (by decide) (Val.add64 rfl rfl (by omega)) ?_
        refine LS.vv rfl rfl (by decide) (Val.assign rfl) ?_
        refine LS.nil ?_
        refine thenP_normal ?_
        have hrd2 := hrd (by omega) (by omega)
        rw [if_pos (by simp_all)] at hrd2
        refine ⟨k + 1, ?_, ?_, ⟨⟨.inl (by omega), by omega, by rw [← hrd2]; exact hrs⟩, hM, hB⟩, by omega⟩
        · exact (Sub.cons rfl (Sub.nil _))
        · repeat (first | exact Sub.nil _ | refine Sub.cons rfl ?_)
    ·
      refine W.exit ?_
      refine thenP_exit ?_
      refine thenP_exit ?_
      refine inBlk_exit ?_
      refine thenP_normal ?_
      refine W.seqR ?_
      refine LS.vv rfl rfl (by decide) (Val.assign rfl) ?_
      refine LS.nil ?_
      refine W.ret ?_
      refine ret1 (by first | exact .inl rfl | exact .inr rfl) rfl ?_
      first
        | (have hrd2 := hrd (by omega) (by omega)
           rw [if_neg (by simp_all)] at hrd2
           exact ⟨by rw [← hrs, hrd2], hB⟩)
        | exact ⟨by rw [← hrs, rs_end (by omega)], hB⟩
  ·
    first | (have hg1p := of_decide_eq_false hg1) | skip
    refine LS.s rfl rfl rfl hg1 (by decide) ?_
    refine LS.s rfl rfl rfl hg1 (by decide) ?_
    refine LS.s rfl rfl rfl hg1 (by decide) ?_
    refine LS.s rfl rfl rfl hg1 (by decide) ?_
    refine LS.vv rfl rfl (by decide) (Val.pickF rfl hg1 rfl) ?_
    refine LS.nil ?_
    refine W.condF rfl ?_
    refine W.exit ?_
    refine thenP_exit ?_
    refine thenP_exit ?_
    refine inBlk_exit ?_
    refine thenP_normal ?_
    refine W.seqR ?_
    refine LS.vv rfl rfl (by decide) (Val.assign rfl) ?_
    refine LS.nil ?_
    refine W.ret ?_
    refine ret1 (by first | exact .inl rfl | exact .inr rfl) rfl ?_
    first
      | (have hrd2 := hrd (by omega) (by omega)
         rw [if_neg (by simp_all)] at hrd2
         exact ⟨by rw [← hrs, hrd2], hB⟩)
      | exact ⟨by rw [← hrs, rs_end (by omega)], hB⟩

theorem amake_any (l : List Nat) (p : Option Addr) (c m : Nat) (w0 : World) (hr : Rd w0 p (nv l)) (hm : l.length = m) (h8 : m ≤ 8) (hal : Al l) :
    CallsV Try.prog 12 #[.slice p m c] w0 (fun v w => ∃ (p2 : Option Addr) (c2 : Nat) (C : List Wd), v = .tuple #[.slice p2 C.length c2, .int .i64 ((0 : Nat) : Int)] ∧ Mem w w0.heap.size (⟨35, p2, C.length, c2, wv C⟩ :: tb 4 C) ∧ C.length = m ∧ (∀ j, j < m → (gW C j).l = mw l j) ∧ Below w0.heap.size w0 w) := by
  refine enter2 Try.func12 rfl Try.ntmps12 (by simp) rfl ?_
  have hB := Below.refl w0.heap.size w0
  simp only [argLoc]
  have hM := Mem.nil w0 w0.heap.size
  subst hm
  refine W.seqR ?_
  refine LS.vv rfl rfl (by decide) (Val.assign rfl) ?_
  refine LS.vv rfl rfl (by decide) (Val.cast (v := .int .i64 ((0 : Nat) : Int)) (Val.assign rfl) rfl) ?_
  refine LS.nil ?_
  refine W.seq ?_
  refine W.seqR ?_
  refine LS.vv rfl rfl (by decide) (Val.move rfl) ?_
  refine LS.m rfl (Step.call body19 rfl rfl (by decide) rfl (CallsV.mono (sum_any (l.map fun x : Nat => (x : Int)) _ _ _ _ (by rw [iv_cast]; exact hr.below hB) (by simp) (by omega)) ?_))
  rintro _ w1 ⟨sn, e0, rfl, he0, hsn, hsn0, hb1⟩
  replace hM := hM.below hb1
  replace hB := hB.trans (hb1.mono hB.size)
  have hez : e0 = 0 := he0.2 ⟨h8, fun z hz => by obtain ⟨x, hx, rfl⟩ := List.mem_map.1 hz; obtain ⟨i, hi, rfl⟩ := List.getElem_of_mem hx; have := hal.eight i hi; rw [gn_lt hi] at this; omega⟩
  refine LS.vv rfl rfl (by decide) (Val.move rfl) ?_
  refine LS.vv rfl rfl (by decide) (Val.extract rfl rfl) ?_
  refine LS.vv rfl rfl (by decide) (Val.extract rfl rfl) ?_
  refine LS.vv rfl rfl (by decide) (Val.assign rfl) ?_
  refine LS.vv rfl rfl (by decide) (Val.assign rfl) ?_
  refine LS.nil ?_
  refine W.seqR ?_
  refine LS.vv rfl rfl (by decide) (Val.move rfl) ?_
  refine LS.vv rfl rfl (by decide) (Val.neq rfl rfl) ?_
  refine LS.nil ?_
  first | refine W.condD rfl (fun hc1 => ?_) (fun hc1 => ?_) | refine W.cond rfl (fun hc1 => ?_) (fun hc1 => ?_)
  ·
    exfalso; omega
  ·
    refine W.skip ?_
    refine thenP_normal ?_
    refine W.seqR ?_
    refine LS.vv rfl rfl (by decide) (Val.assign rfl) ?_
    refine LS.nil ?_
    refine W.seqR ?_
    refine LS.vv rfl rfl (by decide) (Val.cast (v := .int .i64 ((0 : Nat) : Int)) (Val.assign rfl) rfl) ?_
    refine LS.nil ?_
    refine W.seq ?_
    refine W.seqR ?_
    refine LS.vv rfl rfl (by decide) (Val.move rfl) ?_
    refine LS.vv rfl rfl (by decide) (Val.len Try.underlying23 rfl) ?_
    refine LS.vv rfl rfl (by decide) (Val.cast (v := .int .i64 ((0 : Nat) : Int)) (Val.move rfl) rfl) ?_
    refine LS.nil ?_
    refine W.block ?_
    replace hM := hM.addNil 35
    refine W.loop (α := Nat × Option Addr × Nat × List Wd) (fun g => [(6, .slice g.2.1 g.2.2.2.length g.2.2.1), (7, .int .i64 ((kr (l.take g.1) : Nat) : Int)), (21, .int .i64 (g.1 : Int))]) [(19, _), (20, _)] (fun g w => (g.1 ≤ l.length ∧ g.2.2.2.length = g.1 ∧ ∀ j, j < g.1 → (gW g.2.2.2 j).l = mw l j) ∧ Mem w w0.heap.size (⟨35, g.2.1, g.2.2.2.length, g.2.2.1, wv g.2.2.2⟩ :: (tb 4 g.2.2.2)) ∧ Below w0.heap.size w0 w) (fun g => l.length - g.1) ((0, none, 0, [])) (Sub.cons rfl (Sub.cons rfl (Sub.cons rfl (Sub.nil _)))) (Sub.cons rfl (Sub.cons rfl (Sub.nil _))) ?_ ?_
    · exact ⟨⟨Nat.zero_le _, rfl, fun j h => absurd h (by simp)⟩, hM, hB⟩
    rintro ⟨k, pc, cc, C⟩ w2 ⟨⟨hk, hC, hCw⟩, hM, hB⟩
    try simp only at hM
    simp only [List.cons_append, List.nil_append]
    simp only at hk hC hCw
    refine W.seqR ?_
    refine LS.vv rfl rfl (by decide) (Val.lss rfl rfl) ?_
    refine LS.nil ?_
    refine W.seq ?_
    first | refine W.condD rfl (fun hc2 => ?_) (fun hc2 => ?_) | refine W.cond rfl (fun hc2 => ?_) (fun hc2 => ?_)
    ·
      refine W.skip ?_
      refine thenP_normal ?_
      refine W.seq ?_
      refine W.block ?_
      refine W.seqR ?_
      refine LS.vv rfl rfl (by decide) (Val.index1 Try.underlying23 elem3 rfl rfl (by omega) ((hr.below hB)) (nv_lt (by omega))) ?_
      refine LS.m rfl (Step.load rfl rfl (by decide) flat3 rfl ((hr.below hB)) (nv_at (by omega)) ?_)
      refine LS.vv rfl rfl (by decide) (Val.assign rfl) ?_
      refine LS.nil ?_
      refine W.seqR ?_
      refine LS.vv rfl rfl (by decide) (Val.move rfl) ?_
      have h8k := hal.eight k (by omega)
      have hnx := hal.next (k := k) (by omega)
      have hat := hal.at (k := k) (by omega)
      have hlt := hal.lt (k := k) (by omega)
      have hkt := kr_take l k (by omega)
      have hP1 : 1 ≤ 2 ^ (8 - gn l k) := Nat.two_pow_pos _
      have hmd := Nat.div_mul_le_self (kr (l.take k) + 2 ^ (8 - gn l k) - 1) (2 ^ (8 - gn l k))
      have hPl : 2 ^ gn l k ≤ 256 := Nat.pow_le_pow_right (n := 2) (by omega) h8k
      have hmw : mw l k = digs (kr (l.take k) / 2 ^ (8 - gn l k)) (gn l k) (gn l k) := rfl
      refine LS.vv rfl rfl (by decide) (Val.subN (i := 8) rfl rfl (by omega) (by omega)) ?_
      refine LS.vv rfl rfl (by decide) (Val.cast (v := .int .i64 ((2 ^ (8 - gn l k) : Nat) : Int)) (Val.shl64 (i := 1) rfl rfl (by omega) (by rw [Nat.one_shiftLeft]; omega)) (by rw [Nat.one_shiftLeft])) ?_
      generalize hPP : 2 ^ (8 - gn l k) = P at *
      refine LS.vv rfl rfl (by decide) (Val.assign rfl) ?_
      refine LS.nil ?_
      refine W.seqR ?_
      refine LS.vv rfl rfl (by decide) (Val.move rfl) ?_
      refine LS.vv rfl rfl (by decide) (Val.move rfl) ?_
      first | refine LS.vv rfl rfl (by decide) (Val.addN rfl rfl (by omega)) ?_ | refine LS.vv rfl rfl (by decide) (Val.add64 rfl rfl (by omega)) ?_
      first | refine LS.vv rfl rfl (by decide) (Val.subN (j := 1) rfl rfl (by omega) (by omega)) ?_ | refine LS.vv rfl rfl (by decide) (Val.sub64 rfl rfl (by omega)) ?_
      refine LS.vv rfl rfl (by decide) (Val.move rfl) ?_
      first | refine LS.vv rfl rfl (by decide) (Val.quoN rfl rfl (by omega) (by omega)) ?_ | refine LS.vv rfl rfl (by decide) (Val.quo64 rfl rfl (by omega) (by omega)) ?_
      refine LS.vv rfl rfl (by decide) (Val.move rfl) ?_
      first | refine LS.vv rfl rfl (by decide) (Val.cast (v := .int .i64 ((kr (l.take k) : Nat) : Int)) (Val.mulN rfl rfl (by omega)) (by rw [hat])) ?_ | refine LS.vv rfl rfl (by decide) (Val.cast (v := .int .i64 ((kr (l.take k) : Nat) : Int)) (Val.mul64 rfl rfl (by omega)) (by rw [hat])) ?_
      refine LS.vv rfl rfl (by decide) (Val.assign rfl) ?_
      refine LS.nil ?_
      refine W.seq ?_
      refine W.seqR ?_
      refine LS.vv rfl rfl (by decide) (Val.move rfl) ?_
      refine LS.vv rfl rfl (by decide) (Val.move rfl) ?_
      first | refine LS.vv rfl rfl (by decide) (Val.addN rfl rfl (by omega)) ?_ | refine LS.vv rfl rfl (by decide) (Val.add64 rfl rfl (by omega)) ?_
      refine LS.vv rfl rfl (by decide) (Val.gtr rfl rfl) ?_
      refine LS.nil ?_
      first | refine W.condD rfl (fun hc3 => ?_) (fun hc3 => ?_) | refine W.cond rfl (fun hc3 => ?_) (fun hc3 => ?_)
      ·
        exfalso; omega
      ·
        refine W.skip ?_
        refine thenP_normal ?_
        refine W.seqR ?_
        refine LS.vv rfl rfl (by decide) (Val.move rfl) ?_
        refine LS.vv rfl rfl (by decide) (Val.move rfl) ?_
        refine LS.vv rfl rfl (by decide) (Val.move rfl) ?_
        first | refine LS.vv rfl rfl (by decide) (Val.quoN rfl rfl (by omega) (by omega)) ?_ | refine LS.vv rfl rfl (by decide) (Val.quo64 rfl rfl (by omega) (by omega)) ?_
        refine LS.vv rfl rfl (by decide) (Val.move rfl) ?_
        refine LS.m rfl (Step.call body26 rfl rfl (by decide) rfl (CallsV.mono (digits_any (kr (l.take k) / P) (gn l k) _ (by omega) (by omega)) ?_))
        rintro _ w3 ⟨pd, cd, rfl, hOd, hb3⟩
        replace hM := hM.add hB.size hb3 hOd
        replace hB := hB.trans (hb3.mono hB.size)
        rw [← hmw] at hM
        refine LS.m rfl (Step.lit rfl rfl (by decide) Try.underlying30 elem35 rfl rfl (by omega) (by simp [Value.oneCell']) (Nat.le_refl _) ?_)
        rintro w4 hO4 hg4 hbl4 hsz4
        replace hM := hM.add hB.size hbl4 hO4
        replace hB := hB.trans (hbl4.mono hB.size)
        generalize w3.heap.size = gg4 at *
        refine LS.m rfl (Step.append2 (B := w0.heap.size) rfl rfl (by decide) Try.underlying30 elem35 rfl rfl rfl rfl (hM.o2) (hM.o0.rd) (by first | rfl | (simp; done) | (simp; omega)) (by first | exact one_map _ (fun _ => rfl) _ | simp [Value.oneCell']) (by omega) (by omega) hB.size ?_)
        rintro p5 c5 w5 hO5 hg5 hbl5 hbk5
        replace hM := hM.s2 hg5 hO5 hbk5
        replace hM := hM.tail
        try simp only [wv_app1, wv_app, wv_set, wv_rep, wv_one, wv_cons, wv_take, wv_drop, List.nil_append] at hM
        replace hB := hB.trans hbl5
        refine LS.vv rfl rfl (by decide) (Val.assign rfl) ?_
        refine LS.nil ?_
        refine W.reg ?_
        refine LS.vv rfl rfl (by decide) (Val.move rfl) ?_
        refine LS.vv rfl rfl (by decide) (Val.move rfl) ?_
        first | refine LS.vv rfl rfl (by decide) (Val.addN rfl rfl (by omega)) ?_ | refine LS.vv rfl rfl (by decide) (Val.add64 rfl rfl (by omega)) ?_
        refine LS.vv rfl rfl (by decide) (Val.assign rfl) ?_
        refine LS.nil ?_
        refine inBlk_normal ?_
        refine thenP_normal ?_
        refine W.reg ?_
        first | refine LS.vv rfl rfl (by decide) (Val.addN (j := 1) rfl rfl (by omega)) ?_ | refine LS.vv rfl rfl (by decide) (Val.add64 rfl rfl (by omega)) ?_
        refine LS.vv rfl rfl (by decide) (Val.move rfl) ?_
        refine LS.nil ?_
        refine thenP_normal ?_
        have hMw := hM
        have hwl := mw_len l k
        refine ⟨(k + 1, p5, c5, C ++ [⟨pd, cd, mw l k⟩]), ?_, ?_, ⟨⟨by simp only; omega, by simp only [List.length_append, List.length_cons, List.length_nil]; omega, fun j hj => ?_⟩, ?_, hB⟩, by simp only; omega⟩
        · exact Sub.cons' rfl (by simp only [List.length_append, List.length_cons, List.length_nil]) (Sub.cons' rfl (by simp only [hkt, Int.natCast_add]) (Sub.cons rfl (Sub.nil _)))
        · repeat (first | exact Sub.nil _ | refine Sub.cons rfl ?_)
        · simp only at hj ⊢
          by_cases e : j = k
          · subst e; unfold gW; rw [List.getD_eq_getElem?_getD, List.getElem?_append_right (by omega), hC, Nat.sub_self]; rfl
          · rw [← hCw j (by omega)]; unfold gW; rw [List.getD_eq_getElem?_getD, List.getD_eq_getElem?_getD, List.getElem?_append_left (by omega)]
        · simp only [List.length_append, List.length_cons, List.length_nil]
          rw [← wv_app1, tb_app1]
          rw [← hwl] at hMw
          exact hMw.last1
    ·
      refine W.exit ?_
      refine thenP_exit ?_
      refine thenP_exit ?_
      refine inBlk_exit ?_
      refine thenP_normal ?_
      refine W.seqR ?_
      refine LS.vv rfl rfl (by decide) (Val.move rfl) ?_
      refine LS.vv rfl rfl (by decide) (Val.assign rfl) ?_
      refine LS.vv rfl rfl (by decide) (Val.cast (v := .int .i64 ((0 : Nat) : Int)) (Val.assign rfl) rfl) ?_
      refine LS.nil ?_
      refine W.ret ?_
      refine ret2 (by first | exact .inl rfl | exact .inr rfl) rfl rfl ?_
      obtain rfl : k = l.length := by omega
      exact ⟨pc, cc, C, rfl, hM, hC, hCw, hB⟩

end Go.Proofs.Ytohflgcbpmoinaa
