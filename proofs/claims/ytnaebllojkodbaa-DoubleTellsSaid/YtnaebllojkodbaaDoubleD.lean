/-
  The walk of slices.DeleteFunc at int.
-/
import Derived.Test.YtnaebllojkodbaaDouble
namespace Go.Proofs.Ytnaebllojkodbaa
open Go Go.RowKit V
set_option linter.unusedVariables false

def np (l : List Nat) (pr : Nat → Bool) (j : Nat) : List Nat := (l.take j).filter fun a => !pr a
theorem np_succ {l : List Nat} {pr : Nat → Bool} {j : Nat} (h : j < l.length) : np l pr (j + 1) = np l pr j ++ (if pr (gn l j) = true then [] else [gn l j]) := by
  unfold np
  rw [List.take_add_one, List.getElem?_eq_getElem h, Option.toList_some, List.filter_append, gn_lt h]
  cases hp : pr l[j] <;> simp [hp]
theorem np_none {l : List Nat} {pr : Nat → Bool} : ∀ {k : Nat}, k ≤ l.length → (∀ j, j < k → pr (gn l j) = false) → np l pr k = l.take k
  | 0, _, _ => rfl
  | k + 1, hk, h => by
    rw [np_succ (by omega), np_none (by omega) fun j hj => h j (by omega), h k (by omega), List.take_add_one, List.getElem?_eq_getElem (by omega), gn_lt (by omega)]; rfl
theorem gn_set_off {xs : List Nat} {a x t : Nat} (h : a < t) : gn (xs.set a x) t = gn xs t := by
  unfold gn; simp [List.getElem?_set, show a ≠ t by omega]
theorem take_set_at {xs : List Nat} {a x : Nat} (h : a < xs.length) : (xs.set a x).take (a + 1) = xs.take a ++ [x] := by
  rw [List.take_add_one, List.getElem?_set_self h, List.take_set_of_le (Nat.le_refl _)]; rfl

theorem idxNat_any (l : List Nat) (pr : Nat → Bool) (f : FuncId) (cap : Array Value) (p : Option Addr) (c m : Nat) (w0 : World) (hbody : Body Try.prog f) (hr : Rd w0 p (nv l)) (hm : l.length = m) (hb : m ≤ 100000)
    (hf : ∀ (x : Nat) w, Below w0.heap.size w0 w → CallsV Try.prog f (#[.int .i64 (x : Int)] ++ cap) w (fun v w2 => v = .bool (pr x) ∧ Below w.heap.size w w2)) :
    CallsV Try.prog 51 #[.slice p m c, .func (.func f) #[] cap] w0 (fun v w => ∃ z : Int, v = .int .i64 z ∧ ((z = -1 ∧ ∀ j, j < m → pr (gn l j) = false) ∨ ∃ k : Nat, z = (k : Int) ∧ k < m ∧ pr (gn l k) = true ∧ ∀ j, j < k → pr (gn l j) = false) ∧ Below w0.heap.size w0 w) := by
  subst hm
  have hlen : (nv l).length = l.length := by simp [nv]
  have := indexFunc_int (nv l) (fun i => pr (gn l i)) f cap p c w0 hbody hr (by rw [hlen]; exact hb) (fun i h w hw => by
    rw [show (nv l)[i] = .int .i64 (gn l i : Int) from by simp [nv, gn, show i < l.length by omega]]; exact hf _ w hw)
  rw [hlen] at this
  refine this.mono ?_
  rintro v w ⟨rfl, hB⟩
  rcases fI_cases (fun i => pr (gn l i)) l.length with ⟨h1, h2⟩ | ⟨k, h1, h2, h3, h4⟩
  · exact ⟨_, rfl, .inl ⟨h1, h2⟩, hB⟩
  · exact ⟨_, rfl, .inr ⟨k, h4, h1, h2, h3⟩, hB⟩

theorem del_any (l : List Nat) (pr : Nat → Bool) (f : FuncId) (cap : Array Value) (p : Option Addr) (c m : Nat) (B : Nat) (S : List Ob) (w0 : World) (hbody : Body Try.prog f) (hM0 : Mem w0 B (⟨3, p, m, c, nv l⟩ :: S)) (hB0 : B ≤ w0.heap.size) (hm : l.length = m) (hb : m ≤ 100000)
    (hf : ∀ (x : Nat) w xs, Mem w B (⟨3, p, m, c, xs⟩ :: S) → CallsV Try.prog f (#[.int .i64 (x : Int)] ++ cap) w (fun v w2 => v = .bool (pr x) ∧ Below w.heap.size w w2)) :
    CallsV Try.prog 46 #[.slice p m c, .func (.func f) #[] cap] w0 (fun v w => v = .slice p (np l pr m).length c ∧ Mem w B (⟨3, p, m, c, nv (np l pr m ++ List.replicate (m - (np l pr m).length) 0)⟩ :: S) ∧ Below B w0 w) := by
  refine enter1 Try.func46 rfl Try.ntmps46 (by simp) rfl ?_
  have hB : Below B w0 w0 := below_refl_base hB0
  simp only [argLoc, Nat.zero_add]
  have hM := hM0
  subst hm
  have hcp := hM0.o0.le_cap
  refine W.seqR ?_
  refine LS.vv rfl rfl (by decide) (Val.assign rfl) ?_
  refine LS.nil ?_
  refine W.seqR ?_
  refine LS.vv rfl rfl (by decide) (Val.move rfl) ?_
  refine LS.vv rfl rfl (by decide) (Val.move rfl) ?_
  refine LS.m rfl (Step.call body51 rfl rfl (by decide) rfl (CallsV.mono (idxNat_any l pr f cap _ _ _ _ hbody hM.o0.rd rfl hb (fun x w hw => hf x w _ (hM.below hw))) ?_))
  rintro _ w1 ⟨z, rfl, hz, hb1⟩
  replace hM := hM.below hb1
  replace hB := hB.trans (hb1.mono (Nat.le_trans hB0 hB.size))
  refine LS.vv rfl rfl (by decide) (Val.assign rfl) ?_
  refine LS.nil ?_
  refine W.seq ?_
  refine W.seqR ?_
  refine LS.vv rfl rfl (by decide) (Val.move rfl) ?_
  refine LS.vv rfl rfl (by decide) (Val.eql rfl rfl) ?_
  refine LS.nil ?_
  first | refine W.condD rfl (fun hc1 => ?_) (fun hc1 => ?_) | refine W.cond rfl (fun hc1 => ?_) (fun hc1 => ?_)
  ·
    refine W.seqR ?_
    refine LS.vv rfl rfl (by decide) (Val.move rfl) ?_
    refine LS.vv rfl rfl (by decide) (Val.assign rfl) ?_
    refine LS.nil ?_
    refine W.ret ?_
    refine thenP_ret ?_
    refine ret1 (by first | exact .inl rfl | exact .inr rfl) rfl ?_
    have hall : ∀ j, j < l.length → pr (gn l j) = false := by rcases hz with ⟨_, h1⟩ | ⟨k, h1, _⟩; exact h1; (exfalso; omega)
    have hn := np_none (Nat.le_refl _) hall
    rw [List.take_length] at hn
    rw [hn, Nat.sub_self, List.replicate_zero, List.append_nil]
    exact ⟨rfl, hM, hB⟩
  ·
    obtain ⟨k, rfl, hk1, hk2, hk3⟩ : ∃ k : Nat, z = (k : Int) ∧ k < l.length ∧ pr (gn l k) = true ∧ ∀ j, j < k → pr (gn l j) = false := by rcases hz with ⟨h1, _⟩ | h1; (exfalso; omega); exact h1
    have hnk : np l pr (k + 1) = l.take k := by rw [np_succ hk1, np_none (by omega) hk3, if_pos hk2, List.append_nil]
    have hnl : (np l pr (k + 1)).length = k := by rw [hnk, List.length_take]; omega
    refine W.skip ?_
    refine thenP_normal ?_
    refine W.seq ?_
    refine W.seqR ?_
    refine LS.vv rfl rfl (by decide) (Val.move rfl) ?_
    first | refine LS.vv rfl rfl (by decide) (Val.addN (j := 1) rfl rfl (by omega)) ?_ | refine LS.vv rfl rfl (by decide) (Val.add64 rfl rfl (by omega)) ?_
    refine LS.vv rfl rfl (by decide) (Val.assign rfl) ?_
    refine LS.nil ?_
    refine W.block ?_
    refine W.loop (α := Nat × List Nat) (fun g => [(5, .int .i64 ((np l pr g.1).length : Int)), (6, .int .i64 (g.1 : Int))]) [(0, _), (1, _)] (fun g w => (g.1 ≤ l.length ∧ (np l pr g.1).length < g.1 ∧ g.2.length = l.length ∧ g.2.take (np l pr g.1).length = np l pr g.1 ∧ ∀ t, g.1 ≤ t → gn g.2 t = gn l t) ∧ Mem w B (⟨3, p, l.length, c, nv g.2⟩ :: S) ∧ Below B w0 w) (fun g => l.length - g.1) ((k + 1, l)) (Sub.cons' rfl (by simp only; rw [hnl]) (Sub.cons' rfl (by first | rfl | (simp only; done) | (simp only; congr 1)) (Sub.nil _))) (Sub.cons rfl (Sub.cons rfl (Sub.nil _))) ?_ ?_
    · exact ⟨⟨by simp only; omega, by simp only; omega, rfl, by simp only; rw [hnl, hnk], fun _ _ => rfl⟩, hM, hB⟩
    rintro ⟨j, xs⟩ w2 ⟨⟨hj, hlt, hxl, htk, htl⟩, hM, hB⟩
    try simp only at hM
    simp only [List.cons_append, List.nil_append]
    simp only at hj hlt hxl htk htl
    refine W.seq ?_
    refine W.seqR ?_
    refine LS.vv rfl rfl (by decide) (Val.move rfl) ?_
    refine LS.vv rfl rfl (by decide) (Val.move rfl) ?_
    refine LS.vv rfl rfl (by decide) (Val.len Try.underlying27 rfl) ?_
    refine LS.vv rfl rfl (by decide) (Val.lss rfl rfl) ?_
    refine LS.nil ?_
    first | refine W.condD rfl (fun hc2 => ?_) (fun hc2 => ?_) | refine W.cond rfl (fun hc2 => ?_) (fun hc2 => ?_)
    ·
      refine W.skip ?_
      refine thenP_normal ?_
      refine W.seq ?_
      refine W.block ?_
      refine W.seqR ?_
      refine LS.vv rfl rfl (by decide) (Val.move rfl) ?_
      refine LS.vv rfl rfl (by decide) (Val.move rfl) ?_
      refine LS.vv rfl rfl (by decide) (Val.index1 Try.underlying27 elem3 rfl rfl (by omega) (hM.o0.rd) (nv_lt (by omega))) ?_
      refine LS.m rfl (Step.load rfl rfl (by decide) flat3 rfl (hM.o0.rd) (nv_at (by omega)) ?_)
      refine LS.vv rfl rfl (by decide) (Val.assign rfl) ?_
      refine LS.nil ?_
      refine W.seqR ?_
      refine LS.vv rfl rfl (by decide) (Val.move rfl) ?_
      refine LS.vv rfl rfl (by decide) (Val.move rfl) ?_
      have hxj := htl j (Nat.le_refl _)
      refine LS.m rfl (Step.callV hbody rfl rfl rfl (by decide) rfl (CallsV.mono (hf (gn xs j) _ _ hM) ?_))
      rintro _ w3 ⟨rfl, hb3⟩
      replace hM := hM.below hb3
      replace hB := hB.trans (hb3.mono (Nat.le_trans hB0 hB.size))
      rw [hxj]
      refine LS.vv rfl rfl (by decide) (Val.not rfl) ?_
      refine LS.nil ?_
      first | refine W.condD rfl (fun hc3 => ?_) (fun hc3 => ?_) | refine W.cond rfl (fun hc3 => ?_) (fun hc3 => ?_)
      ·
        refine W.seqR ?_
        refine LS.vv rfl rfl (by decide) (Val.move rfl) ?_
        refine LS.vv rfl rfl (by decide) (Val.move rfl) ?_
        refine LS.vv rfl rfl (by decide) (Val.move rfl) ?_
        refine LS.vv rfl rfl (by decide) (Val.index1 Try.underlying27 elem3 rfl rfl (by omega) (hM.o0.rd) (nv_lt (by omega))) ?_
        refine LS.m rfl (Step.store (B := B) rfl rfl flat3 elem3 rfl rfl rfl (hM.o0) (by omega) (Nat.le_trans hB0 hB.size) ?_)
        rintro w4 hO4 hg4 hbl4 hsz4
        replace hM := hM.s0 hg4 hO4 inl_block
        try simp only [nv_app1, nv_app, nv_set, nv_rep, nv_one, nv_cons, nv_take, nv_drop, List.nil_append] at hM
        replace hB := hB.trans hbl4
        refine LS.nil ?_
        refine W.reg ?_
        refine LS.vv rfl rfl (by decide) (Val.move rfl) ?_
        first | refine LS.vv rfl rfl (by decide) (Val.addN (j := 1) rfl rfl (by omega)) ?_ | refine LS.vv rfl rfl (by decide) (Val.add64 rfl rfl (by omega)) ?_
        refine LS.vv rfl rfl (by decide) (Val.assign rfl) ?_
        refine LS.nil ?_
        refine inBlk_normal ?_
        refine thenP_normal ?_
        refine W.reg ?_
        refine LS.vv rfl rfl (by decide) (Val.move rfl) ?_
        first | refine LS.vv rfl rfl (by decide) (Val.addN (j := 1) rfl rfl (by omega)) ?_ | refine LS.vv rfl rfl (by decide) (Val.add64 rfl rfl (by omega)) ?_
        refine LS.vv rfl rfl (by decide) (Val.assign rfl) ?_
        refine LS.nil ?_
        refine thenP_normal ?_
        have hns := np_succ (pr := pr) (l := l) (j := j) (by omega)
        have hns2 := hns
        rw [if_neg (by simp_all)] at hns2
        refine ⟨(j + 1, xs.set (np l pr j).length (gn l j)), ?_, ?_, ⟨⟨by simp only; omega, ?_, by simpa using hxl, ?_, fun t ht => ?_⟩, hM, hB⟩, by simp only; omega⟩
        · exact Sub.cons' rfl (by simp only [hns2, List.length_append, List.length_cons, List.length_nil]; first | done | congr 1) (Sub.cons' rfl (by first | rfl | (simp only; done) | (simp only; congr 1)) (Sub.nil _))
        · repeat (first | exact Sub.nil _ | refine Sub.cons rfl ?_)
        · simp only [hns2, List.length_append, List.length_cons, List.length_nil]; omega
        · simp only [hns2, List.length_append, List.length_cons, List.length_nil]; rw [take_set_at (by omega), htk]
        · simp only at ht ⊢; rw [gn_set_off (by omega)]; exact htl t (by omega)
      ·
        refine W.skip ?_
        refine inBlk_normal ?_
        refine thenP_normal ?_
        refine W.reg ?_
        refine LS.vv rfl rfl (by decide) (Val.move rfl) ?_
        first | refine LS.vv rfl rfl (by decide) (Val.addN (j := 1) rfl rfl (by omega)) ?_ | refine LS.vv rfl rfl (by decide) (Val.add64 rfl rfl (by omega)) ?_
        refine LS.vv rfl rfl (by decide) (Val.assign rfl) ?_
        refine LS.nil ?_
        refine thenP_normal ?_
        have hns := np_succ (pr := pr) (l := l) (j := j) (by omega)
        have hns2 := hns
        rw [if_pos (by simp_all), List.append_nil] at hns2
        refine ⟨(j + 1, xs), ?_, ?_, ⟨⟨by simp only; omega, by simp only [hns2]; omega, hxl, by simp only [hns2]; exact htk, fun t ht => htl t (by simp only at ht; omega)⟩, hM, hB⟩, by simp only; omega⟩
        · exact Sub.cons' rfl (by simp only [hns2]) (Sub.cons' rfl (by first | rfl | (simp only; done) | (simp only; congr 1)) (Sub.nil _))
        · repeat (first | exact Sub.nil _ | refine Sub.cons rfl ?_)
    ·
      refine W.exit ?_
      refine thenP_exit ?_
      refine thenP_exit ?_
      refine inBlk_exit ?_
      refine thenP_normal ?_
      refine W.seqR ?_
      refine LS.vv rfl rfl (by decide) (Val.move rfl) ?_
      refine LS.vv rfl rfl (by decide) (Val.move rfl) ?_
      refine LS.vv rfl rfl (by decide) (Val.sliceFrom Try.underlying27 elem3 rfl rfl (by omega) (by omega)) ?_
      refine LS.m rfl (Step.clear rfl rfl Try.underlying27 elem3 rfl rfl rfl (by omega) (hM.o0) (Nat.le_trans hB0 hB.size) ?_)
      rintro w5 hO5 hg5 hbl5 hsz5
      replace hM := hM.s0 hg5 hO5 inl_block
      try simp only [nv_app1, nv_app, nv_set, nv_rep, nv_one, nv_cons, nv_take, nv_drop, List.nil_append] at hM
      replace hB := hB.trans hbl5
      refine LS.nil ?_
      refine W.seqR ?_
      refine LS.vv rfl rfl (by decide) (Val.move rfl) ?_
      refine LS.vv rfl rfl (by decide) (Val.move rfl) ?_
      refine LS.vv rfl rfl (by decide) (Val.sliceTo Try.underlying27 elem3 rfl rfl (by omega)) ?_
      refine LS.vv rfl rfl (by decide) (Val.assign rfl) ?_
      refine LS.nil ?_
      refine W.ret ?_
      refine ret1 (by first | exact .inl rfl | exact .inr rfl) rfl ?_
      have hjl : j = l.length := by omega
      subst hjl
      rw [htk] at hM
      exact ⟨rfl, hM, hB⟩

theorem fill1_any (x n : Int) (q : Option Addr) (w0 : World) (hq : Rd w0 q [.int .i64 n]) :
    CallsV Try.prog 47 #[.int .i64 x, .pointer q] w0 (fun v w => v = .bool (decide (n ≤ x)) ∧ Below w0.heap.size w0 w) := by
  refine enter1 Try.func47 rfl Try.ntmps47 (by simp) rfl ?_
  have hB := Below.refl w0.heap.size w0
  simp only [argLoc]
  refine W.seqR ?_
  refine LS.vv rfl rfl (by decide) (Val.assign rfl) ?_
  refine LS.nil ?_
  refine W.seqR ?_
  refine LS.vv rfl rfl (by decide) (Val.move rfl) ?_
  refine LS.m rfl (Step.loadBox rfl rfl (by decide) flat3 rfl (hq.below hB) ?_)
  refine LS.vv rfl rfl (by decide) (Val.geq rfl rfl) ?_
  refine LS.vv rfl rfl (by decide) (Val.assign rfl) ?_
  refine LS.nil ?_
  refine W.ret ?_
  refine ret1 (by first | exact .inl rfl | exact .inr rfl) rfl ?_
  exact ⟨rfl, hB⟩

end Go.Proofs.Ytnaebllojkodbaa
