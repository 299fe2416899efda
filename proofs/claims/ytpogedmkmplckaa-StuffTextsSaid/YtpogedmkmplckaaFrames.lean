/-
  Texts between flags: stuff.Frames.
-/
import Derived.Test.YtpogedmkmplckaaSplit
import Derived.Test.YtpogedmkmplckaaLibT
import Derived.Test.YtpogedmkmplckaaVgrow
import Derived.Test.YtpogedmkmplckaaStuff
namespace Go.Proofs.Ytpogedmkmplckaa
open Go Go.RowKit V
set_option linter.unusedVariables false
set_option linter.unusedSimpArgs false

theorem indexFunc_wrd (vals : List Value) (pr : Nat → Bool) (f : FuncId) (cap : Array Value) (p : Option Addr) (c : Nat) (w0 : World) (hbody : Body Try.prog f) (hr : Rd w0 p vals) (hb : vals.length ≤ 100000)
    (hf : ∀ i (h : i < vals.length) w, Below w0.heap.size w0 w → CallsV Try.prog f (#[vals[i]] ++ cap) w (fun v w2 => v = .bool (pr i) ∧ Below w.heap.size w w2)) :
    CallsV Try.prog 54 #[.slice p vals.length c, .func (.func f) #[] cap] w0 (fun v w => v = .int .i64 (fI pr vals.length) ∧ Below w0.heap.size w0 w) := by
  refine enter1 Try.func54 rfl Try.ntmps54 (by simp) rfl ?_
  have hB := Below.refl w0.heap.size w0
  simp only [argLoc, Nat.zero_add]
  refine W.seqR ?_
  refine LS.vv rfl rfl (by decide) (Val.cast (v := .int .i64 ((0 : Nat) : Int)) (Val.assign rfl) rfl) ?_
  refine LS.nil ?_
  refine W.seq ?_
  refine W.seqR ?_
  refine LS.vv rfl rfl (by decide) (Val.move rfl) ?_
  refine LS.vv rfl rfl (by decide) (Val.len Try.underlying46 rfl) ?_
  refine LS.vv rfl rfl (by decide) (Val.cast (v := .int .i64 ((0 : Nat) : Int)) (Val.move rfl) rfl) ?_
  refine LS.nil ?_
  refine W.block ?_
  refine W.loop (α := Nat) (fun k => [(8, .int .i64 (k : Int))]) [(0, _), (1, _), (7, _)] (fun k w => (k ≤ vals.length ∧ ∀ j, j < k → pr j = false) ∧ Below w0.heap.size w0 w) (fun k => vals.length - k) (0) (Sub.cons rfl (Sub.nil _)) (Sub.cons rfl (Sub.cons rfl (Sub.cons rfl (Sub.nil _)))) ?_ ?_
  · exact ⟨⟨Nat.zero_le _, by omega⟩, hB⟩
  rintro k w1 ⟨⟨hk, hall⟩, hB⟩
  simp only [List.cons_append, List.nil_append]
  refine W.seqR ?_
  refine LS.vv rfl rfl (by decide) (Val.lss rfl rfl) ?_
  refine LS.nil ?_
  refine W.seq ?_
  first | refine W.condD rfl (fun hc1 => ?_) (fun hc1 => ?_) | refine W.cond rfl (fun hc1 => ?_) (fun hc1 => ?_)
  ·
    refine W.skip ?_
    refine thenP_normal ?_
    refine W.seq ?_
    refine W.block ?_
    refine W.seqR ?_
    refine LS.vv rfl rfl (by decide) (Val.move rfl) ?_
    refine LS.vv rfl rfl (by decide) (Val.assign rfl) ?_
    refine LS.nil ?_
    refine W.seqR ?_
    refine LS.vv rfl rfl (by decide) (Val.move rfl) ?_
    refine LS.vv rfl rfl (by decide) (Val.move rfl) ?_
    refine LS.vv rfl rfl (by decide) (Val.move rfl) ?_
    have hkl : k < vals.length := by omega
    refine LS.vv rfl rfl (by decide) (Val.index1 Try.underlying46 elem22 rfl rfl (by omega) hr (id (by omega))) ?_
    refine LS.m rfl (Step.load rfl rfl (by decide) flat22 rfl (hr.below hB) (List.getElem?_eq_getElem hkl) ?_)
    refine LS.m rfl (Step.callV hbody rfl rfl rfl (by decide) rfl (CallsV.mono (hf k hkl _ hB) ?_))
    rintro _ w2 ⟨rfl, hb2⟩
    replace hB := hB.trans (hb2.mono hB.size)
    refine LS.nil ?_
    first | refine W.condD rfl (fun hc2 => ?_) (fun hc2 => ?_) | refine W.cond rfl (fun hc2 => ?_) (fun hc2 => ?_)
    ·
      refine W.seqR ?_
      refine LS.vv rfl rfl (by decide) (Val.move rfl) ?_
      refine LS.vv rfl rfl (by decide) (Val.assign rfl) ?_
      refine LS.nil ?_
      refine W.ret ?_
      refine inBlk_ret ?_
      refine thenP_ret ?_
      refine thenP_ret ?_
      refine inBlk_ret ?_
      refine thenP_ret ?_
      refine ret1 (by first | exact .inl rfl | exact .inr rfl) rfl ?_
      exact ⟨by rw [fI_some (show k < vals.length by omega) (by assumption) hall], hB⟩
    ·
      refine W.skip ?_
      refine inBlk_normal ?_
      refine thenP_normal ?_
      refine W.reg ?_
      first | refine LS.vv rfl rfl (by decide) (Val.addN (j := 1) rfl rfl (by omega)) ?_ | refine LS.vv rfl rfl (by decide) (Val.add64 rfl rfl (by omega)) ?_
      refine LS.vv rfl rfl (by decide) (Val.move rfl) ?_
      refine LS.nil ?_
      refine thenP_normal ?_
      refine ⟨k + 1, ?_, ?_, ⟨⟨by omega, ?_⟩, hB⟩, by omega⟩
      · exact Sub.cons rfl (Sub.nil _)
      · repeat (first | exact Sub.nil _ | refine Sub.cons rfl ?_)
      · intro j hj
        by_cases e : j = k
        · subst e; assumption
        · exact hall j (by omega)
  ·
    refine W.exit ?_
    refine thenP_exit ?_
    refine thenP_exit ?_
    refine inBlk_exit ?_
    refine thenP_normal ?_
    refine W.seqR ?_
    refine LS.vv rfl rfl (by decide) (Val.assign rfl) ?_
    refine LS.nil ?_
    refine W.ret ?_
    refine ret1 (by first | exact .inl rfl | exact .inr rfl) rfl ?_
    exact ⟨by rw [fI_none (fun j hj => hall j (by omega))], hB⟩

theorem containsFunc_wrd (vals : List Value) (pr : Nat → Bool) (f : FuncId) (cap : Array Value) (p : Option Addr) (c : Nat) (w0 : World) (hbody : Body Try.prog f) (hr : Rd w0 p vals) (hb : vals.length ≤ 100000)
    (hf : ∀ i (h : i < vals.length) w, Below w0.heap.size w0 w → CallsV Try.prog f (#[vals[i]] ++ cap) w (fun v w2 => v = .bool (pr i) ∧ Below w.heap.size w w2)) :
    CallsV Try.prog 42 #[.slice p vals.length c, .func (.func f) #[] cap] w0 (fun v w => v = .bool ((List.range vals.length).any pr) ∧ Below w0.heap.size w0 w) := by
  refine enter1 Try.func42 rfl Try.ntmps42 (by simp) rfl ?_
  have hB := Below.refl w0.heap.size w0
  simp only [argLoc, Nat.zero_add]
  refine W.seqR ?_
  refine LS.vv rfl rfl (by decide) (Val.assign rfl) ?_
  refine LS.nil ?_
  refine W.seqR ?_
  refine LS.vv rfl rfl (by decide) (Val.move rfl) ?_
  refine LS.vv rfl rfl (by decide) (Val.move rfl) ?_
  refine LS.m rfl (Step.call body54 rfl rfl (by decide) rfl (CallsV.mono (indexFunc_wrd vals pr f cap _ _ _ hbody (hr.below hB) hb (fun i h w hw => hf i h w (hB.trans (hw.mono hB.size)))) ?_))
  rintro _ w1 ⟨rfl, hb1⟩
  replace hB := hB.trans (hb1.mono hB.size)
  refine LS.vv rfl rfl (by decide) (Val.cast (Val.geq (j := 0) rfl rfl) (congrArg Value.bool (fI_any pr vals.length))) ?_
  refine LS.vv rfl rfl (by decide) (Val.assign rfl) ?_
  refine LS.nil ?_
  refine W.ret ?_
  refine ret1 (by first | exact .inl rfl | exact .inr rfl) rfl ?_
  exact ⟨rfl, hB⟩

theorem containsC (C : List Wd) (pr : Nat → Bool) (f : FuncId) (cap : Array Value) (p : Option Addr) (c m : Nat) (w0 : World) (hbody : Body Try.prog f) (hr : Rd w0 p (wv C)) (hm : C.length = m) (hb : m ≤ 100000)
    (hf : ∀ i, i < m → ∀ w, Below w0.heap.size w0 w → CallsV Try.prog f (#[.slice (gW C i).p (gW C i).l.length (gW C i).c] ++ cap) w (fun v w2 => v = .bool (pr i) ∧ Below w.heap.size w w2)) :
    CallsV Try.prog 42 #[.slice p m c, .func (.func f) #[] cap] w0 (fun v w => v = .bool ((List.range m).any pr) ∧ Below w0.heap.size w0 w) := by
  subst hm
  have hwl : (wv C).length = C.length := by simp [wv]
  have := containsFunc_wrd (wv C) pr f cap p c w0 hbody hr (by omega) (fun i h w hw => by
    have hi : i < C.length := by omega
    rw [show (wv C)[i] = .slice (gW C i).p (gW C i).l.length (gW C i).c from by simp [wv, gW, hi]]
    exact hf i hi w hw)
  rw [hwl] at this
  exact this

theorem frames1_any (p : Option Addr) (c m : Nat) (w0 : World) :
    CallsV Try.prog 43 #[.slice p m c] w0 (fun v w => v = .bool (decide (64 < m)) ∧ Below w0.heap.size w0 w) := by
  refine enter1 Try.func43 rfl Try.ntmps43 (by simp) rfl ?_
  have hB := Below.refl w0.heap.size w0
  simp only [argLoc]
  refine W.seqR ?_
  refine LS.vv rfl rfl (by decide) (Val.assign rfl) ?_
  refine LS.nil ?_
  refine W.seqR ?_
  refine LS.vv rfl rfl (by decide) (Val.move rfl) ?_
  refine LS.vv rfl rfl (by decide) (Val.len Try.underlying22 rfl) ?_
  refine LS.vv rfl rfl (by decide) (Val.gtr rfl rfl) ?_
  refine LS.vv rfl rfl (by decide) (Val.assign rfl) ?_
  refine LS.nil ?_
  refine W.ret ?_
  refine ret1 (by first | exact .inl rfl | exact .inr rfl) rfl ?_
  refine ⟨congrArg Value.bool ?_, hB⟩; rw [decide_eq_decide]; omega

theorem concat3_bool (xs ys zs : List Bool) (p q r P : Option Addr) (c d e C m n k : Nat) (w0 : World) (hr : Rd w0 P [.slice p m c, .slice q n d, .slice r k e]) (h1 : Rd w0 p (bv xs)) (h2 : Rd w0 q (bv ys)) (h3 : Rd w0 r (bv zs)) (hm : xs.length = m) (hn : ys.length = n) (hk : zs.length = k) (hl : m + n + k ≤ 1000000) :
    CallsV Try.prog 45 #[.slice P 3 C] w0 (fun v w => ∃ (p2 : Option Addr) (c2 : Nat), v = .slice p2 (xs ++ ys ++ zs).length c2 ∧ Own w w0.heap.size 4 p2 (xs ++ ys ++ zs).length c2 (bv (xs ++ ys ++ zs)) ∧ Below w0.heap.size w0 w) := by
  subst hm; subst hn; subst hk
  have hc : cat_bool [(p, c, xs), (q, d, ys), (r, e, zs)] 3 = xs ++ ys ++ zs := by simp [cat_bool, iter, ga_bool]
  have := concat_bool [(p, c, xs), (q, d, ys), (r, e, zs)] P C w0 hr (fun k hk => by
    match k, hk with
    | 0, _ => exact h1
    | 1, _ => exact h2
    | 2, _ => exact h3) (by simp) (by rw [show [(p, c, xs), (q, d, ys), (r, e, zs)].length = 3 from rfl, hc]; simp; omega)
  rw [show [(p, c, xs), (q, d, ys), (r, e, zs)].length = 3 from rfl, hc] at this
  exact this
theorem framesL_app (T : List (List Bool)) (t : List Bool) : framesL (T ++ [t]) = framesL T ++ stuffL 0 t ++ flagL := by simp [framesL, partL_app]
theorem codesW_take {C : List Wd} {k : Nat} (h : k < C.length) : codesW (C.take (k + 1)) = codesW (C.take k) ++ [(gW C k).l] := by
  rw [List.take_add_one, List.getElem?_eq_getElem h, Option.toList_some, codesW_app, gW_lt h]
theorem framesL_len {T : List (List Bool)} (h : ∀ t ∈ T, (stuffL 0 t).length ≤ 128) : (framesL T).length ≤ 8 + 136 * T.length := by
  unfold framesL
  have : (partL T).length ≤ 136 * T.length := by
    induction T with
    | nil => exact Nat.le_refl _
    | cons t T ih =>
      have h1 := h t (by simp)
      have h2 := ih fun x hx => h x (by simp [hx])
      rw [partL_cons, List.length_append, List.length_append, List.length_cons]
      have : flagL.length = 8 := rfl
      omega
  rw [List.length_append]
  have : flagL.length = 8 := rfl
  omega
theorem sL2 (d : List Bool) : (stuffL 0 d).length ≤ 2 * d.length := by
  have : ∀ (d : List Bool) (q : Nat), (stuffL q d).length ≤ 2 * d.length := by
    intro d
    induction d with
    | nil => intro q; simp [stuffL]
    | cons b d ih =>
      intro q
      unfold stuffL
      split
      · have := ih 0; simp; omega
      · have := ih (nxt q b); simp; omega
  exact this d 0
theorem codesW_mem {C : List Wd} (h : ∀ i, i < C.length → (gW C i).l.length ≤ 64) : ∀ t ∈ codesW C, t.length ≤ 64 := by
  intro t ht
  obtain ⟨x, hx, rfl⟩ := List.mem_map.1 ht
  obtain ⟨i, hi, rfl⟩ := List.getElem_of_mem hx
  rw [← gW_lt hi]; exact h i hi
theorem codesW_gW {C : List Wd} {i : Nat} (hi : i < C.length) : (gW C i).l ∈ codesW C := List.mem_map.2 ⟨_, gW_mem hi, rfl⟩

theorem codesW_tk (C : List Wd) (k : Nat) : codesW (C.take k) = (codesW C).take k := by simp [codesW, List.map_take]

theorem frames_any (C : List Wd) (p : Option Addr) (c m : Nat) (w0 : World) (hr : RdW w0 p C) (hm : C.length = m) :
    CallsV Try.prog 25 #[.slice p m c] w0 (fun v w => ∃ (p2 : Option Addr) (c2 : Nat) (F : List Bool) (e : Nat), v = .tuple #[.slice p2 F.length c2, .int .i64 (e : Int)] ∧ Own w w0.heap.size 4 p2 F.length c2 (bv F) ∧ (e = 0 ↔ m ≤ 8 ∧ ∀ t ∈ codesW C, t.length ≤ 64) ∧ (e = 0 → F = framesL (codesW C)) ∧ (e ≠ 0 → F = []) ∧ F.length ≤ 2000 ∧ Below w0.heap.size w0 w) := by
  refine enter2 Try.func25 rfl Try.ntmps25 (by simp) rfl ?_
  have hB := Below.refl w0.heap.size w0
  simp only [argLoc]
  have hM := Mem.nil w0 w0.heap.size
  subst hm
  have hh := hr.head
  refine W.seqR ?_
  refine LS.vv rfl rfl (by decide) (Val.assign rfl) ?_
  refine LS.vv rfl rfl (by decide) (Val.cast (v := .int .i64 ((0 : Nat) : Int)) (Val.assign rfl) rfl) ?_
  refine LS.nil ?_
  refine W.seq ?_
  refine W.seqR ?_
  refine LS.vv rfl rfl (by decide) (Val.move rfl) ?_
  refine LS.vv rfl rfl (by decide) (Val.len Try.underlying46 rfl) ?_
  refine LS.vv rfl rfl (by decide) (Val.gtr rfl rfl) ?_
  refine LS.vv rfl rfl (by decide) (Val.move rfl) ?_
  refine LS.split 3 rfl (fun hg1 => ?_) (fun hg1 => ?_)
  ·
    first | (have hg1p := of_decide_eq_true hg1) | skip
    refine LS.s rfl rfl rfl hg1 (by decide) ?_
    refine LS.s rfl rfl rfl hg1 (by decide) ?_
    refine LS.vv rfl rfl (by decide) (Val.pickT rfl hg1 rfl) ?_
    refine LS.nil ?_
    refine W.condT rfl ?_
    refine W.seqR ?_
    refine LS.vv rfl rfl (by decide) (Val.assign rfl) ?_
    refine LS.vv rfl rfl (by decide) (Val.cast (v := .int .i64 ((1 : Nat) : Int)) (Val.assign rfl) rfl) ?_
    refine LS.nil ?_
    refine W.ret ?_
    refine thenP_ret ?_
    refine ret2 (by first | exact .inl rfl | exact .inr rfl) rfl rfl ?_
    first
      | (obtain rfl : k = C.length := (by omega)
         rw [List.take_length] at hM hfl
         rw [List.take_length]
         exact ⟨p1, c1, _, 0, rfl, hM.o0, ⟨fun _ => ⟨by omega, codesW_mem hany⟩, fun _ => rfl⟩, fun _ => rfl, fun h => absurd rfl h, by omega, hB⟩)
      | (exact ⟨none, 0, [], 1, rfl, Own.nil _ _ _, ⟨fun h => by omega, fun h => by exfalso; have := h.1; omega⟩, fun h => by omega, fun _ => rfl, by simp, hB⟩)
      | (refine ⟨none, 0, [], 1, rfl, Own.nil _ _ _, ⟨fun h => by omega, fun h => ?_⟩, fun h => by omega, fun _ => rfl, by simp, hB⟩
         exfalso
         obtain ⟨i, hi, hi2⟩ := List.any_eq_true.1 (by assumption : (List.range C.length).any (fun i => decide (64 < (gW C i).l.length)) = true)
         rw [List.mem_range] at hi
         have := h.2 _ (codesW_gW hi); simp at hi2; omega)
  ·
    first | (have hg1p := of_decide_eq_false hg1) | skip
    refine LS.vg rfl rfl rfl hg1 (by decide) (Val.move rfl) ?_
    refine LS.mg rfl rfl hg1 (Step.call body42 rfl rfl (by decide) rfl (CallsV.mono (containsC C (fun i => decide (64 < (gW C i).l.length)) 43 #[] p c _ _ body43 (hh.below hB) rfl (by omega) (fun i hi w hw => frames1_any _ _ _ w)) ?_))
    rintro _ w1 ⟨rfl, hb1⟩
    replace hM := hM.below hb1
    replace hB := hB.trans (hb1.mono hB.size)
    refine LS.vv rfl rfl (by decide) (Val.pickF rfl hg1 rfl) ?_
    refine LS.nil ?_
    first | refine W.condD rfl (fun hc2 => ?_) (fun hc2 => ?_) | refine W.cond rfl (fun hc2 => ?_) (fun hc2 => ?_)
    ·
      refine W.seqR ?_
      refine LS.vv rfl rfl (by decide) (Val.assign rfl) ?_
      refine LS.vv rfl rfl (by decide) (Val.cast (v := .int .i64 ((1 : Nat) : Int)) (Val.assign rfl) rfl) ?_
      refine LS.nil ?_
      refine W.ret ?_
      refine thenP_ret ?_
      refine ret2 (by first | exact .inl rfl | exact .inr rfl) rfl rfl ?_
      first
        | (obtain rfl : k = C.length := (by omega)
           rw [List.take_length] at hM hfl
           rw [List.take_length]
           exact ⟨p1, c1, _, 0, rfl, hM.o0, ⟨fun _ => ⟨by omega, codesW_mem hany⟩, fun _ => rfl⟩, fun _ => rfl, fun h => absurd rfl h, by omega, hB⟩)
        | (exact ⟨none, 0, [], 1, rfl, Own.nil _ _ _, ⟨fun h => by omega, fun h => by exfalso; have := h.1; omega⟩, fun h => by omega, fun _ => rfl, by simp, hB⟩)
        | (refine ⟨none, 0, [], 1, rfl, Own.nil _ _ _, ⟨fun h => by omega, fun h => ?_⟩, fun h => by omega, fun _ => rfl, by simp, hB⟩
           exfalso
           obtain ⟨i, hi, hi2⟩ := List.any_eq_true.1 (by assumption : (List.range C.length).any (fun i => decide (64 < (gW C i).l.length)) = true)
           rw [List.mem_range] at hi
           have := h.2 _ (codesW_gW hi); simp at hi2; omega)
    ·
      have hany : ∀ i, i < C.length → (gW C i).l.length ≤ 64 := fun i hi => by { have h := (by assumption : (List.range C.length).any (fun i => decide (64 < (gW C i).l.length)) = false); have := List.any_eq_false.1 h i (List.mem_range.2 hi); simp at this; exact this }
      refine W.skip ?_
      refine thenP_normal ?_
      refine W.seqR ?_
      refine LS.m rfl (Step.call body44 rfl rfl (by decide) rfl (CallsV.mono (flag_any _) ?_))
      rintro _ w2 ⟨p2, c2, rfl, hOf, hb2⟩
      replace hM := hM.add hB.size hb2 hOf
      replace hB := hB.trans (hb2.mono hB.size)
      refine LS.vv rfl rfl (by decide) (Val.assign rfl) ?_
      refine LS.nil ?_
      refine W.seq ?_
      refine W.seqR ?_
      refine LS.vv rfl rfl (by decide) (Val.move rfl) ?_
      refine LS.vv rfl rfl (by decide) (Val.len Try.underlying46 rfl) ?_
      refine LS.vv rfl rfl (by decide) (Val.cast (v := .int .i64 ((0 : Nat) : Int)) (Val.move rfl) rfl) ?_
      refine LS.nil ?_
      refine W.block ?_
      refine W.loop (α := Nat × Option Addr × Nat) (fun g => [(4, .slice g.2.1 (framesL (codesW (C.take g.1))).length g.2.2), (17, .int .i64 (g.1 : Int))]) [(15, _), (16, _)] (fun g w => (g.1 ≤ C.length) ∧ Mem w w0.heap.size [⟨4, g.2.1, (framesL (codesW (C.take g.1))).length, g.2.2, bv (framesL (codesW (C.take g.1)))⟩] ∧ Below w0.heap.size w0 w) (fun g => C.length - g.1) ((0, p2, c2)) (Sub.cons rfl (Sub.cons rfl (Sub.nil _))) (Sub.cons rfl (Sub.cons rfl (Sub.nil _))) ?_ ?_
      · exact ⟨Nat.zero_le _, hM, hB⟩
      rintro ⟨k, p1, c1⟩ w3 ⟨hk, hM, hB⟩
      try simp only at hM
      simp only [List.cons_append, List.nil_append]
      simp only at hk
      have hall := hany
      have hfl := framesL_len (T := codesW (C.take k)) (fun t ht => by have h1 := codesW_mem hany t (List.mem_of_mem_take (by rw [← codesW_tk]; exact ht)); have := sL2 t; omega)
      rw [codesW_len, List.length_take] at hfl
      have hf8 : flagL.length = 8 := rfl
      have hs2 := fun h : k < C.length => hany k h
      have hs3 := sL2 (gW C k).l
      refine W.seqR ?_
      refine LS.vv rfl rfl (by decide) (Val.lss rfl rfl) ?_
      refine LS.nil ?_
      refine W.seq ?_
      first | refine W.condD rfl (fun hc3 => ?_) (fun hc3 => ?_) | refine W.cond rfl (fun hc3 => ?_) (fun hc3 => ?_)
      ·
        refine W.skip ?_
        refine thenP_normal ?_
        refine W.seq ?_
        refine W.block ?_
        refine W.seqR ?_
        refine LS.vv rfl rfl (by decide) (Val.index1 Try.underlying46 elem22 rfl rfl (by omega) ((hh.below hB)) (wv_lt (by omega))) ?_
        refine LS.m rfl (Step.load rfl rfl (by decide) flat22 rfl ((hh.below hB)) (wv_at (by omega)) ?_)
        refine LS.vv rfl rfl (by decide) (Val.assign rfl) ?_
        refine LS.nil ?_
        refine W.reg ?_
        refine LS.vv rfl rfl (by decide) (Val.move rfl) ?_
        refine LS.vv rfl rfl (by decide) (Val.move rfl) ?_
        refine LS.m rfl (Step.call body40 rfl rfl (by decide) rfl (CallsV.mono (stuff_any (gW C k).l _ _ _ ((hr.at (k := k) (by omega)).below hB) (hall k (by omega))) ?_))
        rintro _ w4 ⟨p5, c5, rfl, hOs, hsl, hb4⟩
        replace hM := hM.add hB.size hb4 hOs
        replace hB := hB.trans (hb4.mono hB.size)
        refine LS.m rfl (Step.call body44 rfl rfl (by decide) rfl (CallsV.mono (flag_any _) ?_))
        rintro _ w5 ⟨p6, c6, rfl, hOf, hb5⟩
        replace hM := hM.add hB.size hb5 hOf
        replace hB := hB.trans (hb5.mono hB.size)
        refine LS.m rfl (Step.lit rfl rfl (by decide) Try.underlying46 elem22 rfl rfl (by omega) (by simp [Value.oneCell']) (Nat.le_refl _) ?_)
        rintro w6 hO6 hg6 hbl6 hsz6
        replace hM := hM.add hB.size hbl6 hO6
        replace hB := hB.trans (hbl6.mono hB.size)
        generalize w5.heap.size = gg6 at *
        refine LS.m rfl (Step.call body45 rfl rfl (by decide) rfl (CallsV.mono (concat3_bool (framesL (codesW (C.take k))) (stuffL 0 (gW C k).l) flagL _ _ _ _ _ _ _ _ _ _ _ _ hM.o0.rd hM.o3.rd hM.o2.rd hM.o1.rd rfl rfl rfl (by omega)) ?_))
        rintro _ w7 ⟨p7, c7, rfl, hOl, hb7⟩
        replace hM := hM.add hB.size hb7 hOl
        replace hB := hB.trans (hb7.mono hB.size)
        refine LS.vv rfl rfl (by decide) (Val.assign rfl) ?_
        refine LS.nil ?_
        refine inBlk_normal ?_
        refine thenP_normal ?_
        refine W.reg ?_
        first | refine LS.vv rfl rfl (by decide) (Val.addN (j := 1) rfl rfl (by omega)) ?_ | refine LS.vv rfl rfl (by decide) (Val.add64 rfl rfl (by omega)) ?_
        refine LS.vv rfl rfl (by decide) (Val.move rfl) ?_
        refine LS.nil ?_
        refine thenP_normal ?_
        replace hM := hM.head
        have hft : (framesL (codesW (C.take k))) ++ stuffL 0 (gW C k).l ++ flagL = (framesL (codesW (C.take (k + 1)))) := by rw [codesW_take (by omega), framesL_app]
        rw [hft] at hM
        refine ⟨(k + 1, p7, c7), ?_, ?_, ⟨by simp only; omega, hM, hB⟩, by simp only; omega⟩
        · exact Sub.cons' rfl (by rw [hft]) (Sub.cons rfl (Sub.nil _))
        · repeat (first | exact Sub.nil _ | refine Sub.cons rfl ?_)
      ·
        refine W.exit ?_
        refine thenP_exit ?_
        refine thenP_exit ?_
        refine inBlk_exit ?_
        refine thenP_normal ?_
        refine W.seqR ?_
        refine LS.vv rfl rfl (by decide) (Val.move rfl) ?_
        refine LS.vv rfl rfl (by decide) (Val.assign rfl) ?_
        refine LS.vv rfl rfl (by decide) (Val.cast (v := .int .i64 ((0 : Nat) : Int)) (Val.assign rfl) rfl) ?_
        refine LS.nil ?_
        refine W.ret ?_
        refine ret2 (by first | exact .inl rfl | exact .inr rfl) rfl rfl ?_
        first
          | (obtain rfl : k = C.length := (by omega)
             rw [List.take_length] at hM hfl
             rw [List.take_length]
             exact ⟨p1, c1, _, 0, rfl, hM.o0, ⟨fun _ => ⟨by omega, codesW_mem hany⟩, fun _ => rfl⟩, fun _ => rfl, fun h => absurd rfl h, by omega, hB⟩)
          | (exact ⟨none, 0, [], 1, rfl, Own.nil _ _ _, ⟨fun h => by omega, fun h => by exfalso; have := h.1; omega⟩, fun h => by omega, fun _ => rfl, by simp, hB⟩)
          | (refine ⟨none, 0, [], 1, rfl, Own.nil _ _ _, ⟨fun h => by omega, fun h => ?_⟩, fun h => by omega, fun _ => rfl, by simp, hB⟩
             exfalso
             obtain ⟨i, hi, hi2⟩ := List.any_eq_true.1 (by assumption : (List.range C.length).any (fun i => decide (64 < (gW C i).l.length)) = true)
             rw [List.mem_range] at hi
             have := h.2 _ (codesW_gW hi); simp at hi2; omega)

end Go.Proofs.Ytpogedmkmplckaa
