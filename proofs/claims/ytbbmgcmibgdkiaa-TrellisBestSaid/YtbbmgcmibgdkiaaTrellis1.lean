/-
  Package trellis: Put; what Get leans on.
-/
import Derived.Test.YtbbmgcmibgdkiaaLibT
import Derived.Test.YtbbmgcmibgdkiaaTrellisPlain
import Derived.Test.YtbbmgcmibgdkiaaVfacts3
import Derived.Test.YtbbmgcmibgdkiaaVcell1
import Derived.Test.YtbbmgcmibgdkiaaVmapz
import Derived.Test.YtbbmgcmibgdkiaaVarr
import Derived.Test.YtbbmgcmibgdkiaaVfin
import Derived.Test.YtbbmgcmibgdkiaaVtree
namespace Go.Proofs.Ytbbmgcmibgdkiaa
open Go Go.RowKit V
set_option linter.unusedVariables false
set_option linter.unusedSimpArgs false

theorem body58 : Body Try.prog 58 := ⟨_, Try.func58, by kernel_rfl, rfl⟩

structure PV where
  p : Option Addr
  c : Nat
  l : List Bool
  o : Nat
abbrev pv (x : PV) : Value := .agg #[.slice x.p x.l.length x.c, .int .i64 (x.o : Int)]
def zPV : PV := ⟨none, 0, [], 0⟩
def tp (T : List PV) : List Oz := T.map fun x => ⟨4, 1, x.p, x.l.length, x.c, bv x.l⟩
def fv (G : St2 → Option PV) : St2 → Option Value := fun s => (G s).map pv
def plT (G : St2 → Option PV) : St2 → Option (List Bool × Nat) := fun s => (G s).map fun x => (x.l, x.o)
def InT (G : St2 → Option PV) (T : List PV) : Prop := ∀ s x, G s = some x → x ∈ T
def putG (G : St2 → Option PV) (t : St2) (x : PV) : St2 → Option PV := fun s => if s = t then some x else G s
theorem fv_put (G : St2 → Option PV) (t : St2) (x : PV) : upd (fv G) t (pv x) = fv (putG G t x) := by
  funext s; unfold upd fv putG; split <;> rfl
theorem pl_put (G : St2 → Option PV) (t : St2) (x : PV) : plT (putG G t x) = fun s => if s = t then some (x.l, x.o) else plT G s := by
  funext s; unfold plT putG; split <;> rfl
theorem fv_none : (fun _ => none : St2 → Option Value) = fv (fun _ => none) := rfl
theorem pl_none : plT (fun _ => none) = (fun _ => none) := rfl
theorem fv_some {G : St2 → Option PV} {s : St2} {v : Value} (h : fv G s = some v) : ∃ x, G s = some x ∧ v = pv x := by
  unfold fv at h
  cases hg : G s with
  | none => rw [hg] at h; cases h
  | some x => rw [hg] at h; exact ⟨x, rfl, by injection h with h; exact h.symm⟩
theorem fv_getD (G : St2 → Option PV) (s : St2) : (fv G s).getD (.agg #[.slice none 0 0, .int .i64 0]) = pv ((G s).getD zPV) := by
  unfold fv; cases G s <;> rfl
theorem fv_isSome (G : St2 → Option PV) (s : St2) : (fv G s).isSome = (G s).isSome := by unfold fv; cases G s <;> rfl
theorem pl_some {G : St2 → Option PV} {s : St2} {x : PV} (h : G s = some x) : plT G s = some (x.l, x.o) := by unfold plT; rw [h]; rfl
theorem pl_none_iff {G : St2 → Option PV} {s : St2} : plT G s = none ↔ G s = none := by unfold plT; cases G s <;> simp
theorem pl_inv {G : St2 → Option PV} {s : St2} {b : List Bool} {o : Nat} (h : plT G s = some (b, o)) : ∃ x, G s = some x ∧ x.l = b ∧ x.o = o := by
  unfold plT at h
  cases hg : G s with
  | none => rw [hg] at h; cases h
  | some x => rw [hg] at h; simp only [Option.map_some, Option.some.injEq, Prod.mk.injEq] at h; exact ⟨x, rfl, h.1, h.2⟩
theorem InT.put {G : St2 → Option PV} {T : List PV} {t : St2} {x : PV} (h : InT G T) : InT (putG G t x) (x :: T) := by
  intro s y hy
  unfold putG at hy
  split at hy
  · injection hy with hy; rw [← hy]; exact List.mem_cons_self ..
  · exact List.mem_cons_of_mem _ (h s y hy)
theorem InT.more {G : St2 → Option PV} {T : List PV} {x : PV} (h : InT G T) : InT G (x :: T) := fun s y hy => List.mem_cons_of_mem _ (h s y hy)
theorem tp_rd {w : World} {B : Nat} {S : List Oz} {T : List PV} {x : PV} (h : Mz w B S) (hx : x ∈ T) (hin : ∀ o ∈ tp T, o ∈ S) : Rd w x.p (bv x.l) := (h.all _ (hin ⟨4, 1, x.p, x.l.length, x.c, bv x.l⟩ (List.mem_map.2 ⟨x, hx, rfl⟩))).rd
theorem b2_79 : Bool2 Try.prog 79 := ⟨4, Try.underlying79, Try.underlying4, by kernel_rfl, by
  obtain ⟨i, hi, _, hs, _⟩ := elem4.parts
  exact ⟨i, hi, hs⟩⟩
theorem ag4 (w : World) : (isAgg 4).run Try.prog w = .ok false w := by unfold isAgg; simp [run_underlying Try.underlying4, go_sem]
theorem MapR.base {κ : Type} {enc : κ → Value} {w : World} {B B' m : Nat} {f : κ → Option Value} (h : MapR enc w B m f) (hB : B' ≤ B) : MapR enc w B' m f := ⟨h.own.base hB, h.births⟩

theorem out_any (s : St2) (b : Bool) (w0 : World) :
    CallsV Try.prog 58 #[.agg #[.bool s.1, .bool s.2], .bool b] w0 (fun v w => v = .agg #[.bool (out0 s b), .bool (out1 s b)] ∧ Below w0.heap.size w0 w) := by
  refine enterC1 Try.func58 rfl Try.ntmps58 (by simp) rfl ?_
  have hB := Below.refl w0.heap.size w0
  simp only [argLoc, Nat.zero_add]
  have hM := Mz.nil w0 w0.heap.size
  refine W.seqR ?_
  refine LS.m rfl (Step.boxZ rfl rfl (by decide) rfl rfl ?_)
  rintro w1 hO1 hg1 hbl1 hsz1
  replace hM := hM.add hB.size hbl1 hO1
  try simp only [List.length_cons, List.length_nil, Nat.zero_add, Nat.reduceAdd, Value.cells, List.toList_toArray, List.append_nil, List.set_cons_zero, List.set_cons_succ] at hM
  replace hB := hB.trans (hbl1.mono hB.size)
  skip
  refine LS.m rfl (Step.allocZ rfl rfl (by decide) elem78 rfl (by decide) ?_)
  rintro w2 hO2 hg2 hbl2 hsz2
  replace hM := hM.add hB.size hbl2 hO2
  try simp only [List.length_cons, List.length_nil, Nat.zero_add, Nat.reduceAdd, Value.cells, List.toList_toArray, List.append_nil, List.set_cons_zero, List.set_cons_succ] at hM
  replace hB := hB.trans (hbl2.mono hB.size)
  generalize w1.heap.size = gg2 at *
  refine LS.nil ?_
  refine W.seqR ?_
  refine LS.vv rfl rfl (by decide) (Val.move rfl) ?_
  refine LS.vv rfl rfl (by decide) (Val.indexArr (j := 0) Try.underlying79 elem4 rfl rfl (by omega)) ?_
  refine LS.m rfl (Step.load rfl rfl (by decide) flat4 rfl (hM.o1.rd) (rfl) ?_)
  refine LS.vv rfl rfl (by decide) (Val.neqB Try.underlying4 rfl rfl) ?_
  refine LS.vv rfl rfl (by decide) (Val.indexArr (j := 1) Try.underlying79 elem4 rfl rfl (by omega)) ?_
  refine LS.m rfl (Step.load rfl rfl (by decide) flat4 rfl (hM.o1.rd) (rfl) ?_)
  refine LS.vv rfl rfl (by decide) (Val.cast (v := .bool (out0 s b)) (Val.neqB Try.underlying4 rfl rfl) (by unfold out0; cases s.1 <;> cases s.2 <;> cases b <;> rfl)) ?_
  refine LS.vv rfl rfl (by decide) (Val.move rfl) ?_
  refine LS.vv rfl rfl (by decide) (Val.indexArr (j := 1) Try.underlying79 elem4 rfl rfl (by omega)) ?_
  refine LS.m rfl (Step.load rfl rfl (by decide) flat4 rfl (hM.o1.rd) (rfl) ?_)
  refine LS.vv rfl rfl (by decide) (Val.cast (v := .bool (out1 s b)) (Val.neqB Try.underlying4 rfl rfl) (by unfold out1; cases s.2 <;> cases b <;> rfl)) ?_
  refine LS.vv rfl rfl (by decide) (Val.buildArr Try.underlying78 elem78 elem4 rfl (fill_b2 _ _)) ?_
  refine LS.m rfl (Step.storeAgg0 (B := w0.heap.size) rfl rfl agg78 rfl rfl rfl (by decide) (by first | exact one_map _ (fun _ => rfl) _ | simp [Value.oneCell']) (hM.o0) rfl hB.size ?_)
  rintro w3 hO3 hg3 hbl3 hsz3
  replace hM := hM.s0 (e := _) hg3 hO3 inl_block
  try simp only [List.set_cons_zero, List.set_cons_succ] at hM
  replace hB := hB.trans hbl3
  refine LS.nil ?_
  refine W.ret ?_
  refine retC1 (by first | exact .inl rfl | exact .inr rfl) rfl agg78 (hM.o0.rd) rfl (by decide) ?_
  exact ⟨rfl, hB⟩

theorem better_any (xl yl : List Bool) (xp yp : Option Addr) (xc yc n m xo yo : Nat) (w0 : World) (hx : Rd w0 xp (bv xl)) (hy : Rd w0 yp (bv yl)) (hn : xl.length = n) (hm : yl.length = m) (hnm : n ≤ m) (hmx : n ≤ 1000) :
    CallsV Try.prog 59 #[.agg #[.slice xp n xc, .int .i64 (xo : Int)], .agg #[.slice yp m yc, .int .i64 (yo : Int)]] w0 (fun v w => ∃ b : Bool, v = .bool b ∧ (b = true → xo ≤ yo) ∧ (b = false → yo ≤ xo) ∧ Below w0.heap.size w0 w) := by
  refine enter1 Try.func59 rfl Try.ntmps59 (by simp) rfl ?_
  have hB := Below.refl w0.heap.size w0
  simp only [argLoc, Nat.zero_add]
  have hM := Mz.nil w0 w0.heap.size
  subst hn
  subst hm
  refine W.seqR ?_
  refine LS.m rfl (Step.boxZ rfl rfl (by decide) rfl rfl ?_)
  rintro w1 hO1 hg1 hbl1 hsz1
  replace hM := hM.add hB.size hbl1 hO1
  try simp only [List.length_cons, List.length_nil, Nat.zero_add, Nat.reduceAdd, Value.cells, List.toList_toArray, List.append_nil, List.set_cons_zero, List.set_cons_succ] at hM
  replace hB := hB.trans (hbl1.mono hB.size)
  skip
  refine LS.m rfl (Step.boxZ rfl rfl (by decide) rfl rfl ?_)
  rintro w2 hO2 hg2 hbl2 hsz2
  replace hM := hM.add hB.size hbl2 hO2
  try simp only [List.length_cons, List.length_nil, Nat.zero_add, Nat.reduceAdd, Value.cells, List.toList_toArray, List.append_nil, List.set_cons_zero, List.set_cons_succ] at hM
  replace hB := hB.trans (hbl2.mono hB.size)
  generalize w1.heap.size = gg2 at *
  refine LS.vv rfl rfl (by decide) (Val.assign rfl) ?_
  refine LS.nil ?_
  refine W.seq ?_
  refine W.seqR ?_
  refine LS.vv rfl rfl (by decide) (Val.fieldAddr0 fld82_1 rfl) ?_
  refine LS.m rfl (Step.load rfl rfl (by decide) flat3 rfl (hM.o1.rd) (rfl) ?_)
  refine LS.vv rfl rfl (by decide) (Val.fieldAddr0 fld82_1 rfl) ?_
  refine LS.m rfl (Step.load rfl rfl (by decide) flat3 rfl (hM.o0.rd) (rfl) ?_)
  refine LS.vv rfl rfl (by decide) (Val.neq rfl rfl) ?_
  refine LS.nil ?_
  first | refine W.condD rfl (fun hc1 => ?_) (fun hc1 => ?_) | refine W.cond rfl (fun hc1 => ?_) (fun hc1 => ?_)
  ·
    refine W.seqR ?_
    refine LS.vv rfl rfl (by decide) (Val.fieldAddr0 fld82_1 rfl) ?_
    refine LS.m rfl (Step.load rfl rfl (by decide) flat3 rfl (hM.o1.rd) (rfl) ?_)
    refine LS.vv rfl rfl (by decide) (Val.fieldAddr0 fld82_1 rfl) ?_
    refine LS.m rfl (Step.load rfl rfl (by decide) flat3 rfl (hM.o0.rd) (rfl) ?_)
    refine LS.vv rfl rfl (by decide) (Val.lss rfl rfl) ?_
    refine LS.vv rfl rfl (by decide) (Val.assign rfl) ?_
    refine LS.nil ?_
    refine W.ret ?_
    refine thenP_ret ?_
    refine ret1 (by first | exact .inl rfl | exact .inr rfl) rfl ?_
    first | exact ⟨_, rfl, fun h => by have := of_decide_eq_true h; omega, fun h => by have := of_decide_eq_false h; omega, hB⟩ | exact ⟨_, rfl, fun _ => by omega, fun _ => by omega, hB⟩
  ·
    refine W.skip ?_
    refine thenP_normal ?_
    refine W.seq ?_
    refine W.seqR ?_
    refine LS.vv rfl rfl (by decide) (Val.fieldAddr0 fld82_0 rfl) ?_
    refine LS.m rfl (Step.load rfl rfl (by decide) flat23 rfl (hM.o1.rd) (rfl) ?_)
    refine LS.vv rfl rfl (by decide) (Val.len Try.underlying23 rfl) ?_
    refine LS.vv rfl rfl (by decide) (Val.cast (v := .int .i64 ((0 : Nat) : Int)) (Val.move rfl) rfl) ?_
    refine LS.nil ?_
    refine W.block ?_
    replace hM := hM.er1
    refine W.loop (α := Nat) (fun k => [(20, .int .i64 (k : Int))]) [(3, _), (18, _), (19, _)] (fun k w => (k ≤ xl.length) ∧ Mz w w0.heap.size [⟨82, 2, some ⟨gg2, 0, none⟩, 1, 1, [.slice yp yl.length yc, .int .i64 (yo : Int)]⟩] ∧ Below w0.heap.size w0 w) (fun k => xl.length - k) (0) (Sub.cons rfl (Sub.nil _)) (Sub.cons rfl (Sub.cons rfl (Sub.cons rfl (Sub.nil _)))) ?_ ?_
    · exact ⟨Nat.zero_le _, hM, hB⟩
    rintro k w3 ⟨hk, hM, hB⟩
    try simp only at hM
    simp only [List.cons_append, List.nil_append]
    refine W.seqR ?_
    refine LS.vv rfl rfl (by decide) (Val.lss rfl rfl) ?_
    refine LS.nil ?_
    refine W.seq ?_
    first | refine W.condD rfl (fun hc2 => ?_) (fun hc2 => ?_) | refine W.cond rfl (fun hc2 => ?_) (fun hc2 => ?_)
    ·
      refine W.skip ?_
      refine thenP_normal ?_
      refine W.seq ?_
      refine W.block ?_
      refine W.seqR ?_
      refine LS.vv rfl rfl (by decide) (Val.move rfl) ?_
      refine LS.vv rfl rfl (by decide) (Val.index1 Try.underlying23 elem4 rfl rfl (by omega) ((hx.below hB)) (bv_lt (by omega))) ?_
      refine LS.m rfl (Step.load rfl rfl (by decide) flat4 rfl ((hx.below hB)) (bv_at (by omega)) ?_)
      refine LS.vv rfl rfl (by decide) (Val.assign rfl) ?_
      refine LS.vv rfl rfl (by decide) (Val.assign rfl) ?_
      refine LS.nil ?_
      refine W.seqR ?_
      refine LS.vv rfl rfl (by decide) (Val.move rfl) ?_
      refine LS.vv rfl rfl (by decide) (Val.fieldAddr0 fld82_0 rfl) ?_
      refine LS.m rfl (Step.load rfl rfl (by decide) flat23 rfl (hM.o0.rd) (rfl) ?_)
      refine LS.vv rfl rfl (by decide) (Val.move rfl) ?_
      refine LS.vv rfl rfl (by decide) (Val.index1 Try.underlying23 elem4 rfl rfl (by omega) ((hy.below hB)) (bv_lt (by omega))) ?_
      refine LS.m rfl (Step.load rfl rfl (by decide) flat4 rfl ((hy.below hB)) (bv_at (by omega)) ?_)
      refine LS.vv rfl rfl (by decide) (Val.neqB Try.underlying4 rfl rfl) ?_
      refine LS.nil ?_
      first | refine W.condD rfl (fun hc3 => ?_) (fun hc3 => ?_) | refine W.cond rfl (fun hc3 => ?_) (fun hc3 => ?_)
      ·
        refine W.seqR ?_
        refine LS.vv rfl rfl (by decide) (Val.move rfl) ?_
        refine LS.vv rfl rfl (by decide) (Val.not rfl) ?_
        refine LS.vv rfl rfl (by decide) (Val.assign rfl) ?_
        refine LS.nil ?_
        refine W.ret ?_
        refine inBlk_ret ?_
        refine thenP_ret ?_
        refine thenP_ret ?_
        refine inBlk_ret ?_
        refine thenP_ret ?_
        refine ret1 (by first | exact .inl rfl | exact .inr rfl) rfl ?_
        first | exact ⟨_, rfl, fun h => by have := of_decide_eq_true h; omega, fun h => by have := of_decide_eq_false h; omega, hB⟩ | exact ⟨_, rfl, fun _ => by omega, fun _ => by omega, hB⟩
      ·
        refine W.skip ?_
        refine inBlk_normal ?_
        refine thenP_normal ?_
        refine W.reg ?_
        first | refine LS.vv rfl rfl (by decide) (Val.addN (j := 1) rfl rfl (by omega)) ?_ | refine LS.vv rfl rfl (by decide) (Val.add64 rfl rfl (by omega)) ?_
        refine LS.vv rfl rfl (by decide) (Val.move rfl) ?_
        refine LS.nil ?_
        refine thenP_normal ?_
        refine ⟨k + 1, ?_, ?_, ⟨by omega, hM, hB⟩, by omega⟩
        · exact (Sub.cons rfl (Sub.nil _))
        · repeat (first | exact Sub.nil _ | refine Sub.cons rfl ?_)
    ·
      refine W.exit ?_
      refine thenP_exit ?_
      refine thenP_exit ?_
      refine inBlk_exit ?_
      refine thenP_normal ?_
      refine W.seqR ?_
      refine LS.vv rfl rfl (by decide) (Val.assign rfl) ?_
      refine LS.nil ?_
      refine W.ret ?_
      refine ret1 (by first | exact .inl rfl | exact .inr rfl) rfl ?_
      first | exact ⟨_, rfl, fun h => by have := of_decide_eq_true h; omega, fun h => by have := of_decide_eq_false h; omega, hB⟩ | exact ⟨_, rfl, fun _ => by omega, fun _ => by omega, hB⟩

theorem enc_take (D : List Bool) {k : Nat} (hk : k < D.length) (s : St2) : enc s (D.take (k + 1)) = enc s (D.take k) ++ [out0 (fin s (D.take k)) (gb D k), out1 (fin s (D.take k)) (gb D k)] := by
  rw [List.take_succ_eq_append_getElem hk, enc_app, gb_lt hk]; rfl
theorem fin_take (D : List Bool) {k : Nat} (hk : k < D.length) (s : St2) : fin s (D.take (k + 1)) = nxs (fin s (D.take k)) (gb D k) := by
  rw [List.take_succ_eq_append_getElem hk, fin_app, gb_lt hk]; rfl

theorem tput_any (ds : List Bool) (p : Option Addr) (c m : Nat) (w0 : World) (hr : Rd w0 p (bv ds)) (hm : ds.length = m) :
    CallsV Try.prog 38 #[.slice p m c] w0 (fun v w => ∃ (p2 : Option Addr) (c2 : Nat) (L : List Bool) (e : Nat), v = .tuple #[.slice p2 L.length c2, .int .i64 (e : Int)] ∧ Own w w0.heap.size 4 p2 L.length c2 (bv L) ∧ (e = 0 ↔ m ≤ 12) ∧ (e = 0 → L = putL ds) ∧ Below w0.heap.size w0 w) := by
  refine enter2 Try.func38 rfl Try.ntmps38 (by simp) rfl ?_
  have hB := Below.refl w0.heap.size w0
  simp only [argLoc]
  have hM := Mz.nil w0 w0.heap.size
  subst hm
  refine W.seqR ?_
  refine LS.vv rfl rfl (by decide) (Val.assign rfl) ?_
  refine LS.vv rfl rfl (by decide) (Val.cast (v := .int .i64 ((0 : Nat) : Int)) (Val.assign rfl) rfl) ?_
  refine LS.nil ?_
  refine W.seq ?_
  refine W.seqR ?_
  refine LS.vv rfl rfl (by decide) (Val.move rfl) ?_
  refine LS.vv rfl rfl (by decide) (Val.len Try.underlying23 rfl) ?_
  refine LS.vv rfl rfl (by decide) (Val.gtr rfl rfl) ?_
  refine LS.nil ?_
  first | refine W.condD rfl (fun hc1 => ?_) (fun hc1 => ?_) | refine W.cond rfl (fun hc1 => ?_) (fun hc1 => ?_)
  ·
    refine W.seqR ?_
    refine LS.vv rfl rfl (by decide) (Val.assign rfl) ?_
    refine LS.vv rfl rfl (by decide) (Val.cast (v := .int .i64 ((1 : Nat) : Int)) (Val.assign rfl) rfl) ?_
    refine LS.nil ?_
    refine W.ret ?_
    refine thenP_ret ?_
    refine ret2 (by first | exact .inl rfl | exact .inr rfl) rfl rfl ?_
    first
      | exact ⟨none, 0, [], 1, rfl, Own.nil _ _ _, ⟨fun h => by omega, fun h => by omega⟩, fun h => by omega, hB⟩
      | (obtain rfl : k = ds.length + 2 := (by omega)
         have hfull : (enc zero2 ((ds ++ [false, false]).take (ds.length + 2))) = putL ds := by rw [List.take_of_length_le (by omega)]; rfl
         rw [hfull] at hM
         have hpl := putL_len ds
         exact ⟨p1, c1, putL ds, 0, by rw [hpl, show 2 * ds.length + 4 = 2 * (ds.length + 2) by omega], by rw [hpl, show 2 * ds.length + 4 = 2 * (ds.length + 2) by omega]; exact hM.o0.own, ⟨fun _ => by omega, fun _ => rfl⟩, fun _ => rfl, hB⟩)
  ·
    refine W.skip ?_
    refine thenP_normal ?_
    refine W.seqR ?_
    refine LS.m rfl (Step.allocZ rfl rfl (by decide) elem79 rfl (by decide) ?_)
    rintro w1 hO1 hg1 hbl1 hsz1
    replace hM := hM.add hB.size hbl1 hO1
    try simp only [List.length_cons, List.length_nil, Nat.zero_add, Nat.reduceAdd, Value.cells, List.toList_toArray, List.append_nil, List.set_cons_zero, List.set_cons_succ] at hM
    replace hB := hB.trans (hbl1.mono hB.size)
    skip
    refine LS.nil ?_
    refine W.seqR ?_
    refine LS.vv rfl rfl (by decide) (Val.assign rfl) ?_
    refine LS.nil ?_
    refine W.seq ?_
    refine W.seqR ?_
    refine LS.vv rfl rfl (by decide) (Val.move rfl) ?_
    refine LS.m rfl (Step.litZ rfl rfl (by decide) Try.underlying23 elem4 rfl (by decide) rfl rfl (by decide) ?_)
    rintro w2 hO2 hg2 hbl2 hsz2
    replace hM := hM.add hB.size hbl2 hO2
    try simp only [List.length_cons, List.length_nil, Nat.zero_add, Nat.reduceAdd, Value.cells, List.toList_toArray, List.append_nil, List.set_cons_zero, List.set_cons_succ] at hM
    replace hB := hB.trans (hbl2.mono hB.size)
    generalize w1.heap.size = gg2 at *
    refine LS.m rfl (Step.litZ rfl rfl (by decide) Try.underlying86 elem23 rfl (by decide) rfl rfl (by decide) ?_)
    rintro w3 hO3 hg3 hbl3 hsz3
    replace hM := hM.add hB.size hbl3 hO3
    try simp only [List.length_cons, List.length_nil, Nat.zero_add, Nat.reduceAdd, Value.cells, List.toList_toArray, List.append_nil, List.set_cons_zero, List.set_cons_succ] at hM
    replace hB := hB.trans (hbl3.mono hB.size)
    generalize w2.heap.size = gg3 at *
    refine LS.m rfl (Step.call body44 rfl rfl (by decide) rfl (CallsV.mono (concat2_bool ds [false, false] _ _ _ _ _ _ _ _ _ hM.o0.rd (hr.below hB) hM.o1.rd rfl rfl (by omega)) ?_))
    rintro _ w4 ⟨pc, cc, rfl, hOc, hb4⟩
    replace hM := hM.add hB.size hb4 hOc.toZ
    replace hB := hB.trans (hb4.mono hB.size)
    refine LS.vv rfl rfl (by decide) (Val.len Try.underlying23 rfl) ?_
    refine LS.vv rfl rfl (by decide) (Val.cast (v := .int .i64 ((0 : Nat) : Int)) (Val.move rfl) rfl) ?_
    refine LS.nil ?_
    refine W.block ?_
    replace hM := hM.addNil 4 1
    replace hM := hM.er3.er2.sw1
    refine W.loop (α := Nat × Option Addr × Nat) (fun g => [(5, .slice g.2.1 (2 * g.1) g.2.2), (17, .int .i64 (g.1 : Int))]) [(4, _), (15, _), (16, _)] (fun g w => (g.1 ≤ ds.length + 2) ∧ Mz w w0.heap.size [⟨4, 1, g.2.1, 2 * g.1, g.2.2, bv (enc zero2 ((ds ++ [false, false]).take g.1))⟩, ⟨79, 2, some ⟨w0.heap.size, 0, none⟩, 1, 1, [.bool (fin zero2 ((ds ++ [false, false]).take g.1)).1, .bool (fin zero2 ((ds ++ [false, false]).take g.1)).2]⟩, ⟨4, 1, pc, ds.length + 2, cc, bv (ds ++ [false, false])⟩] ∧ Below w0.heap.size w0 w) (fun g => ds.length + 2 - g.1) ((0, none, 0)) (Sub.cons rfl (Sub.cons rfl (Sub.nil _))) (Sub.cons rfl (Sub.cons rfl (Sub.cons rfl (Sub.nil _)))) ?_ ?_
    · exact ⟨Nat.zero_le _, hM, hB⟩
    rintro ⟨k, p1, c1⟩ w5 ⟨hk, hM, hB⟩
    try simp only at hM
    simp only [List.cons_append, List.nil_append]
    simp only at hk
    have hDl : (ds ++ [false, false]).length = ds.length + 2 := by simp
    refine W.seqR ?_
    refine LS.vv rfl rfl (by decide) (Val.lss rfl rfl) ?_
    refine LS.nil ?_
    refine W.seq ?_
    first | refine W.condD rfl (fun hc2 => ?_) (fun hc2 => ?_) | refine W.cond rfl (fun hc2 => ?_) (fun hc2 => ?_)
    ·
      have hkD : k < (ds ++ [false, false]).length := by omega
      have het := enc_take (ds ++ [false, false]) hkD zero2
      have hft := fin_take (ds ++ [false, false]) hkD zero2
      have hel : (enc zero2 ((ds ++ [false, false]).take k)).length = 2 * k := by rw [enc_len, List.length_take]; omega
      refine W.skip ?_
      refine thenP_normal ?_
      refine W.seq ?_
      refine W.block ?_
      refine W.seqR ?_
      refine LS.vv rfl rfl (by decide) (Val.index1 Try.underlying23 elem4 rfl rfl (by omega) (hM.o2.rd) (bv_lt (by omega))) ?_
      refine LS.m rfl (Step.load rfl rfl (by decide) flat4 rfl (hM.o2.rd) (bv_at (by omega)) ?_)
      refine LS.vv rfl rfl (by decide) (Val.assign rfl) ?_
      refine LS.nil ?_
      refine W.seqR ?_
      refine LS.m rfl (Step.loadAgg0 rfl rfl (by decide) agg79 rfl (hM.o1.rd) rfl (by decide) ?_)
      refine LS.vv rfl rfl (by decide) (Val.move rfl) ?_
      refine LS.m rfl (Step.call body58 rfl rfl (by decide) rfl (CallsV.mono (out_any (fin zero2 ((ds ++ [false, false]).take k)) (gb (ds ++ [false, false]) k) _) ?_))
      rintro _ w6 ⟨rfl, hb6⟩
      replace hM := hM.below hb6
      replace hB := hB.trans (hb6.mono hB.size)
      refine LS.m rfl (Step.allocZ rfl rfl (by decide) elem78 rfl (by decide) ?_)
      rintro w7 hO7 hg7 hbl7 hsz7
      replace hM := hM.add hB.size hbl7 hO7
      try simp only [List.length_cons, List.length_nil, Nat.zero_add, Nat.reduceAdd, Value.cells, List.toList_toArray, List.append_nil, List.set_cons_zero, List.set_cons_succ] at hM
      replace hB := hB.trans (hbl7.mono hB.size)
      generalize w6.heap.size = gg7 at *
      refine LS.m rfl (Step.storeAgg0 (B := w0.heap.size) rfl rfl agg78 rfl rfl rfl (by decide) (by first | exact one_map _ (fun _ => rfl) _ | simp [Value.oneCell']) (hM.o0) rfl hB.size ?_)
      rintro w8 hO8 hg8 hbl8 hsz8
      replace hM := hM.s0 (e := _) hg8 hO8 inl_block
      try simp only [List.set_cons_zero, List.set_cons_succ] at hM
      replace hB := hB.trans hbl8
      refine LS.nil ?_
      refine W.seqR ?_
      refine LS.vv rfl rfl (by decide) (Val.move rfl) ?_
      refine LS.vv rfl rfl (by decide) (Val.sliceArr Try.underlying78 elem4 rfl) ?_
      refine LS.m rfl (Step.appendZ (B := w0.heap.size) rfl rfl (by decide) Try.underlying23 elem4 rfl (by decide) rfl rfl (hM.o1) (hM.o0.rd) rfl (by simp [Value.oneCell']) (by omega) (by omega) hB.size ?_)
      rintro p9 c9 w9 hO9 hg9 hbl9 hbk9
      replace hM := hM.s1 (e := _) hg9 hO9 hbk9
      replace hB := hB.trans hbl9
      refine LS.vv rfl rfl (by decide) (Val.assign rfl) ?_
      refine LS.nil ?_
      refine W.reg ?_
      refine LS.vv rfl rfl (by decide) (Val.move rfl) ?_
      refine LS.vv rfl rfl (by decide) (Val.indexArr (j := 0) Try.underlying79 elem4 rfl rfl (by omega)) ?_
      refine LS.m rfl (Step.load rfl rfl (by decide) flat4 rfl (hM.o2.rd) (rfl) ?_)
      refine LS.vv rfl rfl (by decide) (Val.buildArr Try.underlying79 elem79 elem4 rfl (fill_b2 _ _)) ?_
      refine LS.m rfl (Step.storeAgg0 (B := w0.heap.size) rfl rfl agg79 rfl rfl rfl (by decide) (by first | exact one_map _ (fun _ => rfl) _ | simp [Value.oneCell']) (hM.o2) rfl hB.size ?_)
      rintro w10 hO10 hg10 hbl10 hsz10
      replace hM := hM.s2 (e := _) hg10 hO10 inl_block
      try simp only [List.set_cons_zero, List.set_cons_succ] at hM
      replace hB := hB.trans hbl10
      refine LS.nil ?_
      refine inBlk_normal ?_
      refine thenP_normal ?_
      refine W.reg ?_
      first | refine LS.vv rfl rfl (by decide) (Val.addN (j := 1) rfl rfl (by omega)) ?_ | refine LS.vv rfl rfl (by decide) (Val.add64 rfl rfl (by omega)) ?_
      refine LS.vv rfl rfl (by decide) (Val.move rfl) ?_
      refine LS.nil ?_
      refine thenP_normal ?_
      replace hM := hM.er0
      refine ⟨(k + 1, p9, c9), ?_, ?_, ⟨by simp only; omega, ?_, hB⟩, by simp only; omega⟩
      · exact Sub.cons' rfl (by congr 1) (Sub.cons rfl (Sub.nil _))
      · repeat (first | exact Sub.nil _ | refine Sub.cons rfl ?_)
      · simp only [het, hft]
        rw [show 2 * (k + 1) = 2 * k + 2 by omega, show bv (enc zero2 (List.take k (ds ++ [false, false])) ++ [out0 (fin zero2 (List.take k (ds ++ [false, false]))) (gb (ds ++ [false, false]) k), out1 (fin zero2 (List.take k (ds ++ [false, false]))) (gb (ds ++ [false, false]) k)]) = bv (enc zero2 (List.take k (ds ++ [false, false]))) ++ [.bool (out0 (fin zero2 (List.take k (ds ++ [false, false]))) (gb (ds ++ [false, false]) k)), .bool (out1 (fin zero2 (List.take k (ds ++ [false, false]))) (gb (ds ++ [false, false]) k))] from by simp [bv]]
        exact hM
    ·
      refine W.exit ?_
      refine thenP_exit ?_
      refine thenP_exit ?_
      refine inBlk_exit ?_
      refine thenP_normal ?_
      refine W.seqR ?_
      refine LS.vv rfl rfl (by decide) (Val.move rfl) ?_
      refine LS.vv rfl rfl (by decide) (Val.assign rfl) ?_
      refine LS.vv rfl rfl (by decide) (Val.cast (v := .int .i64 ((0 : Nat) : Int)) (Val.assign rfl) rfl) ?_
      refine LS.nil ?_
      refine W.ret ?_
      refine ret2 (by first | exact .inl rfl | exact .inr rfl) rfl rfl ?_
      first
        | exact ⟨none, 0, [], 1, rfl, Own.nil _ _ _, ⟨fun h => by omega, fun h => by omega⟩, fun h => by omega, hB⟩
        | (obtain rfl : k = ds.length + 2 := (by omega)
           have hfull : (enc zero2 ((ds ++ [false, false]).take (ds.length + 2))) = putL ds := by rw [List.take_of_length_le (by omega)]; rfl
           rw [hfull] at hM
           have hpl := putL_len ds
           exact ⟨p1, c1, putL ds, 0, by rw [hpl, show 2 * ds.length + 4 = 2 * (ds.length + 2) by omega], by rw [hpl, show 2 * ds.length + 4 = 2 * (ds.length + 2) by omega]; exact hM.o0.own, ⟨fun _ => by omega, fun _ => rfl⟩, fun _ => rfl, hB⟩)

theorem tdiffer_any (xs ys : List Bool) (p q : Option Addr) (c d m n : Nat) (w0 : World) (hx : Rd w0 p (bv xs)) (hy : Rd w0 q (bv ys)) (hm : xs.length = m) (hn : ys.length = n) (hmn : m = n) (hmx : m ≤ 1000) :
    CallsV Try.prog 40 #[.slice p m c, .slice q n d] w0 (fun v w => v = .int .i64 (dif xs ys : Int) ∧ Below w0.heap.size w0 w) := by
  refine enter1 Try.func40 rfl Try.ntmps40 (by simp) rfl ?_
  have hB := Below.refl w0.heap.size w0
  simp only [argLoc, Nat.zero_add]
  have hM := Mem.nil w0 w0.heap.size
  subst hm
  subst hn
  refine W.seqR ?_
  refine LS.vv rfl rfl (by decide) (Val.cast (v := .int .i64 ((0 : Nat) : Int)) (Val.assign rfl) rfl) ?_
  refine LS.nil ?_
  refine W.seqR ?_
  refine LS.vv rfl rfl (by decide) (Val.cast (v := .int .i64 ((0 : Nat) : Int)) (Val.assign rfl) rfl) ?_
  refine LS.nil ?_
  refine W.seq ?_
  refine W.seqR ?_
  refine LS.vv rfl rfl (by decide) (Val.cast (v := .int .i64 ((0 : Nat) : Int)) (Val.assign rfl) rfl) ?_
  refine LS.nil ?_
  refine W.block ?_
  refine W.loop (α := Nat) (fun k => [(5, .int .i64 (dif (xs.take k) (ys.take k) : Int)), (6, .int .i64 (k : Int))]) [(0, _), (1, _)] (fun k w => (k ≤ xs.length) ∧ Mem w w0.heap.size [] ∧ Below w0.heap.size w0 w) (fun k => xs.length - k) (0) (Sub.cons rfl (Sub.cons rfl (Sub.nil _))) (Sub.cons rfl (Sub.cons rfl (Sub.nil _))) ?_ ?_
  · exact ⟨Nat.zero_le _, hM, hB⟩
  rintro k w1 ⟨hk, hM, hB⟩
  try simp only at hM
  simp only [List.cons_append, List.nil_append]
  have hdl := dif_le (xs.take k) (ys.take k)
  rw [List.length_take] at hdl
  have hdt := fun h1 h2 => dif_take (a := xs) (b := ys) (k := k) h1 h2
  refine W.seq ?_
  refine W.seqR ?_
  refine LS.vv rfl rfl (by decide) (Val.move rfl) ?_
  refine LS.vv rfl rfl (by decide) (Val.move rfl) ?_
  refine LS.vv rfl rfl (by decide) (Val.len Try.underlying23 rfl) ?_
  refine LS.vv rfl rfl (by decide) (Val.lss rfl rfl) ?_
  refine LS.vv rfl rfl (by decide) (Val.move rfl) ?_
  refine LS.split 4 rfl (fun hg1 => ?_) (fun hg1 => ?_)
  ·
    first | (have hg1p := of_decide_eq_true hg1) | skip
    refine LS.vg rfl rfl rfl hg1 (by decide) (Val.move rfl) ?_
    refine LS.vg rfl rfl rfl hg1 (by decide) (Val.move rfl) ?_
    refine LS.vg rfl rfl rfl hg1 (by decide) (Val.len Try.underlying23 rfl) ?_
    refine LS.vg rfl rfl rfl hg1 (by decide) (Val.lss rfl rfl) ?_
    refine LS.vv rfl rfl (by decide) (Val.pickT rfl hg1 rfl) ?_
    refine LS.nil ?_
    first | refine W.condD rfl (fun hc2 => ?_) (fun hc2 => ?_) | refine W.cond rfl (fun hc2 => ?_) (fun hc2 => ?_)
    ·
      refine W.skip ?_
      refine thenP_normal ?_
      refine W.seq ?_
      refine W.block ?_
      refine W.seqF 9 [(0, true), (1, true), (2, true), (3, true), (4, true), (5, true), (6, true), (7, true), (8, true)] mixed (by kernel_rfl) hB hM ?_
      replace hB := hB.drew
      replace hM := hM.drew
      refine DF.vv rfl rfl rfl (by decide) (Val.move rfl) ?_
      refine DF.vv rfl rfl rfl (by decide) (Val.move rfl) ?_
      refine DF.vv rfl rfl rfl (by decide) (Val.index1 Try.underlying23 elem4 rfl rfl (by omega) ((hx.below hB)) (bv_lt (by omega))) ?_
      refine DF.vv rfl rfl rfl (by decide) (Val.load flat4 rfl (fun _ h => (hx.below h.1)) (bv_at (by omega))) ?_
      refine DF.vv rfl rfl rfl (by decide) (Val.move rfl) ?_
      refine DF.vv rfl rfl rfl (by decide) (Val.move rfl) ?_
      refine DF.vv rfl rfl rfl (by decide) (Val.index1 Try.underlying23 elem4 rfl rfl (by omega) ((hy.below hB)) (bv_lt (by omega))) ?_
      refine DF.vv rfl rfl rfl (by decide) (Val.load flat4 rfl (fun _ h => (hy.below h.1)) (bv_at (by omega))) ?_
      refine DF.vv rfl rfl rfl (by decide) (Val.neqB Try.underlying4 rfl rfl) ?_
      refine DF.nil ?_
      first | refine W.condD rfl (fun hc3 => ?_) (fun hc3 => ?_) | refine W.cond rfl (fun hc3 => ?_) (fun hc3 => ?_)
      ·
        refine W.reg ?_
        refine LS.vv rfl rfl (by decide) (Val.move rfl) ?_
        first | refine LS.vv rfl rfl (by decide) (Val.addN (j := 1) rfl rfl (by omega)) ?_ | refine LS.vv rfl rfl (by decide) (Val.add64 rfl rfl (by omega)) ?_
        refine LS.vv rfl rfl (by decide) (Val.assign rfl) ?_
        refine LS.nil ?_
        refine inBlk_normal ?_
        refine thenP_normal ?_
        refine W.reg ?_
        refine LS.vv rfl rfl (by decide) (Val.move rfl) ?_
        first | refine LS.vv rfl rfl (by decide) (Val.addN (j := 1) rfl rfl (by omega)) ?_ | refine LS.vv rfl rfl (by decide) (Val.add64 rfl rfl (by omega)) ?_
        refine LS.vv rfl rfl (by decide) (Val.assign rfl) ?_
        refine LS.nil ?_
        refine thenP_normal ?_
        have hdt2 := hdt (by omega) (by omega)
        refine ⟨k + 1, ?_, ?_, ⟨by omega, hM, hB⟩, by omega⟩
        · exact Sub.cons' rfl (by rw [hdt2]; first | rw [if_neg (by assumption)] | rw [if_pos (Decidable.not_not.1 (by assumption)), Nat.add_zero]) (Sub.cons rfl (Sub.nil _))
        · repeat (first | exact Sub.nil _ | refine Sub.cons rfl ?_)
      ·
        refine W.skip ?_
        refine inBlk_normal ?_
        refine thenP_normal ?_
        refine W.reg ?_
        refine LS.vv rfl rfl (by decide) (Val.move rfl) ?_
        first | refine LS.vv rfl rfl (by decide) (Val.addN (j := 1) rfl rfl (by omega)) ?_ | refine LS.vv rfl rfl (by decide) (Val.add64 rfl rfl (by omega)) ?_
        refine LS.vv rfl rfl (by decide) (Val.assign rfl) ?_
        refine LS.nil ?_
        refine thenP_normal ?_
        have hdt2 := hdt (by omega) (by omega)
        refine ⟨k + 1, ?_, ?_, ⟨by omega, hM, hB⟩, by omega⟩
        · exact Sub.cons' rfl (by rw [hdt2]; first | rw [if_neg (by assumption)] | rw [if_pos (Decidable.not_not.1 (by assumption)), Nat.add_zero]) (Sub.cons rfl (Sub.nil _))
        · repeat (first | exact Sub.nil _ | refine Sub.cons rfl ?_)
    ·
      refine W.exit ?_
      refine thenP_exit ?_
      refine thenP_exit ?_
      refine inBlk_exit ?_
      refine thenP_normal ?_
      refine W.seqR ?_
      refine LS.vv rfl rfl (by decide) (Val.move rfl) ?_
      refine LS.vv rfl rfl (by decide) (Val.assign rfl) ?_
      refine LS.nil ?_
      refine W.ret ?_
      refine ret1 (by first | exact .inl rfl | exact .inr rfl) rfl ?_
      obtain rfl : k = xs.length := by omega
      rw [List.take_length, hmn, List.take_length]
      exact ⟨rfl, hB⟩
  ·
    first | (have hg1p := of_decide_eq_false hg1) | skip
    refine LS.s rfl rfl rfl hg1 (by decide) ?_
    refine LS.s rfl rfl rfl hg1 (by decide) ?_
    refine LS.s rfl rfl rfl hg1 (by decide) ?_
    refine LS.s rfl rfl rfl hg1 (by decide) ?_
    refine LS.vv rfl rfl (by decide) (Val.pickF rfl hg1 rfl) ?_
    refine LS.nil ?_
    refine W.condF rfl ?_
    refine W.exit ?_
    refine thenP_exit ?_
    refine thenP_exit ?_
    refine inBlk_exit ?_
    refine thenP_normal ?_
    refine W.seqR ?_
    refine LS.vv rfl rfl (by decide) (Val.move rfl) ?_
    refine LS.vv rfl rfl (by decide) (Val.assign rfl) ?_
    refine LS.nil ?_
    refine W.ret ?_
    refine ret1 (by first | exact .inl rfl | exact .inr rfl) rfl ?_
    obtain rfl : k = xs.length := by omega
    rw [List.take_length, hmn, List.take_length]
    exact ⟨rfl, hB⟩

def flT (l : List Bool) (ps : List Nat) : Nat → List Bool := iter (fun i r => r.set (gn ps i) (!gb r (gn ps i))) l
theorem flT_succ (l : List Bool) (ps : List Nat) (k : Nat) : flT l ps (k + 1) = (flT l ps k).set (gn ps k) (!gb (flT l ps k) (gn ps k)) := rfl
theorem flT_len (l : List Bool) (ps : List Nat) : ∀ k, (flT l ps k).length = l.length
  | 0 => rfl
  | k + 1 => by rw [flT_succ, List.length_set, flT_len l ps k]
theorem dif_set : ∀ (a r : List Bool) (j : Nat) (b : Bool), dif a (r.set j b) ≤ dif a r + 1
  | [], r, j, b => by cases r <;> simp [dif]
  | x :: a, [], j, b => by simp [dif]
  | x :: a, y :: r, 0, b => by rw [List.set_cons_zero, dif, dif]; split <;> split <;> omega
  | x :: a, y :: r, j + 1, b => by
    have := dif_set a r j b
    rw [List.set_cons_succ, dif, dif]; omega
theorem flT_dif (l : List Bool) (ps : List Nat) : ∀ k, dif l (flT l ps k) ≤ k
  | 0 => by rw [show flT l ps 0 = l from rfl, dif_self]; exact Nat.le_refl _
  | k + 1 => by
    have h1 := flT_dif l ps k
    have h2 := dif_set l (flT l ps k) (gn ps k) (!gb (flT l ps k) (gn ps k))
    rw [flT_succ]; omega

theorem tturned_any (l : List Bool) (ps : List Nat) (p q : Option Addr) (c d m n : Nat) (w0 : World) (hr1 : Rd w0 p (bv l)) (hr2 : Rd w0 q (nv ps)) (hm : l.length = m) (hn : ps.length = n) (hb : m ≤ 1000000) (hn2 : n ≤ 1000000) (hps : ∀ j, j < n → gn ps j < m) :
    CallsV Try.prog 26 #[.slice p m c, .slice q n d] w0 (fun v w => ∃ (p2 : Option Addr) (c2 : Nat), v = .slice p2 m c2 ∧ Own w w0.heap.size 4 p2 m c2 (bv (flT l ps n)) ∧ Below w0.heap.size w0 w) := by
  refine enter1 Try.func26 rfl Try.ntmps26 (by simp) rfl ?_
  have hB := Below.refl w0.heap.size w0
  simp only [argLoc, Nat.zero_add]
  have hM := Mem.nil w0 w0.heap.size
  subst hm; subst hn
  refine W.seqR ?_
  refine LS.vv rfl rfl (by decide) (Val.assign rfl) ?_
  refine LS.nil ?_
  refine W.seqR ?_
  refine LS.m rfl (Step.lit rfl rfl (by decide) Try.underlying23 elem4 rfl rfl (by omega) (by simp [Value.oneCell']) (Nat.le_refl _) ?_)
  rintro w1 hO1 hg1 hbl1 hsz1
  replace hM := hM.add hB.size hbl1 hO1
  try simp only [bv_app1, bv_app, bv_set, bv_rep, bv_one, bv_cons, bv_take, bv_drop, List.nil_append] at hM
  replace hB := hB.trans (hbl1.mono hB.size)
  skip
  refine LS.vv rfl rfl (by decide) (Val.move rfl) ?_
  refine LS.m rfl (Step.append2 (B := w0.heap.size) rfl rfl (by decide) Try.underlying23 elem4 rfl rfl rfl rfl (hM.o0) ((hr1.below hB)) (by first | rfl | (simp; done) | (simp; omega)) (by first | exact one_map _ (fun _ => rfl) _ | simp [Value.oneCell']) (by omega) (by omega) hB.size ?_)
  rintro p2 c2 w2 hO2 hg2 hbl2 hbk2
  replace hM := hM.s0 hg2 hO2 hbk2
  try simp only [bv_app1, bv_app, bv_set, bv_rep, bv_one, bv_cons, bv_take, bv_drop, List.nil_append] at hM
  replace hB := hB.trans hbl2
  refine LS.vv rfl rfl (by decide) (Val.assign rfl) ?_
  refine LS.nil ?_
  refine W.seq ?_
  refine W.seqR ?_
  refine LS.vv rfl rfl (by decide) (Val.move rfl) ?_
  refine LS.vv rfl rfl (by decide) (Val.len Try.underlying69 rfl) ?_
  refine LS.vv rfl rfl (by decide) (Val.cast (v := .int .i64 ((0 : Nat) : Int)) (Val.move rfl) rfl) ?_
  refine LS.nil ?_
  refine W.block ?_
  rw [Nat.zero_add] at hM ⊢
  refine W.loop (α := Nat) (fun k => [(13, .int .i64 (k : Int))]) [(5, _), (11, _), (12, _)] (fun k w => (k ≤ ps.length) ∧ Mem w w0.heap.size [⟨4, p2, l.length, c2, bv (flT l ps k)⟩] ∧ Below w0.heap.size w0 w) (fun k => ps.length - k) (0) (Sub.cons rfl (Sub.nil _)) (Sub.cons rfl (Sub.cons rfl (Sub.cons rfl (Sub.nil _)))) ?_ ?_
  · exact ⟨Nat.zero_le _, hM, hB⟩
  rintro k w3 ⟨hk, hM, hB⟩
  try simp only at hM
  simp only [List.cons_append, List.nil_append]
  refine W.seqR ?_
  refine LS.vv rfl rfl (by decide) (Val.lss rfl rfl) ?_
  refine LS.nil ?_
  refine W.seq ?_
  first | refine W.condD rfl (fun hc1 => ?_) (fun hc1 => ?_) | refine W.cond rfl (fun hc1 => ?_) (fun hc1 => ?_)
  ·
    refine W.skip ?_
    refine thenP_normal ?_
    refine W.seq ?_
    refine W.block ?_
    refine W.seqR ?_
    refine LS.vv rfl rfl (by decide) (Val.index1 Try.underlying69 elem3 rfl rfl (by omega) ((hr2.below hB)) (nv_lt (by omega))) ?_
    refine LS.m rfl (Step.load rfl rfl (by decide) flat3 rfl ((hr2.below hB)) (nv_at (by omega)) ?_)
    refine LS.vv rfl rfl (by decide) (Val.assign rfl) ?_
    refine LS.nil ?_
    refine W.reg ?_
    refine LS.vv rfl rfl (by decide) (Val.move rfl) ?_
    refine LS.vv rfl rfl (by decide) (Val.move rfl) ?_
    refine LS.vv rfl rfl (by decide) (Val.move rfl) ?_
    refine LS.vv rfl rfl (by decide) (Val.move rfl) ?_
    have hpk := hps k (by omega)
    have hfl := flT_len l ps k
    refine LS.vv rfl rfl (by decide) (Val.index1 Try.underlying23 elem4 rfl rfl (by omega) (hM.o0.rd) (bv_lt (by omega))) ?_
    refine LS.m rfl (Step.load rfl rfl (by decide) flat4 rfl (hM.o0.rd) (bv_at (by omega)) ?_)
    refine LS.vv rfl rfl (by decide) (Val.not rfl) ?_
    refine LS.vv rfl rfl (by decide) (Val.index1 Try.underlying23 elem4 rfl rfl (by omega) (hM.o0.rd) (bv_lt (by omega))) ?_
    refine LS.m rfl (Step.store (B := w0.heap.size) rfl rfl flat4 elem4 rfl rfl rfl (hM.o0) (by omega) hB.size ?_)
    rintro w4 hO4 hg4 hbl4 hsz4
    replace hM := hM.s0 hg4 hO4 inl_block
    try simp only [bv_app1, bv_app, bv_set, bv_rep, bv_one, bv_cons, bv_take, bv_drop, List.nil_append] at hM
    replace hB := hB.trans hbl4
    refine LS.nil ?_
    refine inBlk_normal ?_
    refine thenP_normal ?_
    refine W.reg ?_
    first | refine LS.vv rfl rfl (by decide) (Val.addN (j := 1) rfl rfl (by omega)) ?_ | refine LS.vv rfl rfl (by decide) (Val.add64 rfl rfl (by omega)) ?_
    refine LS.vv rfl rfl (by decide) (Val.move rfl) ?_
    refine LS.nil ?_
    refine thenP_normal ?_
    refine ⟨k + 1, ?_, ?_, ⟨by omega, hM, hB⟩, by omega⟩
    · exact (Sub.cons rfl (Sub.nil _))
    · repeat (first | exact Sub.nil _ | refine Sub.cons rfl ?_)
  ·
    refine W.exit ?_
    refine thenP_exit ?_
    refine thenP_exit ?_
    refine inBlk_exit ?_
    refine thenP_normal ?_
    refine W.seqR ?_
    refine LS.vv rfl rfl (by decide) (Val.move rfl) ?_
    refine LS.vv rfl rfl (by decide) (Val.assign rfl) ?_
    refine LS.nil ?_
    refine W.ret ?_
    refine ret1 (by first | exact .inl rfl | exact .inr rfl) rfl ?_
    (have hkm : k = ps.length := (by omega); subst hkm; exact ⟨_, _, rfl, hM.o0, hB⟩)

end Go.Proofs.Ytbbmgcmibgdkiaa
