/-
  The pair of sites: Play.
-/
import Derived.Test.YtldcpihjoakigaaPairS
import Derived.Test.YtldcpihjoakigaaPairPlain2
namespace Go.Proofs.Ytldcpihjoakigaa
open Go Go.RowKit V
set_option linter.unusedVariables false
set_option linter.unusedSimpArgs false

theorem bld75 : Bld Try.prog 75 [(0, 6), (6, 2), (8, 1), (9, 1)] := ⟨by kernel_rfl⟩
theorem elem73 : Elem Try.prog 73 2 16 (.agg #[.pointer none, .pointer none]) := ⟨by kernel_rfl⟩
theorem fill73 (x y : Option Addr) : Instr.fill (fun i => some (i * 1, 1)) (Value.agg #[.pointer none, .pointer none]).cells [(0, .pointer x), (1, .pointer y)] = some [.pointer x, .pointer y].toArray := by
  simp [Instr.fill, Value.cells]
theorem Mz.cast {w : World} {B : Nat} {S S' : List Oz} (e : S = S') (h : Mz w B S) : Mz w B S' := e ▸ h
theorem RES0 {w : World} {B : Nat} {x q0 q1 q2 q3 a b : Oz} {t0 t1 : List Oz} (h : Mz w B (q0 :: q1 :: q2 :: q3 :: a :: b :: (t0 ++ (t1 ++ [x])))) : Mz w B (x :: q0 :: q1 :: q2 :: q3 :: a :: b :: (t0 ++ (t1 ++ []))) := by
  refine h.perm ?_
  refine (List.perm_append_comm_assoc [x] [q0, q1, q2, q3, a, b] (t0 ++ (t1 ++ []))).trans (List.Perm.append_left [q0, q1, q2, q3, a, b] ?_)
  exact (List.perm_append_comm_assoc [x] t0 (t1 ++ [])).trans ((List.perm_append_comm_assoc [x] t1 []).append_left t0)
theorem fill75 (a b c d e f g h : Value) : Instr.fill (fun j => [(0, 6), (6, 2), (8, 1), (9, 1)].toArray[j]?) (Value.agg #[.int .i64 0, .slice none 0 0, .int .i64 0, .int .i64 0, .int .i64 0, .int .i64 0, .pointer none, .pointer none, .int .i64 0, .int .i64 0]).cells [(0, .agg [a, b, c, d, e, f].toArray), (1, .agg [g, h].toArray)] = some [a, b, c, d, e, f, g, h, .int .i64 0, .int .i64 0].toArray := by
  simp [Instr.fill, Value.cells]
theorem initPM {w : World} {B : Nat} {q0 q2 q3 a b : Oz} {t0 t1 S : List Oz} (h : Mz w B (q0 :: a :: b :: (t1 ++ (q2 :: q3 :: (t0 ++ S))))) : Mz w B (q0 :: ⟨45, 4, none, 0, 0, []⟩ :: q2 :: q3 :: a :: b :: (t0 ++ (t1 ++ S))) := by
  have h1 := h.addNil 45 4
  generalize (⟨45, 4, none, 0, 0, []⟩ : Oz) = q1 at *
  have h2 : Mz w B (a :: b :: (t1 ++ (q0 :: q1 :: q2 :: q3 :: (t0 ++ S)))) := by
    refine h1.perm (List.Perm.symm ?_)
    refine (List.Perm.swap _ _ _).trans ?_
    refine (List.perm_append_comm_assoc [q0, q1] [a, b] (t1 ++ (q2 :: q3 :: (t0 ++ S)))).trans (List.Perm.append_left [a, b] ?_)
    exact List.perm_append_comm_assoc [q0, q1] t1 (q2 :: q3 :: (t0 ++ S))
  exact from1_4 h2
theorem toX3 {w : World} {B : Nat} {x y z q0 q1 q2 q3 a b : Oz} {t0 t1 : List Oz} (h : Mz w B (x :: y :: z :: q0 :: q1 :: q2 :: q3 :: a :: b :: (t0 ++ (t1 ++ [])))) : Mz w B (q0 :: q1 :: q2 :: q3 :: a :: b :: (t0 ++ (t1 ++ [x, y, z]))) := by
  refine h.perm (List.Perm.symm ?_)
  refine (List.perm_append_comm_assoc [x, y, z] [q0, q1, q2, q3, a, b] (t0 ++ (t1 ++ []))).trans (List.Perm.append_left [q0, q1, q2, q3, a, b] ?_)
  exact (List.perm_append_comm_assoc [x, y, z] t0 (t1 ++ [])).trans ((List.perm_append_comm_assoc [x, y, z] t1 []).append_left t0)
theorem fromX3 {w : World} {B : Nat} {x y z q0 q1 q2 q3 a b : Oz} {t0 t1 : List Oz} (h : Mz w B (q0 :: q1 :: q2 :: q3 :: a :: b :: (t0 ++ (t1 ++ [x, y, z])))) : Mz w B (y :: z :: q0 :: q1 :: q2 :: q3 :: a :: b :: (t0 ++ (t1 ++ []))) := by
  have h2 : Mz w B (x :: y :: z :: q0 :: q1 :: q2 :: q3 :: a :: b :: (t0 ++ (t1 ++ []))) := by
    refine h.perm ?_
    refine (List.perm_append_comm_assoc [x, y, z] [q0, q1, q2, q3, a, b] (t0 ++ (t1 ++ []))).trans (List.Perm.append_left [q0, q1, q2, q3, a, b] ?_)
    exact (List.perm_append_comm_assoc [x, y, z] t0 (t1 ++ [])).trans ((List.perm_append_comm_assoc [x, y, z] t1 []).append_left t0)
  exact h2.tail
theorem toX3n {w : World} {B : Nat} {x y z q0 q1 q2 q3 a b : Oz} {t0 t1 : List Oz} (h : Mz w B (x :: y :: z :: q0 :: q1 :: q2 :: q3 :: a :: b :: (t0 ++ t1))) : Mz w B (q0 :: q1 :: q2 :: q3 :: a :: b :: (t0 ++ (t1 ++ [x, y, z]))) := toX3 (by rw [List.append_nil]; exact h)
theorem fromX3n {w : World} {B : Nat} {x y z q0 q1 q2 q3 a b : Oz} {t0 t1 : List Oz} (h : Mz w B (q0 :: q1 :: q2 :: q3 :: a :: b :: (t0 ++ (t1 ++ [x, y, z])))) : Mz w B (y :: z :: q0 :: q1 :: q2 :: q3 :: a :: b :: (t0 ++ t1)) := by
  have := fromX3 h
  rwa [List.append_nil] at this
theorem pinit_O (q : PG) (d M : Nat) : ([.int .i64 (M : Int), .slice none 0 0, .int .i64 0, .int .i64 0, .int .i64 0, .int .i64 0, .pointer (some ⟨q.g0, 0, none⟩), .pointer (some ⟨q.g1, 0, none⟩), .int .i64 0, .int .i64 0] : List Value) = lnR (pinit d M).l none 0 (pR q (pinit d M)) := rfl

theorem Play_any2 (mode d : Int) (l : List St) (p : Option Addr) (c m : Nat) (w0 : World) (hr : Rd w0 p (sv l)) (hm : l.length = m) (hl : m ≤ 9223372036854775807) (hv : ∀ x ∈ l, x.val < 256) :
    CallsV Try.prog 16 #[.int .i64 mode, .int .i64 d, .slice p m c] w0 (fun v w => ∃ (pl : Option Addr) (cl nl told main e : Nat) (out : List (Nat × Nat)), v = .tuple #[.agg #[.slice pl nl cl, .int .i64 (told : Int), .int .i64 (main : Int)], .int .i64 (e : Int)] ∧ (e = 0 ↔ (1 ≤ mode ∧ mode ≤ 3) ∧ (3 ≤ d ∧ d ≤ 6) ∧ m ≤ 100) ∧ Mz w w0.heap.size [⟨35, 2, pl, nl, cl, pc2 out⟩] ∧ (e = 0 → nl = m ∧ out = pouts d.toNat mode.toNat l m ∧ told = ptold (pplay d.toNat mode.toNat l) ∧ main = (pplay d.toNat mode.toNat l).main) ∧ (e ≠ 0 → nl = 0 ∧ out = []) ∧ Below w0.heap.size w0 w) := by
  refine enterC2 Try.func16 rfl Try.ntmps16 (by simp) rfl ?_
  have hB := Below.refl w0.heap.size w0
  simp only [argLoc, Nat.zero_add, Nat.reduceAdd]
  have hM := Mz.nil w0 w0.heap.size
  subst hm
  refine W.seqR ?_
  refine LS.m rfl (Step.allocZ rfl rfl (by decide) elem50 rfl (by decide) ?_)
  rintro w1 hO1 hg1 hbl1 hsz1
  replace hM := hM.add hB.size hbl1 hO1
  try simp only [List.length_cons, List.length_nil, Nat.zero_add, Nat.reduceAdd, Value.cells, List.toList_toArray, List.append_nil, List.set_cons_zero, List.set_cons_succ] at hM
  replace hB := hB.trans (hbl1.mono hB.size)
  skip
  refine LS.vv rfl rfl (by decide) (Val.cast (v := .int .i64 ((0 : Nat) : Int)) (Val.assign rfl) rfl) ?_
  refine LS.nil ?_
  refine W.seq ?_
  refine W.seqR ?_
  refine LS.vv rfl rfl (by decide) (Val.move rfl) ?_
  refine LS.vv rfl rfl (by decide) (Val.lss rfl rfl) ?_
  refine LS.vv rfl rfl (by decide) (Val.move rfl) ?_
  refine LS.split 2 rfl (fun hg1 => ?_) (fun hg1 => ?_)
  ·
    first | (have hg1p := of_decide_eq_true hg1) | skip
    refine LS.s rfl rfl rfl hg1 (by decide) ?_
    refine LS.s rfl rfl rfl hg1 (by decide) ?_
    refine LS.vv rfl rfl (by decide) (Val.pickT rfl hg1 rfl) ?_
    refine LS.nil ?_
    refine W.condT rfl ?_
    refine W.seqR ?_
    refine LS.vv rfl rfl (by decide) (Val.build str50 elem50 rfl rfl rfl) ?_
    refine LS.m rfl (Step.storeAgg0 (B := w0.heap.size) rfl rfl agg50 rfl rfl rfl (by decide) (by first | exact one_map _ (fun _ => rfl) _ | simp [Value.oneCell']) (hM.o0) rfl hB.size ?_)
    rintro w2 hO2 hg2 hbl2 hsz2
    replace hM := hM.s0 (e := _) hg2 hO2 inl_block
    try simp only [List.set_cons_zero, List.set_cons_succ] at hM
    replace hB := hB.trans hbl2
    refine LS.vv rfl rfl (by decide) (Val.cast (v := .int .i64 ((6 : Nat) : Int)) (Val.assign rfl) rfl) ?_
    refine LS.nil ?_
    refine W.ret ?_
    refine thenP_ret ?_
    refine retC2 (by first | exact .inl rfl | exact .inr rfl) rfl rfl agg50 (hM.o0.rd) rfl (by decide) ?_
    first
      | (refine ⟨none, 0, 0, 0, 0, 6, [], rfl, by omega, ((Mz.nil _ _).addNil 35 2), fun h => by exfalso; omega, fun _ => ⟨rfl, rfl⟩, hB⟩; done)
      | (refine ⟨none, 0, 0, 0, 0, e0, [], rfl, by omega, ((Mz.nil _ _).addNil 35 2), fun h => by exfalso; omega, fun _ => ⟨rfl, rfl⟩, hB⟩; done)
      | (refine ⟨none, 0, 0, 0, 0, 1, [], rfl, by omega, ((Mz.nil _ _).addNil 35 2), fun h => by exfalso; omega, fun _ => ⟨rfl, rfl⟩, hB⟩; done)
      | (obtain rfl : k = l.length := (by omega)
         rw [List.take_length] at *
         have hpt : ptold (pplay D M l) = stold (pplay D M l).l := (by unfold ptold; rw [if_pos (by omega)])
         exact ⟨pl, cl, l.length, _, _, 0, _, rfl, by omega, hM.tail.sub (List.Sublist.cons_cons _ (List.nil_sublist _)), fun _ => ⟨rfl, rfl, hpt.symm, rfl⟩, fun h => absurd rfl h, hB⟩)
      | (obtain rfl : k = l.length := (by omega)
         rw [List.take_length] at *
         have hpt : ptold (pplay D M l) = (pplay D M l).told := (by unfold ptold; rw [if_neg (by omega)])
         exact ⟨pl, cl, l.length, _, _, 0, _, rfl, by omega, hM.tail.sub (List.Sublist.cons_cons _ (List.nil_sublist _)), fun _ => ⟨rfl, rfl, hpt.symm, rfl⟩, fun h => absurd rfl h, hB⟩)
  ·
    first | (have hg1p := of_decide_eq_false hg1) | skip
    refine LS.vg rfl rfl rfl hg1 (by decide) (Val.move rfl) ?_
    refine LS.vg rfl rfl rfl hg1 (by decide) (Val.gtr rfl rfl) ?_
    refine LS.vv rfl rfl (by decide) (Val.pickF rfl hg1 rfl) ?_
    refine LS.nil ?_
    first | refine W.condD rfl (fun hc2 => ?_) (fun hc2 => ?_) | refine W.cond rfl (fun hc2 => ?_) (fun hc2 => ?_)
    ·
      refine W.seqR ?_
      refine LS.vv rfl rfl (by decide) (Val.build str50 elem50 rfl rfl rfl) ?_
      refine LS.m rfl (Step.storeAgg0 (B := w0.heap.size) rfl rfl agg50 rfl rfl rfl (by decide) (by first | exact one_map _ (fun _ => rfl) _ | simp [Value.oneCell']) (hM.o0) rfl hB.size ?_)
      rintro w3 hO3 hg3 hbl3 hsz3
      replace hM := hM.s0 (e := _) hg3 hO3 inl_block
      try simp only [List.set_cons_zero, List.set_cons_succ] at hM
      replace hB := hB.trans hbl3
      refine LS.vv rfl rfl (by decide) (Val.cast (v := .int .i64 ((6 : Nat) : Int)) (Val.assign rfl) rfl) ?_
      refine LS.nil ?_
      refine W.ret ?_
      refine thenP_ret ?_
      refine retC2 (by first | exact .inl rfl | exact .inr rfl) rfl rfl agg50 (hM.o0.rd) rfl (by decide) ?_
      first
        | (refine ⟨none, 0, 0, 0, 0, 6, [], rfl, by omega, ((Mz.nil _ _).addNil 35 2), fun h => by exfalso; omega, fun _ => ⟨rfl, rfl⟩, hB⟩; done)
        | (refine ⟨none, 0, 0, 0, 0, e0, [], rfl, by omega, ((Mz.nil _ _).addNil 35 2), fun h => by exfalso; omega, fun _ => ⟨rfl, rfl⟩, hB⟩; done)
        | (refine ⟨none, 0, 0, 0, 0, 1, [], rfl, by omega, ((Mz.nil _ _).addNil 35 2), fun h => by exfalso; omega, fun _ => ⟨rfl, rfl⟩, hB⟩; done)
        | (obtain rfl : k = l.length := (by omega)
           rw [List.take_length] at *
           have hpt : ptold (pplay D M l) = stold (pplay D M l).l := (by unfold ptold; rw [if_pos (by omega)])
           exact ⟨pl, cl, l.length, _, _, 0, _, rfl, by omega, hM.tail.sub (List.Sublist.cons_cons _ (List.nil_sublist _)), fun _ => ⟨rfl, rfl, hpt.symm, rfl⟩, fun h => absurd rfl h, hB⟩)
        | (obtain rfl : k = l.length := (by omega)
           rw [List.take_length] at *
           have hpt : ptold (pplay D M l) = (pplay D M l).told := (by unfold ptold; rw [if_neg (by omega)])
           exact ⟨pl, cl, l.length, _, _, 0, _, rfl, by omega, hM.tail.sub (List.Sublist.cons_cons _ (List.nil_sublist _)), fun _ => ⟨rfl, rfl, hpt.symm, rfl⟩, fun h => absurd rfl h, hB⟩)
    ·
      refine W.skip ?_
      refine thenP_normal ?_
      refine W.seq ?_
      refine W.seqR ?_
      refine LS.vv rfl rfl (by decide) (Val.move rfl) ?_
      refine LS.m rfl (Step.call body11 rfl rfl (by decide) rfl (CallsV.mono (place_any d 0 _) ?_))
      rintro _ w4 ⟨x0, r0, e0, rfl, he0, _, hb4⟩
      replace hM := hM.below hb4
      replace hB := hB.trans (hb4.mono hB.size)
      refine LS.vv rfl rfl (by decide) (Val.move rfl) ?_
      refine LS.vv rfl rfl (by decide) (Val.extract rfl rfl) ?_
      refine LS.vv rfl rfl (by decide) (Val.extract rfl rfl) ?_
      refine LS.vv rfl rfl (by decide) (Val.extract rfl rfl) ?_
      refine LS.vv rfl rfl (by decide) (Val.assign rfl) ?_
      refine LS.vv rfl rfl (by decide) (Val.assign rfl) ?_
      refine LS.vv rfl rfl (by decide) (Val.assign rfl) ?_
      refine LS.nil ?_
      refine W.seqR ?_
      refine LS.vv rfl rfl (by decide) (Val.move rfl) ?_
      refine LS.vv rfl rfl (by decide) (Val.neq rfl rfl) ?_
      refine LS.nil ?_
      first | refine W.condD rfl (fun hc3 => ?_) (fun hc3 => ?_) | refine W.cond rfl (fun hc3 => ?_) (fun hc3 => ?_)
      ·
        refine W.seqR ?_
        refine LS.vv rfl rfl (by decide) (Val.build str50 elem50 rfl rfl rfl) ?_
        refine LS.vv rfl rfl (by decide) (Val.move rfl) ?_
        refine LS.m rfl (Step.storeAgg0 (B := w0.heap.size) rfl rfl agg50 rfl rfl rfl (by decide) (by first | exact one_map _ (fun _ => rfl) _ | simp [Value.oneCell']) (hM.o0) rfl hB.size ?_)
        rintro w5 hO5 hg5 hbl5 hsz5
        replace hM := hM.s0 (e := _) hg5 hO5 inl_block
        try simp only [List.set_cons_zero, List.set_cons_succ] at hM
        replace hB := hB.trans hbl5
        refine LS.vv rfl rfl (by decide) (Val.assign rfl) ?_
        refine LS.nil ?_
        refine W.ret ?_
        refine thenP_ret ?_
        refine retC2 (by first | exact .inl rfl | exact .inr rfl) rfl rfl agg50 (hM.o0.rd) rfl (by decide) ?_
        first
          | (refine ⟨none, 0, 0, 0, 0, 6, [], rfl, by omega, ((Mz.nil _ _).addNil 35 2), fun h => by exfalso; omega, fun _ => ⟨rfl, rfl⟩, hB⟩; done)
          | (refine ⟨none, 0, 0, 0, 0, e0, [], rfl, by omega, ((Mz.nil _ _).addNil 35 2), fun h => by exfalso; omega, fun _ => ⟨rfl, rfl⟩, hB⟩; done)
          | (refine ⟨none, 0, 0, 0, 0, 1, [], rfl, by omega, ((Mz.nil _ _).addNil 35 2), fun h => by exfalso; omega, fun _ => ⟨rfl, rfl⟩, hB⟩; done)
          | (obtain rfl : k = l.length := (by omega)
             rw [List.take_length] at *
             have hpt : ptold (pplay D M l) = stold (pplay D M l).l := (by unfold ptold; rw [if_pos (by omega)])
             exact ⟨pl, cl, l.length, _, _, 0, _, rfl, by omega, hM.tail.sub (List.Sublist.cons_cons _ (List.nil_sublist _)), fun _ => ⟨rfl, rfl, hpt.symm, rfl⟩, fun h => absurd rfl h, hB⟩)
          | (obtain rfl : k = l.length := (by omega)
             rw [List.take_length] at *
             have hpt : ptold (pplay D M l) = (pplay D M l).told := (by unfold ptold; rw [if_neg (by omega)])
             exact ⟨pl, cl, l.length, _, _, 0, _, rfl, by omega, hM.tail.sub (List.Sublist.cons_cons _ (List.nil_sublist _)), fun _ => ⟨rfl, rfl, hpt.symm, rfl⟩, fun h => absurd rfl h, hB⟩)
      ·
        refine W.skip ?_
        refine thenP_normal ?_
        refine W.seq ?_
        refine W.seqR ?_
        refine LS.vv rfl rfl (by decide) (Val.move rfl) ?_
        refine LS.vv rfl rfl (by decide) (Val.len Try.underlying37 rfl) ?_
        refine LS.vv rfl rfl (by decide) (Val.gtr rfl rfl) ?_
        refine LS.nil ?_
        first | refine W.condD rfl (fun hc4 => ?_) (fun hc4 => ?_) | refine W.cond rfl (fun hc4 => ?_) (fun hc4 => ?_)
        ·
          refine W.seqR ?_
          refine LS.vv rfl rfl (by decide) (Val.build str50 elem50 rfl rfl rfl) ?_
          refine LS.m rfl (Step.storeAgg0 (B := w0.heap.size) rfl rfl agg50 rfl rfl rfl (by decide) (by first | exact one_map _ (fun _ => rfl) _ | simp [Value.oneCell']) (hM.o0) rfl hB.size ?_)
          rintro w6 hO6 hg6 hbl6 hsz6
          replace hM := hM.s0 (e := _) hg6 hO6 inl_block
          try simp only [List.set_cons_zero, List.set_cons_succ] at hM
          replace hB := hB.trans hbl6
          refine LS.vv rfl rfl (by decide) (Val.cast (v := .int .i64 ((1 : Nat) : Int)) (Val.assign rfl) rfl) ?_
          refine LS.nil ?_
          refine W.ret ?_
          refine thenP_ret ?_
          refine retC2 (by first | exact .inl rfl | exact .inr rfl) rfl rfl agg50 (hM.o0.rd) rfl (by decide) ?_
          first
            | (refine ⟨none, 0, 0, 0, 0, 6, [], rfl, by omega, ((Mz.nil _ _).addNil 35 2), fun h => by exfalso; omega, fun _ => ⟨rfl, rfl⟩, hB⟩; done)
            | (refine ⟨none, 0, 0, 0, 0, e0, [], rfl, by omega, ((Mz.nil _ _).addNil 35 2), fun h => by exfalso; omega, fun _ => ⟨rfl, rfl⟩, hB⟩; done)
            | (refine ⟨none, 0, 0, 0, 0, 1, [], rfl, by omega, ((Mz.nil _ _).addNil 35 2), fun h => by exfalso; omega, fun _ => ⟨rfl, rfl⟩, hB⟩; done)
            | (obtain rfl : k = l.length := (by omega)
               rw [List.take_length] at *
               have hpt : ptold (pplay D M l) = stold (pplay D M l).l := (by unfold ptold; rw [if_pos (by omega)])
               exact ⟨pl, cl, l.length, _, _, 0, _, rfl, by omega, hM.tail.sub (List.Sublist.cons_cons _ (List.nil_sublist _)), fun _ => ⟨rfl, rfl, hpt.symm, rfl⟩, fun h => absurd rfl h, hB⟩)
            | (obtain rfl : k = l.length := (by omega)
               rw [List.take_length] at *
               have hpt : ptold (pplay D M l) = (pplay D M l).told := (by unfold ptold; rw [if_neg (by omega)])
               exact ⟨pl, cl, l.length, _, _, 0, _, rfl, by omega, hM.tail.sub (List.Sublist.cons_cons _ (List.nil_sublist _)), fun _ => ⟨rfl, rfl, hpt.symm, rfl⟩, fun h => absurd rfl h, hB⟩)
        ·
          refine W.skip ?_
          refine thenP_normal ?_
          refine W.seqR ?_
          refine LS.vv rfl rfl (by decide) (Val.move rfl) ?_
          obtain ⟨M, rfl⟩ := Int.eq_ofNat_of_zero_le (show 0 ≤ mode by omega)
          obtain ⟨hd3i, hd6i, _, _⟩ := he0.1 (by omega)
          obtain ⟨D, rfl⟩ := Int.eq_ofNat_of_zero_le (show 0 ≤ d by omega)
          simp only [Int.toNat_natCast]
          have hd3 : 3 ≤ D := by omega
          have hd6 : D ≤ 6 := by omega
          refine LS.vv rfl rfl (by decide) (Val.build str67 elem67 rfl rfl rfl) ?_
          refine LS.vv rfl rfl (by decide) (Val.move rfl) ?_
          refine LS.m rfl (Step.call body20 rfl rfl (by decide) rfl (CallsV.mono (New_any D _ hd3 hd6) ?_))
          rintro _ w7 ⟨ga, poa, coa, Ta, rfl, hMa, hTa, hDa, hb7⟩
          replace hM := hM.adds hB.size hb7 hMa
          replace hB := hB.trans (hb7.mono hB.size)
          simp only [List.cons_append, List.append_nil] at hM
          refine LS.vv rfl rfl (by decide) (Val.move rfl) ?_
          refine LS.m rfl (Step.call body20 rfl rfl (by decide) rfl (CallsV.mono (New_any D _ hd3 hd6) ?_))
          rintro _ w8 ⟨gb, pob, cob, Tb, rfl, hMb, hTb, hDb, hb8⟩
          replace hM := hM.adds hB.size hb8 hMb
          replace hB := hB.trans (hb8.mono hB.size)
          simp only [List.cons_append, List.append_nil] at hM
          refine LS.vv rfl rfl (by decide) (Val.buildArr (vs := [.pointer (some ⟨ga, 0, none⟩), .pointer (some ⟨gb, 0, none⟩)]) Try.underlying73 elem73 elem59 rfl (fill73 _ _)) ?_
          refine LS.vv rfl rfl (by decide) (Val.buildB (vs := [.int .i64 (M : Int), .slice none 0 0, .int .i64 0, .int .i64 0, .int .i64 0, .int .i64 0, .pointer (some ⟨ga, 0, none⟩), .pointer (some ⟨gb, 0, none⟩), .int .i64 0, .int .i64 0]) bld75 elem75 rfl (fill75 _ _ _ _ _ _ _ _)) ?_
          refine LS.m rfl (Step.boxZ rfl rfl (by decide) rfl rfl ?_)
          rintro w9 hO9 hg9 hbl9 hsz9
          replace hM := hM.add hB.size hbl9 hO9
          try simp only [List.length_cons, List.length_nil, Nat.zero_add, Nat.reduceAdd, Value.cells, List.toList_toArray, List.append_nil, List.set_cons_zero, List.set_cons_succ] at hM
          replace hB := hB.trans (hbl9.mono hB.size)
          generalize w8.heap.size = gg9 at *
          replace hM := initPM hM
          refine LS.vv rfl rfl (by decide) (Val.assign rfl) ?_
          refine LS.nil ?_
          refine W.seqR ?_
          refine LS.vv rfl rfl (by decide) (Val.assign rfl) ?_
          refine LS.nil ?_
          refine W.seq ?_
          refine W.seqR ?_
          refine LS.vv rfl rfl (by decide) (Val.move rfl) ?_
          refine LS.vv rfl rfl (by decide) (Val.len Try.underlying37 rfl) ?_
          refine LS.vv rfl rfl (by decide) (Val.cast (v := .int .i64 ((0 : Nat) : Int)) (Val.move rfl) rfl) ?_
          refine LS.nil ?_
          refine W.block ?_
          obtain ⟨q, hq⟩ : ∃ q : PG, q = ⟨gg9, ga, gb, coa, cob, poa, pob⟩ := ⟨_, rfl⟩
          replace hM := (RES0 hM).addNil 35 2
          replace hM := Mz.cast (S' := (⟨35, 2, none, 0, 0, pc2 (pouts D M l 0)⟩ :: ⟨50, 3, some ⟨w0.heap.size, 0, none⟩, 1, 1, [.slice none 0 0, .int .i64 0, .int .i64 0]⟩ :: pO q (pplay D M (l.take 0)) none 0 :: wO (pplay D M (l.take 0)).l none 0 :: arrO q.g0 q.po0 Ta.length q.co0 (pplay D M (l.take 0)).t0 :: outO q.po0 q.co0 Ta :: arrO q.g1 q.po1 Tb.length q.co1 (pplay D M (l.take 0)).t1 :: outO q.po1 q.co1 Tb :: (tz 5 Ta ++ tz 5 Tb))) (by subst hq; simp only [List.append_nil]; rfl) hM
          have hqg : (some ⟨gg9, 0, none⟩ : Option Addr) = some ⟨q.g, 0, none⟩ := by subst hq; rfl
          rw [hqg]
          refine W.loop (α := Nat × List Tx × List Tx × Option Addr × Nat × Option Addr × Nat) (fun g => [(12, .slice g.2.2.2.2.2.1 g.1 g.2.2.2.2.2.2), (49, .int .i64 (g.1 : Int))]) [(6, _), (11, _), (47, _), (48, _)] (fun g w => (g.1 ≤ l.length ∧ dT g.2.1 = (pplay D M (l.take g.1)).D0 ∧ g.2.1.length = D ∧ dT g.2.2.1 = (pplay D M (l.take g.1)).D1 ∧ g.2.2.1.length = D) ∧ Mz w w0.heap.size (⟨35, 2, g.2.2.2.2.2.1, g.1, g.2.2.2.2.2.2, pc2 (pouts D M l g.1)⟩ :: ⟨50, 3, some ⟨w0.heap.size, 0, none⟩, 1, 1, [.slice none 0 0, .int .i64 0, .int .i64 0]⟩ :: pO q (pplay D M (l.take g.1)) g.2.2.2.1 g.2.2.2.2.1 :: wO (pplay D M (l.take g.1)).l g.2.2.2.1 g.2.2.2.2.1 :: arrO q.g0 q.po0 g.2.1.length q.co0 (pplay D M (l.take g.1)).t0 :: outO q.po0 q.co0 g.2.1 :: arrO q.g1 q.po1 g.2.2.1.length q.co1 (pplay D M (l.take g.1)).t1 :: outO q.po1 q.co1 g.2.2.1 :: (tz 5 g.2.1 ++ tz 5 g.2.2.1)) ∧ Below w0.heap.size w0 w) (fun g => l.length - g.1) ((0, Ta, Tb, none, 0, none, 0)) (Sub.cons rfl (Sub.cons rfl (Sub.nil _))) (Sub.cons rfl (Sub.cons rfl (Sub.cons rfl (Sub.cons rfl (Sub.nil _))))) ?_ ?_
          · exact ⟨⟨Nat.zero_le _, hDa, hTa, hDb, hTb⟩, hM, hB⟩
          rintro ⟨k, T0, T1, pw, cw, pl, cl⟩ w10 ⟨⟨hkk, hD0, hT0, hD1, hT1⟩, hM, hB⟩
          try simp only at hM
          simp only [List.cons_append, List.nil_append]
          simp only at hkk hD0 hT0 hD1 hT1
          have hPV := PV.all (mode := M) hd3 hd6 (l.take k) (fun x hx => hv x (List.mem_of_mem_take hx))
          have hwn := wr_len (d := D) (mode := M) (l.take k)
          rw [List.length_take] at hwn
          have hk2 := hPV.k hd3 hd6 (by omega)
          refine W.seqR ?_
          refine LS.vv rfl rfl (by decide) (Val.lss rfl rfl) ?_
          refine LS.nil ?_
          refine W.seq ?_
          first | refine W.condD rfl (fun hc5 => ?_) (fun hc5 => ?_) | refine W.cond rfl (fun hc5 => ?_) (fun hc5 => ?_)
          ·
            refine W.skip ?_
            refine thenP_normal ?_
            refine W.seq ?_
            refine W.block ?_
            refine W.seqR ?_
            refine LS.vv rfl rfl (by decide) (Val.indexAddr Try.underlying37 elem45 rfl rfl (by omega) ((hr.below hB)) (by rw [sv_len]; omega)) ?_
            refine LS.m rfl (Step.loadAgg (vs := [.int .i64 (gS l k).kind, .int .i64 (gS l k).site, .int .i64 (gS l k).block, .int .u8 ((gS l k).val : Int)]) rfl rfl (by decide) agg45 rfl ((hr.below hB)) ((sv_at (by omega)).1) rfl (by decide) ?_)
            refine LS.m rfl (Step.allocZ rfl rfl (by decide) elem45 rfl (by decide) ?_)
            rintro w11 hO11 hg11 hbl11 hsz11
            replace hM := hM.add hB.size hbl11 hO11
            try simp only [List.length_cons, List.length_nil, Nat.zero_add, Nat.reduceAdd, Value.cells, List.toList_toArray, List.append_nil, List.set_cons_zero, List.set_cons_succ] at hM
            replace hB := hB.trans (hbl11.mono hB.size)
            generalize w10.heap.size = gg11 at *
            refine LS.m rfl (Step.storeAgg0 (B := w0.heap.size) rfl rfl agg45 rfl rfl rfl (by decide) (by first | exact one_map _ (fun _ => rfl) _ | simp [Value.oneCell']) (hM.o0) rfl hB.size ?_)
            rintro w12 hO12 hg12 hbl12 hsz12
            replace hM := hM.s0 (e := _) hg12 hO12 inl_block
            try simp only [List.set_cons_zero, List.set_cons_succ] at hM
            replace hB := hB.trans hbl12
            refine LS.nil ?_
            refine W.seqR ?_
            refine LS.vv rfl rfl (by decide) (Val.move rfl) ?_
            refine LS.m rfl (Step.loadAgg0 rfl rfl (by decide) agg45 rfl (hM.o0.rd) rfl (by decide) ?_)
            refine LS.m rfl (Step.call body25 rfl rfl (by decide) rfl (CallsV.mono (step_any D w0.heap.size q (pplay D M (l.take k)) _ _ ⟨T0, T1, pw, cw, toX3n hM, hD0, hT0, hD1, hT1⟩ hB.size hk2 (gS l k) (hv _ (gS_mem (by omega)))) ?_))
            rintro _ w13 ⟨rfl, hI13, hb13⟩
            obtain ⟨T0b, T1b, pwb, cwb, hM, hD0b, hT0b, hD1b, hT1b⟩ := hI13.ex
            replace hM := fromX3n hM
            replace hB := hB.trans hb13
            refine LS.vv rfl rfl (by decide) (Val.move rfl) ?_
            refine LS.vv rfl rfl (by decide) (Val.extract rfl rfl) ?_
            refine LS.vv rfl rfl (by decide) (Val.extract rfl rfl) ?_
            refine LS.vv rfl rfl (by decide) (Val.assign rfl) ?_
            refine LS.vv rfl rfl (by decide) (Val.assign rfl) ?_
            refine LS.nil ?_
            refine W.reg ?_
            refine LS.vv rfl rfl (by decide) (Val.move rfl) ?_
            refine LS.vv rfl rfl (by decide) (Val.move rfl) ?_
            refine LS.vv rfl rfl (by decide) (Val.move rfl) ?_
            refine LS.vv rfl rfl (by decide) (Val.build str35 elem35 rfl rfl rfl) ?_
            refine LS.m rfl (Step.litZ rfl rfl (by decide) Try.underlying27 elem35 rfl (by decide) rfl rfl (by decide) ?_)
            rintro w14 hO14 hg14 hbl14 hsz14
            replace hM := hM.add hB.size hbl14 hO14
            try simp only [List.length_cons, List.length_nil, Nat.zero_add, Nat.reduceAdd, Value.cells, List.toList_toArray, List.append_nil, List.set_cons_zero, List.set_cons_succ] at hM
            replace hB := hB.trans (hbl14.mono hB.size)
            generalize w13.heap.size = gg14 at *
            refine LS.m rfl (Step.appendZ (B := w0.heap.size) rfl rfl (by decide) Try.underlying27 elem35 rfl (by decide) rfl rfl (hM.o1) (hM.o0.rd) (by first | rfl | (simp; done) | (simp; omega)) (by first | exact one_map _ (fun _ => rfl) _ | simp [Value.oneCell']) (by omega) (by omega) hB.size ?_)
            rintro p15 c15 w15 hO15 hg15 hbl15 hbk15
            replace hM := hM.s1 (e := _) hg15 hO15 hbk15
            replace hM := hM.tail
            replace hB := hB.trans hbl15
            refine LS.vv rfl rfl (by decide) (Val.assign rfl) ?_
            refine LS.nil ?_
            refine inBlk_normal ?_
            refine thenP_normal ?_
            refine W.reg ?_
            first | refine LS.vv rfl rfl (by decide) (Val.addN (j := 1) rfl rfl (by omega)) ?_ | refine LS.vv rfl rfl (by decide) (Val.add64 rfl rfl (by omega)) ?_
            refine LS.vv rfl rfl (by decide) (Val.move rfl) ?_
            refine LS.nil ?_
            refine thenP_normal ?_
            have hst := pplay_take (d := D) (mode := M) (l := l) (k := k) (by omega)
            have hpo := pouts_succ D M l k
            rw [← hst] at hM hD0b hD1b
            have hpc := pc2_app (pouts D M l k) ((pnew D (pplay D M (l.take k)) (gS l k)).2.2, (pnew D (pplay D M (l.take k)) (gS l k)).2.1)
            simp only at hpc
            rw [hpc, ← hpo] at hM
            refine ⟨(k + 1, T0b, T1b, pwb, cwb, p15, c15), ?_, ?_, ⟨⟨by simp only; omega, hD0b, hT0b, hD1b, hT1b⟩, hM, hB⟩, by simp only; omega⟩
            · exact (Sub.cons rfl (Sub.cons rfl (Sub.nil _)))
            · repeat (first | exact Sub.nil _ | refine Sub.cons rfl ?_)
          ·
            refine W.exit ?_
            refine thenP_exit ?_
            refine thenP_exit ?_
            refine inBlk_exit ?_
            refine thenP_normal ?_
            refine W.seq ?_
            refine W.seqR ?_
            refine LS.vv rfl rfl (by decide) (Val.move rfl) ?_
            first | refine LS.vv rfl rfl (by decide) (Val.nilCheck rfl) ?_ | refine LS.vv rfl rfl (by decide) (Val.nilCheckP rfl) ?_
            refine LS.vv rfl rfl (by decide) (Val.fieldAddr0 fld75_2 rfl) ?_
            refine LS.m rfl (Step.load rfl rfl (by decide) flat3 rfl (hM.o2.rd) (rfl) ?_)
            refine LS.vv rfl rfl (by decide) (Val.eql rfl rfl) ?_
            refine LS.nil ?_
            first | refine W.condD rfl (fun hc6 => ?_) (fun hc6 => ?_) | refine W.cond rfl (fun hc6 => ?_) (fun hc6 => ?_)
            ·
              refine W.reg ?_
              refine LS.vv rfl rfl (by decide) (Val.move rfl) ?_
              refine LS.vv rfl rfl (by decide) (Val.move rfl) ?_
              first | refine LS.vv rfl rfl (by decide) (Val.nilCheck rfl) ?_ | refine LS.vv rfl rfl (by decide) (Val.nilCheckP rfl) ?_
              refine LS.vv rfl rfl (by decide) (Val.fieldAddr0 fld75_0 rfl) ?_
              refine LS.m rfl (Step.call body23 rfl rfl (by decide) rfl (CallsV.mono (toldP_any (pplay D M (l.take k)).l pw cw q.g _ _ hM.o2.rd) ?_))
              rintro _ w16 ⟨rfl, hb16⟩
              replace hM := hM.below hb16
              replace hB := hB.trans (hb16.mono hB.size)
              first | refine LS.vv rfl rfl (by decide) (Val.nilCheck rfl) ?_ | refine LS.vv rfl rfl (by decide) (Val.nilCheckP rfl) ?_
              refine LS.vv rfl rfl (by decide) (Val.fieldAddr0 fld75_3 rfl) ?_
              refine LS.m rfl (Step.storeZ (B := w0.heap.size) rfl rfl flat3 elem3 rfl rfl rfl (hM.o2) (by simp [lnR]) hB.size ?_)
              rintro w17 hO17 hg17 hbl17 hsz17
              replace hM := hM.s2 (e := _) hg17 hO17 inl_block
              try simp only [List.set_cons_zero, List.set_cons_succ] at hM
              replace hB := hB.trans hbl17
              rw [lnR_told] at hM
              refine LS.nil ?_
              refine thenP_normal ?_
              refine W.seqT (S := fun w => Below w0.heap.size w0 w ∧ Mz w w0.heap.size _) (.val 0 (.val 1 (.val 2 (.val 3 (.val 4 (.val 5 (.val 6 (.val 7 (.val 8 (.val 9 (.mem 10 (.val 11 (.done))))))))))))) mixed (by kernel_rfl) ⟨hB.drew, hM.drew.er1⟩ ?_
              replace hB := hB.drew
              replace hM := hM.drew
              refine DT.vv rfl rfl rfl (by decide) (Val.move rfl) ?_
              refine DT.vv rfl rfl rfl (by decide) (Val.move rfl) ?_
              first | refine DT.vv rfl rfl rfl (by decide) (Val.nilCheck rfl) ?_ | refine DT.vv rfl rfl rfl (by decide) (Val.nilCheckP rfl) ?_
              refine DT.vv rfl rfl rfl (by decide) (Val.fieldAddr0 fld75_3 rfl) ?_
              refine DT.vv rfl rfl rfl (by decide) (Val.load flat3 rfl (fun _ h => h.2.o1.rd) (rfl)) ?_
              refine DT.vv rfl rfl rfl (by decide) (Val.move rfl) ?_
              first | refine DT.vv rfl rfl rfl (by decide) (Val.nilCheck rfl) ?_ | refine DT.vv rfl rfl rfl (by decide) (Val.nilCheckP rfl) ?_
              refine DT.vv rfl rfl rfl (by decide) (Val.fieldAddr0 fld75_2 rfl) ?_
              refine DT.vv rfl rfl rfl (by decide) (Val.load flat3 rfl (fun _ h => h.2.o1.rd) (rfl)) ?_
              refine DT.vv rfl rfl rfl (by decide) (Val.build str50 elem50 rfl rfl rfl) ?_
              refine DT.m rfl rfl (Step.storeAgg0 (B := w0.heap.size) rfl rfl agg50 rfl rfl rfl (by decide) (by first | exact one_map _ (fun _ => rfl) _ | simp [Value.oneCell']) (hM.o1) rfl hB.size ?_)
              rintro w18 hO18 hg18 hbl18 hsz18
              replace hM := hM.s1 (e := _) hg18 hO18 inl_block
              try simp only [List.set_cons_zero, List.set_cons_succ] at hM
              replace hB := hB.trans hbl18
              refine ⟨⟨hB, hM.er1⟩, ?_⟩
              refine DT.vv rfl rfl rfl (by decide) (Val.cast (v := .int .i64 ((0 : Nat) : Int)) (Val.assign rfl) rfl) ?_
              refine DT.nil ?_
              refine W.ret ?_
              refine retC2 (by first | exact .inl rfl | exact .inr rfl) rfl rfl agg50 (hM.o1.rd) rfl (by decide) ?_
              replace hM := hM.er7.er6.er5.er4.er3.er2.sw0
              first
                | (refine ⟨none, 0, 0, 0, 0, 6, [], rfl, by omega, ((Mz.nil _ _).addNil 35 2), fun h => by exfalso; omega, fun _ => ⟨rfl, rfl⟩, hB⟩; done)
                | (refine ⟨none, 0, 0, 0, 0, e0, [], rfl, by omega, ((Mz.nil _ _).addNil 35 2), fun h => by exfalso; omega, fun _ => ⟨rfl, rfl⟩, hB⟩; done)
                | (refine ⟨none, 0, 0, 0, 0, 1, [], rfl, by omega, ((Mz.nil _ _).addNil 35 2), fun h => by exfalso; omega, fun _ => ⟨rfl, rfl⟩, hB⟩; done)
                | (obtain rfl : k = l.length := (by omega)
                   rw [List.take_length] at *
                   have hpt : ptold (pplay D M l) = stold (pplay D M l).l := (by unfold ptold; rw [if_pos (by omega)])
                   exact ⟨pl, cl, l.length, _, _, 0, _, rfl, by omega, hM.tail.sub (List.Sublist.cons_cons _ (List.nil_sublist _)), fun _ => ⟨rfl, rfl, hpt.symm, rfl⟩, fun h => absurd rfl h, hB⟩)
                | (obtain rfl : k = l.length := (by omega)
                   rw [List.take_length] at *
                   have hpt : ptold (pplay D M l) = (pplay D M l).told := (by unfold ptold; rw [if_neg (by omega)])
                   exact ⟨pl, cl, l.length, _, _, 0, _, rfl, by omega, hM.tail.sub (List.Sublist.cons_cons _ (List.nil_sublist _)), fun _ => ⟨rfl, rfl, hpt.symm, rfl⟩, fun h => absurd rfl h, hB⟩)
            ·
              refine W.skip ?_
              refine thenP_normal ?_
              refine W.seqT (S := fun w => Below w0.heap.size w0 w ∧ Mz w w0.heap.size _) (.val 0 (.val 1 (.val 2 (.val 3 (.val 4 (.val 5 (.val 6 (.val 7 (.val 8 (.val 9 (.mem 10 (.val 11 (.done))))))))))))) mixed (by kernel_rfl) ⟨hB.drew, hM.drew.er1⟩ ?_
              replace hB := hB.drew
              replace hM := hM.drew
              refine DT.vv rfl rfl rfl (by decide) (Val.move rfl) ?_
              refine DT.vv rfl rfl rfl (by decide) (Val.move rfl) ?_
              first | refine DT.vv rfl rfl rfl (by decide) (Val.nilCheck rfl) ?_ | refine DT.vv rfl rfl rfl (by decide) (Val.nilCheckP rfl) ?_
              refine DT.vv rfl rfl rfl (by decide) (Val.fieldAddr0 fld75_3 rfl) ?_
              refine DT.vv rfl rfl rfl (by decide) (Val.load flat3 rfl (fun _ h => h.2.o1.rd) (rfl)) ?_
              refine DT.vv rfl rfl rfl (by decide) (Val.move rfl) ?_
              first | refine DT.vv rfl rfl rfl (by decide) (Val.nilCheck rfl) ?_ | refine DT.vv rfl rfl rfl (by decide) (Val.nilCheckP rfl) ?_
              refine DT.vv rfl rfl rfl (by decide) (Val.fieldAddr0 fld75_2 rfl) ?_
              refine DT.vv rfl rfl rfl (by decide) (Val.load flat3 rfl (fun _ h => h.2.o1.rd) (rfl)) ?_
              refine DT.vv rfl rfl rfl (by decide) (Val.build str50 elem50 rfl rfl rfl) ?_
              refine DT.m rfl rfl (Step.storeAgg0 (B := w0.heap.size) rfl rfl agg50 rfl rfl rfl (by decide) (by first | exact one_map _ (fun _ => rfl) _ | simp [Value.oneCell']) (hM.o1) rfl hB.size ?_)
              rintro w19 hO19 hg19 hbl19 hsz19
              replace hM := hM.s1 (e := _) hg19 hO19 inl_block
              try simp only [List.set_cons_zero, List.set_cons_succ] at hM
              replace hB := hB.trans hbl19
              refine ⟨⟨hB, hM.er1⟩, ?_⟩
              refine DT.vv rfl rfl rfl (by decide) (Val.cast (v := .int .i64 ((0 : Nat) : Int)) (Val.assign rfl) rfl) ?_
              refine DT.nil ?_
              refine W.ret ?_
              refine retC2 (by first | exact .inl rfl | exact .inr rfl) rfl rfl agg50 (hM.o1.rd) rfl (by decide) ?_
              replace hM := hM.er7.er6.er5.er4.er3.er2.sw0
              first
                | (refine ⟨none, 0, 0, 0, 0, 6, [], rfl, by omega, ((Mz.nil _ _).addNil 35 2), fun h => by exfalso; omega, fun _ => ⟨rfl, rfl⟩, hB⟩; done)
                | (refine ⟨none, 0, 0, 0, 0, e0, [], rfl, by omega, ((Mz.nil _ _).addNil 35 2), fun h => by exfalso; omega, fun _ => ⟨rfl, rfl⟩, hB⟩; done)
                | (refine ⟨none, 0, 0, 0, 0, 1, [], rfl, by omega, ((Mz.nil _ _).addNil 35 2), fun h => by exfalso; omega, fun _ => ⟨rfl, rfl⟩, hB⟩; done)
                | (obtain rfl : k = l.length := (by omega)
                   rw [List.take_length] at *
                   have hpt : ptold (pplay D M l) = stold (pplay D M l).l := (by unfold ptold; rw [if_pos (by omega)])
                   exact ⟨pl, cl, l.length, _, _, 0, _, rfl, by omega, hM.tail.sub (List.Sublist.cons_cons _ (List.nil_sublist _)), fun _ => ⟨rfl, rfl, hpt.symm, rfl⟩, fun h => absurd rfl h, hB⟩)
                | (obtain rfl : k = l.length := (by omega)
                   rw [List.take_length] at *
                   have hpt : ptold (pplay D M l) = (pplay D M l).told := (by unfold ptold; rw [if_neg (by omega)])
                   exact ⟨pl, cl, l.length, _, _, 0, _, rfl, by omega, hM.tail.sub (List.Sublist.cons_cons _ (List.nil_sublist _)), fun _ => ⟨rfl, rfl, hpt.symm, rfl⟩, fun h => absurd rfl h, hB⟩)

end Go.Proofs.Ytldcpihjoakigaa
