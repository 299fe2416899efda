/-
  The pair of sites: the line of it.
-/
import Derived.Test.YtldcpihjoakigaaPairPlain
import Derived.Test.YtldcpihjoakigaaVbuild
import Derived.Test.YtldcpihjoakigaaVcutz
import Derived.Test.YtldcpihjoakigaaShip
import Derived.Test.YtldcpihjoakigaaShipP
import Derived.Test.YtldcpihjoakigaaArray3
namespace Go.Proofs.Ytldcpihjoakigaa
open Go Go.RowKit V
set_option linter.unusedVariables false
set_option linter.unusedSimpArgs false

/-- the cells of a line that begins a struct -/
def lnR (s : SL) (pw : Option Addr) (cw : Nat) (R : List Value) : List Value := .int .i64 (s.mode : Int) :: .slice pw s.wr.length cw :: .int .i64 (s.sent : Int) :: .int .i64 (s.got : Int) :: .int .i64 (s.put : Int) :: .int .i64 (s.known : Int) :: R
structure PG where
  g : Nat
  g0 : Nat
  g1 : Nat
  co0 : Nat
  co1 : Nat
  po0 : Option Addr
  po1 : Option Addr
abbrev pR (q : PG) (s : PS) : List Value := [.pointer (some ⟨q.g0, 0, none⟩), .pointer (some ⟨q.g1, 0, none⟩), .int .i64 (s.main : Int), .int .i64 (s.told : Int)]
abbrev pO (q : PG) (s : PS) (pw : Option Addr) (cw : Nat) : Oz := ⟨75, 10, some ⟨q.g, 0, none⟩, 1, 1, lnR s.l pw cw (pR q s)⟩
abbrev wO (l : SL) (pw : Option Addr) (cw : Nat) : Oz := ⟨45, 4, pw, l.wr.length, cw, sv l.wr⟩
abbrev PM (w : World) (B : Nat) (q : PG) (s : PS) (T0 T1 : List Tx) (pw : Option Addr) (cw : Nat) (S : List Oz) : Prop := Mz w B (pO q s pw cw :: wO s.l pw cw :: arrO q.g0 q.po0 T0.length q.co0 s.t0 :: outO q.po0 q.co0 T0 :: arrO q.g1 q.po1 T1.length q.co1 s.t1 :: outO q.po1 q.co1 T1 :: (tz 5 T0 ++ (tz 5 T1 ++ S)))
structure PI (w : World) (B d : Nat) (q : PG) (s : PS) (S : List Oz) : Prop where
  ex : ∃ T0 T1 pw cw, PM w B q s T0 T1 pw cw S ∧ dT T0 = s.D0 ∧ T0.length = d ∧ dT T1 = s.D1 ∧ T1.length = d
/-- what the walks need of a state -/
structure PK (d : Nat) (s : PS) : Prop where
  hd3 : 3 ≤ d
  hd6 : d ≤ 6
  put : s.l.put ≤ s.l.got
  got : s.l.got ≤ s.l.sent
  sent : s.l.sent ≤ s.l.wr.length
  wr : s.l.wr.length ≤ 1000
  kept : ∀ x ∈ s.l.wr, K24 x
  main : s.main ≤ 1
  sh0 : Shape d s.D0
  sh1 : Shape d s.D1
theorem PV.k {d mode : Nat} {s : PS} (h : PV d mode s) (hd : 3 ≤ d) (hd6 : d ≤ 6) (hw : s.l.wr.length ≤ 1000) : PK d s := by
  obtain ⟨_, ⟨_, _, _, h0⟩, _⟩ := h.s0
  obtain ⟨_, ⟨_, _, _, h1⟩, _⟩ := h.s1
  exact ⟨hd, hd6, h.put, h.got, h.sent, hw, h.kept, h.main, h0.shape, h1.shape⟩
section
variable {w : World} {B : Nat} {q0 q1 q2 q3 q4 a b c e : Oz} {t0 t1 S : List Oz}
theorem to1_4 (h : Mz w B (q0 :: q1 :: q2 :: q3 :: a :: b :: (t0 ++ (t1 ++ S)))) : Mz w B (a :: b :: (t1 ++ (q0 :: q1 :: q2 :: q3 :: (t0 ++ S)))) := by
  refine h.perm (List.Perm.symm ?_)
  refine (List.perm_append_comm_assoc [q0, q1, q2, q3] [a, b] (t0 ++ (t1 ++ S))).trans (List.Perm.append_left [a, b] ?_)
  exact ((List.perm_append_comm_assoc t0 t1 S).append_left [q0, q1, q2, q3]).trans (List.perm_append_comm_assoc [q0, q1, q2, q3] t1 (t0 ++ S))
theorem from1_4 (h : Mz w B (a :: b :: (t1 ++ (q0 :: q1 :: q2 :: q3 :: (t0 ++ S))))) : Mz w B (q0 :: q1 :: q2 :: q3 :: a :: b :: (t0 ++ (t1 ++ S))) := by
  refine h.perm ?_
  refine (List.perm_append_comm_assoc [q0, q1, q2, q3] [a, b] (t0 ++ (t1 ++ S))).trans (List.Perm.append_left [a, b] ?_)
  exact ((List.perm_append_comm_assoc t0 t1 S).append_left [q0, q1, q2, q3]).trans (List.perm_append_comm_assoc [q0, q1, q2, q3] t1 (t0 ++ S))
theorem to1_5 (h : Mz w B (q4 :: q0 :: q1 :: q2 :: q3 :: a :: b :: (t0 ++ (t1 ++ S)))) : Mz w B (a :: b :: (t1 ++ (q4 :: q0 :: q1 :: q2 :: q3 :: (t0 ++ S)))) := by
  refine h.perm (List.Perm.symm ?_)
  refine (List.perm_append_comm_assoc [q4, q0, q1, q2, q3] [a, b] (t0 ++ (t1 ++ S))).trans (List.Perm.append_left [a, b] ?_)
  exact ((List.perm_append_comm_assoc t0 t1 S).append_left [q4, q0, q1, q2, q3]).trans (List.perm_append_comm_assoc [q4, q0, q1, q2, q3] t1 (t0 ++ S))
theorem from1_5 (h : Mz w B (a :: b :: (t1 ++ (q4 :: q0 :: q1 :: q2 :: q3 :: (t0 ++ S))))) : Mz w B (q4 :: q0 :: q1 :: q2 :: q3 :: a :: b :: (t0 ++ (t1 ++ S))) := by
  refine h.perm ?_
  refine (List.perm_append_comm_assoc [q4, q0, q1, q2, q3] [a, b] (t0 ++ (t1 ++ S))).trans (List.Perm.append_left [a, b] ?_)
  exact ((List.perm_append_comm_assoc t0 t1 S).append_left [q4, q0, q1, q2, q3]).trans (List.perm_append_comm_assoc [q4, q0, q1, q2, q3] t1 (t0 ++ S))
theorem to0_3 (h : Mz w B (q4 :: q0 :: q1 :: a :: b :: c :: e :: (t0 ++ (t1 ++ S)))) : Mz w B (a :: b :: (t0 ++ (q4 :: q0 :: q1 :: c :: e :: (t1 ++ S)))) := by
  refine h.perm (List.Perm.symm ?_)
  refine (List.perm_append_comm_assoc [q4, q0, q1] [a, b] (c :: e :: (t0 ++ (t1 ++ S)))).trans (List.Perm.append_left [a, b] ?_)
  exact List.perm_append_comm_assoc [q4, q0, q1, c, e] t0 (t1 ++ S)
theorem from0_3 (h : Mz w B (a :: b :: (t0 ++ (q4 :: q0 :: q1 :: c :: e :: (t1 ++ S))))) : Mz w B (q4 :: q0 :: q1 :: a :: b :: c :: e :: (t0 ++ (t1 ++ S))) := by
  refine h.perm ?_
  refine (List.perm_append_comm_assoc [q4, q0, q1] [a, b] (c :: e :: (t0 ++ (t1 ++ S)))).trans (List.Perm.append_left [a, b] ?_)
  exact List.perm_append_comm_assoc [q4, q0, q1, c, e] t0 (t1 ++ S)
end
theorem sv_drop (l : List St) : ∀ a, (sv l).drop (a * 4) = sv (l.drop a) := by
  induction l with
  | nil => intro a; simp [sv]
  | cons x l ih =>
    intro a
    cases a with
    | zero => simp
    | succ a =>
      have h1 : sv (x :: l) = stc x ++ sv l := by simp [sv]
      have h2 : (stc x).length = 4 := rfl
      rw [h1, List.drop_succ_cons, ← ih a, show (a + 1) * 4 = (stc x).length + a * 4 by omega, List.drop_append]
      simp
theorem wrCut {w : World} {B : Nat} {pw : Option Addr} {cw m a : Nat} {l : List St} (h : OwnZ w B 45 4 pw m cw (sv l)) : Rd w (cutZ pw cw a 4) (sv (l.drop a)) := by
  rw [← sv_drop]
  refine h.rd.cutz ?_
  rw [h.length]
  exact Nat.mul_le_mul_right 4 h.le_cap
theorem wsl_len (s : SL) {a : Nat} (h : s.put ≤ s.wr.length) : (wsl s a).length = s.put - a := by unfold wsl; simp; omega
theorem wsl_gS {s : SL} {a k : Nat} (h : a + k < s.put) (h2 : s.put ≤ s.wr.length) : gS (s.wr.drop a) k = gS (wsl s a) k ∧ gS (wsl s a) k ∈ s.wr := by
  have e1 : gS (wsl s a) k = s.wr[a + k] := by
    unfold gS wsl
    rw [List.getD_eq_getElem?_getD, List.getElem?_drop, List.getElem?_take, if_pos h, List.getElem?_eq_getElem (by omega)]; rfl
  have e2 : gS (s.wr.drop a) k = s.wr[a + k] := by
    unfold gS
    rw [List.getD_eq_getElem?_getD, List.getElem?_drop, List.getElem?_eq_getElem (by omega)]; rfl
  exact ⟨e2.trans e1.symm, by rw [e1]; exact List.getElem_mem _⟩
theorem pputs_take {d : Nat} {t : Int} {ws : List St} {D : Discs} {k : Nat} (h : k < ws.length) : pputs d t (ws.take (k + 1)) D = aWrite d (pputs d t (ws.take k) D) t (gS ws k).block.toNat (gS ws k).val := by
  unfold pputs
  rw [List.take_add_one, List.getElem?_eq_getElem h, Option.toList_some, List.foldl_append, gS_lt h]; rfl
theorem pputs_shape {d : Nat} {t : Int} (hd3 : 3 ≤ d) (hd6 : d ≤ 6) : ∀ (ws : List St) (D : Discs), (∀ x ∈ ws, K24 x) → Shape d D → Shape d (pputs d t ws D)
  | [], D, _, h => h
  | x :: ws, D, hk, h => by
    obtain ⟨h1, h2, h3⟩ := hk x (by simp)
    exact pputs_shape hd3 hd6 ws _ (fun y hy => hk y (by simp [hy])) (aWrite_shape h hd3 hd6 (by omega) h3)

theorem pdo2 (s : SL) (pw : Option Addr) (cw : Nat) (R : List Value) : lcode s 2 = one0 s.sent s.wr.length ∧ (lnR s pw cw R).set 2 (.int .i64 (one1 s.sent s.wr.length : Int)) = lnR (ldo s 2) pw cw R := by
  unfold lcode one0 one1 ldo; by_cases h : s.sent < s.wr.length <;> simp [h, lnR]
theorem pdo3 (s : SL) (pw : Option Addr) (cw : Nat) (R : List Value) : lcode s 3 = one0 s.got s.sent ∧ (lnR s pw cw R).set 3 (.int .i64 (one1 s.got s.sent : Int)) = lnR (ldo s 3) pw cw R := by
  unfold lcode one0 one1 ldo; by_cases h : s.got < s.sent <;> simp [h, lnR]
theorem pdo4 (s : SL) (pw : Option Addr) (cw : Nat) (R : List Value) : lcode s 4 = one0 s.put s.got ∧ (lnR s pw cw R).set 4 (.int .i64 (one1 s.put s.got : Int)) = lnR (ldo s 4) pw cw R := by
  unfold lcode one0 one1 ldo; by_cases h : s.put < s.got <;> simp [h, lnR]
theorem pdo6 (s : SL) (pw : Option Addr) (cw : Nat) (R : List Value) : lcode s 6 = 0 ∧ (lnR s pw cw R).set 2 (.int .i64 (s.got : Int)) = lnR (ldo s 6) pw cw R := by
  unfold lcode ldo; simp [lnR]
theorem pdo5 (s : SL) (pw : Option Addr) (cw : Nat) (R : List Value) : lcode s 5 = 0 ∧ (s.mode = 3 → ((lnR s pw cw R).set 5 (.int .i64 (s.got : Int))).set 5 (.int .i64 (s.put : Int)) = lnR (ldo s 5) pw cw R) ∧ (s.mode ≠ 3 → (lnR s pw cw R).set 5 (.int .i64 (s.got : Int)) = lnR (ldo s 5) pw cw R) := by
  unfold lcode ldo; by_cases h : s.mode = 3 <;> simp [h, lnR]


theorem oneP_any (xs : List Value) (g j x m : Nat) (B : Nat) (S : List Oz) (w0 : World) (hM0 : Mz w0 B (⟨75, 10, some ⟨g, 0, none⟩, 1, 1, xs⟩ :: S)) (hB0 : B ≤ w0.heap.size) (hx : xs[j]? = some (.int .i64 (x : Int))) (hx2 : x ≤ 1000000) :
    CallsV Try.prog 31 #[.pointer ((some (⟨g, 0, none⟩ : Addr)).map (·.add j)), .int .i64 (m : Int)] w0 (fun v w => v = .int .i64 (one0 x m : Int) ∧ Mz w B (⟨75, 10, some ⟨g, 0, none⟩, 1, 1, xs.set j (.int .i64 (one1 x m : Int))⟩ :: S) ∧ Below B w0 w) := by
  refine enter1 Try.func31 rfl Try.ntmps31 (by simp) rfl ?_
  have hB := Below.refl B w0
  simp only [argLoc, Nat.zero_add]
  have hM := hM0
  have hjl : j < xs.length := (List.getElem?_eq_some_iff.1 hx).1
  refine W.seqR ?_
  refine LS.vv rfl rfl (by decide) (Val.cast (v := .int .i64 ((0 : Nat) : Int)) (Val.assign rfl) rfl) ?_
  refine LS.nil ?_
  refine W.seq ?_
  refine W.seqR ?_
  refine LS.vv rfl rfl (by decide) (Val.move rfl) ?_
  first | refine LS.vv rfl rfl (by decide) (Val.nilCheck rfl) ?_ | refine LS.vv rfl rfl (by decide) (Val.nilCheckP rfl) ?_
  refine LS.m rfl (Step.load rfl rfl (by decide) flat3 rfl (hM.o0.rd) (hx) ?_)
  refine LS.vv rfl rfl (by decide) (Val.move rfl) ?_
  refine LS.vv rfl rfl (by decide) (Val.geq rfl rfl) ?_
  refine LS.nil ?_
  first | refine W.condD rfl (fun hc1 => ?_) (fun hc1 => ?_) | refine W.cond rfl (fun hc1 => ?_) (fun hc1 => ?_)
  ·
    refine W.seqR ?_
    refine LS.vv rfl rfl (by decide) (Val.cast (v := .int .i64 ((5 : Nat) : Int)) (Val.assign rfl) rfl) ?_
    refine LS.nil ?_
    refine W.ret ?_
    refine thenP_ret ?_
    refine ret1 (by first | exact .inl rfl | exact .inr rfl) rfl ?_
    have hz : ¬ x < m := by omega
    unfold one0 one1
    rw [if_neg hz, if_neg hz]
    refine ⟨rfl, ?_, hB⟩
    have e : xs.set j (.int .i64 (x : Int)) = xs := by { refine List.ext_getElem? fun i => ?_; rw [List.getElem?_set]; by_cases h : j = i; (subst h; rw [if_pos rfl, if_pos hjl, hx]); rw [if_neg h] }
    rw [e]; exact hM
  ·
    refine W.skip ?_
    refine thenP_normal ?_
    refine W.seqR ?_
    refine LS.vv rfl rfl (by decide) (Val.move rfl) ?_
    first | refine LS.vv rfl rfl (by decide) (Val.nilCheck rfl) ?_ | refine LS.vv rfl rfl (by decide) (Val.nilCheckP rfl) ?_
    refine LS.m rfl (Step.load rfl rfl (by decide) flat3 rfl (hM.o0.rd) (hx) ?_)
    first | refine LS.vv rfl rfl (by decide) (Val.addN (j := 1) rfl rfl (by omega)) ?_ | refine LS.vv rfl rfl (by decide) (Val.add64 rfl rfl (by omega)) ?_
    first | refine LS.vv rfl rfl (by decide) (Val.nilCheck rfl) ?_ | refine LS.vv rfl rfl (by decide) (Val.nilCheckP rfl) ?_
    refine LS.m rfl (Step.storeZ (B := B) rfl rfl flat3 elem3 rfl rfl rfl (hM.o0) (by first | decide | (simp; done) | (simp; omega) | omega) (Nat.le_trans hB0 hB.size) ?_)
    rintro w1 hO1 hg1 hbl1 hsz1
    replace hM := hM.s0 (e := _) hg1 hO1 inl_block
    try simp only [List.set_cons_zero, List.set_cons_succ] at hM
    replace hB := hB.trans hbl1
    refine LS.nil ?_
    refine W.seqR ?_
    refine LS.vv rfl rfl (by decide) (Val.cast (v := .int .i64 ((0 : Nat) : Int)) (Val.assign rfl) rfl) ?_
    refine LS.nil ?_
    refine W.ret ?_
    refine ret1 (by first | exact .inl rfl | exact .inr rfl) rfl ?_
    have hz : x < m := by omega
    unfold one0 one1
    rw [if_pos hz, if_pos hz]
    exact ⟨rfl, hM, hB⟩

theorem DoP_any (s : SL) (pw : Option Addr) (cw g : Nat) (R : List Value) (k : Int) (B : Nat) (S : List Oz) (w0 : World) (hM0 : Mz w0 B (⟨75, 10, some ⟨g, 0, none⟩, 1, 1, (lnR (s) pw cw R)⟩ :: S)) (hB0 : B ≤ w0.heap.size) (hb6 : s.sent ≤ 1000 ∧ s.got ≤ 1000 ∧ s.put ≤ 1000) :
    CallsV Try.prog 22 #[.pointer (some ⟨g, 0, none⟩), .int .i64 k] w0 (fun v w => (∃ b, v = .tuple #[.int .i64 (lcode s k : Int), .bool b]) ∧ Mz w B (⟨75, 10, some ⟨g, 0, none⟩, 1, 1, (lnR (ldo s k) pw cw R)⟩ :: S) ∧ Below B w0 w) := by
  refine enter2 Try.func22 rfl Try.ntmps22 (by simp) rfl ?_
  have hB := Below.refl B w0
  simp only [argLoc, Nat.zero_add]
  have hM := hM0
  have hs1 := hb6.1; have hs2 := hb6.2.1; have hs3 := hb6.2.2
  refine W.seqR ?_
  refine LS.vv rfl rfl (by decide) (Val.cast (v := .int .i64 ((0 : Nat) : Int)) (Val.assign rfl) rfl) ?_
  refine LS.vv rfl rfl (by decide) (Val.assign rfl) ?_
  refine LS.nil ?_
  refine W.seq ?_
  refine W.seqR ?_
  refine LS.vv rfl rfl (by decide) (Val.move rfl) ?_
  refine LS.nil ?_
  refine W.block ?_
  refine W.seqR ?_
  refine LS.vv rfl rfl (by decide) (Val.eql rfl rfl) ?_
  refine LS.vv rfl rfl (by decide) (Val.assign rfl) ?_
  refine LS.nil ?_
  first | refine W.condD rfl (fun hc1 => ?_) (fun hc1 => ?_) | refine W.cond rfl (fun hc1 => ?_) (fun hc1 => ?_)
  ·
    refine W.seqD (S := fun w => Below B w0 w) [(0, true), (1, true), (2, true), (3, true), (4, true), (5, true), (6, false), (7, true), (8, false), (9, true), (10, true)] mixed (by kernel_rfl) hB.drew ?_
    replace hB := hB.drew
    replace hM := hM.drew
    refine DX.vv rfl rfl rfl (by decide) (Val.move rfl) ?_
    first | refine DX.vv rfl rfl rfl (by decide) (Val.nilCheck rfl) ?_ | refine DX.vv rfl rfl rfl (by decide) (Val.nilCheckP rfl) ?_
    refine DX.vv rfl rfl rfl (by decide) (Val.fieldAddr0 fld67_2 rfl) ?_
    refine DX.vv rfl rfl rfl (by decide) (Val.move rfl) ?_
    first | refine DX.vv rfl rfl rfl (by decide) (Val.nilCheck rfl) ?_ | refine DX.vv rfl rfl rfl (by decide) (Val.nilCheckP rfl) ?_
    refine DX.vv rfl rfl rfl (by decide) (Val.fieldAddr0 fld67_1 rfl) ?_
    refine DX.m rfl rfl (Step.load rfl rfl (by decide) flat37 rfl (hM.o0.rd) (rfl) ?_)
    refine ⟨hB, ?_⟩
    refine DX.vv rfl rfl rfl (by decide) (Val.len Try.underlying37 rfl) ?_
    refine DX.m rfl rfl (Step.call body31 rfl rfl (by decide) rfl (CallsV.mono (oneP_any (lnR s pw cw R) g 2 s.sent s.wr.length B _ _ hM (Nat.le_trans hB0 hB.size) rfl (by omega)) ?_))
    rintro _ w1 ⟨rfl, hM1, hb1⟩
    replace hM := hM1
    replace hB := hB.trans hb1
    refine ⟨hB, ?_⟩
    refine DX.vv rfl rfl rfl (by decide) (Val.assign rfl) ?_
    refine DX.vv rfl rfl rfl (by decide) (Val.assign rfl) ?_
    refine DX.nil ?_
    refine W.ret ?_
    refine inBlk_ret ?_
    refine thenP_ret ?_
    refine ret2 (by first | exact .inl rfl | exact .inr rfl) rfl rfl ?_
    obtain rfl : k = 2 := by omega
    obtain ⟨e1, e2⟩ := pdo2 s pw cw R
    rw [e2] at hM
    rw [e1]
    exact ⟨⟨_, rfl⟩, hM, hB⟩
  ·
    refine W.seqR ?_
    refine LS.vv rfl rfl (by decide) (Val.eql rfl rfl) ?_
    refine LS.vv rfl rfl (by decide) (Val.assign rfl) ?_
    refine LS.nil ?_
    first | refine W.condD rfl (fun hc2 => ?_) (fun hc2 => ?_) | refine W.cond rfl (fun hc2 => ?_) (fun hc2 => ?_)
    ·
      refine W.seqD (S := fun w => Below B w0 w) [(0, true), (1, true), (2, true), (3, true), (4, true), (5, true), (6, false), (7, false), (8, true), (9, true)] mixed (by kernel_rfl) hB.drew ?_
      replace hB := hB.drew
      replace hM := hM.drew
      refine DX.vv rfl rfl rfl (by decide) (Val.move rfl) ?_
      first | refine DX.vv rfl rfl rfl (by decide) (Val.nilCheck rfl) ?_ | refine DX.vv rfl rfl rfl (by decide) (Val.nilCheckP rfl) ?_
      refine DX.vv rfl rfl rfl (by decide) (Val.fieldAddr0 fld67_3 rfl) ?_
      refine DX.vv rfl rfl rfl (by decide) (Val.move rfl) ?_
      first | refine DX.vv rfl rfl rfl (by decide) (Val.nilCheck rfl) ?_ | refine DX.vv rfl rfl rfl (by decide) (Val.nilCheckP rfl) ?_
      refine DX.vv rfl rfl rfl (by decide) (Val.fieldAddr0 fld67_2 rfl) ?_
      refine DX.m rfl rfl (Step.load rfl rfl (by decide) flat3 rfl (hM.o0.rd) (rfl) ?_)
      refine ⟨hB, ?_⟩
      refine DX.m rfl rfl (Step.call body31 rfl rfl (by decide) rfl (CallsV.mono (oneP_any (lnR s pw cw R) g 3 s.got s.sent B _ _ hM (Nat.le_trans hB0 hB.size) rfl (by omega)) ?_))
      rintro _ w2 ⟨rfl, hM2, hb2⟩
      replace hM := hM2
      replace hB := hB.trans hb2
      refine ⟨hB, ?_⟩
      refine DX.vv rfl rfl rfl (by decide) (Val.assign rfl) ?_
      refine DX.vv rfl rfl rfl (by decide) (Val.assign rfl) ?_
      refine DX.nil ?_
      refine W.ret ?_
      refine inBlk_ret ?_
      refine thenP_ret ?_
      refine ret2 (by first | exact .inl rfl | exact .inr rfl) rfl rfl ?_
      obtain rfl : k = 3 := by omega
      obtain ⟨e1, e2⟩ := pdo3 s pw cw R
      rw [e2] at hM
      rw [e1]
      exact ⟨⟨_, rfl⟩, hM, hB⟩
    ·
      refine W.seqR ?_
      refine LS.vv rfl rfl (by decide) (Val.eql rfl rfl) ?_
      refine LS.vv rfl rfl (by decide) (Val.assign rfl) ?_
      refine LS.nil ?_
      first | refine W.condD rfl (fun hc3 => ?_) (fun hc3 => ?_) | refine W.cond rfl (fun hc3 => ?_) (fun hc3 => ?_)
      ·
        refine W.seqD (S := fun w => Below B w0 w) [(0, true), (1, true), (2, true), (3, true), (4, true), (5, true), (6, false), (7, false), (8, true), (9, true)] mixed (by kernel_rfl) hB.drew ?_
        replace hB := hB.drew
        replace hM := hM.drew
        refine DX.vv rfl rfl rfl (by decide) (Val.move rfl) ?_
        first | refine DX.vv rfl rfl rfl (by decide) (Val.nilCheck rfl) ?_ | refine DX.vv rfl rfl rfl (by decide) (Val.nilCheckP rfl) ?_
        refine DX.vv rfl rfl rfl (by decide) (Val.fieldAddr0 fld67_4 rfl) ?_
        refine DX.vv rfl rfl rfl (by decide) (Val.move rfl) ?_
        first | refine DX.vv rfl rfl rfl (by decide) (Val.nilCheck rfl) ?_ | refine DX.vv rfl rfl rfl (by decide) (Val.nilCheckP rfl) ?_
        refine DX.vv rfl rfl rfl (by decide) (Val.fieldAddr0 fld67_3 rfl) ?_
        refine DX.m rfl rfl (Step.load rfl rfl (by decide) flat3 rfl (hM.o0.rd) (rfl) ?_)
        refine ⟨hB, ?_⟩
        refine DX.m rfl rfl (Step.call body31 rfl rfl (by decide) rfl (CallsV.mono (oneP_any (lnR s pw cw R) g 4 s.put s.got B _ _ hM (Nat.le_trans hB0 hB.size) rfl (by omega)) ?_))
        rintro _ w3 ⟨rfl, hM3, hb3⟩
        replace hM := hM3
        replace hB := hB.trans hb3
        refine ⟨hB, ?_⟩
        refine DX.vv rfl rfl rfl (by decide) (Val.assign rfl) ?_
        refine DX.vv rfl rfl rfl (by decide) (Val.assign rfl) ?_
        refine DX.nil ?_
        refine W.ret ?_
        refine inBlk_ret ?_
        refine thenP_ret ?_
        refine ret2 (by first | exact .inl rfl | exact .inr rfl) rfl rfl ?_
        obtain rfl : k = 4 := by omega
        obtain ⟨e1, e2⟩ := pdo4 s pw cw R
        rw [e2] at hM
        rw [e1]
        exact ⟨⟨_, rfl⟩, hM, hB⟩
      ·
        refine W.seqR ?_
        refine LS.vv rfl rfl (by decide) (Val.eql rfl rfl) ?_
        refine LS.vv rfl rfl (by decide) (Val.assign rfl) ?_
        refine LS.nil ?_
        first | refine W.condD rfl (fun hc4 => ?_) (fun hc4 => ?_) | refine W.cond rfl (fun hc4 => ?_) (fun hc4 => ?_)
        ·
          refine W.reg ?_
          refine LS.vv rfl rfl (by decide) (Val.move rfl) ?_
          refine LS.vv rfl rfl (by decide) (Val.move rfl) ?_
          first | refine LS.vv rfl rfl (by decide) (Val.nilCheck rfl) ?_ | refine LS.vv rfl rfl (by decide) (Val.nilCheckP rfl) ?_
          refine LS.vv rfl rfl (by decide) (Val.fieldAddr0 fld67_3 rfl) ?_
          refine LS.m rfl (Step.load rfl rfl (by decide) flat3 rfl (hM.o0.rd) (rfl) ?_)
          first | refine LS.vv rfl rfl (by decide) (Val.nilCheck rfl) ?_ | refine LS.vv rfl rfl (by decide) (Val.nilCheckP rfl) ?_
          refine LS.vv rfl rfl (by decide) (Val.fieldAddr0 fld67_2 rfl) ?_
          refine LS.m rfl (Step.storeZ (B := B) rfl rfl flat3 elem3 rfl rfl rfl (hM.o0) (by simp [lnR]) (Nat.le_trans hB0 hB.size) ?_)
          rintro w4 hO4 hg4 hbl4 hsz4
          replace hM := hM.s0 (e := _) hg4 hO4 inl_block
          try simp only [List.set_cons_zero, List.set_cons_succ] at hM
          replace hB := hB.trans hbl4
          refine LS.nil ?_
          refine inBlk_normal ?_
          refine thenP_normal ?_
          refine W.seqR ?_
          refine LS.vv rfl rfl (by decide) (Val.cast (v := .int .i64 ((0 : Nat) : Int)) (Val.assign rfl) rfl) ?_
          refine LS.vv rfl rfl (by decide) (Val.assign rfl) ?_
          refine LS.nil ?_
          refine W.ret ?_
          refine ret2 (by first | exact .inl rfl | exact .inr rfl) rfl rfl ?_
          obtain rfl : k = 6 := by omega
          obtain ⟨e1, e2⟩ := pdo6 s pw cw R
          rw [e2] at hM
          rw [e1]
          exact ⟨⟨_, rfl⟩, hM, hB⟩
        ·
          refine W.seqR ?_
          refine LS.vv rfl rfl (by decide) (Val.eql rfl rfl) ?_
          refine LS.vv rfl rfl (by decide) (Val.assign rfl) ?_
          refine LS.nil ?_
          first | refine W.condD rfl (fun hc5 => ?_) (fun hc5 => ?_) | refine W.cond rfl (fun hc5 => ?_) (fun hc5 => ?_)
          ·
            refine W.seqR ?_
            refine LS.vv rfl rfl (by decide) (Val.move rfl) ?_
            refine LS.vv rfl rfl (by decide) (Val.move rfl) ?_
            first | refine LS.vv rfl rfl (by decide) (Val.nilCheck rfl) ?_ | refine LS.vv rfl rfl (by decide) (Val.nilCheckP rfl) ?_
            refine LS.vv rfl rfl (by decide) (Val.fieldAddr0 fld67_3 rfl) ?_
            refine LS.m rfl (Step.load rfl rfl (by decide) flat3 rfl (hM.o0.rd) (rfl) ?_)
            first | refine LS.vv rfl rfl (by decide) (Val.nilCheck rfl) ?_ | refine LS.vv rfl rfl (by decide) (Val.nilCheckP rfl) ?_
            refine LS.vv rfl rfl (by decide) (Val.fieldAddr0 fld67_5 rfl) ?_
            refine LS.m rfl (Step.storeZ (B := B) rfl rfl flat3 elem3 rfl rfl rfl (hM.o0) (by simp [lnR]) (Nat.le_trans hB0 hB.size) ?_)
            rintro w5 hO5 hg5 hbl5 hsz5
            replace hM := hM.s0 (e := _) hg5 hO5 inl_block
            try simp only [List.set_cons_zero, List.set_cons_succ] at hM
            replace hB := hB.trans hbl5
            refine LS.nil ?_
            refine W.seqR ?_
            refine LS.vv rfl rfl (by decide) (Val.move rfl) ?_
            first | refine LS.vv rfl rfl (by decide) (Val.nilCheck rfl) ?_ | refine LS.vv rfl rfl (by decide) (Val.nilCheckP rfl) ?_
            refine LS.vv rfl rfl (by decide) (Val.fieldAddr0 fld67_0 rfl) ?_
            refine LS.m rfl (Step.load rfl rfl (by decide) flat3 rfl (hM.o0.rd) (rfl) ?_)
            refine LS.vv rfl rfl (by decide) (Val.eql rfl rfl) ?_
            refine LS.nil ?_
            first | refine W.condD rfl (fun hc6 => ?_) (fun hc6 => ?_) | refine W.cond rfl (fun hc6 => ?_) (fun hc6 => ?_)
            ·
              refine W.reg ?_
              refine LS.vv rfl rfl (by decide) (Val.move rfl) ?_
              refine LS.vv rfl rfl (by decide) (Val.move rfl) ?_
              first | refine LS.vv rfl rfl (by decide) (Val.nilCheck rfl) ?_ | refine LS.vv rfl rfl (by decide) (Val.nilCheckP rfl) ?_
              refine LS.vv rfl rfl (by decide) (Val.fieldAddr0 fld67_4 rfl) ?_
              refine LS.m rfl (Step.load rfl rfl (by decide) flat3 rfl (hM.o0.rd) (rfl) ?_)
              first | refine LS.vv rfl rfl (by decide) (Val.nilCheck rfl) ?_ | refine LS.vv rfl rfl (by decide) (Val.nilCheckP rfl) ?_
              refine LS.vv rfl rfl (by decide) (Val.fieldAddr0 fld67_5 rfl) ?_
              refine LS.m rfl (Step.storeZ (B := B) rfl rfl flat3 elem3 rfl rfl rfl (hM.o0) (by simp [lnR]) (Nat.le_trans hB0 hB.size) ?_)
              rintro w6 hO6 hg6 hbl6 hsz6
              replace hM := hM.s0 (e := _) hg6 hO6 inl_block
              try simp only [List.set_cons_zero, List.set_cons_succ] at hM
              replace hB := hB.trans hbl6
              refine LS.nil ?_
              refine inBlk_normal ?_
              refine thenP_normal ?_
              refine W.seqR ?_
              refine LS.vv rfl rfl (by decide) (Val.cast (v := .int .i64 ((0 : Nat) : Int)) (Val.assign rfl) rfl) ?_
              refine LS.vv rfl rfl (by decide) (Val.assign rfl) ?_
              refine LS.nil ?_
              refine W.ret ?_
              refine ret2 (by first | exact .inl rfl | exact .inr rfl) rfl rfl ?_
              obtain rfl : k = 5 := by omega
              obtain ⟨e1, e2, e3⟩ := pdo5 s pw cw R
              rw [e1]
              rw [e2 (by omega)] at hM
              exact ⟨⟨_, rfl⟩, hM, hB⟩
            ·
              refine W.skip ?_
              refine inBlk_normal ?_
              refine thenP_normal ?_
              refine W.seqR ?_
              refine LS.vv rfl rfl (by decide) (Val.cast (v := .int .i64 ((0 : Nat) : Int)) (Val.assign rfl) rfl) ?_
              refine LS.vv rfl rfl (by decide) (Val.assign rfl) ?_
              refine LS.nil ?_
              refine W.ret ?_
              refine ret2 (by first | exact .inl rfl | exact .inr rfl) rfl rfl ?_
              obtain rfl : k = 5 := by omega
              obtain ⟨e1, e2, e3⟩ := pdo5 s pw cw R
              rw [e1]
              rw [e3 (by omega)] at hM
              exact ⟨⟨_, rfl⟩, hM, hB⟩
          ·
            refine W.seqR ?_
            refine LS.vv rfl rfl (by decide) (Val.cast (v := .int .i64 ((6 : Nat) : Int)) (Val.assign rfl) rfl) ?_
            refine LS.vv rfl rfl (by decide) (Val.assign rfl) ?_
            refine LS.nil ?_
            refine W.ret ?_
            refine inBlk_ret ?_
            refine thenP_ret ?_
            refine ret2 (by first | exact .inl rfl | exact .inr rfl) rfl rfl ?_
            obtain ⟨e1, e2⟩ := ldo0 s k (by omega) (by omega) (by omega) (by omega) (by omega)
            rw [e1, e2]
            exact ⟨⟨_, rfl⟩, hM, hB⟩

theorem toldP_any (s : SL) (pw : Option Addr) (cw g : Nat) (R : List Value) (w0 : World) (hr : Rd w0 (some ⟨g, 0, none⟩) (lnR s pw cw R)) :
    CallsV Try.prog 23 #[.pointer (some ⟨g, 0, none⟩)] w0 (fun v w => v = .int .i64 (stold s : Int) ∧ Below w0.heap.size w0 w) := by
  refine enter1 Try.func23 rfl Try.ntmps23 (by simp) rfl ?_
  have hB := Below.refl w0.heap.size w0
  simp only [argLoc]
  have hM := Mz.nil w0 w0.heap.size
  refine W.seqR ?_
  refine LS.vv rfl rfl (by decide) (Val.cast (v := .int .i64 ((0 : Nat) : Int)) (Val.assign rfl) rfl) ?_
  refine LS.nil ?_
  refine W.seq ?_
  refine W.seqR ?_
  refine LS.vv rfl rfl (by decide) (Val.move rfl) ?_
  first | refine LS.vv rfl rfl (by decide) (Val.nilCheck rfl) ?_ | refine LS.vv rfl rfl (by decide) (Val.nilCheckP rfl) ?_
  refine LS.vv rfl rfl (by decide) (Val.fieldAddr0 fld67_0 rfl) ?_
  refine LS.m rfl (Step.load rfl rfl (by decide) flat3 rfl ((hr.below hB)) (rfl) ?_)
  refine LS.vv rfl rfl (by decide) (Val.eql rfl rfl) ?_
  refine LS.nil ?_
  first | refine W.condD rfl (fun hc1 => ?_) (fun hc1 => ?_) | refine W.cond rfl (fun hc1 => ?_) (fun hc1 => ?_)
  ·
    refine W.seqR ?_
    refine LS.vv rfl rfl (by decide) (Val.move rfl) ?_
    first | refine LS.vv rfl rfl (by decide) (Val.nilCheck rfl) ?_ | refine LS.vv rfl rfl (by decide) (Val.nilCheckP rfl) ?_
    refine LS.vv rfl rfl (by decide) (Val.fieldAddr0 fld67_1 rfl) ?_
    refine LS.m rfl (Step.load rfl rfl (by decide) flat37 rfl ((hr.below hB)) (rfl) ?_)
    refine LS.vv rfl rfl (by decide) (Val.len Try.underlying37 rfl) ?_
    refine LS.vv rfl rfl (by decide) (Val.assign rfl) ?_
    refine LS.nil ?_
    refine W.ret ?_
    refine thenP_ret ?_
    refine ret1 (by first | exact .inl rfl | exact .inr rfl) rfl ?_
    unfold stold
    rw [if_pos (by omega)]
    exact ⟨rfl, hB⟩
  ·
    refine W.skip ?_
    refine thenP_normal ?_
    refine W.seqR ?_
    refine LS.vv rfl rfl (by decide) (Val.move rfl) ?_
    first | refine LS.vv rfl rfl (by decide) (Val.nilCheck rfl) ?_ | refine LS.vv rfl rfl (by decide) (Val.nilCheckP rfl) ?_
    refine LS.vv rfl rfl (by decide) (Val.fieldAddr0 fld67_5 rfl) ?_
    refine LS.m rfl (Step.load rfl rfl (by decide) flat3 rfl ((hr.below hB)) (rfl) ?_)
    refine LS.vv rfl rfl (by decide) (Val.assign rfl) ?_
    refine LS.nil ?_
    refine W.ret ?_
    refine ret1 (by first | exact .inl rfl | exact .inr rfl) rfl ?_
    unfold stold
    rw [if_neg (by omega)]
    exact ⟨rfl, hB⟩

theorem body35 : Body Try.prog 35 := ⟨_, Try.func35, by kernel_rfl, rfl⟩

theorem body32 : Body Try.prog 32 := ⟨_, Try.func32, by kernel_rfl, rfl⟩

theorem body33 : Body Try.prog 33 := ⟨_, Try.func33, by kernel_rfl, rfl⟩

theorem body34 : Body Try.prog 34 := ⟨_, Try.func34, by kernel_rfl, rfl⟩

theorem body25 : Body Try.prog 25 := ⟨_, Try.func25, by kernel_rfl, rfl⟩

end Go.Proofs.Ytldcpihjoakigaa
