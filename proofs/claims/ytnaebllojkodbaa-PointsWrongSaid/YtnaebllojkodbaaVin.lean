/-
  The judgement in a fence: for the body of a round of a range over a function, and for the code behind such a range (marks among the deferred calls). The prefix of a function that holds a range.
-/
import Derived.Test.YtnaebllojkodbaaVyield
import Derived.RangeFuncBox
import Derived.RangeFuncLeaves
import Derived.RangeFuncCalls
namespace Go.Proofs.Ytnaebllojkodbaa.V
open Go Go.RowKit

/-- the widest fence, in a round or not -/
def FR (r : Option Nat) : Fence := { Fence.wide with round := r }

structure KnowD (ds : List Deferred) (n : Nat) (L : Loc) (a : Act) : Prop where
  ds : a.defers = ds
  k : Know n L ⟨a.tmps, []⟩
theorem KnowD.ev {ds : List Deferred} {n : Nat} {L : Loc} {a : Act} (h : KnowD ds n L a) {x : Operand} {v : Value} (e : V.ev L x = some v) : a.eval x = v := h.k.ev e
theorem KnowD.put {ds : List Deferred} {n : Nat} {L : Loc} {a : Act} (h : KnowD ds n L a) {d : Nat} (hd : d < n) (v : Value) : KnowD ds n ((d, v) :: L) (a.put (some d) v) := ⟨h.ds, h.k.put hd v⟩
theorem KnowD.sub {ds : List Deferred} {n : Nat} {A B : Loc} {a : Act} (h : KnowD ds n B a) (hs : Sub A B) : KnowD ds n A a := ⟨h.ds, h.k.sub hs⟩
theorem KnowD.of {n : Nat} {L : Loc} {a : Act} (h : Know n L a) : KnowD [] n L a := ⟨h.def0, rfl, h.size, h.at_⟩

theorem KnowD.of_put {ds : List Deferred} {n : Nat} {L L' : Loc} {a : Act} (h : KnowD ds n L a) {d : Option Nat} {v : Value} (hk : Know n L' ((⟨a.tmps, []⟩ : Act).put d v)) : KnowD ds n L' (a.put d v) := by
  cases d with
  | none => exact ⟨h.ds, hk⟩
  | some d => exact ⟨h.ds, hk⟩
def liftD (ds : List Deferred) (n : Nat) (Q : Post) : Exit → Act → World → Prop := fun e a w => ∃ L, KnowD ds n L a ∧ Q e L w
def WI (r : Option Nat) (ds : List Deferred) (m : Nat) (P : Program) (n : Nat) (c : Code) (Q : Post) (L : Loc) (w : World) : Prop := ∀ a, KnowD ds n L a → c.wpIn (FR r) m P (liftD ds n Q) a w
def LI (r : Option Nat) (ds : List Deferred) (m : Nat) (P : Program) (n : Nat) (ops : Array Oper) (K : Loc → World → Prop) (l : List Oper) (L : Loc) (w : World) : Prop :=
  ∀ a, KnowD ds n L a → wpListIn (FR r) m P ops (fun e a' w' => e = .normal ∧ ∃ L', KnowD ds n L' a' ∧ K L' w') l a w

def notDefer : Op → Bool
  | .defer _ => false
  | _ => true
theorem notDefer_ne {o : Op} (h : notDefer o = true) : ∀ c, o ≠ .defer c := by intro c e; subst e; cases h
def memOp : Op → Bool
  | .load _ _ => true
  | .store _ _ _ => true
  | _ => false
theorem memOp_nd {o : Op} (h : memOp o = true) : notDefer o = true := by cases o <;> first | rfl | cases h
theorem memOp_shape {P : Program} {o : Oper} (h : memOp o.op = true) {ρ : Operand → Value} {w w' : World} {x : Next} (hr : (execOp ρ o).run P w = .ok x w') : (∃ v, x = .value v) ∨ x = .skip := by
  obtain ⟨d, op, ty, pos, af, gd⟩ := o
  cases op with
  | load t a =>
    simp only [execOp, Sem.run_bind] at hr
    generalize (Instr.loadAt t (ρ a)).run P w = res at hr
    cases res with
    | ok v w2 => simp only [Result.andThen, Sem.run_pure] at hr; cases hr; exact .inl ⟨v, rfl⟩
    | halt y w2 => simp [Result.andThen] at hr
  | store t a y =>
    simp only [execOp, Sem.run_bind] at hr
    generalize (Instr.storeAt t (ρ a) (ρ y)).run P w = res at hr
    cases res with
    | ok v w2 => simp only [Result.andThen, Sem.run_pure] at hr; cases hr; exact .inr rfl
    | halt y w2 => simp [Result.andThen] at hr
  | _ => cases h

theorem callsR {P : Program} {m : Nat} {f : FuncId} {args : Array Value} {w : World} {R : Ending → World → Prop} (r : Option Nat) (h : Calls P f args w R) : CallsIn (FR r) m P f args w R := by
  cases r with
  | none => exact callsIn_wide.2 h
  | some l => exact CallsIn.inRound l (callsIn_wide.2 h)

section
variable {r : Option Nat} {ds : List Deferred} {m : Nat} {P : Program} {n : Nat} {ops : Array Oper} {K : Loc → World → Prop} {L : Loc} {w : World} {o : Oper} {rest : List Oper} {Q : Post}

theorem LI.nil (h : K L w) : LI r ds m P n ops K [] L w := fun _ ha => ⟨rfl, L, ha, h⟩
/-- a value that memory tells, or that nothing tells -/
theorem LI.l {S : World → Prop} {d : Nat} {v : Value} (hg : o.guard = none) (hnd : notDefer o.op = true) (hd : o.dst = some d) (hlt : d < n) (hv : Val P S o.op L v) (hS : S w) (h : LI r ds m P n ops K rest ((d, v) :: L) w) : LI r ds m P n ops K (o :: rest) L w := by
  intro a ha
  unfold wpListIn
  rw [if_pos (by simp [Region.wanted, hg])]
  have hr := hv a.eval (fun e => ha.ev e) w hS o.dst o.type o.pos o.after o.guard
  rw [show (⟨o.dst, o.op, o.type, o.pos, o.after, o.guard⟩ : Oper) = o from rfl] at hr
  refine ⟨fun _ _ => trivial, ?_⟩
  rw [Oper.semAt_eq _ _ _ (notDefer_ne hnd), hr, Oper.uponIn_value, hd]
  exact h _ (ha.put hlt v)
theorem LI.vv {d : Nat} {v : Value} (hg : o.guard = none) (hnd : notDefer o.op = true) (hd : o.dst = some d) (hlt : d < n) (hv : Val P (fun _ => True) o.op L v) (h : LI r ds m P n ops K rest ((d, v) :: L) w) : LI r ds m P n ops K (o :: rest) L w :=
  LI.l hg hnd hd hlt hv trivial h
/-- a load or a store -/
theorem LI.mm (hg : o.guard = none) (hmem : memOp o.op = true) (h : Step P n o L w (LI r ds m P n ops K rest)) : LI r ds m P n ops K (o :: rest) L w := by
  intro a ha
  unfold wpListIn
  rw [if_pos (by simp [Region.wanted, hg])]
  have hst := h ⟨a.tmps, []⟩ ha.k (fun _ _ _ => False)
  refine ⟨fun _ _ => trivial, ?_⟩
  rw [Oper.semAt_eq _ _ _ (notDefer_ne (memOp_nd hmem))]
  unfold Oper.wp at hst
  have hev : a.eval = (⟨a.tmps, []⟩ : Act).eval := rfl
  rw [hev]
  have hsh : ∀ x w', (execOp (⟨a.tmps, []⟩ : Act).eval o).run P w = .ok x w' → (∃ v, x = .value v) ∨ x = .skip := fun x w' e => memOp_shape hmem e
  generalize (execOp (⟨a.tmps, []⟩ : Act).eval o).run P w = res at hst hsh
  cases res with
  | ok x w' =>
    rcases hsh x w' rfl with ⟨v, rfl⟩ | rfl
    · obtain ⟨L', hk, hK⟩ := hst
      exact hK _ (ha.of_put hk)
    · obtain ⟨L', hk, hK⟩ := hst
      exact hK _ (ha.of_put hk)
  | halt x w' =>
    cases x with
    | panic v => exact hst.elim
    | _ => exact hst.elim
/-- a call of a function -/
theorem LI.call {f : FuncId} {args : List Operand} {tys : Array TypeId} {vs : List Value} {d : Nat} (hb : Body P f) (hg : o.guard = none)
    (hop : o.op = .call { callee := .value (.func f), args := args.toArray, argTypes := tys }) (hd : o.dst = some d) (hlt : d < n) (ha : argsV L args = some vs)
    (hc : CallsV P f vs.toArray w (fun v w' => LI r ds m P n ops K rest ((d, v) :: L) w')) : LI r ds m P n ops K (o :: rest) L w := by
  intro a hk
  unfold wpListIn
  rw [if_pos (by simp [Region.wanted, hg])]
  refine ⟨fun _ _ => trivial, ?_⟩
  rw [Oper.semAt_eq _ _ _ (by intro c e; rw [hop] at e; cases e)]
  have hargs : args.toArray.map a.eval = vs.toArray := by
    have := argsV_spec (fun e => hk.ev e) args vs ha
    simp [this]
  have hrun : (execOp a.eval o).run P w = .ok (.enter f vs.toArray) w := by
    simp only [execOp, hop, resolve, hargs]
    have : a.eval (.func f) = .func (.func f) #[] #[] := rfl
    simp only [this, Deferred.ofValue]
    have := run_callFunc hb vs.toArray w
    simp [go_sem, invoke, this]
  rw [hrun, Oper.uponIn_enter]
  refine ⟨fun h9 => by simp [FR, Fence.wide] at h9, CallsIn.mono (callsR r hc) fun e w' ⟨v, he, hK⟩ => ?_⟩
  subst he
  show wpListIn _ _ _ _ _ _ _ _
  rw [hd]
  exact hK _ (hk.put hlt v)

theorem WI.sub {c : Code} {A : Loc} (hs : Sub A L) (h : WI r ds m P n c Q A w) : WI r ds m P n c Q L w := fun a ha => h a (ha.sub hs)
theorem WI.skip (h : Q .normal L w) : WI r ds m P n .skip Q L w := fun _ ha => wpIn_skip ⟨L, ha, h⟩
theorem WI.exit {id : Nat} (h : Q (.exit id) L w) : WI r ds m P n (.exit id) Q L w := fun _ ha => wpIn_exit ⟨L, ha, h⟩
theorem WI.ret (h : Q .ret L w) : WI r ds m P n .ret Q L w := fun _ ha => wpIn_ret ⟨L, ha, h⟩
theorem WI.seq {x y : Code} (h : WI r ds m P n x (thenP (fun L w => WI r ds m P n y Q L w) Q) L w) : WI r ds m P n (.seq x y) Q L w := by
  intro a ha
  refine wpIn_seq (wpIn_mono (h a ha) fun e a' w' hq => ?_)
  obtain ⟨L', hk, q⟩ := hq
  cases e with
  | normal => exact q a' hk
  | exit i => exact ⟨L', hk, q⟩
  | goto l => exact ⟨L', hk, q⟩
  | ret => exact ⟨L', hk, q⟩
  | panic c => exact ⟨L', hk, q⟩
  | outgrown => exact ⟨L', hk, q⟩
theorem WI.block {id : Nat} {c : Code} (h : WI r ds m P n c (inBlk id Q) L w) : WI r ds m P n (.block id c) Q L w := by
  intro a ha
  refine wpIn_block (wpIn_mono (h a ha) fun e a' w' hq => ?_)
  obtain ⟨L', hk, q⟩ := hq
  cases e with
  | exit i =>
    simp only [inBlk] at q
    by_cases hi : i = id
    · rw [if_pos hi] at q; simp only [Exit.inBlock, if_pos hi]; exact ⟨L', hk, q⟩
    · rw [if_neg hi] at q; simp only [Exit.inBlock, if_neg hi]; exact ⟨L', hk, q⟩
  | normal => exact ⟨L', hk, q⟩
  | goto l => exact ⟨L', hk, q⟩
  | ret => exact ⟨L', hk, q⟩
  | panic c => exact ⟨L', hk, q⟩
  | outgrown => exact ⟨L', hk, q⟩
theorem WI.cond {c : Operand} {x y : Code} {b : Bool} (hc : ev L c = some (.bool b)) (ht : b = true → WI r ds m P n x Q L w) (hf : b = false → WI r ds m P n y Q L w) :
    WI r ds m P n (.cond c x y) Q L w :=
  fun a ha => wpIn_cond_split (ha.ev hc) (fun h => ht h a ha) (fun h => hf h a ha)
theorem WI.condD {c : Operand} {x y : Code} {p : Prop} [Decidable p] (hc : ev L c = some (.bool (decide p))) (ht : p → WI r ds m P n x Q L w) (hf : ¬ p → WI r ds m P n y Q L w) :
    WI r ds m P n (.cond c x y) Q L w :=
  WI.cond hc (fun h => ht (of_decide_eq_true h)) (fun h => hf (of_decide_eq_false h))
theorem WI.loop {c : Code} {α : Type} (vary : α → Loc) (fix : Loc) (H : α → World → Prop) (μ : α → Nat) (x0 : α)
    (h0 : Sub (vary x0) L) (hf : Sub fix L) (hH : H x0 w)
    (round : ∀ x w, H x w → WI r ds m P n c (thenP (fun L' w' => ∃ y, Sub (vary y) L' ∧ Sub fix L' ∧ H y w' ∧ μ y < μ x) Q) (vary x ++ fix) w) :
    WI r ds m P n (.loop c) Q L w := by
  intro a0 ha0 b k cs hro hb hr
  have key : ∀ N x a w, μ x = N → KnowD ds n (vary x ++ fix) a → H x w →
      ∃ e a' w', liftD ds n Q e a' w' ∧ ArrivesIn (Machine.fenced P (FR r)) P (lone (b.atR a (.code c :: .inLoop c :: k)) cs w) b k cs e a' w' := by
    intro N
    induction N using Nat.strongRecOn with
    | _ N ih =>
      intro x a w hm ha hx
      obtain ⟨e, a1, w1, ⟨L1, hk, hq⟩, harr⟩ := round x w hx a ha b (.inLoop c :: k) cs hro hb hr
      cases e with
      | normal =>
        obtain ⟨y, hs, hfx, hy, hlt⟩ := hq
        obtain ⟨e2, a2, w2, hq2, harr2⟩ := ih (μ y) (hm ▸ hlt) y a1 w1 rfl (hk.sub (hs.append hfx)) hy
        exact ⟨e2, a2, w2, hq2, .of_steps (StepsIn.trans harr (.one (fenced_calm hb hr rfl) stepR_inLoop)) harr2⟩
      | exit i => exact ⟨_, a1, w1, ⟨L1, hk, hq⟩, .pass (x := .inLoop c) rfl (fun _ _ => .inl (by simp)) harr⟩
      | goto l => exact ⟨_, a1, w1, ⟨L1, hk, hq⟩, .pass (x := .inLoop c) rfl (fun _ _ => .inl (by simp)) harr⟩
      | ret => exact ⟨_, a1, w1, ⟨L1, hk, hq⟩, .pass (x := .inLoop c) rfl (fun _ _ => .inl (by simp)) harr⟩
      | panic ch => exact ⟨_, a1, w1, ⟨L1, hk, hq⟩, .pass (x := .inLoop c) rfl (fun _ _ => .inl (by simp)) harr⟩
      | outgrown => exact ⟨_, a1, w1, ⟨L1, hk, hq⟩, .pass (x := .inLoop c) rfl (fun _ _ => .inl (by simp)) harr⟩
  obtain ⟨e, a', w', hq, harr⟩ := key _ x0 a0 w rfl (ha0.sub (h0.append hf)) hH
  exact ⟨e, a', w', hq, .of_steps (.one (fenced_calm hb hr rfl) stepR_loop) harr⟩
theorem WI.reg {id : Nat} {l : List Oper} (h : LI r ds m P n l.toArray (fun L w => Q .normal L w) l L w) : WI r ds m P n (.region id l.toArray false) Q L w :=
  fun a ha => wpIn_mono (wpIn_region_lit (h a ha)) fun e a' w' q => by
    obtain ⟨rfl, L', hk, hy⟩ := q
    exact ⟨L', hk, hy⟩
theorem WI.seqR {id : Nat} {l : List Oper} {y : Code} (h : LI r ds m P n l.toArray (fun L w => WI r ds m P n y Q L w) l L w) : WI r ds m P n (.seq (.region id l.toArray false) y) Q L w :=
  WI.seq (WI.reg h)

/-! ### The prefix of a function that holds a range over a function -/

def RW (m : Nat) (P : Program) (n : Nat) (c : Code) (Z : Exit → Act → World → Prop) (L : Loc) (w : World) : Prop := ∀ a, Know n L a → c.wpIn Fence.wide m P Z a w
variable {Z : Exit → Act → World → Prop}
theorem RW.seq {x y : Code} (h : RW m P n x (Exit.then (fun a w => y.wpIn Fence.wide m P Z a w) Z) L w) : RW m P n (.seq x y) Z L w := fun a ha => wpIn_seq (h a ha)
theorem RW.skip {y : Code} (h : RW m P n y Z L w) : RW m P n .skip (Exit.then (fun a w => y.wpIn Fence.wide m P Z a w) Z) L w := fun a ha => wpIn_skip (h a ha)
theorem RW.condF {c : Operand} {x y : Code} (hc : ev L c = some (.bool false)) (h : RW m P n y Z L w) : RW m P n (.cond c x y) Z L w := fun a ha => wpIn_cond_false (ha.ev hc) (h a ha)
theorem RW.seqR {id : Nat} {l : List Oper} {y : Code} (h : LS P n l.toArray (fun L w => RW m P n y Z L w) l L w) : RW m P n (.seq (.region id l.toArray false) y) Z L w :=
  fun a ha => wpIn_seq (wpIn_mono (wpIn_wide.2 (wp_region_lit (h a ha))) fun e a' w' q => by
    obtain ⟨rfl, L', hk, hy⟩ := q
    exact hy a' hk)
theorem enterM {f : FuncId} {fn : Func} {c : Code} {args : List Value} {R : Value → World → Prop} (hf : P.funcs[f]? = some fn) (hb : fn.body = some c) (hn : fn.ntmps = n) (hl : args.length ≤ n)
    (h : RW m P n c (bodyPostM Fence.wide m P fn (fun e w' => ∃ v, e = .returned v ∧ R v w')) (argLoc 0 args) w) : CallsV P f args.toArray w R := by
  refine callsIn_wide.1 (callsIn_of_wp_marks (n := m) hf hb trivial ?_)
  rw [hn]
  exact h _ (know_args args n hl)
end
end Go.Proofs.Ytnaebllojkodbaa.V
