/-
  The judgement 'W': a piece of code, run from what is known of the slots, ends as asked. Structural rules, regions in the text's order, regions that draw their order, loops with a ghost value.
-/
import Derived.WalkKit
import Derived.OrdersHeld
namespace Go.Proofs.Ytnaebllojkodbaa.V
open Go

/-- What is known of the slots: the newest first. -/
abbrev Loc := List (Nat × Value)

def look : Loc → Nat → Option Value
  | [], _ => none
  | (d, v) :: L, t => bif Nat.beq d t then some v else look L t

theorem look_cons_self (d : Nat) (v : Value) (L : Loc) : look ((d, v) :: L) d = some v := by
  simp [look]
theorem look_cons_ne {d t : Nat} (v : Value) (L : Loc) (h : d ≠ t) : look ((d, v) :: L) t = look L t := by
  have hb : Nat.beq d t = false := by
    cases e : Nat.beq d t with
    | false => rfl
    | true => exact absurd (Nat.eq_of_beq_eq_true e) h
  simp [look, hb]

structure Know (n : Nat) (L : Loc) (a : Act) : Prop where
  def0 : a.defers = []
  size : a.tmps.size = n
  at_ : ∀ t v, look L t = some v → a.tmps.getD t undef = v

theorem Know.put {n : Nat} {L : Loc} {a : Act} (h : Know n L a) {d : Nat} (hd : d < n) (v : Value) : Know n ((d, v) :: L) (a.put (some d) v) := by
  refine ⟨h.def0, by simp [Act.put, h.size], fun t u ht => ?_⟩
  by_cases e : d = t
  · subst e
    rw [look_cons_self] at ht
    cases ht
    simp [Act.put, h.size, hd]
  · rw [look_cons_ne v L e] at ht
    have := h.at_ t u ht
    simp only [Act.put, Array.getD_eq_getD_getElem?] at this ⊢
    rw [Array.getElem?_setIfInBounds_ne e]
    exact this

def ev (L : Loc) : Operand → Option Value
  | .tmp t => look L t
  | .const v => some v
  | .global g => some (.pointer (some ⟨g, 0, none⟩))
  | .func f => some (.func (.func f) #[] #[])

theorem Know.ev {n : Nat} {L : Loc} {a : Act} (h : Know n L a) {x : Operand} {v : Value} (e : V.ev L x = some v) : a.eval x = v := by
  cases x with
  | tmp t => exact h.at_ t v e
  | const u => cases e; rfl
  | global g => cases e; rfl
  | func f => cases e; rfl

/-- All that A says, B says. -/
def Sub (A B : Loc) : Prop := ∀ t v, look A t = some v → look B t = some v
theorem Sub.nil (B : Loc) : Sub [] B := fun _ _ h => by cases h
theorem Sub.cons {t : Nat} {v : Value} {A B : Loc} (h : look B t = some v) (hs : Sub A B) : Sub ((t, v) :: A) B := by
  intro t' v' h'
  by_cases e : t = t'
  · subst e; rw [look_cons_self] at h'; cases h'; exact h
  · rw [look_cons_ne v A e] at h'; exact hs _ _ h'
theorem Sub.cons' {t : Nat} {v u : Value} {A B : Loc} (h : look B t = some u) (e : u = v) (hs : Sub A B) : Sub ((t, v) :: A) B := Sub.cons (e ▸ h) hs
theorem Sub.refl (A : Loc) : Sub A A := fun _ _ h => h
theorem Sub.trans {A B C : Loc} (h : Sub A B) (g : Sub B C) : Sub A C := fun t v e => g t v (h t v e)
theorem look_append (A F : Loc) (t : Nat) : look (A ++ F) t = (match look A t with | some v => some v | none => look F t) := by
  induction A with
  | nil => rfl
  | cons p A ih =>
    obtain ⟨d, v⟩ := p
    by_cases e : d = t
    · subst e; rw [List.cons_append, look_cons_self, look_cons_self]
    · rw [List.cons_append, look_cons_ne _ _ e, look_cons_ne _ _ e, ih]
theorem Sub.append {A F B : Loc} (h : Sub A B) (g : Sub F B) : Sub (A ++ F) B := by
  intro t v e
  rw [look_append] at e
  cases ha : look A t with
  | some u => rw [ha] at e; cases e; exact h t _ ha
  | none => rw [ha] at e; exact g t v e

theorem Know.sub {n : Nat} {A B : Loc} {a : Act} (h : Know n B a) (hs : Sub A B) : Know n A a := ⟨h.def0, h.size, fun t v e => h.at_ t v (hs t v e)⟩

abbrev Post := Exit → Loc → World → Prop
def lift (n : Nat) (Q : Post) : Exit → Act → World → Prop := fun e a w => ∃ L, Know n L a ∧ Q e L w

def W (P : Program) (n : Nat) (c : Code) (Q : Post) (L : Loc) (w : World) : Prop := ∀ a, Know n L a → c.wp P (lift n Q) a w

def thenP (K : Loc → World → Prop) (Q : Post) : Post
  | .normal, L, w => K L w
  | e, L, w => Q e L w
def inBlk (id : Nat) (Q : Post) : Post
  | .exit i, L, w => if i = id then Q .normal L w else Q (.exit i) L w
  | e, L, w => Q e L w

section
variable {P : Program} {n : Nat} {Q : Post} {L : Loc} {w : World}

theorem thenP_normal {K : Loc → World → Prop} (h : K L w) : thenP K Q .normal L w := h
theorem thenP_exit {K : Loc → World → Prop} {i : Nat} (h : Q (.exit i) L w) : thenP K Q (.exit i) L w := h
theorem thenP_ret {K : Loc → World → Prop} (h : Q .ret L w) : thenP K Q .ret L w := h
theorem inBlk_normal {id : Nat} (h : Q .normal L w) : inBlk id Q .normal L w := h
theorem inBlk_exit {id : Nat} (h : Q .normal L w) : inBlk id Q (.exit id) L w := by simp only [inBlk, if_true]; exact h
theorem inBlk_ne {id i : Nat} (hne : i ≠ id) (h : Q (.exit i) L w) : inBlk id Q (.exit i) L w := by simp only [inBlk, if_neg hne]; exact h
theorem inBlk_ret {id : Nat} (h : Q .ret L w) : inBlk id Q .ret L w := h

theorem W.sub {c : Code} {A : Loc} (hs : Sub A L) (h : W P n c Q A w) : W P n c Q L w := fun a ha => h a (ha.sub hs)

theorem W.mono {c : Code} {Q' : Post} (h : W P n c Q L w) (hq : ∀ e L w, Q e L w → Q' e L w) : W P n c Q' L w :=
  fun a ha => wp_mono (h a ha) fun _ _ _ ⟨L', hk, q⟩ => ⟨L', hk, hq _ _ _ q⟩

theorem W.skip (h : Q .normal L w) : W P n .skip Q L w := fun _ ha => wp_skip ⟨L, ha, h⟩
theorem W.exit {id : Nat} (h : Q (.exit id) L w) : W P n (.exit id) Q L w := fun _ ha => wp_exit ⟨L, ha, h⟩
theorem W.ret (h : Q .ret L w) : W P n .ret Q L w := fun _ ha => wp_ret ⟨L, ha, h⟩

theorem W.seq {x y : Code} (h : W P n x (thenP (fun L w => W P n y Q L w) Q) L w) : W P n (.seq x y) Q L w := by
  intro a ha
  refine wp_seq (wp_mono (h a ha) fun e a' w' hq => ?_)
  obtain ⟨L', hk, q⟩ := hq
  cases e with
  | normal => exact q a' hk
  | exit i => exact ⟨L', hk, q⟩
  | goto l => exact ⟨L', hk, q⟩
  | ret => exact ⟨L', hk, q⟩
  | panic c => exact ⟨L', hk, q⟩
  | outgrown => exact ⟨L', hk, q⟩

theorem W.block {id : Nat} {c : Code} (h : W P n c (inBlk id Q) L w) : W P n (.block id c) Q L w := by
  intro a ha
  refine wp_block (wp_mono (h a ha) fun e a' w' hq => ?_)
  obtain ⟨L', hk, q⟩ := hq
  cases e with
  | exit i =>
    simp only [inBlk] at q
    by_cases hi : i = id
    · rw [if_pos hi] at q; simp only [Exit.inBlock, if_pos hi]; exact ⟨L', hk, q⟩
    · rw [if_neg hi] at q; simp only [Exit.inBlock, if_neg hi]; exact ⟨L', hk, q⟩
  | normal => exact ⟨L', hk, q⟩
  | goto l => exact ⟨L', hk, q⟩
  | ret => exact ⟨L', hk, q⟩
  | panic c => exact ⟨L', hk, q⟩
  | outgrown => exact ⟨L', hk, q⟩

theorem W.cond {c : Operand} {x y : Code} {b : Bool} (hc : ev L c = some (.bool b)) (ht : b = true → W P n x Q L w) (hf : b = false → W P n y Q L w) :
    W P n (.cond c x y) Q L w :=
  fun a ha => wp_cond_split (ha.ev hc) (fun h => ht h a ha) (fun h => hf h a ha)

theorem W.condD {c : Operand} {x y : Code} {p : Prop} [Decidable p] (hc : ev L c = some (.bool (decide p))) (ht : p → W P n x Q L w) (hf : ¬ p → W P n y Q L w) :
    W P n (.cond c x y) Q L w :=
  W.cond hc (fun h => ht (of_decide_eq_true h)) (fun h => hf (of_decide_eq_false h))

theorem W.condT {c : Operand} {x y : Code} (hc : ev L c = some (.bool true)) (h : W P n x Q L w) : W P n (.cond c x y) Q L w :=
  W.cond hc (fun _ => h) (fun e => by cases e)
theorem W.condF {c : Operand} {x y : Code} (hc : ev L c = some (.bool false)) (h : W P n y Q L w) : W P n (.cond c x y) Q L w :=
  W.cond hc (fun e => by cases e) (fun _ => h)

/-- A loop: a ghost value x, what it says of the slots and of the world, a measure on it. -/
theorem W.loop {c : Code} {α : Type} (vary : α → Loc) (fix : Loc) (H : α → World → Prop) (μ : α → Nat) (x0 : α)
    (h0 : Sub (vary x0) L) (hf : Sub fix L) (hH : H x0 w)
    (round : ∀ x w, H x w → W P n c (thenP (fun L' w' => ∃ y, Sub (vary y) L' ∧ Sub fix L' ∧ H y w' ∧ μ y < μ x) Q) (vary x ++ fix) w) :
    W P n (.loop c) Q L w := by
  intro a0 ha0 b k cs
  have key : ∀ m x a w, μ x = m → Know n (vary x ++ fix) a → H x w →
      ∃ e a' w', lift n Q e a' w' ∧ Arrives P (lone (b.at a (.code c :: .inLoop c :: k)) cs w) b k cs e a' w' := by
    intro m
    induction m using Nat.strongRecOn with
    | _ m ih =>
      intro x a w hm ha hx
      obtain ⟨e, a1, w1, ⟨L1, hk, hq⟩, harr⟩ := round x w hx a ha b (.inLoop c :: k) cs
      cases e with
      | normal =>
        obtain ⟨y, hs, hfx, hy, hlt⟩ := hq
        obtain ⟨e2, a2, w2, hq2, harr2⟩ := ih (μ y) (hm ▸ hlt) y a1 w1 rfl (hk.sub (hs.append hfx)) hy
        exact ⟨e2, a2, w2, hq2, .of_steps (Steps.trans harr (.one step_inLoop)) harr2⟩
      | exit i => exact ⟨_, a1, w1, ⟨L1, hk, hq⟩, .pass (x := .inLoop c) rfl (fun _ _ => .inl (by simp)) harr⟩
      | goto l => exact ⟨_, a1, w1, ⟨L1, hk, hq⟩, .pass (x := .inLoop c) rfl (fun _ _ => .inl (by simp)) harr⟩
      | ret => exact ⟨_, a1, w1, ⟨L1, hk, hq⟩, .pass (x := .inLoop c) rfl (fun _ _ => .inl (by simp)) harr⟩
      | panic ch => exact ⟨_, a1, w1, ⟨L1, hk, hq⟩, .pass (x := .inLoop c) rfl (fun _ _ => .inl (by simp)) harr⟩
      | outgrown => exact ⟨_, a1, w1, ⟨L1, hk, hq⟩, .pass (x := .inLoop c) rfl (fun _ _ => .inl (by simp)) harr⟩
  obtain ⟨e, a', w', hq, harr⟩ := key _ x0 a0 w rfl (ha0.sub (h0.append hf)) hH
  exact ⟨e, a', w', hq, .of_steps (.one step_loop) harr⟩

/-! ### One operation -/

/-- Carried out in this world it ends with a value or nothing, and what follows holds. -/
def Step (P : Program) (n : Nat) (o : Oper) (L : Loc) (w : World) (K : Loc → World → Prop) : Prop :=
  ∀ a, Know n L a → ∀ Q : Exit → Act → World → Prop, o.wp P a w (fun a' w' => ∃ L', Know n L' a' ∧ K L' w') Q

/-- In every world of a class it yields this value and leaves the world alone. -/
def Val (P : Program) (S : World → Prop) (o : Op) (L : Loc) (v : Value) : Prop :=
  ∀ ρ : Operand → Value, (∀ {x v}, ev L x = some v → ρ x = v) → ∀ w, S w → ∀ dst ty pos after guard, (execOp ρ ⟨dst, o, ty, pos, after, guard⟩).run P w = .ok (.value v) w

/-- the slot of the operation that a guard looks at holds this -/
def want (ops : Array Oper) (L : Loc) (g : Nat) : Option Bool :=
  match (ops[g]?).bind (·.dst) with
  | some d => match look L d with
    | some (.bool b) => some b
    | _ => none
  | none => none

theorem want_spec {ops : Array Oper} {g : Nat} {b : Bool} {a : Act} (ha : Know n L a) (h : want ops L g = some b) : yielded ops a.tmps g = some b := by
  unfold want at h
  cases hd : (ops[g]?).bind (·.dst) with
  | none => rw [hd] at h; cases h
  | some d =>
    rw [hd] at h
    simp only at h
    cases hl : look L d with
    | none => rw [hl] at h; cases h
    | some v =>
      rw [hl] at h
      cases v <;> simp at h
      subst h
      have := ha.at_ d _ hl
      unfold yielded
      rw [hd]
      cases hg : a.tmps[d]? with
      | none => simp [hg, undef] at this
      | some u => simp [hg] at this; subst this; simp [hg]

end

/-- the slot that a guard looks at belongs to an operation that was passed over -/
def wantU (ops : Array Oper) (L : Loc) (g : Nat) : Bool :=
  match (ops[g]?).bind (·.dst) with
  | some d => match look L d with
    | some (.tuple _) => true
    | _ => false
  | none => false
theorem wantU_spec {n : Nat} {L : Loc} {ops : Array Oper} {g : Nat} {a : Act} (ha : Know n L a) (h : wantU ops L g = true) : yielded ops a.tmps g = none := by
  unfold wantU at h
  cases hd : (ops[g]?).bind (·.dst) with
  | none => rw [hd] at h; cases h
  | some d =>
    rw [hd] at h
    simp only at h
    cases hl : look L d with
    | none => rw [hl] at h; cases h
    | some v =>
      rw [hl] at h
      cases v <;> simp at h
      have := ha.at_ d _ hl
      unfold yielded
      rw [hd]
      cases hg : a.tmps[d]? with
      | none => simp [hg]
      | some u => simp [hg] at this; subst this; simp [hg]

/-! ### A region in the order of the text -/

def LS (P : Program) (n : Nat) (ops : Array Oper) (K : Loc → World → Prop) (l : List Oper) (L : Loc) (w : World) : Prop :=
  ∀ a, Know n L a → wpList P ops (fun e a' w' => e = .normal ∧ ∃ L', Know n L' a' ∧ K L' w') l a w

section
variable {P : Program} {n : Nat} {ops : Array Oper} {K : Loc → World → Prop} {L : Loc} {w : World} {o : Oper} {rest : List Oper}

theorem LS.nil (h : K L w) : LS P n ops K [] L w := fun _ ha => ⟨rfl, L, ha, h⟩

theorem LS.wanted_step (hw : ∀ a, Know n L a → Region.wanted o (yielded ops a.tmps) = true) (h : Step P n o L w (LS P n ops K rest)) : LS P n ops K (o :: rest) L w := by
  intro a ha
  unfold wpList
  rw [if_pos (hw a ha)]
  refine .inl (Oper.wp_mono (fun a' w' h' => ?_) (h a ha _))
  obtain ⟨L', hk, hr⟩ := h'
  exact hr a' hk

theorem LS.step (hg : o.guard = none) (h : Step P n o L w (LS P n ops K rest)) : LS P n ops K (o :: rest) L w :=
  LS.wanted_step (fun a _ => by simp [Region.wanted, hg]) h

theorem LS.go {g : Nat} {b : Bool} (hg : o.guard = some (g, b)) (hw : want ops L g = some b) (h : Step P n o L w (LS P n ops K rest)) : LS P n ops K (o :: rest) L w :=
  LS.wanted_step (fun a ha => by simp [Region.wanted, hg, want_spec ha hw]) h

theorem LS.skip {g : Nat} {b b' : Bool} {d : Nat} (hg : o.guard = some (g, b)) (hw : want ops L g = some b') (hne : b' ≠ b) (hd : o.dst = some d) (hlt : d < n)
    (h : LS P n ops K rest ((d, undef) :: L) w) : LS P n ops K (o :: rest) L w := by
  intro a ha
  unfold wpList
  rw [if_neg (by simp [Region.wanted, hg, want_spec ha hw, hne]), hd]
  exact h _ (ha.put hlt undef)

theorem LS.skipU {g : Nat} {b : Bool} {d : Nat} (hg : o.guard = some (g, b)) (hw : wantU ops L g = true) (hd : o.dst = some d) (hlt : d < n)
    (h : LS P n ops K rest ((d, undef) :: L) w) : LS P n ops K (o :: rest) L w := by
  intro a ha
  unfold wpList
  rw [if_neg (by simp [Region.wanted, hg, wantU_spec ha hw]), hd]
  exact h _ (ha.put hlt undef)

theorem W.seqR {id : Nat} {l : List Oper} {y : Code} {Q : Post} (h : LS P n l.toArray (fun L w => W P n y Q L w) l L w) : W P n (.seq (.region id l.toArray false) y) Q L w :=
  W.seq fun a ha => wp_mono (wp_region_lit (h a ha)) fun e a' w' q => by
    obtain ⟨rfl, L', hk, hy⟩ := q
    exact ⟨L', hk, hy⟩
theorem W.reg {id : Nat} {l : List Oper} {Q : Post} (h : LS P n l.toArray (fun L w => Q .normal L w) l L w) : W P n (.region id l.toArray false) Q L w :=
  fun a ha => wp_mono (wp_region_lit (h a ha)) fun e a' w' q => by
    obtain ⟨rfl, L', hk, hy⟩ := q
    exact ⟨L', hk, hy⟩

theorem Step.val {S : World → Prop} {d : Nat} {v : Value} {K : Loc → World → Prop} (hd : o.dst = some d) (hlt : d < n) (hv : Val P S o.op L v) (hS : S w) (h : K ((d, v) :: L) w) : Step P n o L w K := by
  intro a ha Q
  have := hv a.eval (fun e => ha.ev e) w hS o.dst o.type o.pos o.after o.guard
  unfold Oper.wp
  rw [show (⟨o.dst, o.op, o.type, o.pos, o.after, o.guard⟩ : Oper) = o from rfl] at this
  rw [this, Oper.upon_value, hd]
  exact ⟨_, ha.put hlt v, h⟩

/-! ### A region that draws its order -/

def DX (P : Program) (n : Nat) (ops : Array Oper) (S : World → Prop) (K : Loc → World → Prop) : List (Nat × Bool) → Loc → World → Prop
  | [], L, w => K L w
  | (i, v) :: r, L, w => ∃ o, ops[i]? = some o ∧
      ((∃ g b b' d, o.guard = some (g, b) ∧ ((want ops L g = some b' ∧ b' ≠ b) ∨ wantU ops L g = true) ∧ o.dst = some d ∧ d < n ∧ DX P n ops S K r ((d, undef) :: L) w) ∨
       ((o.guard = none ∨ ∃ g b, o.guard = some (g, b) ∧ want ops L g = some b) ∧
         match v with
         | true => ∃ d u, o.dst = some d ∧ d < n ∧ Val P S o.op L u ∧ DX P n ops S K r ((d, u) :: L) w
         | false => Step P n o L w (fun L' w' => S w' ∧ DX P n ops S K r L' w')))

def ordFrom (ops : Array Oper) : List (Nat × Bool) → Array Bool → Bool
  | [], listed => (Region.ready .any ops listed).isEmpty
  | (i, true) :: r, listed => (Region.ready .any ops listed).contains i && Region.free .any ops listed i && ordFrom ops r (listed.setIfInBounds i true)
  | (i, false) :: r, listed => (Region.ready .any ops listed == [i]) && ordFrom ops r (listed.setIfInBounds i true)
def ordOk (ops : Array Oper) (ord : List (Nat × Bool)) : Bool :=
  Region.noSelect ops && decide (ord.length ≤ ops.size) && ordFrom ops ord (Array.replicate ops.size false)

theorem wanted_of {o : Oper} {a : Act} (ha : Know n L a) (h : o.guard = none ∨ ∃ g b, o.guard = some (g, b) ∧ want ops L g = some b) : Region.wanted o (yielded ops a.tmps) = true := by
  rcases h with h | ⟨g, b, h, hw⟩
  · simp [Region.wanted, h]
  · simp [Region.wanted, h, want_spec ha hw]

theorem unwanted_of {o : Oper} {a : Act} {g : Nat} {b b' : Bool} (ha : Know n L a) (hg : o.guard = some (g, b)) (h : (want ops L g = some b' ∧ b' ≠ b) ∨ wantU ops L g = true) : Region.wanted o (yielded ops a.tmps) = false := by
  rcases h with ⟨h, hne⟩ | h
  · simp [Region.wanted, hg, want_spec ha h, hne]
  · simp [Region.wanted, hg, wantU_spec ha h]

theorem DX.sound {S : World → Prop} (hsel : Region.noSelect ops = true) : ∀ (ord : List (Nat × Bool)) (fuel : Nat) (listed : Array Bool) (L : Loc) (a : Act) (w : World),
    ord.length ≤ fuel → ordFrom ops ord listed = true → S w → Know n L a → DX P n ops S K ord L w →
    wpAnyH P .any ops (fun e a' w' => e = .normal ∧ ∃ L', Know n L' a' ∧ K L' w') S fuel listed a w := by
  intro ord
  induction ord with
  | nil =>
    intro fuel listed L a w _ hok _ ha h
    exact wpAnyH_done (by simpa [ordFrom] using hok) ⟨rfl, L, ha, h⟩ fuel
  | cons p r ih =>
    intro fuel listed L a w hlen hok hS ha h
    obtain ⟨i, tag⟩ := p
    obtain ⟨o, ho, h⟩ := h
    obtain ⟨fuel, rfl⟩ : ∃ f, fuel = f + 1 := ⟨fuel - 1, by simp at hlen; omega⟩
    have hlen' : r.length ≤ fuel := by simpa using hlen
    have hQ : ∀ (x : Option Tmp) (v : Value) (c : List PanicEntry) (a : Act) (w : World), (Exit.panic c = Exit.normal ∧ ∃ L', Know n L' (a.put x v) ∧ K L' w) → (Exit.panic c = Exit.normal ∧ ∃ L', Know n L' a ∧ K L' w) := by
      intro x v c a w hx; cases hx.1
    cases tag with
    | true =>
      simp only [ordFrom, Bool.and_eq_true] at hok
      obtain ⟨⟨hr, hf⟩, hok⟩ := hok
      rcases h with ⟨g, b, b', d, hg, hw, hd, hlt, hk⟩ | ⟨hw, d, u, hd, hlt, hv, hk⟩
      · refine wpAnyH_take (v := undef) ho hsel hf hr (hQ _ _) (.inr ⟨unwanted_of ha hg hw, rfl⟩) hS ?_
        rw [hd]
        exact ih fuel _ _ _ w hlen' hok hS (ha.put hlt undef) hk
      · refine wpAnyH_take (v := u) ho hsel hf hr (hQ _ _) (.inl ⟨wanted_of ha hw, fun w' hw' => hv a.eval (fun e => ha.ev e) w' hw' o.dst o.type o.pos o.after o.guard⟩) hS ?_
        rw [hd]
        exact ih fuel _ _ _ w hlen' hok hS (ha.put hlt u) hk
    | false =>
      simp only [ordFrom, Bool.and_eq_true, beq_iff_eq] at hok
      obtain ⟨hr, hok⟩ := hok
      refine wpAnyH_all hr (by simp) fun j hj => ?_
      obtain rfl : j = i := by simpa using hj
      unfold wpOp
      simp only [ho]
      rcases h with ⟨g, b, b', d, hg, hw, hd, hlt, hk⟩ | ⟨hw, hst⟩
      · rw [if_neg (by simp [unwanted_of ha hg hw]), hd]
        exact ⟨hS, ih fuel _ _ _ w hlen' hok hS (ha.put hlt undef) hk⟩
      · rw [if_pos (wanted_of ha hw)]
        refine .inl (Oper.wp_mono (fun a' w' h' => ?_) (hst a ha _))
        obtain ⟨L', hk, hS', hr'⟩ := h'
        exact ⟨hS', ih fuel _ _ _ w' hlen' hok hS' hk hr'⟩

theorem wp_regionD {id : Nat} {S : World → Prop} (ord : List (Nat × Bool)) (hm : P.follows .mixedOrders = true) (hok : ordOk ops ord = true) (hS : S w.drew) (h : DX P n ops S K ord L w.drew)
    {a : Act} (ha : Know n L a) : (Code.region id ops true).wp P (fun e a' w' => e = .normal ∧ ∃ L', Know n L' a' ∧ K L' w') a w := by
  simp only [ordOk, Bool.and_eq_true, decide_eq_true_eq] at hok
  obtain ⟨⟨hsel, hlen⟩, hok⟩ := hok
  exact wp_region_held hm (DX.sound hsel ord ops.size _ L a _ hlen hok hS ha h)

theorem W.seqD {id : Nat} {y : Code} {Q : Post} {S : World → Prop} (ord : List (Nat × Bool)) (hm : P.follows .mixedOrders = true) (hok : ordOk ops ord = true) (hS : S w.drew)
    (h : DX P n ops S (fun L w => W P n y Q L w) ord L w.drew) : W P n (.seq (.region id ops true) y) Q L w :=
  W.seq fun a ha => wp_mono (wp_regionD ord hm hok hS h ha) fun e a' w' q => by
    obtain ⟨rfl, L', hk, hy⟩ := q
    exact ⟨L', hk, hy⟩
theorem W.regD {id : Nat} {Q : Post} {S : World → Prop} (ord : List (Nat × Bool)) (hm : P.follows .mixedOrders = true) (hok : ordOk ops ord = true) (hS : S w.drew)
    (h : DX P n ops S (fun L w => Q .normal L w) ord L w.drew) : W P n (.region id ops true) Q L w :=
  fun a ha => wp_mono (wp_regionD ord hm hok hS h ha) fun e a' w' q => by
    obtain ⟨rfl, L', hk, hy⟩ := q
    exact ⟨L', hk, hy⟩

theorem DX.nil {S : World → Prop} (h : K L w) : DX P n ops S K [] L w := h
theorem DX.val {S : World → Prop} {i d : Nat} {r : List (Nat × Bool)} {u : Value} (ho : ops[i]? = some o) (hg : o.guard = none) (hd : o.dst = some d) (hlt : d < n) (hv : Val P S o.op L u)
    (h : DX P n ops S K r ((d, u) :: L) w) : DX P n ops S K ((i, true) :: r) L w := ⟨o, ho, .inr ⟨.inl hg, d, u, hd, hlt, hv, h⟩⟩
theorem DX.valG {S : World → Prop} {i d g : Nat} {b : Bool} {r : List (Nat × Bool)} {u : Value} (ho : ops[i]? = some o) (hg : o.guard = some (g, b)) (hw : want ops L g = some b) (hd : o.dst = some d) (hlt : d < n)
    (hv : Val P S o.op L u) (h : DX P n ops S K r ((d, u) :: L) w) : DX P n ops S K ((i, true) :: r) L w := ⟨o, ho, .inr ⟨.inr ⟨g, b, hg, hw⟩, d, u, hd, hlt, hv, h⟩⟩
theorem DX.skip {S : World → Prop} {i d g : Nat} {b b' tag : Bool} {r : List (Nat × Bool)} (ho : ops[i]? = some o) (hg : o.guard = some (g, b)) (hw : want ops L g = some b') (hne : b' ≠ b) (hd : o.dst = some d) (hlt : d < n)
    (h : DX P n ops S K r ((d, undef) :: L) w) : DX P n ops S K ((i, tag) :: r) L w := ⟨o, ho, .inl ⟨g, b, b', d, hg, .inl ⟨hw, hne⟩, hd, hlt, h⟩⟩
theorem DX.skipU {S : World → Prop} {i d g : Nat} {b tag : Bool} {r : List (Nat × Bool)} (ho : ops[i]? = some o) (hg : o.guard = some (g, b)) (hw : wantU ops L g = true) (hd : o.dst = some d) (hlt : d < n)
    (h : DX P n ops S K r ((d, undef) :: L) w) : DX P n ops S K ((i, tag) :: r) L w := ⟨o, ho, .inl ⟨g, b, true, d, hg, .inr hw, hd, hlt, h⟩⟩
theorem DX.mem {S : World → Prop} {i : Nat} {r : List (Nat × Bool)} (ho : ops[i]? = some o) (hg : o.guard = none) (h : Step P n o L w (fun L' w' => S w' ∧ DX P n ops S K r L' w')) :
    DX P n ops S K ((i, false) :: r) L w := ⟨o, ho, .inr ⟨.inl hg, h⟩⟩
theorem DX.memG {S : World → Prop} {i g : Nat} {b : Bool} {r : List (Nat × Bool)} (ho : ops[i]? = some o) (hg : o.guard = some (g, b)) (hw : want ops L g = some b)
    (h : Step P n o L w (fun L' w' => S w' ∧ DX P n ops S K r L' w')) : DX P n ops S K ((i, false) :: r) L w := ⟨o, ho, .inr ⟨.inr ⟨g, b, hg, hw⟩, h⟩⟩

end

/-! ### Into a function, out of it -/

def results1 (t : Nat) (R : Value → World → Prop) : Post := fun e L w => (e = .normal ∨ e = .ret) ∧ ∃ v, look L t = some v ∧ R v w
def results0 (R : Value → World → Prop) : Post := fun e _ w => (e = .normal ∨ e = .ret) ∧ R (.tuple #[]) w
def results2 (t u : Nat) (R : Value → World → Prop) : Post := fun e L w => (e = .normal ∨ e = .ret) ∧ ∃ x y, look L t = some x ∧ look L u = some y ∧ R (.tuple #[x, y]) w
def results3 (t u s : Nat) (R : Value → World → Prop) : Post := fun e L w => (e = .normal ∨ e = .ret) ∧ ∃ x y z, look L t = some x ∧ look L u = some y ∧ look L s = some z ∧ R (.tuple #[x, y, z]) w

section
variable {P : Program} {n : Nat} {L : Loc} {w : World} {R : Value → World → Prop}
theorem ret0 {e : Exit} (he : e = .normal ∨ e = .ret) (h : R (.tuple #[]) w) : results0 R e L w := ⟨he, h⟩
theorem ret1 {e : Exit} {t : Nat} {v : Value} (he : e = .normal ∨ e = .ret) (ht : look L t = some v) (h : R v w) : results1 t R e L w := ⟨he, v, ht, h⟩
theorem ret2 {e : Exit} {t u : Nat} {x y : Value} (he : e = .normal ∨ e = .ret) (ht : look L t = some x) (hu : look L u = some y) (h : R (.tuple #[x, y]) w) : results2 t u R e L w := ⟨he, x, y, ht, hu, h⟩
theorem ret3 {e : Exit} {t u s : Nat} {x y z : Value} (he : e = .normal ∨ e = .ret) (ht : look L t = some x) (hu : look L u = some y) (hs : look L s = some z) (h : R (.tuple #[x, y, z]) w) : results3 t u s R e L w := ⟨he, x, y, z, ht, hu, hs, h⟩

/-- the arguments, in the slots from k on -/
def argLoc : Nat → List Value → Loc
  | _, [] => []
  | k, v :: r => (k, v) :: argLoc (k + 1) r

theorem look_argLoc : ∀ (l : List Value) (k t : Nat) (v : Value), look (argLoc k l) t = some v → k ≤ t ∧ l[t - k]? = some v := by
  intro l
  induction l with
  | nil => intro k t v h; cases h
  | cons x r ih =>
    intro k t v h
    by_cases e : k = t
    · subst e
      simp only [argLoc] at h
      rw [look_cons_self] at h; cases h; simp
    · simp only [argLoc] at h
      rw [look_cons_ne _ _ e] at h
      obtain ⟨h1, h2⟩ := ih (k + 1) t v h
      refine ⟨by omega, ?_⟩
      rw [show t - k = (t - (k + 1)) + 1 from by omega]
      simpa using h2

theorem know_args (args : List Value) (n : Nat) (h : args.length ≤ n) : Know n (argLoc 0 args) ⟨args.toArray ++ Array.replicate (n - args.toArray.size) undef, []⟩ := by
  refine ⟨rfl, by simp; omega, fun t v ht => ?_⟩
  obtain ⟨_, h2⟩ := look_argLoc args 0 t v ht
  have h3 : args[t]? = some v := by simpa using h2
  have hlt : t < args.length := (List.getElem?_eq_some_iff.1 h3).1
  simp only [Array.getD_eq_getD_getElem?]
  rw [Array.getElem?_append_left (by simpa using hlt)]
  simp [h3]

theorem enter_gen {f : FuncId} {fn : Func} {c : Code} {args : List Value} {Rf : Post} {R : Ending → World → Prop} (hf : P.funcs[f]? = some fn) (hb : fn.body = some c) (hn : fn.ntmps = n) (hl : args.length ≤ n)
    (hout : ∀ e L a w, Know n L a → Rf e L w → bodyPost P fn R e a w) (h : W P n c Rf (argLoc 0 args) w) : Calls P f args.toArray w R := by
  refine calls_of_wp hf hb ?_
  rw [hn]
  exact wp_mono (h _ (know_args args n hl)) fun e a' w' ⟨L', hk, q⟩ => hout e L' a' w' hk q

abbrev CallsV (P : Program) (f : FuncId) (args : Array Value) (w : World) (R : Value → World → Prop) : Prop :=
  Calls P f args w fun e w' => ∃ v, e = .returned v ∧ R v w'

theorem enter0 {f : FuncId} {fn : Func} {c : Code} {args : List Value} (hf : P.funcs[f]? = some fn) (hb : fn.body = some c) (hn : fn.ntmps = n) (hl : args.length ≤ n)
    (hr : fn.results = #[]) (h : W P n c (results0 R) (argLoc 0 args) w) : CallsV P f args.toArray w R := by
  refine enter_gen hf hb hn hl (fun e L a w ha q => ?_) h
  obtain ⟨he, hR⟩ := q
  have : a.defers = [] ∧ ∃ v, (results fn a.tmps).run P w = .ok v w ∧ ∃ v', Ending.returned v = .returned v' ∧ R v' w := ⟨ha.def0, _, results_none hr _ _ _, _, rfl, hR⟩
  rcases he with rfl | rfl <;> exact this
theorem enter1 {f : FuncId} {fn : Func} {c : Code} {args : List Value} {t : Nat} (hf : P.funcs[f]? = some fn) (hb : fn.body = some c) (hn : fn.ntmps = n) (hl : args.length ≤ n)
    (hr : fn.results = #[.tmp t]) (h : W P n c (results1 t R) (argLoc 0 args) w) : CallsV P f args.toArray w R := by
  refine enter_gen hf hb hn hl (fun e L a w ha q => ?_) h
  obtain ⟨he, v, ht, hR⟩ := q
  have : a.defers = [] ∧ ∃ v, (results fn a.tmps).run P w = .ok v w ∧ ∃ v', Ending.returned v = .returned v' ∧ R v' w := ⟨ha.def0, _, results_tmp hr _ _ _, v, by rw [ha.at_ t v ht], hR⟩
  rcases he with rfl | rfl <;> exact this
theorem enter2 {f : FuncId} {fn : Func} {c : Code} {args : List Value} {t u : Nat} (hf : P.funcs[f]? = some fn) (hb : fn.body = some c) (hn : fn.ntmps = n) (hl : args.length ≤ n)
    (hr : fn.results = #[.tmp t, .tmp u]) (h : W P n c (results2 t u R) (argLoc 0 args) w) : CallsV P f args.toArray w R := by
  refine enter_gen hf hb hn hl (fun e L a w ha q => ?_) h
  obtain ⟨he, x, y, ht, hu, hR⟩ := q
  have : a.defers = [] ∧ ∃ v, (results fn a.tmps).run P w = .ok v w ∧ ∃ v', Ending.returned v = .returned v' ∧ R v' w := ⟨ha.def0, _, results_tmp2 hr _ _ _, _, by rw [ha.at_ t x ht, ha.at_ u y hu], hR⟩
  rcases he with rfl | rfl <;> exact this
theorem enter3 {f : FuncId} {fn : Func} {c : Code} {args : List Value} {t u s : Nat} (hf : P.funcs[f]? = some fn) (hb : fn.body = some c) (hn : fn.ntmps = n) (hl : args.length ≤ n)
    (hr : fn.results = #[.tmp t, .tmp u, .tmp s]) (h : W P n c (results3 t u s R) (argLoc 0 args) w) : CallsV P f args.toArray w R := by
  refine enter_gen hf hb hn hl (fun e L a w ha q => ?_) h
  obtain ⟨he, x, y, z, ht, hu, hs, hR⟩ := q
  have : a.defers = [] ∧ ∃ v, (results fn a.tmps).run P w = .ok v w ∧ ∃ v', Ending.returned v = .returned v' ∧ R v' w := ⟨ha.def0, .tuple #[x, y, z], by
    have e1 := ha.at_ t x ht; have e2 := ha.at_ u y hu; have e3 := ha.at_ s z hs
    simp [results, hr, ← e1, ← e2, ← e3], _, rfl, hR⟩
  rcases he with rfl | rfl <;> exact this
end
end Go.Proofs.Ytnaebllojkodbaa.V
