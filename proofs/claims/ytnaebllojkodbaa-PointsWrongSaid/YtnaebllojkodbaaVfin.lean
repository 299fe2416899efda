/-
  A region that draws its order, in which the call's own slices are read, and only the last operation, that waits for all others, writes them. And a cut between two pieces of code.
-/
import Derived.Test.YtnaebllojkodbaaVgrow
namespace Go.Proofs.Ytnaebllojkodbaa.V
open Go Go.RowKit

section
variable {P : Program} {ops : Array Oper} {Q : Exit → Act → World → Prop} {md : Region.Mode} {S : World → Prop} {f : Nat}

/-- as 'wpAnyH', but behind operation f the condition is not asked -/
def wpAnyX (P : Program) (md : Region.Mode) (ops : Array Oper) (Q : Exit → Act → World → Prop) (S : World → Prop) (f : Nat) : Nat → Array Bool → Act → World → Prop
  | 0, listed, a, w => Region.ready md ops listed = [] ∧ Q .normal a w
  | fuel + 1, listed, a, w =>
    (Region.ready md ops listed = [] → Q .normal a w) ∧
    ∀ i ∈ Region.ready md ops listed, wpOp P ops Q i (fun a' w' => (i ≠ f → S w') ∧ wpAnyX P md ops Q S f fuel (listed.setIfInBounds i true) a' w') a w

theorem wpAny_of_X : ∀ (fuel : Nat) (listed : Array Bool) (a : Act) (w : World), wpAnyX P md ops Q S f fuel listed a w → wpAny P md ops Q fuel listed a w
  | 0, _, _, _, h => h
  | fuel + 1, _, _, _, h => ⟨h.1, fun i hi => wpOp_mono (fun a' w' h' => wpAny_of_X fuel _ a' w' h'.2) (h.2 i hi)⟩

/-- operation j waits for operation i, be it through others -/
def reachB (md : Region.Mode) (ops : Array Oper) : Nat → Nat → Nat → Bool
  | 0, _, _ => false
  | k + 1, j, i => match ops[j]? with
    | some o => o.after.toList.any (fun e => Region.binds md e && e.on == i) || o.after.toList.any fun e => Region.binds md e && reachB md ops k e.on i
    | none => false
/-- what is listed has all that it waits for listed -/
def Closed (md : Region.Mode) (ops : Array Oper) (listed : Array Bool) : Prop :=
  ∀ (j : Nat) (o : Oper), ops[j]? = some o → listed.getD j false = true → ∀ e ∈ o.after, Region.binds md e = true → listed.getD e.on false = true
theorem reach_listed {listed : Array Bool} {i : Nat} (hc : Closed md ops listed) : ∀ (k j : Nat) (o : Oper), ops[j]? = some o → (∀ e ∈ o.after, Region.binds md e = true → listed.getD e.on false = true) → reachB md ops k j i = true → listed.getD i false = true
  | 0, _, _, _, _, h => by cases h
  | k + 1, j, o, ho, hall, h => by
    unfold reachB at h
    rw [ho] at h
    simp only [Bool.or_eq_true, List.any_eq_true, Bool.and_eq_true, beq_iff_eq] at h
    rcases h with ⟨e, he, h1, h2⟩ | ⟨e, he, h1, h2⟩
    · rw [← h2]; exact hall e (by simpa using he) h1
    · have hl := hall e (by simpa using he) h1
      cases ho2 : ops[e.on]? with
      | none =>
        cases k with
        | zero => cases h2
        | succ k => unfold reachB at h2; rw [ho2] at h2; cases h2
      | some o2 => exact reach_listed hc k e.on o2 ho2 (hc e.on o2 ho2 hl) h2
theorem Closed.set {listed : Array Bool} {i : Nat} (hc : Closed md ops listed) (hi : i ∈ Region.ready md ops listed) : Closed md ops (listed.setIfInBounds i true) := by
  intro j o ho hj e he hb
  obtain ⟨h0, oi, hoi, hall⟩ := mem_ready.1 hi
  by_cases hji : i = j
  · subst hji
    rw [hoi] at ho
    cases ho
    exact getD_set_true (hall e he hb)
  · rw [getD_set_ne false hji] at hj
    exact getD_set_true (hc j o ho hj e he hb)
theorem Closed.start (n : Nat) : Closed md ops (Array.replicate n false) := by
  intro j o _ hj
  exfalso
  simp only [Array.getD_eq_getD_getElem?, Array.getElem?_replicate] at hj
  split at hj <;> simp at hj

def finOk (md : Region.Mode) (ops : Array Oper) (f : Nat) : Bool :=
  match ops[f]? with
  | some _ => (List.range ops.size).all fun i => i == f || reachB md ops 12 f i
  | none => true
theorem finOk_spec (h : finOk md ops f = true) {o : Oper} (ho : ops[f]? = some o) {i : Nat} (hi : i < ops.size) (hne : i ≠ f) : reachB md ops 12 f i = true := by
  unfold finOk at h
  rw [ho] at h
  have := List.all_eq_true.1 h i (List.mem_range.2 hi)
  simp only [Bool.or_eq_true, beq_iff_eq] at this
  exact this.resolve_left hne

theorem wpAnyX_first {i : Nat} {oi : Oper} {v : Value} (hfin : finOk md ops f = true) (hif : i ≠ f) (hi : ops[i]? = some oi) (hsel : ∀ (j : Nat) (o : Oper) cs b, ops[j]? = some o → o.op ≠ .select cs b)
    (hQ : ∀ c a w, Q (.panic c) (a.put oi.dst v) w → Q (.panic c) a w) :
    ∀ (fuel : Nat) (listed : Array Bool) (a : Act) (w : World), Closed md ops listed →
      (∀ j oj, ops[j]? = some oj → j ≠ i → listed.getD j true = false → (∀ e ∈ oj.after, Region.binds md e = true → e.on ≠ i) → oi.apart ops oj = true) →
      i ∈ Region.ready md ops listed → YieldsIf P ops S oi v a → S w →
      wpAnyX P md ops Q S f fuel (listed.setIfInBounds i true) (a.put oi.dst v) w → wpAnyX P md ops Q S f (fuel + 1) listed a w := by
  have hib : i < ops.size := (Array.getElem?_eq_some_iff.1 hi).1
  intro fuel
  induction fuel with
  | zero =>
    intro listed a w _ _ hr hy hS H
    refine ⟨fun h => (by rw [h] at hr; cases hr), fun j hj => ?_⟩
    by_cases hji : j = i
    · subst hji; exact hy.wpOp hi hS ⟨fun _ => hS, H⟩
    · have := ready_mono hj hji
      rw [H.1] at this
      cases this
  | succ fuel ih =>
    intro listed a w hcl hfree hr hy hS H
    refine ⟨fun h => (by rw [h] at hr; cases hr), fun j hj => ?_⟩
    by_cases hji : j = i
    · subst hji; exact hy.wpOp hi hS ⟨fun _ => hS, H⟩
    · have h1 := H.2 j (ready_mono hj hji)
      obtain ⟨hjun, oj, hoj, hall⟩ := mem_ready.1 hj
      have hnot : ∀ e ∈ oj.after, Region.binds md e = true → e.on ≠ i := fun e he hb heq => by
        have h1 := hall e he hb
        have h0 := (mem_ready.1 hr).1
        rw [heq] at h1
        rcases Nat.lt_or_ge i listed.size with h' | h'
        · simp [h'] at h0 h1; rw [h0] at h1; cases h1
        · simp [Array.getElem?_eq_none h'] at h1
      have hjf : j ≠ f := fun e => by
        subst e
        have h1 := reach_listed hcl 12 j oj hoj hall (finOk_spec hfin hoj hib hif)
        have h0 := (mem_ready.1 hr).1
        rcases Nat.lt_or_ge i listed.size with h' | h'
        · simp [h'] at h0 h1; rw [h0] at h1; cases h1
        · simp [Array.getElem?_eq_none h'] at h0
      have h2 := wpOp_putIf hoj (hfree j oj hoj hji hjun hnot) (fun cs b => hsel i oi cs b hi) (fun cs b => hsel j oj cs b hoj) hQ hy h1
      have hfree' : ∀ k ok, ops[k]? = some ok → k ≠ i → (listed.setIfInBounds j true).getD k true = false →
          (∀ e ∈ ok.after, Region.binds md e = true → e.on ≠ i) → oi.apart ops ok = true := fun k ok hk hki hun hno => by
        refine hfree k ok hk hki ?_ hno
        by_cases hjk : j = k
        · subst hjk; exact hjun
        · rw [getD_set_ne true hjk] at hun; exact hun
      refine wpOp_mono (fun a' w' h3 => ⟨h3.2.1, ih (listed.setIfInBounds j true) a' w' (hcl.set hj) hfree' (ready_mono hr (Ne.symm hji)) h3.1 (h3.2.1 hjf) ?_⟩) h2
      rw [Array.setIfInBounds_comm _ _ hji]
      exact h3.2.2

variable {n : Nat} {K : Loc → World → Prop} {L : Loc} {w : World} {o : Oper}

def DF (P : Program) (n : Nat) (ops : Array Oper) (S : World → Prop) (f : Nat) (K : Loc → World → Prop) : List (Nat × Bool) → Loc → World → Prop
  | [], L, w => K L w
  | (i, v) :: r, L, w => ∃ o, ops[i]? = some o ∧
      ((∃ g b b' d, o.guard = some (g, b) ∧ ((want ops L g = some b' ∧ b' ≠ b) ∨ wantU ops L g = true) ∧ o.dst = some d ∧ d < n ∧ DF P n ops S f K r ((d, undef) :: L) w) ∨
       ((o.guard = none ∨ ∃ g b, o.guard = some (g, b) ∧ want ops L g = some b) ∧
         match v with
         | true => ∃ d u, o.dst = some d ∧ d < n ∧ Val P S o.op L u ∧ DF P n ops S f K r ((d, u) :: L) w
         | false => Step P n o L w (fun L' w' => (i ≠ f → S w') ∧ DF P n ops S f K r L' w')))

def ordFromX (ops : Array Oper) (f : Nat) : List (Nat × Bool) → Array Bool → Bool
  | [], listed => (Region.ready .any ops listed).isEmpty
  | (i, true) :: r, listed => (Region.ready .any ops listed).contains i && Region.free .any ops listed i && i != f && ordFromX ops f r (listed.setIfInBounds i true)
  | (i, false) :: r, listed => (Region.ready .any ops listed == [i]) && (i != f || r.isEmpty) && ordFromX ops f r (listed.setIfInBounds i true)
def ordOkX (ops : Array Oper) (f : Nat) (ord : List (Nat × Bool)) : Bool :=
  Region.noSelect ops && decide (ord.length ≤ ops.size) && finOk .any ops f && ordFromX ops f ord (Array.replicate ops.size false)

theorem DF.sound (hsel : Region.noSelect ops = true) (hfin : finOk .any ops f = true) : ∀ (ord : List (Nat × Bool)) (fuel : Nat) (listed : Array Bool) (L : Loc) (a : Act) (w : World),
    Closed .any ops listed → ord.length ≤ fuel → ordFromX ops f ord listed = true → (ord ≠ [] → S w) → Know n L a → DF P n ops S f K ord L w →
    wpAnyX P .any ops (fun e a' w' => e = .normal ∧ ∃ L', Know n L' a' ∧ K L' w') S f fuel listed a w := by
  intro ord
  induction ord with
  | nil =>
    intro fuel listed L a w _ _ hok _ ha h
    have hr : Region.ready .any ops listed = [] := by simpa [ordFromX] using hok
    cases fuel with
    | zero => exact ⟨hr, rfl, L, ha, h⟩
    | succ fuel => exact ⟨fun _ => ⟨rfl, L, ha, h⟩, by rw [hr]; simp⟩
  | cons p r ih =>
    intro fuel listed L a w hcl hlen hok hS0 ha h
    have hS := hS0 (by simp)
    obtain ⟨i, tag⟩ := p
    obtain ⟨o, ho, h⟩ := h
    obtain ⟨fuel, rfl⟩ : ∃ f, fuel = f + 1 := ⟨fuel - 1, by simp at hlen; omega⟩
    have hlen' : r.length ≤ fuel := by simpa using hlen
    have hQ : ∀ (x : Option Tmp) (v : Value) (c : List PanicEntry) (a : Act) (w : World), (Exit.panic c = Exit.normal ∧ ∃ L', Know n L' (a.put x v) ∧ K L' w) → (Exit.panic c = Exit.normal ∧ ∃ L', Know n L' a ∧ K L' w) := by
      intro x v c a w hx; cases hx.1
    cases tag with
    | true =>
      simp only [ordFromX, Bool.and_eq_true, bne_iff_ne, ne_eq] at hok
      obtain ⟨⟨⟨hr, hf⟩, hif⟩, hok⟩ := hok
      have take : ∀ {v : Value}, YieldsIf P ops S o v a → wpAnyX P .any ops (fun e a' w' => e = .normal ∧ ∃ L', Know n L' a' ∧ K L' w') S f fuel (listed.setIfInBounds i true) (a.put o.dst v) w →
          wpAnyX P .any ops (fun e a' w' => e = .normal ∧ ∃ L', Know n L' a' ∧ K L' w') S f (fuel + 1) listed a w := fun hy hk =>
        wpAnyX_first hfin hif ho (Region.noSelect_spec hsel) (hQ _ _) fuel listed a w hcl (Region.free_spec ho hf) (by simpa using hr) hy hS hk
      rcases h with ⟨g, b, b', d, hg, hw, hd, hlt, hk⟩ | ⟨hw, d, u, hd, hlt, hv, hk⟩
      · refine take (v := undef) (.inr ⟨unwanted_of ha hg hw, rfl⟩) ?_
        rw [hd]
        exact ih fuel _ _ _ w (hcl.set (by simpa using hr)) hlen' hok (fun _ => hS) (ha.put hlt undef) hk
      · refine take (v := u) (.inl ⟨wanted_of ha hw, fun w' hw' => hv a.eval (fun e => ha.ev e) w' hw' o.dst o.type o.pos o.after o.guard⟩) ?_
        rw [hd]
        exact ih fuel _ _ _ w (hcl.set (by simpa using hr)) hlen' hok (fun _ => hS) (ha.put hlt u) hk
    | false =>
      simp only [ordFromX, Bool.and_eq_true, beq_iff_eq, Bool.or_eq_true, bne_iff_ne, ne_eq, List.isEmpty_iff] at hok
      obtain ⟨⟨hr, hlast⟩, hok⟩ := hok
      refine ⟨fun h0 => absurd (hr ▸ h0) (by simp), fun j hj => ?_⟩
      rw [hr] at hj
      obtain rfl : j = i := by simpa using hj
      unfold wpOp
      simp only [ho]
      rcases h with ⟨g, b, b', d, hg, hw, hd, hlt, hk⟩ | ⟨hw, hst⟩
      · rw [if_neg (by simp [unwanted_of ha hg hw]), hd]
        exact ⟨fun _ => hS, ih fuel _ _ _ w (hcl.set (by rw [hr]; simp)) hlen' hok (fun _ => hS) (ha.put hlt undef) hk⟩
      · rw [if_pos (wanted_of ha hw)]
        refine .inl (Oper.wp_mono (fun a' w' h' => ?_) (hst a ha _))
        obtain ⟨L', hk, hS', hr'⟩ := h'
        refine ⟨hS', ih fuel _ _ _ w' (hcl.set (by rw [hr]; simp)) hlen' hok (fun hne => hS' fun e => ?_) hk hr'⟩
        rcases hlast with h1 | h1
        · exact h1 e
        · exact hne h1

theorem wp_regionF {id : Nat} (f : Nat) (ord : List (Nat × Bool)) (hm : P.follows .mixedOrders = true) (hok : ordOkX ops f ord = true) (hS : S w.drew) (h : DF P n ops S f K ord L w.drew)
    {a : Act} (ha : Know n L a) : (Code.region id ops true).wp P (fun e a' w' => e = .normal ∧ ∃ L', Know n L' a' ∧ K L' w') a w := by
  simp only [ordOkX, Bool.and_eq_true, decide_eq_true_eq] at hok
  obtain ⟨⟨⟨hsel, hlen⟩, hfin⟩, hok⟩ := hok
  exact wp_region_any hm (wpAny_of_X _ _ _ _ (DF.sound hsel hfin ord ops.size _ L a _ (Closed.start _) hlen hok (fun _ => hS) ha h))

/-- the condition: what was there is as it was, and the own slices are these -/
abbrev Held (B : Nat) (w0 : World) (Sx : List Ob) : World → Prop := fun w => Below B w0 w ∧ Mem w B Sx

theorem W.seqF {id : Nat} {y : Code} {Q : Post} {B : Nat} {w0 : World} {Sx : List Ob} (f : Nat) (ord : List (Nat × Bool)) (hm : P.follows .mixedOrders = true) (hok : ordOkX ops f ord = true) (hB : Below B w0 w) (hM : Mem w B Sx)
    (h : DF P n ops (Held B w0 Sx) f (fun L w => W P n y Q L w) ord L w.drew) : W P n (.seq (.region id ops true) y) Q L w :=
  W.seq fun a ha => wp_mono (wp_regionF (S := Held B w0 Sx) f ord hm hok ⟨hB.drew, hM.drew⟩ h ha) fun e a' w' q => by
    obtain ⟨rfl, L', hk, hy⟩ := q
    exact ⟨L', hk, hy⟩
theorem W.regF {id : Nat} {Q : Post} {B : Nat} {w0 : World} {Sx : List Ob} (f : Nat) (ord : List (Nat × Bool)) (hm : P.follows .mixedOrders = true) (hok : ordOkX ops f ord = true) (hB : Below B w0 w) (hM : Mem w B Sx)
    (h : DF P n ops (Held B w0 Sx) f (fun L w => Q .normal L w) ord L w.drew) : W P n (.region id ops true) Q L w :=
  fun a ha => wp_mono (wp_regionF (S := Held B w0 Sx) f ord hm hok ⟨hB.drew, hM.drew⟩ h ha) fun e a' w' q => by
    obtain ⟨rfl, L', hk, hy⟩ := q
    exact ⟨L', hk, hy⟩

variable {i d g : Nat} {r : List (Nat × Bool)} {u : Value} {b b' : Bool}
theorem DF.nil (h : K L w) : DF P n ops S f K [] L w := h
theorem DF.vv (ho : ops[i]? = some o) (hd : o.dst = some d) (hg : o.guard = none) (hlt : d < n) (hv : Val P S o.op L u) (h : DF P n ops S f K r ((d, u) :: L) w) : DF P n ops S f K ((i, true) :: r) L w :=
  ⟨o, ho, .inr ⟨.inl hg, d, u, hd, hlt, hv, h⟩⟩
theorem DF.vg (ho : ops[i]? = some o) (hd : o.dst = some d) (hg : o.guard = some (g, b)) (hw : want ops L g = some b') (hb : b' = b) (hlt : d < n) (hv : Val P S o.op L u) (h : DF P n ops S f K r ((d, u) :: L) w) :
    DF P n ops S f K ((i, true) :: r) L w := ⟨o, ho, .inr ⟨.inr ⟨g, b, hg, hb ▸ hw⟩, d, u, hd, hlt, hv, h⟩⟩
theorem DF.s {tag : Bool} (ho : ops[i]? = some o) (hd : o.dst = some d) (hg : o.guard = some (g, b)) (hw : want ops L g = some b') (hb : b' = !b) (hlt : d < n) (h : DF P n ops S f K r ((d, undef) :: L) w) :
    DF P n ops S f K ((i, tag) :: r) L w := ⟨o, ho, .inl ⟨g, b, b', d, hg, .inl ⟨hw, by subst hb; cases b <;> decide⟩, hd, hlt, h⟩⟩
theorem DF.skipU {tag : Bool} (ho : ops[i]? = some o) (hg : o.guard = some (g, b)) (hw : wantU ops L g = true) (hd : o.dst = some d) (hlt : d < n) (h : DF P n ops S f K r ((d, undef) :: L) w) :
    DF P n ops S f K ((i, tag) :: r) L w := ⟨o, ho, .inl ⟨g, b, true, d, hg, .inr hw, hd, hlt, h⟩⟩
theorem DF.m (ho : ops[i]? = some o) (hg : o.guard = none) (h : Step P n o L w (fun L' w' => (i ≠ f → S w') ∧ DF P n ops S f K r L' w')) : DF P n ops S f K ((i, false) :: r) L w := ⟨o, ho, .inr ⟨.inl hg, h⟩⟩
theorem DF.mg (ho : ops[i]? = some o) (hg : o.guard = some (g, b)) (hw : want ops L g = some b') (hb : b' = b) (h : Step P n o L w (fun L' w' => (i ≠ f → S w') ∧ DF P n ops S f K r L' w')) :
    DF P n ops S f K ((i, false) :: r) L w := ⟨o, ho, .inr ⟨.inr ⟨g, b, hg, hb ▸ hw⟩, h⟩⟩
theorem DF.split {l : List (Nat × Bool)} {b0 : Bool} (g : Nat) (_hl : want ops L g = some b0) (ht : b0 = true → DF P n ops S f K l L w) (hf : b0 = false → DF P n ops S f K l L w) : DF P n ops S f K l L w := by
  cases b0
  · exact hf rfl
  · exact ht rfl

/-- a cut: what is known between two pieces of code, for some ghost -/
theorem W.mid {x y : Code} {Q : Post} {α : Type} (vary : α → Loc) (fix : Loc) (H : α → World → Prop) (hf : Sub fix L)
    (h1 : W P n x (thenP (fun L' w' => ∃ a, Sub (vary a) L' ∧ Sub fix L' ∧ H a w') Q) L w) (h2 : ∀ a w', H a w' → W P n y Q (vary a ++ fix) w') : W P n (.seq x y) Q L w := by
  refine W.seq (W.mono h1 fun e L' w' q => ?_)
  cases e with
  | normal =>
    obtain ⟨a, hs, hf', hh⟩ := q
    exact W.sub (hs.append hf') (h2 a w' hh)
  | exit i => exact q
  | goto l => exact q
  | ret => exact q
  | panic c => exact q
  | outgrown => exact q
end
end Go.Proofs.Ytnaebllojkodbaa.V
