/-
  A region that draws its order, where two memory operations may stand in either order: the orders as a tree.
-/
import Derived.Test.YtnaebllojkodbaaVmem4
namespace Go.Proofs.Ytnaebllojkodbaa.V
open Go Go.RowKit

inductive Tr where
  | done : Tr
  | val (i : Nat) (r : Tr) : Tr
  | mem (i : Nat) (r : Tr) : Tr
  | two (a b : Tr) : Tr
  | three (a b c : Tr) : Tr

def Tr.dep : Tr → Nat
  | .done => 0
  | .val _ r => r.dep + 1
  | .mem _ r => r.dep + 1
  | .two a b => max a.dep b.dep
  | .three a b c => max a.dep (max b.dep c.dep)

section
variable {P : Program} {n : Nat} {ops : Array Oper} {S : World → Prop} {K : Loc → World → Prop} {L : Loc} {w : World} {o : Oper}

def DT (P : Program) (n : Nat) (ops : Array Oper) (S : World → Prop) (K : Loc → World → Prop) : Tr → Loc → World → Prop
  | .done, L, w => K L w
  | .val i r, L, w => ∃ o, ops[i]? = some o ∧
      ((∃ g b b' d, o.guard = some (g, b) ∧ ((want ops L g = some b' ∧ b' ≠ b) ∨ wantU ops L g = true) ∧ o.dst = some d ∧ d < n ∧ DT P n ops S K r ((d, undef) :: L) w) ∨
       ((o.guard = none ∨ ∃ g b, o.guard = some (g, b) ∧ want ops L g = some b) ∧ ∃ d u, o.dst = some d ∧ d < n ∧ Val P S o.op L u ∧ DT P n ops S K r ((d, u) :: L) w))
  | .mem i r, L, w => ∃ o, ops[i]? = some o ∧
      ((∃ g b b' d, o.guard = some (g, b) ∧ ((want ops L g = some b' ∧ b' ≠ b) ∨ wantU ops L g = true) ∧ o.dst = some d ∧ d < n ∧ DT P n ops S K r ((d, undef) :: L) w) ∨
       ((o.guard = none ∨ ∃ g b, o.guard = some (g, b) ∧ want ops L g = some b) ∧ Step P n o L w (fun L' w' => S w' ∧ DT P n ops S K r L' w')))
  | .two a b, L, w => DT P n ops S K a L w ∧ DT P n ops S K b L w
  | .three a b c, L, w => DT P n ops S K a L w ∧ DT P n ops S K b L w ∧ DT P n ops S K c L w

def trFrom (ops : Array Oper) : Tr → Array Bool → Bool
  | .done, listed => (Region.ready .any ops listed).isEmpty
  | .val i r, listed => (Region.ready .any ops listed).contains i && Region.free .any ops listed i && trFrom ops r (listed.setIfInBounds i true)
  | .mem i r, listed => (Region.ready .any ops listed == [i]) && trFrom ops r (listed.setIfInBounds i true)
  | .two (.mem i a) (.mem j b), listed => (Region.ready .any ops listed == [i, j]) && trFrom ops a (listed.setIfInBounds i true) && trFrom ops b (listed.setIfInBounds j true)
  | .two _ _, _ => false
  | .three (.mem i a) (.mem j b) (.mem k c), listed => (Region.ready .any ops listed == [i, j, k]) && trFrom ops a (listed.setIfInBounds i true) && trFrom ops b (listed.setIfInBounds j true) && trFrom ops c (listed.setIfInBounds k true)
  | .three _ _ _, _ => false
def trOk (ops : Array Oper) (t : Tr) : Bool := Region.noSelect ops && decide (t.dep ≤ ops.size) && trFrom ops t (Array.replicate ops.size false)

theorem DT.sound (hsel : Region.noSelect ops = true) : ∀ (fuel : Nat) (t : Tr) (listed : Array Bool) (L : Loc) (a : Act) (w : World),
    t.dep ≤ fuel → trFrom ops t listed = true → S w → Know n L a → DT P n ops S K t L w →
    wpAnyH P .any ops (fun e a' w' => e = .normal ∧ ∃ L', Know n L' a' ∧ K L' w') S fuel listed a w := by
  intro fuel
  induction fuel with
  | zero =>
    intro t listed L a w hlen hok _ ha h
    have key : ∀ t : Tr, t.dep ≤ 0 → trFrom ops t listed = true → t = .done := by
      intro t
      cases t with
      | done => intro _ _; rfl
      | val i r => intro h; simp [Tr.dep] at h
      | mem i r => intro h; simp [Tr.dep] at h
      | two a b =>
        intro h1 h2
        cases a <;> cases b <;> simp [trFrom, Tr.dep] at h1 h2
      | three a b c =>
        intro h1 h2
        cases a <;> cases b <;> cases c <;> simp [trFrom, Tr.dep] at h1 h2
    obtain rfl := key t hlen hok
    exact wpAnyH_done (by simpa [trFrom] using hok) ⟨rfl, L, ha, h⟩ 0
  | succ fuel ih =>
    intro t listed L a w hlen hok hS ha h
    have hQ : ∀ (x : Option Tmp) (v : Value) (c : List PanicEntry) (a : Act) (w : World), (Exit.panic c = Exit.normal ∧ ∃ L', Know n L' (a.put x v) ∧ K L' w) → (Exit.panic c = Exit.normal ∧ ∃ L', Know n L' a ∧ K L' w) := by
      intro x v c a w hx; cases hx.1
    have one : ∀ (i : Nat) (x : Tr), x.dep ≤ fuel → trFrom ops x (listed.setIfInBounds i true) = true → DT P n ops S K (.mem i x) L w →
        wpOp P ops (fun e a' w' => e = .normal ∧ ∃ L', Know n L' a' ∧ K L' w') i (fun a' w' => S w' ∧ wpAnyH P .any ops (fun e a' w' => e = .normal ∧ ∃ L', Know n L' a' ∧ K L' w') S fuel (listed.setIfInBounds i true) a' w') a w := by
      intro i x hlx hok1 h
      obtain ⟨o, ho, h⟩ := h
      unfold wpOp
      simp only [ho]
      rcases h with ⟨g, b, b', d, hg, hw, hd, hlt, hk⟩ | ⟨hw, hst⟩
      · rw [if_neg (by simp [unwanted_of ha hg hw]), hd]
        exact ⟨hS, ih x _ _ _ w hlx hok1 hS (ha.put hlt undef) hk⟩
      · rw [if_pos (wanted_of ha hw)]
        refine .inl (Oper.wp_mono (fun a' w' h' => ?_) (hst a ha _))
        obtain ⟨L', hk, hS', hr'⟩ := h'
        exact ⟨hS', ih x _ _ _ w' hlx hok1 hS' hk hr'⟩
    cases t with
    | done => exact wpAnyH_done (by simpa [trFrom] using hok) ⟨rfl, L, ha, h⟩ _
    | three ta tb tc =>
      obtain ⟨h1, h2, h3⟩ := h
      cases ta with
      | mem i x =>
        cases tb with
        | mem j y =>
          cases tc with
          | mem k z =>
            simp only [trFrom, Bool.and_eq_true, beq_iff_eq] at hok
            obtain ⟨⟨⟨hr, hok1⟩, hok2⟩, hok3⟩ := hok
            simp only [Tr.dep] at hlen
            refine wpAnyH_all hr (by simp) fun q hq => ?_
            have hq' : q = i ∨ q = j ∨ q = k := by simpa using hq
            rcases hq' with rfl | rfl | rfl
            · exact one _ x (by omega) hok1 h1
            · exact one _ y (by omega) hok2 h2
            · exact one _ z (by omega) hok3 h3
          | _ => simp [trFrom] at hok
        | _ => simp [trFrom] at hok
      | _ => simp [trFrom] at hok
    | val i r =>
      obtain ⟨o, ho, h⟩ := h
      have hlen' : r.dep ≤ fuel := by simpa [Tr.dep] using hlen
      simp only [trFrom, Bool.and_eq_true] at hok
      obtain ⟨⟨hr, hf⟩, hok⟩ := hok
      rcases h with ⟨g, b, b', d, hg, hw, hd, hlt, hk⟩ | ⟨hw, d, u, hd, hlt, hv, hk⟩
      · refine wpAnyH_take (v := undef) ho hsel hf hr (hQ _ _) (.inr ⟨unwanted_of ha hg hw, rfl⟩) hS ?_
        rw [hd]
        exact ih r _ _ _ w hlen' hok hS (ha.put hlt undef) hk
      · refine wpAnyH_take (v := u) ho hsel hf hr (hQ _ _) (.inl ⟨wanted_of ha hw, fun w' hw' => hv a.eval (fun e => ha.ev e) w' hw' o.dst o.type o.pos o.after o.guard⟩) hS ?_
        rw [hd]
        exact ih r _ _ _ w hlen' hok hS (ha.put hlt u) hk
    | mem i r =>
      have hlen' : r.dep ≤ fuel := by simpa [Tr.dep] using hlen
      simp only [trFrom, Bool.and_eq_true, beq_iff_eq] at hok
      obtain ⟨hr, hok⟩ := hok
      refine wpAnyH_all hr (by simp) fun j hj => ?_
      obtain rfl : j = i := by simpa using hj
      obtain ⟨o, ho, h⟩ := h
      unfold wpOp
      simp only [ho]
      rcases h with ⟨g, b, b', d, hg, hw, hd, hlt, hk⟩ | ⟨hw, hst⟩
      · rw [if_neg (by simp [unwanted_of ha hg hw]), hd]
        exact ⟨hS, ih r _ _ _ w hlen' hok hS (ha.put hlt undef) hk⟩
      · rw [if_pos (wanted_of ha hw)]
        refine .inl (Oper.wp_mono (fun a' w' h' => ?_) (hst a ha _))
        obtain ⟨L', hk, hS', hr'⟩ := h'
        exact ⟨hS', ih r _ _ _ w' hlen' hok hS' hk hr'⟩
    | two ta tb =>
      obtain ⟨h1, h2⟩ := h
      cases ta with
      | mem i x =>
        cases tb with
        | mem j y =>
          simp only [trFrom, Bool.and_eq_true, beq_iff_eq] at hok
          obtain ⟨⟨hr, hok1⟩, hok2⟩ := hok
          simp only [Tr.dep] at hlen
          refine wpAnyH_all hr (by simp) fun q hq => ?_
          have hq' : q = i ∨ q = j := by simpa using hq
          rcases hq' with rfl | rfl
          · have hlx : x.dep ≤ fuel := by omega
            obtain ⟨o, ho, h⟩ := h1
            unfold wpOp
            simp only [ho]
            rcases h with ⟨g, b, b', d, hg, hw, hd, hlt, hk⟩ | ⟨hw, hst⟩
            · rw [if_neg (by simp [unwanted_of ha hg hw]), hd]
              exact ⟨hS, ih x _ _ _ w hlx hok1 hS (ha.put hlt undef) hk⟩
            · rw [if_pos (wanted_of ha hw)]
              refine .inl (Oper.wp_mono (fun a' w' h' => ?_) (hst a ha _))
              obtain ⟨L', hk, hS', hr'⟩ := h'
              exact ⟨hS', ih x _ _ _ w' hlx hok1 hS' hk hr'⟩
          · have hly : y.dep ≤ fuel := by omega
            obtain ⟨o, ho, h⟩ := h2
            unfold wpOp
            simp only [ho]
            rcases h with ⟨g, b, b', d, hg, hw, hd, hlt, hk⟩ | ⟨hw, hst⟩
            · rw [if_neg (by simp [unwanted_of ha hg hw]), hd]
              exact ⟨hS, ih y _ _ _ w hly hok2 hS (ha.put hlt undef) hk⟩
            · rw [if_pos (wanted_of ha hw)]
              refine .inl (Oper.wp_mono (fun a' w' h' => ?_) (hst a ha _))
              obtain ⟨L', hk, hS', hr'⟩ := h'
              exact ⟨hS', ih y _ _ _ w' hly hok2 hS' hk hr'⟩
        | _ => simp [trFrom] at hok
      | _ => simp [trFrom] at hok

theorem wp_regionT {id : Nat} (t : Tr) (hm : P.follows .mixedOrders = true) (hok : trOk ops t = true) (hS : S w.drew) (h : DT P n ops S K t L w.drew)
    {a : Act} (ha : Know n L a) : (Code.region id ops true).wp P (fun e a' w' => e = .normal ∧ ∃ L', Know n L' a' ∧ K L' w') a w := by
  simp only [trOk, Bool.and_eq_true, decide_eq_true_eq] at hok
  obtain ⟨⟨hsel, hlen⟩, hok⟩ := hok
  exact wp_region_held hm (DT.sound hsel ops.size t _ L a _ hlen hok hS ha h)
theorem W.seqT {id : Nat} {y : Code} {Q : Post} (t : Tr) (hm : P.follows .mixedOrders = true) (hok : trOk ops t = true) (hS : S w.drew)
    (h : DT P n ops S (fun L w => W P n y Q L w) t L w.drew) : W P n (.seq (.region id ops true) y) Q L w :=
  W.seq fun a ha => wp_mono (wp_regionT t hm hok hS h ha) fun e a' w' q => by
    obtain ⟨rfl, L', hk, hy⟩ := q
    exact ⟨L', hk, hy⟩
theorem W.regT {id : Nat} {Q : Post} (t : Tr) (hm : P.follows .mixedOrders = true) (hok : trOk ops t = true) (hS : S w.drew)
    (h : DT P n ops S (fun L w => Q .normal L w) t L w.drew) : W P n (.region id ops true) Q L w :=
  fun a ha => wp_mono (wp_regionT t hm hok hS h ha) fun e a' w' q => by
    obtain ⟨rfl, L', hk, hy⟩ := q
    exact ⟨L', hk, hy⟩

variable {u : Value} {i d g : Nat} {r : Tr} {b b' : Bool}
theorem DT.nil (h : K L w) : DT P n ops S K .done L w := h
theorem DT.vv (ho : ops[i]? = some o) (hd : o.dst = some d) (hg : o.guard = none) (hlt : d < n) (hv : Val P S o.op L u) (h : DT P n ops S K r ((d, u) :: L) w) : DT P n ops S K (.val i r) L w :=
  ⟨o, ho, .inr ⟨.inl hg, d, u, hd, hlt, hv, h⟩⟩
theorem DT.vg (ho : ops[i]? = some o) (hd : o.dst = some d) (hg : o.guard = some (g, b)) (hw : want ops L g = some b') (hb : b' = b) (hlt : d < n) (hv : Val P S o.op L u) (h : DT P n ops S K r ((d, u) :: L) w) : DT P n ops S K (.val i r) L w :=
  ⟨o, ho, .inr ⟨.inr ⟨g, b, hg, hb ▸ hw⟩, d, u, hd, hlt, hv, h⟩⟩
theorem DT.m (ho : ops[i]? = some o) (hg : o.guard = none) (h : Step P n o L w (fun L' w' => S w' ∧ DT P n ops S K r L' w')) : DT P n ops S K (.mem i r) L w := ⟨o, ho, .inr ⟨.inl hg, h⟩⟩
theorem DT.mg (ho : ops[i]? = some o) (hg : o.guard = some (g, b)) (hw : want ops L g = some b') (hb : b' = b) (h : Step P n o L w (fun L' w' => S w' ∧ DT P n ops S K r L' w')) : DT P n ops S K (.mem i r) L w :=
  ⟨o, ho, .inr ⟨.inr ⟨g, b, hg, hb ▸ hw⟩, h⟩⟩
theorem DT.two {x y : Tr} (h1 : DT P n ops S K x L w) (h2 : DT P n ops S K y L w) : DT P n ops S K (.two x y) L w := ⟨h1, h2⟩
theorem DT.three {x y z : Tr} (h1 : DT P n ops S K x L w) (h2 : DT P n ops S K y L w) (h3 : DT P n ops S K z L w) : DT P n ops S K (.three x y z) L w := ⟨h1, h2, h3⟩
theorem DT.split {t : Tr} {b0 : Bool} (g : Nat) (_hl : want ops L g = some b0) (ht : b0 = true → DT P n ops S K t L w) (hf : b0 = false → DT P n ops S K t L w) : DT P n ops S K t L w := by
  cases b0
  · exact hf rfl
  · exact ht rfl
theorem DT.sv (ho : ops[i]? = some o) (hd : o.dst = some d) (hg : o.guard = some (g, b)) (hw : want ops L g = some b') (hb : b' = !b) (hlt : d < n) (h : DT P n ops S K r ((d, undef) :: L) w) : DT P n ops S K (.val i r) L w :=
  ⟨o, ho, .inl ⟨g, b, b', d, hg, .inl ⟨hw, by subst hb; cases b <;> decide⟩, hd, hlt, h⟩⟩
theorem DT.sm (ho : ops[i]? = some o) (hd : o.dst = some d) (hg : o.guard = some (g, b)) (hw : want ops L g = some b') (hb : b' = !b) (hlt : d < n) (h : DT P n ops S K r ((d, undef) :: L) w) : DT P n ops S K (.mem i r) L w :=
  ⟨o, ho, .inl ⟨g, b, b', d, hg, .inl ⟨hw, by subst hb; cases b <;> decide⟩, hd, hlt, h⟩⟩
end

section
variable {w w' : World} {B : Nat} {e : TypeId} {p : Option Addr} {m c : Nat} {xs : List Value}
theorem Own.belowB {B' : Nat} (h : Own w B e p m c xs) (hb : Below B' w w') (hp : ∀ b, p = some ⟨b, 0, none⟩ → b < B') : Own w' B e p m c xs := by
  refine ⟨h.1, ?_⟩
  rcases h.2 with h' | ⟨g, cap, cur, hv, hb0, hg, rest⟩
  · exact .inl h'
  · refine .inr ⟨g, cap, cur, hv, hb0, ?_, rest⟩
    cases hv
    rw [hb.block g (hp g rfl)]; exact hg
end
end Go.Proofs.Ytnaebllojkodbaa.V
