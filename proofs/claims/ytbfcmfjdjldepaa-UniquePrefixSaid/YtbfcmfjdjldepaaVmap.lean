/-
  Maps of the call's own: the block's entries tell a partial function of the keys.
-/
import Derived.Test.YtbfcmfjdjldepaaVheap
namespace Go.Proofs.Ytbfcmfjdjldepaa.V
open Go Go.RowKit

/-- what a map's operations ask of its keys -/
structure KeyLaw (P : Program) (kt : TypeId) {κ : Type} (enc : κ → Value) : Prop where
  inj : ∀ a b, enc a = enc b → a = b
  same : ∀ a, Instr.sameBits 10000 (enc a) (enc a) = true
  check : ∀ b a w, (Instr.checkKey b 10000 kt (enc a)).run P w = .ok () w
  find : ∀ (k : κ) (es : List MapEntry) (w : World), (∀ e ∈ es, ∃ a, e.key = enc a) →
    ∃ r, (Instr.findKey kt (enc k) es).run P w = .ok r w ∧ ((r = none ∧ ∀ e ∈ es, e.key ≠ enc k) ∨ ∃ i e, r = some (i, e.val) ∧ es[i]? = some e ∧ e.key = enc k)

theorem findNow_int {q q' : IntKind} {k : Int} : ∀ (es : List MapEntry) (j : Nat), (∀ e ∈ es, ∃ a : Int, e.key = .int q a) →
    ∃ r, Instr.findNow (.int q') (.int q k) es j = some r ∧ ((r = none ∧ ∀ e ∈ es, e.key ≠ .int q k) ∨ ∃ i e, r = some (j + i, e.val) ∧ es[i]? = some e ∧ e.key = .int q k)
  | [], j, _ => ⟨none, rfl, .inl ⟨rfl, by simp⟩⟩
  | e :: es, j, h => by
    obtain ⟨a, ha⟩ := h e (by simp)
    by_cases hka : k = a
    · subst hka
      refine ⟨some (j, e.val), ?_, .inr ⟨0, e, rfl, rfl, ha⟩⟩
      simp [Instr.findNow, ha, Instr.sameNow]
    · obtain ⟨r, h1, h2⟩ := findNow_int (q' := q') (k := k) es (j + 1) fun x hx => h x (by simp [hx])
      refine ⟨r, ?_, ?_⟩
      · have hb : (k == a) = false := by simpa using hka
        simp [Instr.findNow, ha, Instr.sameNow, hb, h1]
      · rcases h2 with ⟨rfl, h3⟩ | ⟨i, x, rfl, h3, h4⟩
        · refine .inl ⟨rfl, fun x hx => ?_⟩
          rcases List.mem_cons.1 hx with rfl | hx
          · rw [ha]; intro e; injection e with _ e; exact hka e.symm
          · exact h3 x hx
        · exact .inr ⟨i + 1, x, by rw [Nat.add_assoc, Nat.add_comm 1], by simpa using h3, h4⟩

theorem keys_int {P : Program} {kt : TypeId} {q q' : IntKind} (hk : P.underlying kt = some (.int q')) : KeyLaw P kt (fun a : Int => Value.int q a) where
  inj a b h := by injection h
  same a := by simp [Instr.sameBits]
  check b a w := by
    show (Instr.checkKey b (9999 + 1) kt (.int q a)).run P w = _
    unfold Instr.checkKey
    simp only [Sem.run_bind, run_underlying hk, Result.andThen_ok]
    rfl
  find k es w h := by
    obtain ⟨r, h1, h2⟩ := findNow_int (q' := q') (k := k) es 0 h
    refine ⟨r, ?_, ?_⟩
    · simp [Instr.findKey, run_underlying hk, h1, go_sem]
    · rcases h2 with h2 | ⟨i, e, h3, h4⟩
      · exact .inl h2
      · exact .inr ⟨i, e, by simpa using h3, h4⟩

/-- natural numbers as keys -/
abbrev encN (q : IntKind) : Nat → Value := fun a => .int q (a : Int)
theorem keys_nat {P : Program} {kt : TypeId} {q q' : IntKind} (hk : P.underlying kt = some (.int q')) : KeyLaw P kt (encN q) where
  inj a b h := by injection h with _ h; omega
  same a := (keys_int (q := q) hk).same (a : Int)
  check b a w := (keys_int (q := q) hk).check b (a : Int) w
  find k es w h := (keys_int (q := q) hk).find (k : Int) es w fun e he => (by obtain ⟨a, ha⟩ := h e he; exact ⟨(a : Int), ha⟩)
section
variable {κ : Type} {enc : κ → Value} {w w' : World} {B r : Nat} {f : κ → Option Value}

def OwnMap (enc : κ → Value) (w : World) (B r : Nat) (f : κ → Option Value) : Prop :=
  ∃ es clock, w.heap[r]? = some (.map es clock) ∧ B ≤ r ∧ (∀ e ∈ es.toList, ∃ a, e.key = enc a) ∧ (es.toList.map (·.key)).Nodup ∧ ∀ k v, f k = some v ↔ ∃ e ∈ es.toList, e.key = enc k ∧ e.val = v

theorem OwnMap.lt (h : OwnMap enc w B r f) : r < w.heap.size := by
  obtain ⟨es, c, hb, _⟩ := h
  exact (Array.getElem?_eq_some_iff.1 hb).1
theorem OwnMap.base {B' : Nat} (h : OwnMap enc w B r f) (hB : B' ≤ B) : OwnMap enc w B' r f := by
  obtain ⟨es, c, hb, h1, h2⟩ := h
  exact ⟨es, c, hb, Nat.le_trans hB h1, h2⟩
theorem OwnMap.below (h : OwnMap enc w B r f) (hb : Below w.heap.size w w') : OwnMap enc w' B r f := by
  have hlt := h.lt
  obtain ⟨es, c, hm, h2⟩ := h
  exact ⟨es, c, by rw [hb.block r hlt]; exact hm, h2⟩
theorem OwnMap.drew (h : OwnMap enc w B r f) : OwnMap enc w.drew B r f := h
/-- an own slice has turned -/
theorem OwnMap.off {B' m c : Nat} {e : TypeId} {p : Option Addr} {xs : List Value} (h : OwnMap enc w B r f) (hO : Own w B' e p m c xs) (hg : w.grownBy w' (Value.ownBlock (.slice p m c))) : OwnMap enc w' B r f := by
  have hlt := h.lt
  obtain ⟨es, cl, hm, h2⟩ := h
  refine ⟨es, cl, ?_, h2⟩
  have hne : some r ≠ Value.ownBlock (.slice p m c) := by
    rcases hO.2 with ⟨hv, _⟩ | ⟨g, cap, cur, hv, _, hg2, _⟩
    · cases hv; simp [Value.ownBlock]
    · cases hv
      simp only [Value.ownBlock]
      intro e
      injection e with e
      subst e
      rw [hm] at hg2; cases hg2
  rw [hg.block r hlt hne]; exact hm
/-- the map has turned: the own slices are as they were -/
theorem Mem.map {S : List Ob} {B' : Nat} (h : Mem w B' S) (hm : OwnMap enc w B r f) (hg : w.grownBy w' (some r)) : Mem w' B' S := by
  refine ⟨fun o ho => (h.all o ho).grown hg fun b off hp e => ?_, h.apart⟩
  injection e with e
  subst e
  obtain ⟨es, cl, hb, _⟩ := hm
  have hall := h.all o ho
  rw [hp] at hall
  rcases hall.2 with ⟨hv, _⟩ | ⟨g, cap, cur, hv, _, hg2, _⟩
  · cases hv
  · cases hv
    rw [hb] at hg2; cases hg2
theorem OwnMap.head (h : OwnMap enc w B r f) : B ≤ r := by
  obtain ⟨_, _, _, h1, _⟩ := h
  exact h1
theorem OwnMap.grown (h : OwnMap enc w B r f) (hg : w.grownBy w' (some r)) (hB : B ≤ w.heap.size) : Below B w w' :=
  (Below.refl B w).grown hg hB fun k hk => by injection hk with hk; subst hk; exact h.head

theorem ownMap_made (w : World) : OwnMap enc (w.alloc (.map #[] 0)) w.heap.size w.heap.size (fun _ => none) :=
  ⟨#[], 0, (by unfold World.alloc; exact Array.getElem?_push_size), Nat.le_refl _, by simp, by simp, by simp⟩

variable {P : Program} {t kt e : TypeId} {z : Value}

theorem OwnMap.none (h : OwnMap enc w B r f) {es : Array MapEntry} {cl : Nat} (hb : w.heap[r]? = some (.map es cl)) {k : κ} (hno : ∀ x ∈ es.toList, x.key ≠ enc k) : f k = none := by
  obtain ⟨es', cl', hb', _, _, _, hf⟩ := h
  rw [hb] at hb'; cases hb'
  cases hk : f k with
  | none => rfl
  | some v =>
    obtain ⟨x, hx, h1, _⟩ := (hf k v).1 hk
    exact absurd h1 (hno x hx)

theorem OwnMap.look (K : KeyLaw P kt enc) (ht : P.underlying t = some (.map kt e)) (hz : (zeroValue e).run P w = .ok z w) (h : OwnMap enc w B r f) (k : κ) (c : Bool) :
    (Instr.lookup t (.map (some r)) (enc k) c).run P w = .ok (if c = true then .tuple #[(f k).getD z, .bool (f k).isSome] else (f k).getD z) w := by
  have h0 := h
  obtain ⟨es, cl, hb, _, hkeys, _, hf⟩ := h
  have hg : (getObj r).run P w = .ok (.map es cl) w := by simp [getObj, Sem.run, hb]
  obtain ⟨res, h1, h2⟩ := K.find k es.toList w hkeys
  unfold Instr.lookup
  rcases h2 with ⟨rfl, h3⟩ | ⟨i, x, rfl, h3, h4⟩
  · rw [h0.none hb h3]
    simp [run_underlying ht, hg, K.check, h1, hz, go_sem]
  · have hfk : f k = some x.val := (hf k x.val).2 ⟨x, List.mem_of_getElem? h3, h4, rfl⟩
    rw [hfk]
    simp [run_underlying ht, hg, K.check, h1, go_sem]

def upd [DecidableEq κ] (f : κ → Option Value) (k : κ) (v : Value) : κ → Option Value := fun a => if a = k then some v else f a

/-- no two entries were born at once, and all before now -/
def Births (w : World) (r : Nat) : Prop := ∀ es cl, w.heap[r]? = some (.map es cl) → (es.toList.map (·.born)).Nodup ∧ ∀ e ∈ es.toList, e.born < cl
theorem OwnMap.putB [DecidableEq κ] (K : KeyLaw P kt enc) (ht : P.underlying t = some (.map kt e)) (h : OwnMap enc w B r f) (k : κ) (v : Value) :
    ∃ w', (Instr.mapUpdate t (.map (some r)) (enc k) v).run P w = .ok () w' ∧ OwnMap enc w' B r (upd f k v) ∧ w.grownBy w' (some r) ∧ w'.heap.size = w.heap.size ∧ (Births w r → Births w' r) := by
  have h0 := h
  obtain ⟨es, cl, hb, hB, hkeys, hnd, hf⟩ := h
  have hlt := h0.lt
  have hg : (getObj r).run P w = .ok (.map es cl) w := by simp [getObj, Sem.run, hb]
  have hset : ∀ o, (setObj r o).run P w = .ok () { w with heap := w.heap.setIfInBounds r o } := fun o => by simp [setObj, Sem.run, hb]
  have hgr : ∀ o, w.grownBy { w with heap := w.heap.setIfInBounds r o } (some r) := fun o =>
    ⟨rfl, rfl, rfl, by simp, fun j _ hj => by simp [Array.getElem?_setIfInBounds, show r ≠ j from fun e => hj (by rw [e])]⟩
  obtain ⟨res, h1, h2⟩ := K.find k es.toList w hkeys
  rcases h2 with ⟨rfl, h3⟩ | ⟨i, x, rfl, h3, h4⟩
  · refine ⟨{ w with heap := w.heap.setIfInBounds r (.map (es.push { key := enc k, val := v, born := cl }) (cl + 1)) }, ?_, ?_, hgr _, by simp, fun hbi es' cl' he => ?_⟩
    · unfold Instr.mapUpdate
      simp [run_underlying ht, hg, K.check, h1, hset, go_sem]
    · refine ⟨es.push { key := enc k, val := v, born := cl }, cl + 1, by simp [hlt], hB, fun y hy => ?_, ?_, fun a u => ?_⟩
      · simp only [Array.toList_push, List.mem_append, List.mem_singleton] at hy
        rcases hy with hy | rfl
        · exact hkeys y hy
        · exact ⟨k, rfl⟩
      · rw [Array.toList_push, List.map_append]
        refine List.nodup_append.2 ⟨hnd, by simp, fun a ha b hb hab => ?_⟩
        obtain ⟨y, hy, rfl⟩ := List.mem_map.1 ha
        simp only [List.map_cons, List.map_nil, List.mem_singleton] at hb
        exact h3 y hy (hab.trans hb)
      · simp only [Array.toList_push, List.mem_append, List.mem_singleton]
        unfold upd
        by_cases hak : a = k
        · subst hak
          rw [if_pos rfl]
          constructor
          · intro e; injection e with e; exact ⟨_, .inr rfl, rfl, e⟩
          · rintro ⟨y, hy | rfl, hy2, hy3⟩
            · exact absurd hy2 (h3 y hy)
            · rw [← hy3]
        · rw [if_neg hak, hf]
          constructor
          · rintro ⟨y, hy, hy2⟩; exact ⟨y, .inl hy, hy2⟩
          · rintro ⟨y, hy | rfl, hy2, hy3⟩
            · exact ⟨y, hy, hy2, hy3⟩
            · exact absurd (K.inj _ _ hy2).symm hak
    · obtain ⟨b1, b2⟩ := hbi es cl hb
      have he2 : es' = es.push { key := enc k, val := v, born := cl } ∧ cl' = cl + 1 := by simp [hlt] at he; exact ⟨he.1.symm, he.2.symm⟩
      obtain ⟨rfl, rfl⟩ := he2
      rw [Array.toList_push, List.map_append]
      refine ⟨List.nodup_append.2 ⟨b1, by simp, fun a ha b hb hab => ?_⟩, fun y hy => ?_⟩
      · obtain ⟨y, hy, rfl⟩ := List.mem_map.1 ha
        simp only [List.map_cons, List.map_nil, List.mem_singleton] at hb
        have := b2 y hy; omega
      · rcases List.mem_append.1 hy with hy | hy
        · have := b2 y hy; omega
        · rw [List.mem_singleton] at hy; subst hy; exact Nat.lt_succ_self _
  · have hi : i < es.size := by simpa using (List.getElem?_eq_some_iff.1 h3).1
    have hxi : es[i]? = some x := by rw [← Array.getElem?_toList]; exact h3
    refine ⟨{ w with heap := w.heap.setIfInBounds r (.map (es.modify i fun y => { y with key := enc k, val := v }) cl) }, ?_, ?_, hgr _, by simp, fun hbi es' cl' he => ?_⟩
    · unfold Instr.mapUpdate
      simp [run_underlying ht, hg, K.check, h1, hset, hxi, Instr.keyThatStays, h4, K.same, go_sem]
    · have hat : ∀ j, (es.modify i fun y => { y with key := enc k, val := v }).toList[j]? = if j = i then some { x with key := enc k, val := v } else es.toList[j]? := fun j => by
        rw [Array.toList_modify, List.getElem?_modify]
        by_cases e : i = j
        · subst e; simp [h3]
        · rw [if_neg (Ne.symm e)]; simp [e]
      have hkey : (es.modify i fun y => { y with key := enc k, val := v }).toList.map (·.key) = es.toList.map (·.key) := by
        refine List.ext_getElem? fun j => ?_
        rw [List.getElem?_map, List.getElem?_map, hat]
        by_cases e : j = i
        · subst e; rw [if_pos rfl, h3]; simp [h4]
        · rw [if_neg e]
      have hone : ∀ j y, es.toList[j]? = some y → y.key = enc k → j = i := fun j y hj hy => by
        have hjl : j < (es.toList.map (·.key)).length := by
          have := (List.getElem?_eq_some_iff.1 hj).1
          simpa using this
        refine (List.getElem?_inj hjl hnd).1 ?_
        rw [List.getElem?_map, List.getElem?_map, hj, h3]; simp [hy, h4]
      refine ⟨es.modify i fun y => { y with key := enc k, val := v }, cl, by simp [hlt], hB, fun y hy => ?_, by rw [hkey]; exact hnd, fun a u => ?_⟩
      · obtain ⟨j, hj⟩ := List.getElem?_of_mem hy
        rw [hat] at hj
        split at hj
        · cases hj; exact ⟨k, rfl⟩
        · exact hkeys y (List.mem_of_getElem? hj)
      · unfold upd
        by_cases hak : a = k
        · subst hak
          rw [if_pos rfl]
          constructor
          · intro e
            injection e with e
            exact ⟨{ x with key := enc a, val := v }, List.mem_of_getElem? (i := i) (by rw [hat, if_pos rfl]), rfl, e⟩
          · rintro ⟨y, hy, hy2, hy3⟩
            obtain ⟨j, hj⟩ := List.getElem?_of_mem hy
            rw [hat] at hj
            split at hj
            · cases hj; rw [← hy3]
            · rename_i hji; exact absurd (hone j y hj hy2) hji
        · rw [if_neg hak, hf]
          constructor
          · rintro ⟨y, hy, hy2, hy3⟩
            obtain ⟨j, hj⟩ := List.getElem?_of_mem hy
            refine ⟨y, List.mem_of_getElem? (i := j) ?_, hy2, hy3⟩
            rw [hat, if_neg ?_]
            · exact hj
            · intro e; subst e
              rw [h3] at hj; cases hj
              exact hak (K.inj _ _ (hy2.symm.trans h4))
          · rintro ⟨y, hy, hy2, hy3⟩
            obtain ⟨j, hj⟩ := List.getElem?_of_mem hy
            rw [hat] at hj
            split at hj
            · cases hj; exact absurd (K.inj _ _ hy2).symm hak
            · exact ⟨y, List.mem_of_getElem? hj, hy2, hy3⟩
    · obtain ⟨b1, b2⟩ := hbi es cl hb
      have he2 : es' = (es.modify i fun y => { y with key := enc k, val := v }) ∧ cl' = cl := by simp [hlt] at he; exact ⟨he.1.symm, he.2.symm⟩
      obtain ⟨rfl, rfl⟩ := he2
      have hborn : (es.modify i fun y => { y with key := enc k, val := v }).toList.map (·.born) = es.toList.map (·.born) := by
        refine List.ext_getElem? fun j => ?_
        rw [Array.toList_modify, List.getElem?_map, List.getElem?_map, List.getElem?_modify]
        by_cases e : i = j
        · subst e; simp [h3]
        · simp [e]
      rw [hborn]
      refine ⟨b1, fun y hy => ?_⟩
      have hm : y.born ∈ es.toList.map (·.born) := by rw [← hborn]; exact List.mem_map_of_mem hy
      obtain ⟨u, hu, hu2⟩ := List.mem_map.1 hm
      rw [← hu2]; exact b2 u hu
theorem OwnMap.put [DecidableEq κ] (K : KeyLaw P kt enc) (ht : P.underlying t = some (.map kt e)) (h : OwnMap enc w B r f) (k : κ) (v : Value) :
    ∃ w', (Instr.mapUpdate t (.map (some r)) (enc k) v).run P w = .ok () w' ∧ OwnMap enc w' B r (upd f k v) ∧ w.grownBy w' (some r) ∧ w'.heap.size = w.heap.size := by
  obtain ⟨w', h1, h2, h3, h4, _⟩ := h.putB K ht k v
  exact ⟨w', h1, h2, h3, h4⟩
end

section
variable {κ : Type} {enc : κ → Value} {P : Program} {S : World → Prop} {L : Loc} {x y u : Operand} {t kt e : TypeId} {n d : Nat} {K : Loc → World → Prop} {w : World} {o : Oper} {B r : Nat} {f : κ → Option Value} {k : κ} {v z : Value}

theorem Step.makeMap (hop : o.op = .makeMap t none) (hd : o.dst = some d) (hlt : d < n)
    (h : ∀ w', OwnMap enc w' w.heap.size w.heap.size (fun _ => none) → Below w.heap.size w w' → w'.heap.size = w.heap.size + 1 → K ((d, .map (some w.heap.size)) :: L) w') : Step P n o L w K := by
  refine Step.ofRun (w' := w.alloc (.map #[] 0)) hd hlt (fun ρ ha => ?_) (h _ (ownMap_made w) ((Below.refl _ _).alloc (Nat.le_refl _) _) (by simp))
  obtain ⟨_, op, _, _, _, _⟩ := o
  cases hop
  show Sem.run P (do pure (Next.value (← Instr.makeMap t none))) w = _
  refine run_v ?_
  show Sem.run P (do pure (Value.map (some (← newObj (.map #[] 0))))) w = _
  simp only [Sem.run_bind, run_newObj, Result.andThen_ok, Sem.run_pure]
  rfl

theorem Step.lookup {bytes size : Nat} {c : Bool} (hop : o.op = .lookup t x y c) (hd : o.dst = some d) (hlt : d < n) (KL : KeyLaw P kt enc) (ht : P.underlying t = some (.map kt e)) (hE : Elem P e size bytes z)
    (h1 : ev L x = some (.map (some r))) (h2 : ev L y = some (enc k)) (hm : OwnMap enc w B r f)
    (h : K ((d, if c = true then .tuple #[(f k).getD z, .bool (f k).isSome] else (f k).getD z) :: L) w) : Step P n o L w K := by
  obtain ⟨i, hi, hz0, hs, _⟩ := hE.parts
  have hzv : (zeroValue e).run P w = .ok z w := by simp [zeroValue, typeInfo, hi, hz0, go_sem]
  refine Step.ofRun hd hlt (fun ρ ha => ?_) h
  have e1 := ha h1
  have e2 := ha h2
  obtain ⟨_, op, _, _, _, _⟩ := o
  cases hop
  show Sem.run P (do pure (Next.value (← Instr.lookup t (ρ x) (ρ y) c))) w = _
  rw [e1, e2]
  exact run_v (hm.look KL ht hzv k c)

theorem Step.lookup1 {bytes size : Nat} {u : Value} (hop : o.op = .lookup t x y false) (hd : o.dst = some d) (hlt : d < n) (KL : KeyLaw P kt enc) (ht : P.underlying t = some (.map kt e)) (hE : Elem P e size bytes z)
    (h1 : ev L x = some (.map (some r))) (h2 : ev L y = some (enc k)) (hm : OwnMap enc w B r f) (hv : (f k).getD z = u) (h : K ((d, u) :: L) w) : Step P n o L w K :=
  Step.lookup (c := false) hop hd hlt KL ht hE h1 h2 hm (by rw [if_neg (by simp), hv]; exact h)
theorem Step.lookup2 {bytes size : Nat} {u : Value} {b : Bool} (hop : o.op = .lookup t x y true) (hd : o.dst = some d) (hlt : d < n) (KL : KeyLaw P kt enc) (ht : P.underlying t = some (.map kt e)) (hE : Elem P e size bytes z)
    (h1 : ev L x = some (.map (some r))) (h2 : ev L y = some (enc k)) (hm : OwnMap enc w B r f) (hv : (f k).getD z = u) (hs : (f k).isSome = b) (h : K ((d, .tuple #[u, .bool b]) :: L) w) : Step P n o L w K :=
  Step.lookup (c := true) hop hd hlt KL ht hE h1 h2 hm (by rw [if_pos rfl, hv, hs]; exact h)

theorem Step.mapPut [DecidableEq κ] (hop : o.op = .mapUpdate t x y u ∨ o.op = .insert t x y u) (hd : o.dst = none) (KL : KeyLaw P kt enc) (ht : P.underlying t = some (.map kt e))
    (h1 : ev L x = some (.map (some r))) (h2 : ev L y = some (enc k)) (h3 : ev L u = some v) (hm : OwnMap enc w B r f) (hB : B ≤ w.heap.size)
    (h : ∀ w', OwnMap enc w' B r (upd f k v) → w.grownBy w' (some r) → Below B w w' → w'.heap.size = w.heap.size → K L w') : Step P n o L w K := by
  obtain ⟨w', hrun, hm', hg, hsz⟩ := hm.put KL ht k v
  refine Step.ofRun0 hd (fun ρ ha => ?_) (h w' hm' hg (hm.grown hg hB) hsz)
  have e1 := ha h1
  have e2 := ha h2
  have e3 := ha h3
  obtain ⟨_, op, _, _, _, _⟩ := o
  rcases hop with hop | hop <;> cases hop <;>
  · show Sem.run P (do (Instr.mapUpdate t (ρ x) (ρ y) (ρ u)); pure Next.skip) w = _
    rw [e1, e2, e3]
    exact run_u hrun
end
end Go.Proofs.Ytbfcmfjdjldepaa.V
