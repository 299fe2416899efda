/-
  A range over a map of the call's own that the loop does not turn: in any order, each entry once.
-/
import Derived.Test.YtbfcmfjdjldepaaVmap
import Derived.Maps.RangeRun
namespace Go.Proofs.Ytbfcmfjdjldepaa.V
open Go Go.RowKit
open Go.ChangeMaps (setBlock)

section
variable {κ : Type} {enc : κ → Value} {w w' : World} {B m it : Nat} {f : κ → Option Value} {ks : List κ}
structure MapR (enc : κ → Value) (w : World) (B m : Nat) (f : κ → Option Value) : Prop where
  own : OwnMap enc w B m f
  births : Births w m
theorem MapR.lt (h : MapR enc w B m f) : m < w.heap.size := h.own.lt
theorem MapR.below (h : MapR enc w B m f) (hb : Below w.heap.size w w') : MapR enc w' B m f := ⟨h.own.below hb, fun es cl he => h.births es cl (by rw [← hb.block m h.lt]; exact he)⟩
/-- how far the loop has come: the keys that it has had -/
def OwnIter (enc : κ → Value) (w : World) (B m it : Nat) (ks : List κ) : Prop :=
  ∃ es clock seen, ∃ tr : List MapEntry, w.heap[m]? = some (.map es clock) ∧ w.heap[it]? = some (.mapIter (some m) clock seen clock) ∧ seen.toList = tr.map (·.born) ∧ tr.map (·.key) = ks.map enc ∧ (∀ e ∈ tr, e ∈ es.toList) ∧ ks.Nodup ∧ B ≤ it ∧ m ≠ it
theorem OwnIter.lt (h : OwnIter enc w B m it ks) : it < w.heap.size := by
  obtain ⟨es, cl, seen, tr, _, h2, _⟩ := h
  exact (Array.getElem?_eq_some_iff.1 h2).1
theorem OwnIter.ltm (h : OwnIter enc w B m it ks) : m < w.heap.size := by
  obtain ⟨es, cl, seen, tr, h1, _⟩ := h
  exact (Array.getElem?_eq_some_iff.1 h1).1
theorem OwnIter.nodup (h : OwnIter enc w B m it ks) : ks.Nodup := by
  obtain ⟨es, cl, seen, tr, _, _, _, _, _, h6, _⟩ := h; exact h6
theorem OwnIter.below (h : OwnIter enc w B m it ks) (hb : Below w.heap.size w w') : OwnIter enc w' B m it ks := by
  have l1 := h.lt; have l2 := h.ltm
  obtain ⟨es, cl, seen, tr, h1, h2, r⟩ := h
  exact ⟨es, cl, seen, tr, by rw [hb.block m l2]; exact h1, by rw [hb.block it l1]; exact h2, r⟩
theorem nodup_at {α β : Type} {g : α → β} {l : List α} (h : (l.map g).Nodup) {x y : α} (hx : x ∈ l) (hy : y ∈ l) (e : g x = g y) : x = y := by
  obtain ⟨i, hi, rfl⟩ := List.getElem_of_mem hx
  obtain ⟨j, hj, rfl⟩ := List.getElem_of_mem hy
  have hij : i = j := (List.getElem_inj (i := i) (j := j) (h₀ := by simpa using hi) (h₁ := by simpa using hj) h).1 (by simpa using e)
  subst hij; rfl

variable {P : Program} {L : Loc} {x : Operand} {t kt e : TypeId} {n d : Nat} {K : Loc → World → Prop} {o : Oper}
theorem Step.makeMapR (hop : o.op = .makeMap t none) (hd : o.dst = some d) (hlt : d < n)
    (h : ∀ w', MapR enc w' w.heap.size w.heap.size (fun _ => none) → Below w.heap.size w w' → w'.heap.size = w.heap.size + 1 → K ((d, .map (some w.heap.size)) :: L) w') : Step P n o L w K := by
  refine Step.ofRun (w' := w.alloc (.map #[] 0)) hd hlt (fun ρ ha => ?_) (h _ ⟨ownMap_made w, fun es cl he => ?_⟩ ((Below.refl _ _).alloc (Nat.le_refl _) _) (by simp))
  · obtain ⟨_, op, _, _, _, _⟩ := o
    cases hop
    show Sem.run P (do pure (Next.value (← Instr.makeMap t none))) w = _
    refine run_v ?_
    show Sem.run P (do pure (Value.map (some (← newObj (.map #[] 0))))) w = _
    simp only [Sem.run_bind, run_newObj, Result.andThen_ok, Sem.run_pure]
    rfl
  · unfold World.alloc at he
    rw [Array.getElem?_push_size] at he
    cases he
    exact ⟨by simp, by simp⟩
theorem Step.mapPutR [DecidableEq κ] {y u : Operand} {k : κ} {v : Value} (hop : o.op = .mapUpdate t x y u ∨ o.op = .insert t x y u) (hd : o.dst = none) (KL : KeyLaw P kt enc) (ht : P.underlying t = some (.map kt e))
    (h1 : ev L x = some (.map (some m))) (h2 : ev L y = some (enc k)) (h3 : ev L u = some v) (hm : MapR enc w B m f) (hB : B ≤ w.heap.size)
    (h : ∀ w', MapR enc w' B m (upd f k v) → w.grownBy w' (some m) → Below B w w' → w'.heap.size = w.heap.size → K L w') : Step P n o L w K := by
  obtain ⟨w', hrun, hm', hg, hsz, hbi⟩ := hm.own.putB KL ht k v
  refine Step.ofRun0 hd (fun ρ ha => ?_) (h w' ⟨hm', hbi hm.births⟩ hg (hm.own.grown hg hB) hsz)
  have e1 := ha h1
  have e2 := ha h2
  have e3 := ha h3
  obtain ⟨_, op, _, _, _, _⟩ := o
  rcases hop with hop | hop <;> cases hop <;>
  · show Sem.run P (do (Instr.mapUpdate t (ρ x) (ρ y) (ρ u)); pure Next.skip) w = _
    rw [e1, e2, e3]
    exact run_u hrun
theorem Step.rangeR (hop : o.op = .range t x) (hd : o.dst = some d) (hlt : d < n) (ht : P.underlying t = some (.map kt e)) (h1 : ev L x = some (.map (some m))) (hm : MapR enc w B m f) (hB : B ≤ w.heap.size)
    (h : ∀ w', MapR enc w' B m f → OwnIter enc w' B m w.heap.size [] → Below w.heap.size w w' → K ((d, .pointer (some ⟨w.heap.size, 0, none⟩)) :: L) w') : Step P n o L w K := by
  obtain ⟨es, cl, hb, hBm, _⟩ := hm.own
  have hlt' := hm.lt
  have hbel : Below w.heap.size w (w.alloc (.mapIter (some m) cl #[] cl)) := (Below.refl _ _).alloc (Nat.le_refl _) _
  refine Step.ofRun (w' := w.alloc (.mapIter (some m) cl #[] cl)) hd hlt (fun ρ ha => ?_) (h _ (hm.below hbel) ⟨es, cl, #[], [], ?_, ?_, rfl, rfl, by simp, by simp, hB, Nat.ne_of_lt hlt'⟩ hbel)
  · have e1 := ha h1
    obtain ⟨_, op, _, _, _, _⟩ := o
    cases hop
    show Sem.run P (do pure (Next.value (← Instr.range t (ρ x)))) w = _
    rw [e1]
    refine run_v ?_
    exact run_range_map w t kt e m es cl ht hb
  · rw [hbel.block m hlt']; exact hb
  · unfold World.alloc; exact Array.getElem?_push_size
theorem Step.nextR (KL : KeyLaw P kt enc) (hop : o.op = .next x false) (hd : o.dst = some d) (hlt : d < n) (h1 : ev L x = some (.pointer (some ⟨it, 0, none⟩))) (hm : MapR enc w B m f) (hi : OwnIter enc w B m it ks) (hB : B ≤ w.heap.size)
    (h : ∀ (b : Bool) (cs : List Value) (w' : World), nth cs 0 = some (.bool b) → MapR enc w' B m f → Below B w w' → (b = false → (∀ a v, f a = some v → a ∈ ks) ∧ OwnIter enc w' B m it ks) → (b = true → ∃ a v, f a = some v ∧ a ∉ ks ∧ OwnIter enc w' B m it (ks ++ [a])) → K ((d, .tuple cs.toArray) :: L) w') : Step P n o L w K := by
  have hi0 := hi
  have hlti := hi.lt
  obtain ⟨es, cl, seen, tr, hb, hr, hseen, hkeys, htr, hnd, hBi, hne⟩ := hi
  obtain ⟨b1, b2⟩ := hm.births es cl hb
  obtain ⟨es2, cl2, hb2, hBm, hke, hkn, hf⟩ := hm.own
  rw [hb] at hb2; cases hb2
  intro a hk Q
  have e1 := hk.ev h1
  have fin : ∀ (cs : List Value) (w' : World), (Instr.next (.pointer (some ⟨it, 0, none⟩)) false o.type).run P w = .ok (.tuple cs.toArray) w' → K ((d, .tuple cs.toArray) :: L) w' → o.wp P a w (fun a' w' => ∃ L', Know n L' a' ∧ K L' w') Q := by
    intro cs w' hrun hK
    unfold Oper.wp
    have hex : (execOp a.eval o).run P w = .ok (.value (.tuple cs.toArray)) w' := by
      obtain ⟨_, op, ty, _, _, _⟩ := o
      cases hop
      show Sem.run P (do pure (Next.value (← Instr.next (a.eval x) false ty))) w = _
      rw [e1]
      exact run_v hrun
    rw [hex, Oper.upon_value, hd]
    exact ⟨_, hk.put hlt _, hK⟩
  rcases run_next_at (P := P) w o.type it m cl cl seen es cl hr hb b2 (Nat.le_refl _) with ⟨h0, hrun⟩ | ⟨en, hen, w1, hw1, hrun⟩
  · refine fin [.bool false] w hrun (h false [.bool false] w rfl hm (Below.refl _ _) (fun _ => ⟨fun a v hav => ?_, hi0⟩) (fun h => by cases h))
    obtain ⟨y, hy, hy2, _⟩ := (hf a v).1 hav
    have hs : seen.contains y.born = true := by
      refine Classical.byContradiction fun hn => ?_
      have hmem : y ∈ (leftOf es seen) := by unfold leftOf; rw [Array.mem_filter]; exact ⟨by simpa using hy, by simpa using hn⟩
      have := Array.eq_empty_of_size_eq_zero h0
      rw [this] at hmem; simp at hmem
    have hs2 : y.born ∈ tr.map (·.born) := by rw [← hseen]; simpa using hs
    obtain ⟨u, hu, hu2⟩ := List.mem_map.1 hs2
    have : u = y := nodup_at b1 (htr u hu) hy hu2
    subst this
    have hk2 : enc a ∈ ks.map enc := by rw [← hkeys, ← hy2]; exact List.mem_map_of_mem hu
    obtain ⟨c, hc, hc2⟩ := List.mem_map.1 hk2
    rw [← KL.inj _ _ hc2]; exact hc
  · have hen2 : en ∈ es.toList ∧ seen.contains en.born = false := by
      unfold leftOf at hen
      simp at hen
      exact ⟨by simpa using hen.1, by simpa using hen.2⟩
    obtain ⟨c, hc⟩ := hke en hen2.1
    have hfc : f c = some en.val := (hf c en.val).2 ⟨en, hen2.1, hc, rfl⟩
    have hcn : c ∉ ks := fun hin => by
      have h3 : en.key ∈ tr.map (·.key) := by rw [hkeys, hc]; exact List.mem_map_of_mem hin
      obtain ⟨u, hu, hu2⟩ := List.mem_map.1 h3
      have : u = en := nodup_at hkn (htr u hu) hen2.1 hu2
      subst this
      have h4 : u.born ∈ seen.toList := by rw [hseen]; exact List.mem_map_of_mem hu
      have h5 := hen2.2
      simp at h5
      exact h5 (by simpa using h4)
    have hh1 : w1.heap = w.heap := by rcases hw1 with h | h <;> rw [h] <;> rfl
    have hheap : ∀ j, j ≠ it → (setBlock w1 it (.mapIter (some m) cl (seen.push en.born) cl)).heap[j]? = w.heap[j]? := fun j hj => by
      show (w1.heap.setIfInBounds it _)[j]? = _
      rw [hh1, Array.getElem?_setIfInBounds, if_neg (Ne.symm hj)]
    have hat : (setBlock w1 it (.mapIter (some m) cl (seen.push en.born) cl)).heap[it]? = some (.mapIter (some m) cl (seen.push en.born) cl) := by
      show (w1.heap.setIfInBounds it _)[it]? = _
      rw [hh1, Array.getElem?_setIfInBounds, if_pos rfl, if_pos hlti]
    have hszz : (setBlock w1 it (.mapIter (some m) cl (seen.push en.born) cl)).heap.size = w.heap.size := by
      show (w1.heap.setIfInBounds it _).size = _
      rw [Array.size_setIfInBounds, hh1]
    have hg : w.grownBy (setBlock w1 it (.mapIter (some m) cl (seen.push en.born) cl)) (some it) := by
      refine ⟨?_, ?_, ?_, by omega, fun j _ hj => hheap j (fun e => hj (by rw [e]))⟩
      · rcases hw1 with h | h <;> rw [h] <;> rfl
      · rcases hw1 with h | h <;> rw [h] <;> rfl
      · rcases hw1 with h | h <;> rw [h] <;> rfl
    have hbel : Below B w (setBlock w1 it (.mapIter (some m) cl (seen.push en.born) cl)) := (Below.refl B w).grown hg hB fun k hk => by injection hk with hk; subst hk; exact hBi
    refine fin [.bool true, en.key, en.val] _ hrun (h true _ _ rfl ⟨⟨es, cl, by rw [hheap m hne]; exact hb, hBm, hke, hkn, hf⟩, fun es' cl' he => hm.births es' cl' (by rw [← hheap m hne]; exact he)⟩ hbel (fun h => by cases h) (fun _ => ⟨c, en.val, hfc, hcn, ?_⟩))
    refine ⟨es, cl, seen.push en.born, tr ++ [en], by rw [hheap m hne]; exact hb, hat, by simp [hseen], by simp [hkeys, hc], fun u hu => ?_, ?_, hBi, hne⟩
    · rcases List.mem_append.1 hu with hu | hu
      · exact htr u hu
      · rw [List.mem_singleton] at hu; subst hu; exact hen2.1
    · refine List.nodup_append.2 ⟨hnd, by simp, fun a ha b hb hab => ?_⟩
      rw [List.mem_singleton] at hb
      subst hb; subst hab
      exact hcn ha
theorem Step.entryR (KL : KeyLaw P kt enc) {a : κ} {v : Value} (hop : o.op = .entry x) (hd : o.dst = some d) (hlt : d < n) (h1 : ev L x = some (.pointer (some ⟨it, 0, none⟩))) (hm : MapR enc w B m f) (hi : OwnIter enc w B m it (ks ++ [a])) (hv : f a = some v)
    (h : K ((d, .tuple #[enc a, v]) :: L) w) : Step P n o L w K := by
  obtain ⟨es, cl, seen, tr, hb, hr, hseen, hkeys, htr, hnd, hBi, hne⟩ := hi
  obtain ⟨b1, b2⟩ := hm.births es cl hb
  obtain ⟨es2, cl2, hb2, hBm, hke, hkn, hf⟩ := hm.own
  rw [hb] at hb2; cases hb2
  rw [List.map_append] at hkeys
  obtain ⟨tr1, tr2, rfl, hk1, hk2⟩ := List.map_eq_append_iff.1 hkeys
  obtain ⟨en, rfl, hen⟩ : ∃ en, tr2 = [en] ∧ en.key = enc a := by
    cases tr2 with
    | nil => simp at hk2
    | cons en tr3 =>
      cases tr3 with
      | nil => exact ⟨en, rfl, by simpa using hk2⟩
      | cons b c => simp at hk2
  have hmem : en ∈ es.toList := htr en (by simp)
  obtain ⟨y, hy, hy2, hy3⟩ := (hf a v).1 hv
  have : y = en := nodup_at hkn hy hmem (hy2.trans hen.symm)
  subst this
  have hsn : seen = (tr1.map (·.born)).toArray.push y.born := by
    apply Array.ext'
    rw [hseen]; simp
  rw [hsn] at hr
  refine Step.ofRun (w' := w) hd hlt (fun ρ ha => ?_) h
  have e1 := ha h1
  obtain ⟨_, op, _, _, _, _⟩ := o
  cases hop
  show Sem.run P (do pure (Next.value (← Instr.entry (ρ x)))) w = _
  rw [e1]
  refine run_v ?_
  rw [run_entry_at w it m cl _ es cl y hr hb hmem b1, hen, hy3]
theorem Step.mapLen (hop : o.op = .call { callee := .builtin .len, args := #[x], argTypes := #[t] }) (hd : o.dst = some d) (hlt : d < n) (ht : P.underlying t = some (.map kt e)) (h1 : ev L x = some (.map (some m))) (KL : KeyLaw P kt enc) (hm : MapR enc w B m f)
    (hks : ∀ a, a ∈ ks ↔ (f a).isSome = true) (hnd : ks.Nodup) (h : K ((d, .int .i64 (ks.length : Int)) :: L) w) : Step P n o L w K := by
  obtain ⟨es, cl, hb, hBm, hke, hkn, hf⟩ := hm.own
  have hlen : es.size = ks.length := by
    have hp : (es.toList.map (·.key)).Perm (ks.map enc) := by
      refine (List.perm_ext_iff_of_nodup hkn ?_).2 fun u => ?_
      · exact List.Pairwise.map _ (fun a b hab e => hab (KL.inj _ _ e)) hnd
      · constructor
        · intro hu
          obtain ⟨y, hy, rfl⟩ := List.mem_map.1 hu
          obtain ⟨c, hc⟩ := hke y hy
          rw [hc]
          exact List.mem_map_of_mem ((hks c).2 (by rw [(hf c y.val).2 ⟨y, hy, hc, rfl⟩]; rfl))
        · intro hu
          obtain ⟨c, hc, rfl⟩ := List.mem_map.1 hu
          obtain ⟨v, hv⟩ := Option.isSome_iff_exists.1 ((hks c).1 hc)
          obtain ⟨y, hy, hy2, _⟩ := (hf c v).1 hv
          rw [← hy2]; exact List.mem_map_of_mem hy
    have := hp.length_eq
    simpa using this
  refine Step.ofRun (w' := w) hd hlt (fun ρ ha => ?_) h
  have e1 := ha h1
  obtain ⟨_, op, _, _, _, _⟩ := o
  cases hop
  have hg : (getObj m).run P w = .ok (.map es cl) w := by simp [getObj, Sem.run, hb]
  simp [execOp, resolve, invoke, builtin, Builtin.len_, e1, run_underlying ht, goInt, go_sem, hg, hlen]
end
end Go.Proofs.Ytbfcmfjdjldepaa.V
