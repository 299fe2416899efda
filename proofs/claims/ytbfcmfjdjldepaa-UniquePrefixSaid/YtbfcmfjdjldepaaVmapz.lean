/-
  Maps that are ranged over, beside own memory and other maps; keys of two truth values.
-/
import Derived.Test.YtbfcmfjdjldepaaVmapr
import Derived.Test.YtbfcmfjdjldepaaVmap2
import Derived.ChangeKeysEq
namespace Go.Proofs.Ytbfcmfjdjldepaa.V
open Go Go.RowKit
open Go.ChangeMaps (setBlock)

/-- an array of two truth values as a key -/
structure Bool2 (P : Program) (t : TypeId) : Prop where
  out : ∃ e, P.underlying t = some (.array 2 e) ∧ P.underlying e = some .bool ∧ P.cellsOf e = 1 ∧ ∃ i, P.info? e = some i ∧ i.size = 1
abbrev encB : Bool × Bool → Value := fun a => .agg #[.bool a.1, .bool a.2]
theorem encB_inj (a b : Bool × Bool) (h : encB a = encB b) : a = b := by
  unfold encB at h
  injection h with h
  have h1 := congrArg (fun x : Array Value => x[0]?) h
  have h2 := congrArg (fun x : Array Value => x[1]?) h
  simp at h1 h2
  exact Prod.ext h1 h2
section
variable {P : Program} {kt : TypeId}
theorem part_bool {e : TypeId} (he : P.underlying e = some .bool) (x y : Value) (w : World) : (part e #[x, y] 0).run P w = .ok x w ∧ (part e #[x, y] 1).run P w = .ok y w := by
  have ag : (isAgg e).run P w = .ok false w := by unfold isAgg; simp [run_underlying he, go_sem]
  exact ⟨by simp [part, ag, go_sem], by simp [part, ag, go_sem]⟩
theorem run_equal_b2 (hk : Bool2 P kt) (a b : Bool × Bool) (w : World) : (Op.equal kt (encB a) (encB b)).run P w = .ok (decide (a = b)) w := by
  obtain ⟨e, hu, he, hc, i, hi, _⟩ := hk.out
  show (Op.equalIn (9999 + 1) kt (.agg #[.bool a.1, .bool a.2]) (.agg #[.bool b.1, .bool b.2])).run P w = _
  rw [run_equalIn_array w 9999 _ _ hu hi]
  have p1 := part_bool (P := P) he (.bool a.1) (.bool a.2) w
  have p2 := part_bool (P := P) he (.bool b.1) (.bool b.2) w
  have q : ∀ x y : Bool, (Op.equalIn 9999 e (.bool x) (.bool y)).run P w = .ok (x == y) w := fun x y => run_equalIn_bool w 9998 e x y he
  have hr : List.range 2 = [0, 1] := rfl
  rw [hr]
  simp only [Op.eqItems, hc, Nat.mul_one, Sem.run_bind, p1.1, p1.2, p2.1, p2.2, q, Result.andThen_ok]
  obtain ⟨a1, a2⟩ := a
  obtain ⟨b1, b2⟩ := b
  have ag : (isAgg e).run P w = .ok false w := by unfold isAgg; simp [run_underlying he, go_sem]
  cases a1 <;> cases a2 <;> cases b1 <;> cases b2 <;> simp [q, ag, go_sem]
theorem findAsking_bb (hk : Bool2 P kt) (k : Bool × Bool) (w : World) : ∀ (es : List MapEntry) (j : Nat), (∀ e ∈ es, ∃ a, e.key = encB a) →
    ∃ r, (Instr.findAsking kt (encB k) es j).run P w = .ok r w ∧ ((r = none ∧ ∀ e ∈ es, e.key ≠ encB k) ∨ ∃ i e, r = some (j + i, e.val) ∧ es[i]? = some e ∧ e.key = encB k)
  | [], j, _ => ⟨none, rfl, .inl ⟨rfl, by simp⟩⟩
  | e :: es, j, h => by
    obtain ⟨a, ha⟩ := h e (by simp)
    have hq := run_equal_b2 hk k a w
    by_cases hka : k = a
    · subst hka
      refine ⟨some (j, e.val), ?_, .inr ⟨0, e, rfl, rfl, ha⟩⟩
      unfold Instr.findAsking
      rw [Sem.run_bind, ha, hq]
      simp
    · obtain ⟨r, h1, h2⟩ := findAsking_bb hk k w es (j + 1) fun x hx => h x (by simp [hx])
      refine ⟨r, ?_, ?_⟩
      · unfold Instr.findAsking
        rw [Sem.run_bind, ha, hq, decide_eq_false hka]
        simpa using h1
      · rcases h2 with ⟨rfl, h3⟩ | ⟨i, x, rfl, h3, h4⟩
        · refine .inl ⟨rfl, fun x hx => ?_⟩
          rcases List.mem_cons.1 hx with rfl | hx
          · rw [ha]; intro e; exact hka (encB_inj _ _ e).symm
          · exact h3 x hx
        · exact .inr ⟨i + 1, x, by rw [Nat.add_assoc, Nat.add_comm 1], by simpa using h3, h4⟩
theorem keys_bb (hk : Bool2 P kt) : KeyLaw P kt encB where
  inj := encB_inj
  same a := by
    have s1 : ∀ x : Bool, Instr.sameBits 9999 (.bool x) (.bool x) = true := fun x => by
      show Instr.sameBits (9998 + 1) _ _ = true
      unfold Instr.sameBits
      simp
    show Instr.sameBits (9999 + 1) _ _ = true
    unfold Instr.sameBits
    simp [s1]
  check b a w := by
    obtain ⟨e, hu, he, hc, i, hi, hs⟩ := hk.out
    have p1 := part_bool (P := P) he (.bool a.1) (.bool a.2)
    have ck : ∀ (w : World) (x : Bool), (Instr.checkKey b 9999 e (.bool x)).run P w = .ok () w := fun w x => by
      show (Instr.checkKey b (9998 + 1) _ _).run P w = _
      unfold Instr.checkKey
      simp only [Sem.run_bind, run_underlying he, Result.andThen_ok]
      rfl
    show (Instr.checkKey b (9999 + 1) kt (.agg #[.bool a.1, .bool a.2])).run P w = _
    unfold Instr.checkKey
    simp only [Sem.run_bind, run_underlying hu, Result.andThen_ok]
    simp only [Std.Legacy.Range.forIn_eq_forIn_range', Std.Legacy.Range.size, Nat.sub_zero, Nat.add_one_sub_one, Nat.div_one]
    have hr : List.range' 0 2 1 = [0, 1] := rfl
    rw [hr]
    simp only [List.forIn_cons, List.forIn_nil, Sem.run_bind, run_sizeOf hi, hs, Result.andThen_ok, Nat.zero_mul, Nat.one_mul, (p1 w).1, (p1 w).2, ck, Sem.run_pure]
  find k es w h := by
    obtain ⟨e0, hu, he, hc, i, hi, hs⟩ := hk.out
    cases es with
    | nil => exact ⟨none, by simp [Instr.findKey, run_underlying hu, Instr.findNow, go_sem], .inl ⟨rfl, by simp⟩⟩
    | cons e es =>
      obtain ⟨r, h1, h2⟩ := findAsking_bb hk k w (e :: es) 0 h
      refine ⟨r, ?_, ?_⟩
      · have hn : Instr.findNow (.array 2 e0) (encB k) (e :: es) 0 = none := by
          obtain ⟨a, ha⟩ := h e (by simp)
          simp [Instr.findNow, ha, Instr.sameNow]
        simp only [Instr.findKey, Sem.run_bind, run_underlying hu, Result.andThen_ok, hn]
        exact h1
      · rcases h2 with h2 | ⟨i, x, h3, h4⟩
        · exact .inl h2
        · exact .inr ⟨i, x, by simpa using h3, h4⟩
end

section
variable {κ : Type} {enc : κ → Value} {w w' : World} {B m it : Nat} {f : κ → Option Value} {ks : List κ}
theorem own_ne {B' m' c z r : Nat} {e : TypeId} {p : Option Addr} {xs : List Value} {o : Obj} (ho : w.heap[r]? = some o) (hno : ∀ cs e s, o ≠ .cells cs e s) (hO : OwnZ w B' e z p m' c xs) : some r ≠ Value.ownBlock (.slice p m' c) := by
  rcases hO.2 with ⟨hv, _⟩ | ⟨g, cap, cur, hv, _, hg2, _⟩
  · cases hv; simp [Value.ownBlock]
  · cases hv
    simp only [Value.ownBlock]
    intro e
    injection e with e
    subst e
    rw [ho] at hg2; cases hg2
    exact hno _ _ _ rfl
theorem MapR.keep {row : Option Nat} (h : MapR enc w B m f) (hg : w.grownBy w' row) (hne : some m ≠ row) : MapR enc w' B m f := by
  have hlt := h.lt
  have hb := hg.block m hlt hne
  obtain ⟨es, cl, hm, h2⟩ := h.own
  exact ⟨⟨es, cl, by rw [hb]; exact hm, h2⟩, fun es' cl' he => h.births es' cl' (by rw [← hb]; exact he)⟩
theorem OwnIter.keep {row : Option Nat} (h : OwnIter enc w B m it ks) (hg : w.grownBy w' row) (h1 : some m ≠ row) (h2 : some it ≠ row) : OwnIter enc w' B m it ks := by
  have l1 := h.lt; have l2 := h.ltm
  obtain ⟨es, cl, seen, tr, a1, a2, r⟩ := h
  exact ⟨es, cl, seen, tr, by rw [hg.block m l2 h1]; exact a1, by rw [hg.block it l1 h2]; exact a2, r⟩
theorem MapR.offZ {B' m' c z : Nat} {e : TypeId} {p : Option Addr} {xs : List Value} (h : MapR enc w B m f) (hO : OwnZ w B' e z p m' c xs) (hg : w.grownBy w' (Value.ownBlock (.slice p m' c))) : MapR enc w' B m f := by
  obtain ⟨es, cl, hm, _⟩ := h.own
  exact h.keep hg (own_ne hm (fun _ _ _ e => by cases e) hO)
theorem OwnIter.offZ {B' m' c z : Nat} {e : TypeId} {p : Option Addr} {xs : List Value} (h : OwnIter enc w B m it ks) (hO : OwnZ w B' e z p m' c xs) (hg : w.grownBy w' (Value.ownBlock (.slice p m' c))) : OwnIter enc w' B m it ks := by
  have h0 := h
  obtain ⟨es, cl, seen, tr, a1, a2, _⟩ := h
  exact h0.keep hg (own_ne a1 (fun _ _ _ e => by cases e) hO) (own_ne a2 (fun _ _ _ e => by cases e) hO)
theorem OwnIter.ne_map {m2 B2 : Nat} {f2 : κ → Option Value} (h : OwnIter enc w B m it ks) (h2 : MapR enc w B2 m2 f2) : it ≠ m2 := by
  obtain ⟨es, cl, seen, tr, a1, a2, _⟩ := h
  obtain ⟨es2, cl2, b1, _⟩ := h2.own
  rintro rfl
  rw [a2] at b1; cases b1
theorem Mz.keep {S : List Oz} {B' r : Nat} {o : Obj} (h : Mz w B' S) (ho : w.heap[r]? = some o) (hno : ∀ cs e s, o ≠ .cells cs e s) (hg : w.grownBy w' (some r)) : Mz w' B' S := by
  refine ⟨fun o2 h2 => (h.all o2 h2).grown hg fun b off hp e => ?_, h.apart⟩
  injection e with e
  subst e
  have hall := h.all o2 h2
  rw [hp] at hall
  rcases hall.2 with ⟨hv, _⟩ | ⟨g, cap, cur, hv, _, hg2, _⟩
  · cases hv
  · cases hv
    rw [ho] at hg2; cases hg2
    exact hno _ _ _ rfl
theorem Mz.iter {S : List Oz} {B' : Nat} (h : Mz w B' S) (hi : OwnIter enc w B m it ks) (hg : w.grownBy w' (some it)) : Mz w' B' S := by
  obtain ⟨es, cl, seen, tr, a1, a2, _⟩ := hi
  exact h.keep a2 (fun _ _ _ e => by cases e) hg
theorem Mz.mapR {S : List Oz} {B' : Nat} (h : Mz w B' S) (hm : MapR enc w B m f) (hg : w.grownBy w' (some m)) : Mz w' B' S := h.map hm.own hg

variable {P : Program} {L : Loc} {x : Operand} {t kt e : TypeId} {n d : Nat} {K : Loc → World → Prop} {o : Oper}
theorem Step.nextZ (KL : KeyLaw P kt enc) (hop : o.op = .next x false) (hd : o.dst = some d) (hlt : d < n) (h1 : ev L x = some (.pointer (some ⟨it, 0, none⟩))) (hm : MapR enc w B m f) (hi : OwnIter enc w B m it ks) (hB : B ≤ w.heap.size)
    (h : ∀ (b : Bool) (cs : List Value) (w' : World), nth cs 0 = some (.bool b) → MapR enc w' B m f → Below B w w' → w.grownBy w' (some it) → w'.heap.size = w.heap.size → (b = false → (∀ a v, f a = some v → a ∈ ks) ∧ OwnIter enc w' B m it ks) → (b = true → ∃ a v, f a = some v ∧ a ∉ ks ∧ OwnIter enc w' B m it (ks ++ [a])) → K ((d, .tuple cs.toArray) :: L) w') : Step P n o L w K := by
  have hi0 := hi
  have hlti := hi.lt
  obtain ⟨es, cl, seen, tr, hb, hr, hseen, hkeys, htr, hnd, hBi, hne⟩ := hi
  obtain ⟨b1, b2⟩ := hm.births es cl hb
  obtain ⟨es2, cl2, hb2, hBm, hke, hkn, hf⟩ := hm.own
  rw [hb] at hb2; cases hb2
  intro a hk Q
  have e1 := hk.ev h1
  have fin : ∀ (cs : List Value) (w' : World), (Instr.next (.pointer (some ⟨it, 0, none⟩)) false o.type).run P w = .ok (.tuple cs.toArray) w' → K ((d, .tuple cs.toArray) :: L) w' → o.wp P a w (fun a' w' => ∃ L', Know n L' a' ∧ K L' w') Q := by
    intro cs w' hrun hK
    unfold Oper.wp
    have hex : (execOp a.eval o).run P w = .ok (.value (.tuple cs.toArray)) w' := by
      obtain ⟨_, op, ty, _, _, _⟩ := o
      cases hop
      show Sem.run P (do pure (Next.value (← Instr.next (a.eval x) false ty))) w = _
      rw [e1]
      exact run_v hrun
    rw [hex, Oper.upon_value, hd]
    exact ⟨_, hk.put hlt _, hK⟩
  rcases run_next_at (P := P) w o.type it m cl cl seen es cl hr hb b2 (Nat.le_refl _) with ⟨h0, hrun⟩ | ⟨en, hen, w1, hw1, hrun⟩
  · refine fin [.bool false] w hrun (h false [.bool false] w rfl hm (Below.refl _ _) ⟨rfl, rfl, rfl, Nat.le_refl _, fun _ _ _ => rfl⟩ rfl (fun _ => ⟨fun a v hav => ?_, hi0⟩) (fun h => by cases h))
    obtain ⟨y, hy, hy2, _⟩ := (hf a v).1 hav
    have hs : seen.contains y.born = true := by
      refine Classical.byContradiction fun hn => ?_
      have hmem : y ∈ (leftOf es seen) := by unfold leftOf; rw [Array.mem_filter]; exact ⟨by simpa using hy, by simpa using hn⟩
      have := Array.eq_empty_of_size_eq_zero h0
      rw [this] at hmem; simp at hmem
    have hs2 : y.born ∈ tr.map (·.born) := by rw [← hseen]; simpa using hs
    obtain ⟨u, hu, hu2⟩ := List.mem_map.1 hs2
    have : u = y := nodup_at b1 (htr u hu) hy hu2
    subst this
    have hk2 : enc a ∈ ks.map enc := by rw [← hkeys, ← hy2]; exact List.mem_map_of_mem hu
    obtain ⟨c, hc, hc2⟩ := List.mem_map.1 hk2
    rw [← KL.inj _ _ hc2]; exact hc
  · have hen2 : en ∈ es.toList ∧ seen.contains en.born = false := by
      unfold leftOf at hen
      simp at hen
      exact ⟨by simpa using hen.1, by simpa using hen.2⟩
    obtain ⟨c, hc⟩ := hke en hen2.1
    have hfc : f c = some en.val := (hf c en.val).2 ⟨en, hen2.1, hc, rfl⟩
    have hcn : c ∉ ks := fun hin => by
      have h3 : en.key ∈ tr.map (·.key) := by rw [hkeys, hc]; exact List.mem_map_of_mem hin
      obtain ⟨u, hu, hu2⟩ := List.mem_map.1 h3
      have : u = en := nodup_at hkn (htr u hu) hen2.1 hu2
      subst this
      have h4 : u.born ∈ seen.toList := by rw [hseen]; exact List.mem_map_of_mem hu
      have h5 := hen2.2
      simp at h5
      exact h5 (by simpa using h4)
    have hh1 : w1.heap = w.heap := by rcases hw1 with h | h <;> rw [h] <;> rfl
    have hheap : ∀ j, j ≠ it → (setBlock w1 it (.mapIter (some m) cl (seen.push en.born) cl)).heap[j]? = w.heap[j]? := fun j hj => by
      show (w1.heap.setIfInBounds it _)[j]? = _
      rw [hh1, Array.getElem?_setIfInBounds, if_neg (Ne.symm hj)]
    have hat : (setBlock w1 it (.mapIter (some m) cl (seen.push en.born) cl)).heap[it]? = some (.mapIter (some m) cl (seen.push en.born) cl) := by
      show (w1.heap.setIfInBounds it _)[it]? = _
      rw [hh1, Array.getElem?_setIfInBounds, if_pos rfl, if_pos hlti]
    have hszz : (setBlock w1 it (.mapIter (some m) cl (seen.push en.born) cl)).heap.size = w.heap.size := by
      show (w1.heap.setIfInBounds it _).size = _
      rw [Array.size_setIfInBounds, hh1]
    have hg : w.grownBy (setBlock w1 it (.mapIter (some m) cl (seen.push en.born) cl)) (some it) := by
      refine ⟨?_, ?_, ?_, by omega, fun j _ hj => hheap j (fun e => hj (by rw [e]))⟩
      · rcases hw1 with h | h <;> rw [h] <;> rfl
      · rcases hw1 with h | h <;> rw [h] <;> rfl
      · rcases hw1 with h | h <;> rw [h] <;> rfl
    have hbel : Below B w (setBlock w1 it (.mapIter (some m) cl (seen.push en.born) cl)) := (Below.refl B w).grown hg hB fun k hk => by injection hk with hk; subst hk; exact hBi
    refine fin [.bool true, en.key, en.val] _ hrun (h true _ _ rfl ⟨⟨es, cl, by rw [hheap m hne]; exact hb, hBm, hke, hkn, hf⟩, fun es' cl' he => hm.births es' cl' (by rw [← hheap m hne]; exact he)⟩ hbel hg hszz (fun h => by cases h) (fun _ => ⟨c, en.val, hfc, hcn, ?_⟩))
    refine ⟨es, cl, seen.push en.born, tr ++ [en], by rw [hheap m hne]; exact hb, hat, by simp [hseen], by simp [hkeys, hc], fun u hu => ?_, ?_, hBi, hne⟩
    · rcases List.mem_append.1 hu with hu | hu
      · exact htr u hu
      · rw [List.mem_singleton] at hu; subst hu; exact hen2.1
    · refine List.nodup_append.2 ⟨hnd, by simp, fun a ha b hb hab => ?_⟩
      rw [List.mem_singleton] at hb
      subst hb; subst hab
      exact hcn ha
end
end Go.Proofs.Ytbfcmfjdjldepaa.V
