/-
  Memory of structs, second: stores, literals, make and append of elements that take several cells; structs built and taken apart.
-/
import Derived.Test.YtbfcmfjdjldepaaVz
import Derived.Laws.StructEq
namespace Go.Proofs.Ytbfcmfjdjldepaa.V
open Go Go.RowKit

def setR (xs : List Value) (j : Nat) (vs : List Value) : List Value := xs.take j ++ vs ++ xs.drop (j + vs.length)
theorem setR_len {xs vs : List Value} {j : Nat} (h : j + vs.length ≤ xs.length) : (setR xs j vs).length = xs.length := by
  simp only [setR, List.length_append, List.length_take, List.length_drop]; omega
theorem setR_all {xs vs : List Value} (h : vs.length = xs.length) : setR xs 0 vs = vs := by
  simp [setR, h]

section
variable {P : Program} {S : World → Prop} {L : Loc} {x y : Operand} {u v : Value} {t t' s e : TypeId} {n : Nat} {K : Loc → World → Prop} {w : World} {o : Oper} {d : Nat}

theorem Step.storeZ {B bytes z m c j : Nat} {z0 : Value} {p : Option Addr} {xs : List Value} (hop : o.op = .store t x y) (hd : o.dst = none) (hf : Flat P t) (hE : Elem P t 1 bytes z0)
    (h1 : ev L x = some (.pointer (p.map (·.add j)))) (h2 : ev L y = some u) (h1c : u.oneCell' = true) (hO : OwnZ w B e z p m c xs) (hj : j < xs.length) (hB : B ≤ w.heap.size)
    (h : ∀ w', OwnZ w' B e z p m c (xs.set j u) → w.grownBy w' (Value.ownBlock (.slice p m c)) → Below B w w' → w'.heap.size = w.heap.size → K L w') : Step P n o L w K := by
  obtain ⟨g, rfl⟩ := hO.headc hj
  have hs := World.ownsRow.stored hO j u
  have hl := hO.length
  have hcell : w.cell? ⟨g, j, none⟩ = some (xs[j]'hj) := by
    rw [World.ownsRow.cellAt hO j (by omega)]; exact List.getElem?_eq_getElem _
  refine Step.ofRun0 (w' := w.setCell ⟨g, j, none⟩ u) hd (fun ρ ha => ?_) (h _ hs.1 hs.2 (below_of_ownz hO hs.2 hB) (by simp))
  have e1 := ha h1
  have e2 := ha h2
  obtain ⟨_, op, _, _, _, _⟩ := o
  cases hop
  show Sem.run P (do (Instr.storeAt t (ρ x) (ρ y)); pure Next.skip) w = _
  rw [e1, e2]
  have := run_storeFlat (P := P) (t := t) (w := w) (a := ⟨g, j, none⟩) hf hE hcell (World.ownsRow.frozenAt hO j) h1c
  rw [Option.map_some, Addr.add_lit, Nat.zero_add]
  exact run_u this

theorem Step.storeAgg {B z m c j k : Nat} {p : Option Addr} {xs vs : List Value} (hop : o.op = .store t x y) (hd : o.dst = none) (hA : Agg P t k)
    (h1 : ev L x = some (.pointer (p.map (·.add j)))) (h2 : ev L y = some (.agg vs.toArray)) (hk : vs.length = k) (h0 : 0 < k) (h1c : ∀ u ∈ vs, u.oneCell' = true) (hO : OwnZ w B e z p m c xs) (hj : j + k ≤ xs.length) (hB : B ≤ w.heap.size)
    (h : ∀ w', OwnZ w' B e z p m c (setR xs j vs) → w.grownBy w' (Value.ownBlock (.slice p m c)) → Below B w w' → w'.heap.size = w.heap.size → K L w') : Step P n o L w K := by
  obtain ⟨g, rfl⟩ := hO.headc (j := j) (by omega)
  rcases hO.2 with ⟨hv, _⟩ | ⟨g', cap, cur, hv, hb, hg, hnc, hcm, hcs, ht⟩
  · cases hv
  · cases hv
    have hl := hO.length
    have hmc : m * z ≤ c * z := Nat.mul_le_mul_right z hnc
    have hsz : j + 0 + vs.length ≤ cur.size := by omega
    have hst := run_storeCells_at (P := P) g j e vs 0 cur w hg hsz h1c
    rw [Nat.add_zero] at hst
    have hgrow : w.grownBy (w.setRow g (cur.toList.take j ++ vs ++ cur.toList.drop (j + vs.length)).toArray) (some g) :=
      ⟨rfl, rfl, rfl, by rw [setRow_size]; exact Nat.le_refl _, fun k _ hk => setRow_other w g k _ fun e => hk (by rw [e])⟩
    have hown : OwnZ (w.setRow g (cur.toList.take j ++ vs ++ cur.toList.drop (j + vs.length)).toArray) B e z (some ⟨g, 0, none⟩) m c (setR xs j vs) := by
      refine ⟨by rw [setR_len (by omega)]; exact hl, .inr ⟨g, c, _, rfl, hb, setRow_heap w g cur _ e (0, 0) hg, hnc, hcm, ?_, ?_⟩⟩
      · simp only [List.size_toArray, List.length_append, List.length_take, List.length_drop, Array.length_toList]; omega
      · rw [List.toList_toArray, ← ht]
        unfold setR
        refine List.ext_getElem? fun i => ?_
        simp only [List.getElem?_take, List.getElem?_append, List.getElem?_drop, List.length_append, List.length_take, Array.length_toList]
        rw [Nat.min_eq_left (show j ≤ cur.size by omega), Nat.min_eq_left (show m * z ≤ cur.size by omega), Nat.min_eq_left (show j ≤ m * z by omega)]
        by_cases hi : i < m * z
        · rw [if_pos hi]
          by_cases h1 : i < j + vs.length
          · rw [if_pos h1, if_pos h1]
            by_cases h2 : i < j
            · rw [if_pos h2, if_pos h2, if_pos h2, if_pos h2, if_pos (by omega)]
            · rw [if_neg h2, if_neg h2]
          · rw [if_neg h1, if_neg h1, if_pos (by omega)]
        · rw [if_neg hi, if_neg (by omega), if_neg (by omega)]
    refine Step.ofRun0 (w' := w.setRow g (cur.toList.take j ++ vs ++ cur.toList.drop (j + vs.length)).toArray) hd (fun ρ ha => ?_) (h _ hown hgrow (below_of_ownz hO hgrow hB) (by simp))
    have e1 := ha h1
    have e2 := ha h2
    obtain ⟨_, op, _, _, _, _⟩ := o
    cases hop
    show Sem.run P (do (Instr.storeAt t (ρ x) (ρ y)); pure Next.skip) w = _
    rw [e1, e2]
    rw [Option.map_some, Addr.add_lit, Nat.zero_add]
    refine run_u ?_
    obtain ⟨_, hs2⟩ := hA.run w
    rw [hk, List.append_assoc] at hst
    simp [Instr.storeAt, Instr.sureAddr, storeVar, hs2, Value.cells, hk, go_sem]
    exact hst
/-- the whole block of a variable -/
theorem Step.storeAgg0 {B m c k g : Nat} {xs vs : List Value} (hop : o.op = .store t x y) (hd : o.dst = none) (hA : Agg P t k)
    (h1 : ev L x = some (.pointer (some ⟨g, 0, none⟩))) (h2 : ev L y = some (.agg vs.toArray)) (hk : vs.length = k) (h0 : 0 < k) (h1c : ∀ u ∈ vs, u.oneCell' = true) {z : Nat} (hO : OwnZ w B e z (some ⟨g, 0, none⟩) m c xs) (hj : xs.length = k) (hB : B ≤ w.heap.size)
    (h : ∀ w', OwnZ w' B e z (some ⟨g, 0, none⟩) m c vs → w.grownBy w' (some g) → Below B w w' → w'.heap.size = w.heap.size → K L w') : Step P n o L w K :=
  Step.storeAgg (j := 0) (p := some ⟨g, 0, none⟩) hop hd hA h1 h2 hk h0 h1c hO (by omega) hB fun w' h3 h4 h5 h6 => h w' (by rw [setR_all (by omega)] at h3; exact h3) h4 h5 h6

/-! ### Parts laid into cells -/
theorem seg_foldl (off : Nat) : ∀ (l : List Value) (k : Nat) (pre zs post : List Value), pre.length = off + k → zs.length = l.length →
    (l.zipIdx k).foldl (fun (cs : Array Value) (p : Value × Nat) => cs.setIfInBounds (off + p.2) p.1) (pre ++ zs ++ post).toArray = (pre ++ l ++ post).toArray
  | [], _, pre, zs, post, _, hz => by
    obtain rfl : zs = [] := List.eq_nil_of_length_eq_zero (by simpa using hz)
    rfl
  | a :: l, k, pre, zs, post, hp, hz => by
    cases zs with
    | nil => simp at hz
    | cons z0 zs =>
      rw [List.zipIdx_cons, List.foldl_cons]
      have h1 : ((pre ++ z0 :: zs ++ post).toArray).setIfInBounds (off + k) a = ((pre ++ [a]) ++ zs ++ post).toArray := by
        rw [← hp]; simp
      rw [h1, seg_foldl off l (k + 1) (pre ++ [a]) zs post (by simp; omega) (by simpa using hz)]
      simp
theorem fill_seg {place : Nat → Option (Nat × Nat)} {i off z : Nat} {v : Value} {r : List (Nat × Value)} {pre zs post : List Value} (hpl : place i = some (off, z)) (hv : v.cells.size = z) (hp : pre.length = off) (hz : zs.length = z) :
    Instr.fill place (pre ++ zs ++ post).toArray ((i, v) :: r) = Instr.fill place (pre ++ v.cells.toList ++ post).toArray r := by
  have h := seg_foldl off v.cells.toList 0 pre zs post (by omega) (by simp; omega)
  have e : v.cells.zipIdx.foldl (fun (cs : Array Value) (p : Value × Nat) => cs.setIfInBounds (off + p.2) p.1) (pre ++ zs ++ post).toArray = (pre ++ v.cells.toList ++ post).toArray := by
    rw [← Array.foldl_toList, Array.toList_zipIdx]; exact h
  simp only [Instr.fill, hpl]
  rw [if_neg (by simp; omega)]
  exact congrArg (fun q => Instr.fill place q r) e

def litZ (L : Loc) (z : Nat) : Nat → List (Nat × Operand) → Option (List Value)
  | _, [] => some []
  | i, (j, x) :: r => bif Nat.beq i j then (match ev L x, litZ L z (i + 1) r with
    | some v, some vs => bif Nat.beq v.cells.size z then some (v.cells.toList ++ vs) else none
    | _, _ => none) else none
theorem litZ_len {z : Nat} : ∀ (parts : List (Nat × Operand)) (i : Nat) (vs : List Value), litZ L z i parts = some vs → vs.length = parts.length * z
  | [], i, vs, h => by cases h; simp
  | (j, x) :: r, i, vs, h => by
    unfold litZ at h
    cases hij : Nat.beq i j with
    | false => rw [hij] at h; cases h
    | true =>
      rw [hij] at h
      simp only [cond_true] at h
      cases hx : ev L x with
      | none => rw [hx] at h; cases h
      | some v =>
        cases hr : litZ L z (i + 1) r with
        | none => rw [hx, hr] at h; cases h
        | some us =>
          rw [hx, hr] at h
          simp only at h
          cases hb : Nat.beq v.cells.size z with
          | false => rw [hb] at h; cases h
          | true =>
            rw [hb] at h; cases h
            have := litZ_len r (i + 1) us hr
            have hz := Nat.eq_of_beq_eq_true hb
            simp [this, hz, Nat.add_mul]; omega
theorem fill_litZ {z : Nat} {ρ : Operand → Value} (ha : ∀ {x v}, ev L x = some v → ρ x = v) : ∀ (parts : List (Nat × Operand)) (i : Nat) (vs pre zs : List Value), litZ L z i parts = some vs →
    pre.length = i * z → zs.length = vs.length → Instr.fill (fun i => some (i * z, z)) (pre ++ zs).toArray (parts.map fun (i, x) => (i, ρ x)) = some (pre ++ vs).toArray
  | [], i, vs, pre, zs, h, _, hz => by
    cases h
    obtain rfl : zs = [] := List.eq_nil_of_length_eq_zero (by simpa using hz)
    rfl
  | (j, x) :: r, i, vs, pre, zs, h, hp, hzs => by
    unfold litZ at h
    cases hij : Nat.beq i j with
    | false => rw [hij] at h; cases h
    | true =>
      obtain rfl := Nat.eq_of_beq_eq_true hij
      rw [hij] at h
      simp only [cond_true] at h
      cases hx : ev L x with
      | none => rw [hx] at h; cases h
      | some v =>
        cases hr : litZ L z (i + 1) r with
        | none => rw [hx, hr] at h; cases h
        | some us =>
          rw [hx, hr] at h
          simp only at h
          cases hb : Nat.beq v.cells.size z with
          | false => rw [hb] at h; cases h
          | true =>
            rw [hb] at h; cases h
            have hz := Nat.eq_of_beq_eq_true hb
            have hl2 : zs.length = z + us.length := by rw [hzs]; simp [hz]
            have hsplit : zs = zs.take z ++ zs.drop z := (List.take_append_drop _ _).symm
            simp only [List.map_cons, ha hx]
            rw [hsplit, ← List.append_assoc, fill_seg (place := fun i => some (i * z, z)) (off := i * z) (z := z) rfl hz hp (by rw [List.length_take]; omega)]
            rw [fill_litZ ha r (i + 1) us (pre ++ v.cells.toList) (zs.drop z) hr (by simp [hp, hz, Nat.add_mul]) (by rw [List.length_drop]; omega)]
            simp
theorem Step.litZ {bytes z : Nat} {z0 : Value} {parts : List (Nat × Operand)} {vs : List Value} {len : Nat} (hop : o.op = .buildSlice t len parts.toArray) (hd : o.dst = some d) (hlt : d < n)
    (ht : P.underlying t = some (.slice e)) (hE : Elem P e z bytes z0) (hz : z0.cells.size = z) (h0 : 0 < z) (hp : litZ L z 0 parts = some vs) (hl : parts.length = len) (hsm : len * z ≤ 1000)
    (h : ∀ w', OwnZ w' w.heap.size e z (some ⟨w.heap.size, 0, none⟩) len len vs → w.grownBy w' none → Below w.heap.size w w' → w'.heap.size = w.heap.size + 1 → K ((d, .slice (some ⟨w.heap.size, 0, none⟩) len len) :: L) w') : Step P n o L w K := by
  obtain ⟨i, hi, hz0, hs, _⟩ := hE.parts
  have hvl := litZ_len parts 0 vs hp
  rw [hl] at hvl
  refine Step.ofRun (w' := w.alloc (.cells vs.toArray e)) hd hlt (fun ρ ha => ?_) (h _ ?_ (World.grownBy_alloc _ _ _) ((Below.refl _ _).alloc (Nat.le_refl _) _) (by simp))
  · obtain ⟨_, op, _, _, _, _⟩ := o
    cases hop
    show Sem.run P (do pure (Next.value (← Instr.buildSlice t len (parts.toArray.map fun (i, x) => (i, ρ x))))) w = _
    refine run_v ?_
    have hfill : ∀ A : Array Value, A.size = vs.length → Instr.fill (fun i => some (i * z, z)) A (parts.map fun x => (x.1, ρ x.2)) = some vs.toArray := fun A hA => by
      have := fill_litZ ha parts 0 vs [] A.toList hp (by simp) (by simpa using hA)
      simpa using this
    unfold Instr.buildSlice
    have hu := run_underlying (P := P) ht w
    have hsz := run_sizeOf (P := P) hi w
    rw [hs] at hsz
    have hnot' : ¬ (16777216 < len * z) := by omega
    by_cases h00 : len * z = 0
    · have hf := hfill #[] (by simp; omega)
      simp [go_sem, hu, hsz, h00, hf]
    · have hzv : (zeroValue e).run P w = .ok z0 w := by simp [zeroValue, typeInfo, hi, hz0, go_sem]
      simp [go_sem, hu, hsz, hzv, hnot', h00, hfill, hvl]
  · have := World.ownsRow_lit (e := e) (size := z) w vs.toArray len (Nat.le_refl _) (by
      have : len ≤ len * z := Nat.le_mul_of_pos_right _ h0
      unfold maxLen; omega) (by simpa using hvl)
    show World.ownsRow _ _ _ _ _ _ _
    simpa using this

theorem append_blockZ {B bytes z : Nat} {z0 : Value} {p p' : Option Addr} {m c k c' c'' : Nat} {xs news : List Value} {ty : TypeId} {w' : World} {ad : Addr} {i : TypeInfo} (ht : P.underlying t = some (.slice e)) (hi : P.info? e = some i) (hz0 : i.zero = some z0) (hsz : i.size = z) (hbs : i.bytes = bytes) (hz : z0.cells.size = z) (hzp : 0 < z)
    (hown : OwnZ w B e z p m c xs) (hr : Rd w (some ad) news) (hl : news.length = k * z) (h1c : ∀ u ∈ news, u.oneCell' = true) (hmax : m + k ≤ 9223372036854775807) (hbytes : (m + k) * bytes ≤ 140737488355328)
    (hrun : (Builtin.append_ #[t, t] ty #[.slice p m c, .slice (some ad) k c']).run P w = .ok (.slice p' (m + k) c'') w') :
    ∀ b, p' = some ⟨b, 0, none⟩ → p = some ⟨b, 0, none⟩ ∨ w.heap.size ≤ b := by
  subst hbs
  subst hsz
  intro b hb
  rcases hown.2 with ⟨hv, rfl⟩ | ⟨g, cap, cur, hv, hb0, hg, hnc, hcm, hcs, hx⟩
  · cases hv
    obtain ⟨v2, w2, hrun2, r1, _, _⟩ := run_append_own (P := P) w w.heap.size t ty e i z0 i.size i.bytes ht hi hz0 rfl rfl hz hzp (.slice none 0 0) 0 xs (by
      have hx : xs = [] := List.eq_nil_of_length_eq_zero (by have := hown.length; simpa using this)
      rw [hx]; exact World.ownsRow_nil w w.heap.size e i.size) ad k c' news hl hr.cells h1c (by unfold maxLen; omega) (by omega) (Nat.le_refl _)
    rw [hrun] at hrun2
    cases hrun2
    right
    exact (OwnZ.block (w := w') (B := w.heap.size) (e := e) (z := i.size) (xs := xs ++ news) r1 hb).1
  · cases hv
    by_cases hroom : m + k ≤ c
    · left
      obtain ⟨w2, hrun2, _, _⟩ := run_append_fits (P := P) w B t ty e i i.size ht hi rfl g m c xs hown ad k c' news hl hr.cells h1c hroom
      rw [hrun] at hrun2
      cases hrun2
      exact hb
    · right
      have hgrow := run_append_grow (P := P) w t ty e i z0 ht hi hz0 ⟨g, 0, none⟩ m c xs hown.length (fun j v hj => by
        have := hown.rd.cells j v hj; exact this) ad k c' news hl hr.cells (by omega) (by omega) (growslice_fits (by omega) hbytes)
      rw [hrun] at hgrow
      cases hgrow
      cases hb
      exact Nat.le_refl _

theorem Step.appendZ {B bytes z : Nat} {z0 : Value} {p q : Option Addr} {m c k c' : Nat} {xs news : List Value}
    (hop : o.op = .call { callee := .builtin .append, args := #[x, y], argTypes := #[t, t] }) (hd : o.dst = some d) (hlt : d < n)
    (ht : P.underlying t = some (.slice e)) (hE : Elem P e z bytes z0) (hz : z0.cells.size = z) (hzp : 0 < z)
    (h1 : ev L x = some (.slice p m c)) (h2 : ev L y = some (.slice q k c')) (hown : OwnZ w B e z p m c xs) (hr : Rd w q news) (hl : news.length = k * z) (h1c : ∀ u ∈ news, u.oneCell' = true)
    (hmax : m + k ≤ 9223372036854775807) (hby : (m + k) * bytes ≤ 140737488355328) (hB : B ≤ w.heap.size)
    (h : ∀ p' c' w', OwnZ w' B e z p' (m + k) c' (xs ++ news) → w.grownBy w' (Value.ownBlock (.slice p m c)) → Below B w w' → (∀ b, p' = some ⟨b, 0, none⟩ → p = some ⟨b, 0, none⟩ ∨ w.heap.size ≤ b) → K ((d, .slice p' (m + k) c') :: L) w') : Step P n o L w K := by
  obtain ⟨i, hi, hz0, hsz, hbs⟩ := hE.parts
  subst hbs
  subst hsz
  intro a hk Q
  have e1 := hk.ev h1; have e2 := hk.ev h2
  cases q with
  | some ad =>
    obtain ⟨v', w', hrun, r1, r2, _⟩ := run_append_own (P := P) w B t o.type e i z0 i.size i.bytes ht hi hz0 rfl rfl hz hzp (.slice p m c) m xs hown ad k c' news hl hr.cells h1c
      (by unfold maxLen; omega) hby hB
    have hshape : ∃ p' c'', v' = .slice p' (m + k) c'' := by
      rcases r1.2 with ⟨hv, hn⟩ | ⟨g, cap, cur, hv, _⟩
      · exact ⟨none, 0, by rw [hv, ← hn]⟩
      · exact ⟨_, _, hv⟩
    obtain ⟨p', c'', rfl⟩ := hshape
    unfold Oper.wp
    have hex : (execOp a.eval o).run P w = .ok (.value (.slice p' (m + k) c'')) w' := by
      simp [execOp, hop, resolve, invoke, builtin, e1, e2, hrun, Result.andThen]
    rw [hex, Oper.upon_value, hd]
    exact ⟨_, hk.put hlt _, h _ _ _ r1 r2 (below_of_ownz hown r2 hB) (append_blockZ ht hi hz0 rfl rfl hz hzp hown hr hl h1c hmax hby hrun)⟩
  | none =>
    have hnews := hr.none_nil
    subst hnews
    have hk0 : k = 0 := by
      rcases Nat.eq_zero_or_pos k with h0 | h0
      · exact h0
      · have := Nat.mul_pos h0 hzp
        simp at hl; omega
    subst hk0
    have hrun : (Builtin.append_ #[t, t] o.type #[.slice p m c, .slice none 0 c']).run P w = .ok (.slice p m c) w := by
      rcases hown.2 with ⟨hv, rfl⟩ | ⟨g, cap, cur, hv, _, _, hnc, _⟩
      · cases hv
        simp [Builtin.append_, run_underlying ht, sizeOf, typeInfo, hi, Builtin.lenOf, Builtin.firstCells]
      · cases hv
        simp [Builtin.append_, run_underlying ht, sizeOf, typeInfo, hi, Builtin.lenOf, Builtin.firstCells, hnc, storeCells]
    unfold Oper.wp
    have hex : (execOp a.eval o).run P w = .ok (.value (.slice p m c)) w := by
      simp [execOp, hop, resolve, invoke, builtin, e1, e2, hrun, Result.andThen]
    rw [hex, Oper.upon_value, hd]
    exact ⟨_, hk.put hlt _, h p c w (by simpa using hown) ⟨rfl, rfl, rfl, Nat.le_refl _, fun _ _ _ => rfl⟩ (Below.refl _ _) fun b hb => .inl hb⟩

theorem Step.makeZ {bytes z : Nat} {z0 : Value} {m : Nat} {kl kc : IntKind} {xs : List Value} (hop : o.op = .makeSlice t x y) (hd : o.dst = some d) (hlt : d < n) (ht : P.underlying t = some (.slice e)) (hE : Elem P e z bytes z0)
    (h1 : ev L x = some (.int kl (m : Int))) (h2 : ev L y = some (.int kc (m : Int))) (hm : bytes * m ≤ 281474976710656) (hml : m ≤ 281474976710656) (hx : (madeCells z0.cells (m * z)).toList = xs)
    (h : ∀ w', OwnZ w' w.heap.size e z (some ⟨w.heap.size, 0, none⟩) m m xs → w.grownBy w' none → Below w.heap.size w w' → K ((d, .slice (some ⟨w.heap.size, 0, none⟩) m m) :: L) w') : Step P n o L w K := by
  obtain ⟨i, hi, hz, hs, hb⟩ := hE.parts
  subst hb
  subst hs
  obtain ⟨w', hr, ho, hg⟩ := run_make_full (P := P) w w.heap.size t e i z0 i.size ht hi hz rfl kl kc m hm (by simp [maxLen]; omega) (Nat.le_refl _)
  refine Step.ofRun (w' := w') hd hlt (fun ρ ha => ?_) (h _ ?_ hg ((Below.refl _ w).grown hg (Nat.le_refl _) (by simp)))
  · have e1 := ha h1
    have e2 := ha h2
    obtain ⟨_, op, _, _, _, _⟩ := o
    cases hop
    show Sem.run P (do pure (Next.value (← Instr.makeSlice t (ρ x) (ρ y)))) w = _
    rw [e1, e2]
    exact run_v hr
  · rw [hx] at ho; exact ho
theorem made_one {z0 : Value} (h : z0.oneCell' = true) (m : Nat) : (madeCells z0.cells (m * 1)).toList = List.replicate m z0 := by
  rw [cells_one h, Nat.mul_one, toList_madeCells_one]
end
end Go.Proofs.Ytbfcmfjdjldepaa.V
