/-
  Plain: phrases: what was read before, and one more (Lempel; Ziv).
-/
import Derived.Test.YtcoplafphgpmpaaVmap2
import Derived.Test.YtcoplafphgpmpaaVbase
namespace Go.Proofs.Ytcoplafphgpmpaa
open Go V

structure PS where
  out : List (Nat × Nat)
  at_ : Nat
  kn : Nat × Nat → Option Nat
def pstep (N i b : Nat) (s : PS) : PS :=
  if (s.kn (s.at_, b)).isSome = true ∧ i + 1 < N then ⟨s.out, (s.kn (s.at_, b)).getD 0, s.kn⟩
  else ⟨s.out ++ [(s.at_, b)], 0, if (s.kn (s.at_, b)).isSome = true then s.kn else fun q => if q = (s.at_, b) then some (s.out.length + 1) else s.kn q⟩
def paTo (N : Nat) (t : List Nat) : Nat → PS := iter (fun i s => pstep N i (gn t i) s) ⟨[], 0, fun _ => none⟩
theorem paTo_succ (N : Nat) (t : List Nat) (k : Nat) : paTo N t (k + 1) = pstep N k (gn t k) (paTo N t k) := rfl
def parse (t : List Nat) : List (Nat × Nat) := (paTo t.length t t.length).out
theorem pstep_go {N i b : Nat} {s : PS} (h : (s.kn (s.at_, b)).isSome = true) (h2 : i + 1 < N) : pstep N i b s = ⟨s.out, (s.kn (s.at_, b)).getD 0, s.kn⟩ := by unfold pstep; rw [if_pos ⟨h, h2⟩]
theorem pstep_old {N i b : Nat} {s : PS} (h : (s.kn (s.at_, b)).isSome = true) (h2 : ¬ i + 1 < N) : pstep N i b s = ⟨s.out ++ [(s.at_, b)], 0, s.kn⟩ := by unfold pstep; rw [if_neg fun q => h2 q.2, if_pos h]
theorem pstep_new {N i b : Nat} {s : PS} (h : (s.kn (s.at_, b)).isSome = false) : pstep N i b s = ⟨s.out ++ [(s.at_, b)], 0, fun q => if q = (s.at_, b) then some (s.out.length + 1) else s.kn q⟩ := by unfold pstep; rw [if_neg (by simp [h]), if_neg (by simp [h])]
theorem pstep_len (N i b : Nat) (s : PS) : s.out.length ≤ (pstep N i b s).out.length ∧ (pstep N i b s).out.length ≤ s.out.length + 1 := by
  unfold pstep; split <;> simp
theorem paTo_len (N : Nat) (t : List Nat) : ∀ k, (paTo N t k).out.length ≤ k
  | 0 => by simp [paTo, iter]
  | k + 1 => by
    have := paTo_len N t k
    have := (pstep_len N k (gn t k) (paTo N t k)).2
    rw [paTo_succ]; omega
theorem paTo_mono (N : Nat) (t : List Nat) {k : Nat} : ∀ {m : Nat}, k ≤ m → (paTo N t k).out.length ≤ (paTo N t m).out.length
  | 0, h => by obtain rfl : k = 0 := by omega
               exact Nat.le_refl _
  | m + 1, h => by
    by_cases e : k = m + 1
    · rw [e]; exact Nat.le_refl _
    · have := paTo_mono N t (k := k) (m := m) (by omega)
      have := (pstep_len N m (gn t m) (paTo N t m)).1
      rw [paTo_succ]; omega
/-- what holds ahead of the last byte -/
structure PI (s : PS) : Prop where
  nd : s.out.Nodup
  mem : ∀ p, p ∈ s.out ↔ (s.kn p).isSome = true
  kn : ∀ p v, s.kn p = some v → v ≤ s.out.length
  prev : ∀ (i : Nat) (p : Nat × Nat), s.out[i]? = some p → p.1 ≤ i
  at_ : s.at_ ≤ s.out.length
theorem PI.start : PI ⟨[], 0, fun _ => none⟩ := ⟨by simp, by simp, by simp, by simp, by simp⟩
theorem pstep_PI {N i b : Nat} {s : PS} (h : PI s) (hi : i + 1 < N) : PI (pstep N i b s) := by
  cases hk : (s.kn (s.at_, b)).isSome with
  | true =>
    rw [pstep_go hk hi]
    refine ⟨h.nd, h.mem, h.kn, h.prev, ?_⟩
    obtain ⟨v, hv⟩ := Option.isSome_iff_exists.1 hk
    simp only [hv, Option.getD_some]
    exact h.kn _ v hv
  | false =>
    rw [pstep_new hk]
    have hno : (s.at_, b) ∉ s.out := fun hm => by rw [(h.mem _).1 hm] at hk; cases hk
    refine ⟨?_, fun p => ?_, fun p v hv => ?_, fun j p hj => ?_, by simp⟩
    · exact List.nodup_append.2 ⟨h.nd, by simp, fun a ha c hc e => hno (by rw [List.mem_singleton] at hc; rw [← hc, ← e]; exact ha)⟩
    · simp only [List.mem_append, List.mem_singleton, h.mem]
      by_cases e : p = (s.at_, b) <;> simp [e]
    · simp only [List.length_append, List.length_cons, List.length_nil]
      simp only at hv
      split at hv
      · injection hv with hv; omega
      · have h9 : v ≤ s.out.length := h.kn p v hv
        omega
    · rw [List.getElem?_append] at hj
      split at hj
      · exact h.prev j p hj
      · have h1 := (List.getElem?_eq_some_iff.1 hj).1
        have hjl : j = s.out.length := by simp at h1; omega
        subst hjl
        simp at hj
        rw [← hj]; exact h.at_
theorem paTo_PI (N : Nat) (t : List Nat) : ∀ k, k + 1 ≤ N → PI (paTo N t k)
  | 0, _ => PI.start
  | k + 1, h => by rw [paTo_succ]; exact pstep_PI (paTo_PI N t k (by omega)) (by omega)
theorem pstep_last {i b : Nat} {s : PS} : (pstep (i + 1) i b s).out = s.out ++ [(s.at_, b)] := by
  unfold pstep; rw [if_neg (by omega)]
/-- the first bytes make the same -/
theorem paTo_same {N M : Nat} {t u : List Nat} : ∀ {k : Nat}, k < N → k < M → (∀ j, j < k → gn t j = gn u j) → paTo N t k = paTo M u k
  | 0, _, _, _ => rfl
  | k + 1, h1, h2, h => by
    rw [paTo_succ, paTo_succ, paTo_same (N := N) (M := M) (t := t) (u := u) (k := k) (by omega) (by omega) (fun j hj => h j (by omega)), h k (by omega)]
    unfold pstep
    have e1 : (k + 1 < N) = True := eq_true h1
    have e2 : (k + 1 < M) = True := eq_true h2
    simp only [e1, e2]
theorem parse_parts {t : List Nat} (h : t ≠ []) : ∃ n, t.length = n + 1 ∧ parse t = (paTo t.length t n).out ++ [((paTo t.length t n).at_, gn t n)] ∧ PI (paTo t.length t n) := by
  cases hl : t.length with
  | zero => exact absurd (List.eq_nil_of_length_eq_zero hl) h
  | succ n =>
    refine ⟨n, rfl, ?_, paTo_PI _ _ _ (by omega)⟩
    unfold parse
    rw [hl, paTo_succ, pstep_last]
theorem parse_more (t u : List Nat) : (parse t).length ≤ (parse (t ++ u)).length := by
  by_cases h : t = []
  · subst h; simp [parse, paTo, iter]
  · obtain ⟨n, hn, h1, _⟩ := parse_parts h
    obtain ⟨m, hm, h2, _⟩ := parse_parts (t := t ++ u) (by simp [h])
    have h1l := congrArg List.length h1
    have h2l := congrArg List.length h2
    rw [List.length_append] at h1l h2l
    simp only [List.length_cons, List.length_nil] at h1l h2l
    have hnm : n ≤ m := by rw [List.length_append] at hm; omega
    have hs : paTo t.length t n = paTo (t ++ u).length (t ++ u) n := paTo_same (by omega) (by rw [List.length_append]; omega) fun j hj => by
      unfold gn; simp [List.getElem?_append, show j < t.length by omega]
    have := paTo_mono (t ++ u).length (t ++ u) hnm
    rw [← hs] at this
    omega
def gp (l : List (Nat × Nat)) (k : Nat) : Nat × Nat := l.getD k (0, 0)
theorem gp_lt {l : List (Nat × Nat)} {k : Nat} (h : k < l.length) : gp l k = l[k] := by simp [gp, h]
theorem parse_new {t : List Nat} {i j : Nat} (hi : i + 1 < (parse t).length) (hj : j < i) : gp (parse t) i ≠ gp (parse t) j := by
  have h : t ≠ [] := fun e => by subst e; simp [parse, paTo, iter] at hi
  obtain ⟨n, hn, h1, hP⟩ := parse_parts h
  rw [h1] at hi ⊢
  have hil : i < (paTo t.length t n).out.length := by simpa using hi
  have at_ : ∀ k, k < (paTo t.length t n).out.length → gp ((paTo t.length t n).out ++ [((paTo t.length t n).at_, gn t n)]) k = (paTo t.length t n).out[k]? := fun k hk => by
    unfold gp; simp [List.getElem?_append, hk]
  intro e
  have e2 : (paTo t.length t n).out[i]? = (paTo t.length t n).out[j]? := by rw [← at_ i hil, ← at_ j (by omega), e]
  have := (List.getElem?_inj hil hP.nd).1 e2
  omega
theorem parse_prev {t : List Nat} {i : Nat} (hi : i + 1 < (parse t).length) : (gp (parse t) i).1 ≤ i := by
  have h : t ≠ [] := fun e => by subst e; simp [parse, paTo, iter] at hi
  obtain ⟨n, hn, h1, hP⟩ := parse_parts h
  rw [h1] at hi ⊢
  have hil : i < (paTo t.length t n).out.length := by simpa using hi
  refine hP.prev i _ ?_
  unfold gp; simp [List.getElem?_append, hil]
theorem parse_some {t : List Nat} (h : t ≠ []) : 0 < (parse t).length := by
  obtain ⟨n, hn, h1, _⟩ := parse_parts h
  rw [h1]; simp
/-- the cells -/
def pc2 (l : List (Nat × Nat)) : List Value := l.flatMap fun p => [.int .i64 (p.1 : Int), .int .u8 (p.2 : Int)]
theorem pc2_len (l : List (Nat × Nat)) : (pc2 l).length = l.length * 2 := by
  unfold pc2; induction l with
  | nil => rfl
  | cons a l ih => simp [List.flatMap_cons, ih]; omega
theorem pc2_app (l : List (Nat × Nat)) (p : Nat × Nat) : pc2 l ++ [.int .i64 (p.1 : Int), .int .u8 (p.2 : Int)] = pc2 (l ++ [p]) := by simp [pc2]
theorem pc2_at {l : List (Nat × Nat)} : ∀ {k : Nat}, k < l.length → (pc2 l)[k * 2]? = some (.int .i64 ((gp l k).1 : Int)) ∧ ((pc2 l).drop (k * 2)).take 2 = [.int .i64 ((gp l k).1 : Int), .int .u8 ((gp l k).2 : Int)] := by
  induction l with
  | nil => intro k h; simp at h
  | cons a l ih =>
    intro k h
    cases k with
    | zero => simp [pc2, gp, List.flatMap_cons]
    | succ k =>
      have := ih (k := k) (by simpa using h)
      rw [show (k + 1) * 2 = k * 2 + 2 by omega]
      simpa [pc2, gp, List.flatMap_cons] using this
/-- the map's function -/
def knF (f : Nat × Nat → Option Nat) : Nat × Nat → Option Value := fun p => (f p).map fun v => .int .i64 (v : Int)
theorem knF_getD (f : Nat × Nat → Option Nat) (p : Nat × Nat) : (knF f p).getD (.int .i64 0) = .int .i64 (((f p).getD 0 : Nat) : Int) := by unfold knF; cases f p <;> rfl
theorem knF_isSome (f : Nat × Nat → Option Nat) (p : Nat × Nat) : (knF f p).isSome = (f p).isSome := by unfold knF; cases f p <;> rfl
theorem knF_upd (f : Nat × Nat → Option Nat) (p : Nat × Nat) (v : Nat) : upd (knF f) p (.int .i64 (v : Int)) = knF (fun q => if q = p then some v else f q) := by
  funext q
  unfold upd knF
  by_cases e : q = p <;> simp [e]
end Go.Proofs.Ytcoplafphgpmpaa
