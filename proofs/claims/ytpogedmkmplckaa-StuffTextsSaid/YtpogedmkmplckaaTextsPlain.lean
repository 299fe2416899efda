/-
  Plain: texts between flags: a flag stands nowhere else.
-/
import Derived.Test.YtpogedmkmplckaaStuffPlain
namespace Go.Proofs.Ytpogedmkmplckaa
open Go V

def flagL : List Bool := [false, true, true, true, true, true, true, false]
def beg (l : List Bool) : Bool := decide (8 ≤ l.length ∧ l.take 8 = flagL)
theorem beg_at {X : List Bool} {n : Nat} (h : beg (X.drop n) = true) : n + 8 ≤ X.length ∧ ∀ j, j < 8 → gb X (n + j) = gb flagL j := by
  have h := of_decide_eq_true h
  rw [List.length_drop] at h
  refine ⟨by omega, fun j hj => ?_⟩
  have h2 : gb ((X.drop n).take 8) j = gb flagL j := congrArg (fun l => gb l j) h.2
  rw [← h2]
  simp [gb, List.getD_eq_getElem?_getD, hj]
theorem six_no {m : List Bool} (h : runsOk 0 m) {n : Nat} (hn : n + 6 < m.length) (ht : ∀ j, 1 ≤ j → j ≤ 6 → gb m (n + j) = true) : False := by
  have hle := runs_le (runs_at (n + 7) (by omega) h)
  have step : ∀ j, 1 ≤ j → j ≤ 6 → runAt m (n + j + 1) = runAt m (n + j) + 1 := fun j h1 h2 => by
    rw [runAt_succ, ht j h1 h2]; rfl
  have h1 : runAt m (n + 2) = runAt m (n + 1) + 1 := step 1 (by omega) (by omega)
  have h2 : runAt m (n + 3) = runAt m (n + 2) + 1 := step 2 (by omega) (by omega)
  have h3 : runAt m (n + 4) = runAt m (n + 3) + 1 := step 3 (by omega) (by omega)
  have h4 : runAt m (n + 5) = runAt m (n + 4) + 1 := step 4 (by omega) (by omega)
  have h5 : runAt m (n + 6) = runAt m (n + 5) + 1 := step 5 (by omega) (by omega)
  have h6 : runAt m (n + 7) = runAt m (n + 6) + 1 := step 6 (by omega) (by omega)
  omega
theorem gb_left {p q : List Bool} {k : Nat} (h : k < p.length) : gb (p ++ q) k = gb p k := by simp [gb, List.getD_eq_getElem?_getD, List.getElem?_append_left h]
theorem gb_right {p q : List Bool} {k : Nat} : gb (p ++ q) (p.length + k) = gb q k := by simp [gb, List.getD_eq_getElem?_getD, List.getElem?_append_right]
/-- no flag begins within stuffed bits, though a flag comes behind them -/
theorem front {t R : List Bool} (h : runsOk 0 t) {n : Nat} (hn : n < t.length) : beg ((t ++ (flagL ++ R)).drop n) = false := by
  refine Bool.eq_false_iff.2 fun hb => ?_
  obtain ⟨h1, h2⟩ := beg_at hb
  have hf : ∀ j, 1 ≤ j → j ≤ 6 → gb flagL j = true := fun j a b => by
    have : j = 1 ∨ j = 2 ∨ j = 3 ∨ j = 4 ∨ j = 5 ∨ j = 6 := by omega
    rcases this with rfl | rfl | rfl | rfl | rfl | rfl <;> rfl
  by_cases hl : n + 6 < t.length
  · exact six_no h hl fun j a b => by rw [← gb_left (q := flagL ++ R) (by omega), h2 j (by omega), hf j a b]
  · have hz := h2 (t.length - n) (by omega)
    rw [show n + (t.length - n) = t.length + 0 by omega, gb_right, hf _ (by omega) (by omega)] at hz
    simp [gb, flagL] at hz
theorem beg_flag (t R : List Bool) : beg ((t ++ (flagL ++ R)).drop t.length) = true := by
  rw [List.drop_left]
  refine decide_eq_true ⟨by simp [flagL], ?_⟩
  rw [List.take_append_of_le_length (by simp [flagL])]; rfl
theorem beg_split {X : List Bool} (h : beg X = true) : X = flagL ++ X.drop 8 := by
  have h := of_decide_eq_true h
  rw [← h.2, List.take_append_drop]
def partL (T : List (List Bool)) : List Bool := T.flatMap fun t => stuffL 0 t ++ flagL
def framesL (T : List (List Bool)) : List Bool := flagL ++ partL T
theorem partL_app (T : List (List Bool)) (t : List Bool) : partL (T ++ [t]) = partL T ++ (stuffL 0 t ++ flagL) := by simp [partL]
theorem partL_cons (T : List (List Bool)) (t : List Bool) : partL (t :: T) = stuffL 0 t ++ (flagL ++ partL T) := by simp [partL]
/-- how far Split has come: what it found, what is left -/
structure SpI (l : List Bool) (out : List (List Bool)) (rest : List Bool) : Prop where
  all : framesL out ++ rest = l
theorem SpI.start {l : List Bool} (h : beg l = true) : SpI l [] (l.drop 8) := ⟨by rw [framesL]; simp [partL]; exact (beg_split h).symm⟩
theorem SpI.step {l rest t : List Bool} {out : List (List Bool)} {n : Nat} (h : SpI l out rest) (hb : beg (rest.drop n) = true) (ht : bareL 0 (rest.take n) = some t) : SpI l (out ++ [t]) (rest.drop (n + 8)) := by
  have h1 := stuff_bare (rest.take n).length (rest.take n) t 0 (Nat.le_refl _) (by omega) ht
  have h2 := beg_split hb
  rw [List.drop_drop] at h2
  refine ⟨?_⟩
  have h3 := h.all
  rw [framesL, partL_app, h1]
  rw [framesL] at h3
  rw [← h3]
  conv => rhs; rw [← List.take_append_drop n rest, h2]
  simp
/-- every other reading is the same -/
theorem SpI.only {l rest : List Bool} {out T : List (List Bool)} (h : SpI l out rest) (hp : ∃ T', T = out ++ T') (hT : framesL T = l) : ∃ T', T = out ++ T' ∧ rest = partL T' := by
  obtain ⟨T', rfl⟩ := hp
  refine ⟨T', rfl, ?_⟩
  have h1 := h.all
  rw [← hT, framesL, framesL] at h1
  have : partL (out ++ T') = partL out ++ partL T' := by simp [partL]
  rw [this, List.append_assoc] at h1
  exact List.append_cancel_left (List.append_cancel_left h1)
theorem SpI.next {rest : List Bool} {t : List Bool} {T : List (List Bool)} (h : rest = partL (t :: T)) {n : Nat} (hb : beg (rest.drop n) = true) (hn : ∀ k, k < n → beg (rest.drop k) = false) : n = (stuffL 0 t).length ∧ rest.take n = stuffL 0 t ∧ bareL 0 (rest.take n) = some t ∧ rest.drop (n + 8) = partL T := by
  rw [partL_cons] at h
  have hr := stuff_runs t 0 (by omega)
  have e : n = (stuffL 0 t).length := by
    rcases Nat.lt_trichotomy n (stuffL 0 t).length with hlt | he | hgt
    · rw [h, front hr hlt] at hb; cases hb
    · exact he
    · have := hn _ hgt
      rw [h, beg_flag] at this; cases this
  subst e
  have ht : rest.take (stuffL 0 t).length = stuffL 0 t := by rw [h, List.take_left]
  refine ⟨rfl, ht, by rw [ht]; exact bare_stuff t 0 (by omega), ?_⟩
  rw [h, ← List.append_assoc, show (stuffL 0 t).length + 8 = (stuffL 0 t ++ flagL).length by simp [flagL], List.drop_left]
theorem SpI.flag {rest : List Bool} {t : List Bool} {T : List (List Bool)} (h : rest = partL (t :: T)) : ∃ n, n < rest.length ∧ beg (rest.drop n) = true := by
  rw [partL_cons] at h
  refine ⟨(stuffL 0 t).length, by rw [h]; simp [flagL], by rw [h]; exact beg_flag _ _⟩
end Go.Proofs.Ytpogedmkmplckaa
