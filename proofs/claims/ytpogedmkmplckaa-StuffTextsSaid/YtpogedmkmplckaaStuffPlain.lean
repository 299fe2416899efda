/-
  Plain: bits stuffed behind five ones.
-/
import Derived.Test.YtpogedmkmplckaaVbase
namespace Go.Proofs.Ytpogedmkmplckaa
open Go V

def nxt (ones : Nat) (b : Bool) : Nat := if b = true then ones + 1 else 0
def stuffL : Nat → List Bool → List Bool
  | _, [] => []
  | o, b :: t => b :: (if nxt o b = 5 then false :: stuffL 0 t else stuffL (nxt o b) t)
def bareL : Nat → List Bool → Option (List Bool)
  | o, [] => if o < 5 then some [] else none
  | o, b :: t => if o = 5 then (if b = true then none else bareL 0 t) else (bareL (nxt o b) t).map (b :: ·)
theorem bare_stuff : ∀ (l : List Bool) (o : Nat), o < 5 → bareL o (stuffL o l) = some l
  | [], o, h => by simp [stuffL, bareL, h]
  | b :: t, o, h => by
    have h1 : ¬ o = 5 := by omega
    unfold stuffL bareL
    rw [if_neg h1]
    by_cases e : nxt o b = 5
    · rw [if_pos e, e]
      unfold bareL
      simp [bare_stuff t 0 (by omega)]
    · rw [if_neg e, bare_stuff t (nxt o b) (by have : nxt o b ≤ o + 1 := by (unfold nxt; split <;> omega)
                                               omega)]
      rfl
theorem stuff_bare : ∀ (n : Nat) (m d : List Bool) (o : Nat), m.length ≤ n → o < 5 → bareL o m = some d → stuffL o d = m
  | n, [], d, o, _, h, hb => by
    simp only [bareL, h, if_true] at hb
    cases hb; rfl
  | 0, b :: t, d, o, hn, _, _ => by simp at hn
  | n + 1, b :: t, d, o, hn, h, hb => by
    have h1 : ¬ o = 5 := by omega
    have hlt : nxt o b ≤ 5 := by unfold nxt; split <;> omega
    rw [List.length_cons] at hn
    unfold bareL at hb
    rw [if_neg h1] at hb
    obtain ⟨d', hd', rfl⟩ := Option.map_eq_some_iff.1 hb
    unfold stuffL
    by_cases e : nxt o b = 5
    · rw [e] at hd'
      rw [if_pos e]
      cases t with
      | nil => simp [bareL] at hd'
      | cons c t' =>
        unfold bareL at hd'
        rw [if_pos rfl] at hd'
        cases c with
        | true => simp at hd'
        | false =>
          simp only [Bool.false_eq_true, if_false] at hd'
          rw [stuff_bare n t' d' 0 (by simp at hn; omega) (by omega) hd']
    · rw [if_neg e, stuff_bare n t d' (nxt o b) (by omega) (by omega) hd']
def runAt (m : List Bool) : Nat → Nat := iter (fun i s => nxt s (gb m i)) 0
theorem runAt_succ (m : List Bool) (k : Nat) : runAt m (k + 1) = nxt (runAt m k) (gb m k) := rfl
/-- no run of more than five from here -/
def runsOk : Nat → List Bool → Prop
  | s, [] => s ≤ 5
  | s, b :: t => s ≤ 5 ∧ runsOk (nxt s b) t
theorem stuff_runs : ∀ (l : List Bool) (o : Nat), o < 5 → runsOk o (stuffL o l)
  | [], o, h => by show o ≤ 5; omega
  | b :: t, o, h => by
    have hlt : nxt o b ≤ 5 := by unfold nxt; split <;> omega
    unfold stuffL
    refine ⟨by omega, ?_⟩
    by_cases e : nxt o b = 5
    · rw [if_pos e, e]
      exact ⟨Nat.le_refl _, stuff_runs t 0 (by omega)⟩
    · rw [if_neg e]; exact stuff_runs t _ (by omega)
theorem runs_at {m : List Bool} : ∀ k, k ≤ m.length → runsOk 0 m → runsOk (runAt m k) (m.drop k)
  | 0, _, h => h
  | k + 1, hk, h => by
    have ih := runs_at k (by omega) h
    rw [List.drop_eq_getElem_cons (by omega)] at ih
    rw [runAt_succ, gb_lt (by omega)]
    exact ih.2
theorem runs_le {s : Nat} {l : List Bool} (h : runsOk s l) : s ≤ 5 := by
  cases l with
  | nil => exact h
  | cons b t => exact h.1
theorem drop_gb {l : List Bool} {k : Nat} (h : k < l.length) : l.drop k = gb l k :: l.drop (k + 1) := by
  rw [List.drop_eq_getElem_cons h, gb_lt h]
end Go.Proofs.Ytpogedmkmplckaa
