/-
  Maps whose keys are texts: rows of bits, a byte a bit.
-/
import Derived.Test.YtbfcmfjdjldepaaVmapz
import Derived.Test.YtbfcmfjdjldepaaVtext
namespace Go.Proofs.Ytbfcmfjdjldepaa.V
open Go Go.RowKit

theorem ba_beq (a b : ByteArray) : (a == b) = decide (a = b) := by
  obtain ⟨a⟩ := a
  obtain ⟨b⟩ := b
  show (a == b) = _
  rw [Bool.eq_iff_iff]
  simp
def keyB (r : List Bool) : List Nat := r.map fun b => if b = true then 1 else 0
abbrev encS (r : List Bool) : Value := .string (strOfNums ((keyB r).map fun x : Nat => (x : Int)))
theorem encS_inj (a b : List Bool) (h : encS a = encS b) : a = b := by
  have h1 : strOfNums ((keyB a).map fun x : Nat => (x : Int)) = strOfNums ((keyB b).map fun x : Nat => (x : Int)) := by
    unfold encS at h; injection h
  have h2 := congrArg ByteArray.toList h1
  rw [Lib.strOfNums_toList, Lib.strOfNums_toList] at h2
  have h3 : ∀ r : List Bool, Lib.bytesOf ((keyB r).map fun x : Nat => (x : Int)) = r.map fun b => if b = true then (1 : UInt8) else 0 := by
    intro r
    unfold Lib.bytesOf keyB
    rw [List.map_map, List.map_map]
    refine List.map_congr_left fun b _ => ?_
    cases b <;> rfl
  rw [h3, h3] at h2
  have h4 : ∀ (r q : List Bool), (r.map fun b => if b = true then (1 : UInt8) else 0) = (q.map fun b => if b = true then (1 : UInt8) else 0) → r = q := by
    intro r
    induction r with
    | nil => intro q h; cases q with
      | nil => rfl
      | cons y q => simp at h
    | cons x r ih => intro q h; cases q with
      | nil => simp at h
      | cons y q =>
        rw [List.map_cons, List.map_cons] at h
        obtain ⟨e1, e2⟩ := List.cons.inj h
        rw [ih q e2]
        cases x <;> cases y <;> first | rfl | (exfalso; revert e1; decide)
  exact h4 a b h2
theorem findNow_str {k : List Bool} : ∀ (es : List MapEntry) (j : Nat), (∀ e ∈ es, ∃ a, e.key = encS a) →
    ∃ r, Instr.findNow .string (encS k) es j = some r ∧ ((r = none ∧ ∀ e ∈ es, e.key ≠ encS k) ∨ ∃ i e, r = some (j + i, e.val) ∧ es[i]? = some e ∧ e.key = encS k)
  | [], j, _ => ⟨none, rfl, .inl ⟨rfl, by simp⟩⟩
  | e :: es, j, h => by
    obtain ⟨a, ha⟩ := h e (by simp)
    by_cases hka : k = a
    · subst hka
      refine ⟨some (j, e.val), ?_, .inr ⟨0, e, rfl, rfl, ha⟩⟩
      simp [Instr.findNow, ha, Instr.sameNow, encS, ba_beq]
    · obtain ⟨r, h1, h2⟩ := findNow_str (k := k) es (j + 1) fun x hx => h x (by simp [hx])
      refine ⟨r, ?_, ?_⟩
      · have hne : strOfNums ((keyB k).map fun x : Nat => (x : Int)) ≠ strOfNums ((keyB a).map fun x : Nat => (x : Int)) := fun e => hka (encS_inj k a (congrArg Value.string e))
        have hb : (strOfNums ((keyB k).map fun x : Nat => (x : Int)) == strOfNums ((keyB a).map fun x : Nat => (x : Int))) = false := by rw [ba_beq]; exact decide_eq_false hne
        simp [Instr.findNow, ha, Instr.sameNow, encS, hb, h1]
      · rcases h2 with ⟨rfl, h3⟩ | ⟨i, x, rfl, h3, h4⟩
        · refine .inl ⟨rfl, fun x hx => ?_⟩
          rcases List.mem_cons.1 hx with rfl | hx
          · rw [ha]; intro e; exact hka (encS_inj _ _ e).symm
          · exact h3 x hx
        · exact .inr ⟨i + 1, x, by rw [Nat.add_assoc, Nat.add_comm 1], by simpa using h3, h4⟩
theorem keys_str {P : Program} {kt : TypeId} (hk : P.underlying kt = some .string) : KeyLaw P kt encS where
  inj := encS_inj
  same a := by simp [Instr.sameBits, encS, ba_beq]
  check b a w := by
    show (Instr.checkKey b (9999 + 1) kt (.string _)).run P w = _
    unfold Instr.checkKey
    simp only [Sem.run_bind, run_underlying hk, Result.andThen_ok]
    rfl
  find k es w h := by
    obtain ⟨r, h1, h2⟩ := findNow_str (k := k) es 0 h
    refine ⟨r, ?_, ?_⟩
    · simp [Instr.findKey, run_underlying hk, h1, go_sem]
    · rcases h2 with h2 | ⟨i, e, h3, h4⟩
      · exact .inl h2
      · exact .inr ⟨i, e, by simpa using h3, h4⟩
end Go.Proofs.Ytbfcmfjdjldepaa.V
