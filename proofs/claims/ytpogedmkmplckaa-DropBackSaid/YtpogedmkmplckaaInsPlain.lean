/-
  Plain: an element put in among others, by copies as slices.Insert makes them.
-/
import Derived.Test.YtpogedmkmplckaaDropBPlain
import Derived.Test.YtpogedmkmplckaaVheap
namespace Go.Proofs.Ytpogedmkmplckaa
open Go V

theorem ins_first {X cs : List Value} {i dl : Nat} {b : Value} {A : List Value} (hA : X.take i = A) (hi : i < X.length) (hdl : 1 ≤ dl) (hcs : cs = [b]) : (X.take i ++ cs.take dl ++ X.drop (i + Nat.min 1 dl)).take (i + 1) = A ++ [b] ∧ (X.take i ++ cs.take dl ++ X.drop (i + Nat.min 1 dl)).length = X.length := by
  subst hcs; subst hA
  have h1 : ([b] : List Value).take dl = [b] := List.take_of_length_le (by simpa using hdl)
  have h2 : Nat.min 1 dl = 1 := Nat.min_eq_left hdl
  rw [h1, h2]
  refine ⟨?_, by simp; omega⟩
  rw [List.take_append_of_le_length (by simp; omega), List.take_of_length_le (by simp; omega)]
theorem ins_then {Y R : List Value} {i m dl : Nat} {b : Value} {A : List Value} (hY : Y.take (i + 1) = A ++ [b]) (hl : Y.length = m + 1) (hR : R.length = m - i) (him : i ≤ m) (hdl : m - i ≤ dl) : Y.take (i + 1) ++ R.take dl ++ Y.drop (i + 1 + Nat.min (m - i) dl) = A ++ b :: R := by
  rw [hY, List.take_of_length_le (by omega), show Nat.min (m - i) dl = m - i from Nat.min_eq_left hdl, List.drop_of_length_le (by omega)]
  simp
/-- in place: what stands behind goes up by one, then the element comes -/
theorem ins_place {X : List Value} {x b : Value} {i m dl dl2 : Nat} (hX : X.length = m) (hi : i < m) (h1 : m - i ≤ dl) (h2 : 1 ≤ dl2) (cs : List Value) (hcs : cs = (X ++ [x]).drop i) :
    let Y := (X ++ [x]).take (i + 1) ++ cs.take dl ++ (X ++ [x]).drop (i + 1 + Nat.min (m + 1 - i) dl)
    dl = m - i → Y.take i ++ ([b] : List Value).take dl2 ++ Y.drop (i + Nat.min 1 dl2) = X.take i ++ b :: X.drop i := by
  intro Y hdl
  subst hcs
  have e1 : ([b] : List Value).take dl2 = [b] := List.take_of_length_le (by simpa using h2)
  have e2 : Nat.min 1 dl2 = 1 := Nat.min_eq_left h2
  have e3 : Nat.min (m + 1 - i) dl = m - i := by rw [hdl]; exact Nat.min_eq_right (by omega)
  have hY : Y = X.take (i + 1) ++ X.drop i := by
    show (X ++ [x]).take (i + 1) ++ ((X ++ [x]).drop i).take dl ++ (X ++ [x]).drop (i + 1 + Nat.min (m + 1 - i) dl) = _
    rw [e3, List.take_append_of_le_length (by omega), List.drop_append_of_le_length (by omega), List.take_append_of_le_length (by rw [List.length_drop]; omega), (show (X.drop i).take dl = X.drop i from List.take_of_length_le (by rw [List.length_drop]; omega)), (show (X ++ [x]).drop (i + 1 + (m - i)) = [] from List.drop_of_length_le (by simp; omega)), List.append_nil]
  rw [e1, e2, hY, List.take_append_of_le_length (by rw [List.length_take]; omega), List.take_take, Nat.min_eq_left (by omega), List.drop_append, List.drop_of_length_le (by rw [List.length_take]; omega), List.length_take, show i + 1 - min (i + 1) X.length = 0 by omega]
  simp
end Go.Proofs.Ytpogedmkmplckaa
