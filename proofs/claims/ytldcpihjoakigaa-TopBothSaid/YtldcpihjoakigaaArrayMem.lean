/-
  The memory of an array of discs: the struct, the row of the discs, each disc an own block.
-/
import Derived.Test.YtldcpihjoakigaaArrayPlain
import Derived.Test.YtldcpihjoakigaaVtx
namespace Go.Proofs.Ytldcpihjoakigaa
open Go Go.RowKit V

abbrev arrO (g : Nat) (po : Option Addr) (n co : Nat) (lost : Int) : Oz := ⟨64, 2, some ⟨g, 0, none⟩, 1, 1, [.slice po n co, .int .i64 lost]⟩
abbrev outO (po : Option Addr) (co : Nat) (T : List Tx) : Oz := ⟨31, 1, po, T.length, co, tv T⟩
abbrev AM (w : World) (B g : Nat) (po : Option Addr) (co : Nat) (T : List Tx) (lost : Int) (S : List Oz) : Prop := Mz w B (arrO g po T.length co lost :: outO po co T :: (tz 5 T ++ S))
def dT (T : List Tx) : Discs := T.map (·.l)
theorem dT_len (T : List Tx) : (dT T).length = T.length := by simp [dT]
theorem dk_dT (T : List Tx) (j : Nat) : dk (dT T) j = (gT T j).l := by
  unfold dk dT gT
  rw [List.getD_eq_getElem?_getD, List.getD_eq_getElem?_getD, List.getElem?_map]
  cases T[j]? <;> rfl
def putT (T : List Tx) (j : Nat) (l : List Nat) : List Tx := T.set j ⟨(gT T j).p, (gT T j).c, l⟩
theorem putT_len (T : List Tx) (j : Nat) (l : List Nat) : (putT T j l).length = T.length := by simp [putT]
theorem dT_put (T : List Tx) (j : Nat) (l : List Nat) : dT (putT T j l) = (dT T).set j l := by simp [dT, putT, List.map_set]
theorem putT_self {T : List Tx} {j : Nat} (hj : j < T.length) : putT T j (gT T j).l = T := by
  unfold putT
  refine List.ext_getElem (by simp) fun i h1 h2 => ?_
  rw [List.getElem_set]
  by_cases e : j = i
  · subst e; rw [if_pos rfl, gT_lt hj]
  · rw [if_neg e]
theorem tv_put {T : List Tx} {j : Nat} {l : List Nat} (hj : j < T.length) (hl : l.length = (gT T j).l.length) : tv (putT T j l) = tv T := by
  unfold tv putT
  refine List.ext_getElem (by simp) fun i h1 h2 => ?_
  rw [List.getElem_map, List.getElem_map, List.getElem_set]
  by_cases e : j = i
  · subst e; rw [if_pos rfl]; simp only [hl, gT_lt hj]
  · rw [if_neg e]
theorem perm_at {T : List Tx} {j : Nat} (hj : j < T.length) : (tz 5 T).Perm (⟨5, 1, (gT T j).p, (gT T j).l.length, (gT T j).c, yv (gT T j).l⟩ :: tz 5 (T.eraseIdx j)) := by
  have h : T.Perm (gT T j :: T.eraseIdx j) := by
    rw [gT_lt hj, List.eraseIdx_eq_take_drop_succ]
    have e : T = T.take j ++ T[j] :: T.drop (j + 1) := by simp
    conv => lhs; rw [e]
    exact List.perm_middle
  exact h.map _
theorem front {w : World} {B : Nat} {a b : Oz} {S : List Oz} {T : List Tx} {j : Nat} (h : Mz w B (a :: b :: (tz 5 T ++ S))) (hj : j < T.length) :
    Mz w B (⟨5, 1, (gT T j).p, (gT T j).l.length, (gT T j).c, yv (gT T j).l⟩ :: a :: b :: (tz 5 (T.eraseIdx j) ++ S)) := by
  refine h.perm ?_
  refine (List.Perm.swap _ _ _).trans (List.Perm.cons _ ((List.Perm.swap _ _ _).trans (List.Perm.cons _ ?_)))
  exact ((perm_at hj).symm.append_right S)
theorem back {w : World} {B g : Nat} {po : Option Addr} {co : Nat} {lost : Int} {S : List Oz} {T : List Tx} {j : Nat} {l : List Nat} (hj : j < T.length) (hl : l.length = (gT T j).l.length)
    (h : Mz w B (⟨5, 1, (gT T j).p, (gT T j).l.length, (gT T j).c, yv l⟩ :: arrO g po T.length co lost :: outO po co T :: (tz 5 (T.eraseIdx j) ++ S))) : AM w B g po co (putT T j l) lost S := by
  have e : (⟨5, 1, (gT T j).p, (gT T j).l.length, (gT T j).c, yv l⟩ : Oz) = ⟨5, 1, (gT (putT T j l) j).p, (gT (putT T j l) j).l.length, (gT (putT T j l) j).c, yv (gT (putT T j l) j).l⟩ := by
    have : gT (putT T j l) j = ⟨(gT T j).p, (gT T j).c, l⟩ := by
      rw [gT_lt (by rw [putT_len]; exact hj)]; simp [putT]
    rw [this, hl]
  have e2 : T.eraseIdx j = (putT T j l).eraseIdx j := by simp [putT, List.eraseIdx_set_eq]
  unfold AM
  rw [putT_len, show outO po co (putT T j l) = outO po co T from by rw [show outO po co (putT T j l) = ⟨31, 1, po, (putT T j l).length, co, tv (putT T j l)⟩ from rfl, putT_len, tv_put hj hl]]
  rw [e, e2] at h
  refine h.perm (List.Perm.symm ?_)
  refine (List.Perm.swap _ _ _).trans (List.Perm.cons _ ((List.Perm.swap _ _ _).trans (List.Perm.cons _ ?_)))
  exact ((perm_at (T := putT T j l) (by rw [putT_len]; exact hj)).symm.append_right S)
theorem rowsOf_le {d : Nat} (h3 : 3 ≤ d) (h6 : d ≤ 6) : rowsOf d ≤ 24 ∧ 1 ≤ rowsOf d := by
  have : d = 3 ∨ d = 4 ∨ d = 5 ∨ d = 6 := by omega
  unfold rowsOf
  rcases this with rfl | rfl | rfl | rfl <;> omega
def rnw (D : Discs) (d j k : Nat) : List Nat := (List.range (rowsOf d)).map fun r => if r < k then othr D j r d else cel D j r
theorem rnw_len (D : Discs) (d j k : Nat) : (rnw D d j k).length = rowsOf d := by simp [rnw]
theorem rnw_zero {D : Discs} {d j : Nat} (h : Shape d D) (hj : j < d) : rnw D d j 0 = dk D j := by
  refine List.ext_getElem (by rw [rnw_len, h.rows j hj]) fun r h1 h2 => ?_
  simp only [rnw, List.getElem_map, List.getElem_range]
  rw [if_neg (by omega), cel, gn_lt h2]
theorem rnw_step {D : Discs} {d j k : Nat} : (rnw D d j k).set k (othr D j k d) = rnw D d j (k + 1) := by
  refine List.ext_getElem (by simp [rnw]) fun r h1 h2 => ?_
  rw [List.getElem_set]
  simp only [rnw, List.getElem_map, List.getElem_range]
  by_cases e : k = r
  · subst e; rw [if_pos rfl, if_pos (by omega)]
  · rw [if_neg e]
    by_cases h : r < k
    · rw [if_pos h, if_pos (by omega)]
    · rw [if_neg h, if_neg (by omega)]
theorem rnw_end (D : Discs) (d j : Nat) : D.set j (rnw D d j (rowsOf d)) = aRenew d D j := by
  unfold aRenew
  congr 1
  refine List.map_congr_left fun r hr => ?_
  rw [if_pos (List.mem_range.1 hr)]
theorem rnw_small {D : Discs} {d j k : Nat} (h : Shape d D) (r : Nat) : gn (rnw D d j k) r < 256 := by
  unfold gn rnw
  by_cases hr : r < rowsOf d
  · simp only [List.getD_eq_getElem?_getD, List.getElem?_map, List.getElem?_range hr, Option.map_some, Option.getD_some]
    split
    · exact othr_lt h _ _ _
    · exact h.small _ _
  · rw [List.getD_eq_getElem?_getD, List.getElem?_eq_none (by simp; omega)]; simp
theorem shape_put {d : Nat} {D : Discs} (h : Shape d D) {j : Nat} {l : List Nat} (hj : j < d) (hl : l.length = rowsOf d) (hs : ∀ r, gn l r < 256) : Shape d (D.set j l) := by
  refine ⟨by rw [List.length_set]; exact h.len, fun i hi => ?_, fun i q => ?_⟩
  · by_cases e : i = j
    · subst e; simp [dk, List.getD_eq_getElem?_getD, List.getElem?_set, h.len, hi, hl]
    · have : dk (D.set j l) i = dk D i := by simp [dk, List.getD_eq_getElem?_getD, List.getElem?_set, show j ≠ i from fun h => e h.symm]
      rw [this]; exact h.rows i hi
  · rw [cel_set h hj]; split
    · exact hs q
    · exact h.small i q
theorem othr_put {d : Nat} {D : Discs} (h : Shape d D) {j r n : Nat} {l : List Nat} (hj : j < d) : othr (D.set j l) j r n = othr D j r n := by
  unfold othr
  refine xr_congr fun i _ => ?_
  by_cases e : i = j
  · rw [if_pos e, if_pos e]
  · rw [if_neg e, if_neg e, cel_set h hj, if_neg e]
def manyOf (d : Nat) (kd : Int) : Int := if kd = 3 ∨ kd = 4 then (d : Int) else 24
theorem manyOf_cases (d : Nat) (kd : Int) : (kd = 3 ∨ kd = 4) ∧ manyOf d kd = d ∨ ¬ (kd = 3 ∨ kd = 4) ∧ manyOf d kd = 24 := by
  unfold manyOf; by_cases h : kd = 3 ∨ kd = 4
  · exact .inl ⟨h, if_pos h⟩
  · exact .inr ⟨h, if_neg h⟩
def nilT (n : Nat) : List Tx := List.replicate n ⟨none, 0, []⟩
theorem tv_nil (n : Nat) : tv (nilT n) = List.replicate n (.slice none 0 0) := by simp [tv, nilT]
theorem tv_fill {U : List Tx} {k d : Nat} (x : Tx) (hU : U.length = k) (hk : k < d) : (tv (U ++ nilT (d - k))).set k (.slice x.p x.l.length x.c) = tv (U ++ [x] ++ nilT (d - (k + 1))) := by
  have e : nilT (d - k) = ⟨none, 0, []⟩ :: nilT (d - (k + 1)) := by
    unfold nilT
    rw [show d - k = (d - (k + 1)) + 1 by omega, List.replicate_succ]
  rw [e]
  subst hU
  simp [tv, List.set_append]
theorem dT_app (U : List Tx) (x : Tx) : dT (U ++ [x]) = dT U ++ [x.l] := by simp [dT]
/-- one move: the discs, which is lost, what is read, the code -/
def ado (d : Nat) (D : Discs) (lost kd bl : Int) (x : Nat) : Discs × Int × Nat × Nat :=
  if kd < 1 ∨ 4 < kd then (D, lost, 0, 6)
  else if bl < 0 ∨ manyOf d kd ≤ bl then (D, lost, 0, 2)
  else if kd = 2 then (D, lost, aRead d D lost bl.toNat, 0)
  else if kd = 3 then (if 0 ≤ lost then (D, lost, 0, 7) else (aLost d D bl.toNat, bl, 0, 0))
  else if kd = 4 then (if lost ≠ bl then (D, lost, 0, 7) else (aRenew d D bl.toNat, -1, 0, 0))
  else (aWrite d D lost bl.toNat x, lost, 0, 0)
end Go.Proofs.Ytldcpihjoakigaa
