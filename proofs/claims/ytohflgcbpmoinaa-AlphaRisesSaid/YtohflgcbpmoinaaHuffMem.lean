/-
  Trees as they lie in memory: a struct of a weight and a slice of symbols; what is ahead of a cut is let be.
-/
import Derived.Test.YtohflgcbpmoinaaHuffPlain
import Derived.Test.YtohflgcbpmoinaaVcutapp
namespace Go.Proofs.Ytohflgcbpmoinaa
open Go Go.RowKit V

structure TV where
  w : Nat
  p : Option Addr
  c : Nat
  s : List Nat
abbrev d0V : TV := ⟨0, none, 0, []⟩
def tvc (t : TV) : List Value := [.int .i64 (t.w : Int), .slice t.p t.s.length t.c]
def tcs (F : List TV) : List Value := F.flatMap tvc
def gV (F : List TV) (k : Nat) : TV := F.getD k d0V
theorem gV_lt {F : List TV} {k : Nat} (h : k < F.length) : gV F k = F[k] := by simp [gV, h]
theorem tcs_len (F : List TV) : (tcs F).length = F.length * 2 := by
  induction F with
  | nil => rfl
  | cons a F ih => simp [tcs, tvc] at ih ⊢; omega
theorem tcs_app (F G : List TV) : tcs (F ++ G) = tcs F ++ tcs G := by simp [tcs]
theorem tcs_cons (t : TV) (F : List TV) : tcs (t :: F) = tvc t ++ tcs F := by simp [tcs]
theorem tcs_ag {F : List TV} : ∀ {k : Nat}, k < F.length → ((tcs F).drop (k * 2)).take 2 = tvc (gV F k) := by
  induction F with
  | nil => intro k h; simp at h
  | cons x F ih =>
    intro k h
    cases k with
    | zero => simp [tcs, tvc, gV]
    | succ k =>
      have h1 : tcs (x :: F) = .int .i64 (x.w : Int) :: .slice x.p x.s.length x.c :: tcs F := by simp [tcs, tvc]
      rw [h1, show (k + 1) * 2 = k * 2 + 2 by omega, List.drop_succ_cons, List.drop_succ_cons, ih (by simpa using h)]
      simp [gV]
theorem setR_mid {P V V' Q : List Value} {j : Nat} (hj : P.length = j) (hv : V.length = V'.length) : setR (P ++ (V ++ Q)) j V' = P ++ (V' ++ Q) := by
  subst hj
  unfold setR
  rw [List.take_left, ← List.append_assoc P V Q, show P.length + V'.length = (P ++ V).length by rw [List.length_append, hv], List.drop_left, List.append_assoc]
theorem tcs_setR {J : List Value} {F : List TV} {k j : Nat} (t : TV) (hJ : J.length = k * 2) (hj : j < F.length) : setR (J ++ tcs F) ((k + j) * 2) (tvc t) = J ++ tcs (F.set j t) := by
  have hF : F = F.take j ++ F[j] :: F.drop (j + 1) := by simp
  have e2 : F.set j t = F.take j ++ t :: F.drop (j + 1) := by rw [List.set_eq_take_append_cons_drop, if_pos hj]
  rw [e2]
  conv => lhs; rw [hF]
  rw [tcs_app, tcs_app, tcs_cons, tcs_cons, ← List.append_assoc, ← List.append_assoc J]
  refine setR_mid ?_ rfl
  rw [List.length_append, tcs_len, List.length_take, hJ]
  have : min j F.length = j := by omega
  rw [this]; omega
theorem cut_ptr {p : Option Addr} {c k j : Nat} (h : c ≠ k) : Value.pointer ((cutZ p c k 2).map (·.add (j * 2))) = .pointer (p.map (·.add ((k + j) * 2))) := by
  unfold cutZ
  rw [if_neg h, Option.map_map]
  congr 2
  funext a
  show (a.add (k * 2)).add (j * 2) = _
  rw [Addr.add_add, Nat.add_mul]
/-- a cut of a cut: the same place, or an empty slice at the very end -/
theorem cut_cut {g c k j : Nat} (h : k < c) (hj : k + j ≤ c) : cutZ (cutZ (some ⟨g, 0, none⟩) c k 2) (c - k) j 2 = cutZ (some ⟨g, 0, none⟩) c (k + j) 2 ∨ (c = k + j ∧ ∃ b0 o0, cutZ (cutZ (some ⟨g, 0, none⟩) c k 2) (c - k) j 2 = some ⟨b0, o0, none⟩) := by
  have e1 : cutZ (some ⟨g, 0, none⟩) c k 2 = some ⟨g, k * 2, none⟩ := by unfold cutZ; rw [if_neg (by omega)]; simp [Addr.add_lit]
  rw [e1]
  by_cases h2 : c = k + j
  · right
    refine ⟨h2, g, k * 2, ?_⟩
    unfold cutZ; rw [if_pos (by omega)]
  · left
    unfold cutZ
    rw [if_neg (by omega), if_neg h2]
    simp [Addr.add_lit, Nat.add_mul]
theorem cutF {w : World} {B e m c k : Nat} {p : Option Addr} {J : List Value} {F : List TV} (h : OwnZ w B e 2 p m c (J ++ tcs F)) (hJ : J.length = k * 2) : Rd w (cutZ p c k 2) (tcs F) := by
  have := h.rd.cutz (c := c) (l := k) (size := 2) (by rw [h.length]; exact Nat.mul_le_mul_right 2 h.le_cap)
  rwa [← hJ, List.drop_left] at this
/-- the rows of symbols -/
def tzI (F : List TV) : List Oz := F.map fun t => ⟨3, 1, t.p, t.s.length, t.c, nv t.s⟩
theorem tzI_app (F : List TV) (t : TV) : tzI (F ++ [t]) = tzI F ++ [⟨3, 1, t.p, t.s.length, t.c, nv t.s⟩] := by simp [tzI]
theorem tzI_perm {F G : List TV} (h : F.Perm G) : (tzI F).Perm (tzI G) := h.map _
theorem row_rd {w : World} {B : Nat} {S T : List Oz} {F : List TV} {k : Nat} (h : Mz w B (S ++ (tzI F ++ T))) (hk : k < F.length) : Rd w (gV F k).p (nv (gV F k).s) := by
  have hm : (⟨3, 1, (gV F k).p, (gV F k).s.length, (gV F k).c, nv (gV F k).s⟩ : Oz) ∈ S ++ (tzI F ++ T) := by
    refine List.mem_append_right _ (List.mem_append_left _ (List.mem_map.2 ⟨gV F k, ?_, rfl⟩))
    rw [gV_lt hk]; exact List.getElem_mem hk
  exact (h.all _ hm).rd
def trOf (t : TV) : Tr := (t.w, t.s)
def trs (F : List TV) : List Tr := F.map trOf
theorem trs_len (F : List TV) : (trs F).length = F.length := by simp [trs]
theorem trs_app (F : List TV) (t : TV) : trs (F ++ [t]) = trs F ++ [(t.w, t.s)] := by simp [trs, trOf]
def ltV (a b : TV) : Bool := decide (a.w < b.w)
theorem sorted2 {F : List TV} {t0 t1 : TV} {R : List TV} (h : isort ltV F = t0 :: t1 :: R) : (∀ t ∈ trs R, t0.w ≤ t.1) ∧ (∀ t ∈ trs R, t1.w ≤ t.1) := by
  have hs := isort_sorted (lt := ltV) (fun t => (t.w : Int)) (fun a b => by unfold ltV; simp) F
  rw [h, List.pairwise_cons, List.pairwise_cons] at hs
  refine ⟨fun t ht => ?_, fun t ht => ?_⟩
  · obtain ⟨x, hx, rfl⟩ := List.mem_map.1 ht
    have := hs.1 x (List.mem_cons_of_mem _ hx)
    show t0.w ≤ x.w; omega
  · obtain ⟨x, hx, rfl⟩ := List.mem_map.1 ht
    have := hs.2.1 x hx
    show t1.w ≤ x.w; omega
theorem two_of {F : List TV} (h : 1 < F.length) : ∃ t0 t1 R, isort ltV F = t0 :: t1 :: R := by
  have hl := isort_len ltV F
  match hq : isort ltV F, hl with
  | [], hl => simp at hl; omega
  | [a], hl => simp at hl; omega
  | a :: b :: R, _ => exact ⟨a, b, R, rfl⟩
theorem take_incL (l ss : List Nat) {q : Nat} (h : q < ss.length) : incL l (ss.take (q + 1)) = (incL l (ss.take q)).set (gn ss q) (gn (incL l (ss.take q)) (gn ss q) + 1) := by
  unfold incL
  rw [List.take_add_one, List.getElem?_eq_getElem h, Option.toList_some, List.foldl_append, gn_lt h]; rfl
theorem rowIn {w : World} {B : Nat} {r a b : Oz} {T : List Oz} (h : Mz w B (r :: a :: b :: T)) : Mz w B (a :: b :: (T ++ [r])) := h.perm (List.perm_append_comm (l₁ := a :: b :: T) (l₂ := [r]))
theorem tailPerm {w : World} {B : Nat} {a b : Oz} {F G : List TV} (h : Mz w B (a :: b :: tzI F)) (hp : F.Perm G) : Mz w B (a :: b :: tzI G) := h.perm (((tzI_perm hp).symm.cons b).cons a)
theorem treesOut {w : World} {B : Nat} {L l both ss tr r0 r1 : Oz} {T : List Oz} (h : Mz w B (L :: l :: both :: ss :: tr :: r0 :: r1 :: T)) : Mz w B (tr :: l :: (T ++ [ss])) := by
  have h1 : Mz w B (l :: ss :: tr :: T) := h.er0.er1.er3.er3
  have h2 : Mz w B (ss :: tr :: l :: T) := h1.sw0.sw1
  exact rowIn h2
theorem drop_two {J : List Value} {t0 t1 : TV} {R : List TV} {k : Nat} (hJ : J.length = k * 2) : (J ++ tcs (t0 :: t1 :: R)).drop ((k + 2) * 2) = tcs R := by
  have e : (k + 2) * 2 = (J ++ (tvc t0 ++ tvc t1)).length := by simp [hJ, tvc]; omega
  rw [tcs_cons, tcs_cons, ← List.append_assoc (tvc t0), ← List.append_assoc J, e, List.drop_left]
theorem sumI_le {s : List Nat} {g : Nat → Nat} {b : Nat} (h : ∀ i ∈ s, g i ≤ b) : sumI s g ≤ s.length * b := by
  induction s with
  | nil => simp [sumI]
  | cons a s ih =>
    have h1 := h a (by simp)
    have h2 := ih fun i hi => h i (by simp [hi])
    simp only [sumI, List.map_cons, List.sum_cons, List.length_cons, Nat.add_mul] at h2 ⊢
    omega
theorem HI.slen {ws : List Nat} {F : List Tr} {l : List Nat} (h : HI ws F l) {t : Tr} (ht : t ∈ F) : t.2.length ≤ ws.length := by
  have h1 : t.2.length ≤ (F.flatMap (·.2)).length := by
    obtain ⟨a, b, hab⟩ := List.append_of_mem ht
    rw [hab, List.flatMap_append, List.flatMap_cons, List.length_append, List.length_append]; omega
  rwa [h.syms.length_eq, List.length_range] at h1
theorem HI.wle {ws : List Nat} {F : List Tr} {l : List Nat} (h : HI ws F l) (hn : ws.length ≤ 8) (hw : ∀ x ∈ ws, x ≤ 1048576) {t : Tr} (ht : t ∈ F) : t.1 ≤ 8388608 := by
  rw [h.wt t ht]
  have h1 := h.slen ht
  have h2 : ∀ i ∈ t.2, gn ws i ≤ 1048576 := fun i _ => by
    by_cases hi : i < ws.length
    · rw [gn_lt hi]; exact hw _ (List.getElem_mem hi)
    · unfold gn; rw [List.getD_eq_getElem?_getD, List.getElem?_eq_none (by omega)]; simp
  have h3 := sumI_le h2
  have : t.2.length * 1048576 ≤ 8 * 1048576 := Nat.mul_le_mul_right _ (by omega)
  omega
/-- the symbols of the two lightest -/
theorem HI.two {ws : List Nat} {t0 t1 : Tr} {R : List Tr} {l : List Nat} (h : HI ws (t0 :: t1 :: R) l) (hn : ws.length ≤ 8) : (t0.2 ++ t1.2).Nodup ∧ (∀ i ∈ t0.2 ++ t1.2, i < ws.length ∧ gn l i ≤ 7) ∧ (t0.2 ++ t1.2).length ≤ 8 := by
  have hsy := h.syms
  simp only [List.flatMap_cons] at hsy
  rw [← List.append_assoc] at hsy
  have hnd := hsy.nodup_iff.2 List.nodup_range
  have hle := hsy.length_eq
  rw [List.length_append, List.length_range] at hle
  refine ⟨(List.nodup_append.1 hnd).1, fun i hi => ⟨List.mem_range.1 (hsy.mem_iff.1 (List.mem_append_left _ hi)), ?_⟩, by omega⟩
  rcases List.mem_append.1 hi with hi | hi
  · have h1 := h.deep t0 (by simp) i hi; have := h.slen (t := t0) (by simp); omega
  · have h1 := h.deep t1 (by simp) i hi; have := h.slen (t := t1) (by simp); omega
theorem incB {l ss : List Nat} (hnd : ss.Nodup) (hlt : ∀ i ∈ ss, i < l.length ∧ gn l i ≤ 7) (q i : Nat) (hi : i ∈ ss) : gn (incL l (ss.take q)) i ≤ 8 := by
  rw [gn_incL (ss.take q) l i (hnd.sublist (List.take_sublist _ _)) (fun j hj => (hlt j (List.mem_of_mem_take hj)).1)]
  have := (hlt i hi).2
  split <;> omega
end Go.Proofs.Ytohflgcbpmoinaa
