/-
  Plain: an array of discs with a check in each row, one of which may be lost (Patterson, Gibson and Katz).
-/
import Derived.Test.YtldcpihjoakigaaStripePlain
import Derived.Test.YtldcpihjoakigaaVheap
namespace Go.Proofs.Ytldcpihjoakigaa
open Go V

/-- f 0, .., f (n-1) together -/
def xr (f : Nat → Nat) : Nat → Nat := iter (fun i s => s ^^^ f i) 0
theorem xr_succ (f : Nat → Nat) (n : Nat) : xr f (n + 1) = xr f n ^^^ f n := rfl
theorem xr_congr {f g : Nat → Nat} : ∀ {n : Nat}, (∀ i, i < n → f i = g i) → xr f n = xr g n
  | 0, _ => rfl
  | n + 1, h => by rw [xr_succ, xr_succ, xr_congr (n := n) fun i hi => h i (by omega), h n (by omega)]
theorem xr_at {f : Nat → Nat} {j v : Nat} : ∀ {n : Nat}, j < n → xr (fun i => if i = j then v else f i) n = xr f n ^^^ f j ^^^ v
  | 0, h => by omega
  | n + 1, h => by
    rw [xr_succ, xr_succ]
    by_cases e : j = n
    · subst e
      rw [if_pos rfl, xr_congr (g := f) fun i hi => if_neg (by omega), Nat.xor_assoc (xr f j) (f j) (f j), Nat.xor_self, Nat.xor_zero]
    · rw [if_neg (by omega), xr_at (by omega)]
      ac_rfl
theorem xr_lt {f : Nat → Nat} {m : Nat} (h : ∀ i, f i < 2 ^ m) : ∀ n, xr f n < 2 ^ m
  | 0 => Nat.two_pow_pos m
  | n + 1 => by rw [xr_succ]; exact Nat.xor_lt_two_pow (xr_lt h n) (h n)
theorem xr_zero : ∀ n, xr (fun _ => 0) n = 0
  | 0 => rfl
  | n + 1 => by rw [xr_succ, xr_zero n]; rfl

abbrev Discs := List (List Nat)
def dk (D : Discs) (j : Nat) : List Nat := D.getD j []
def cel (D : Discs) (j r : Nat) : Nat := gn (dk D j) r
def setc (D : Discs) (j r v : Nat) : Discs := D.set j ((dk D j).set r v)
def rowsOf (d : Nat) : Nat := (24 + d - 2) / (d - 1)
def othr (D : Discs) (j r : Nat) : Nat → Nat := xr fun i => if i = j then 0 else cel D i r
theorem othr_succ (D : Discs) (j r k : Nat) : othr D j r (k + 1) = if k = j then othr D j r k else othr D j r k ^^^ cel D k r := by
  unfold othr; rw [xr_succ]; split
  · rw [Nat.xor_zero]
  · rfl
structure Shape (d : Nat) (D : Discs) : Prop where
  len : D.length = d
  rows : ∀ j, j < d → (dk D j).length = rowsOf d
  small : ∀ j r, cel D j r < 256
theorem cel_setc {d : Nat} {D : Discs} (h : Shape d D) {j r v i q : Nat} (hj : j < d) (hr : r < rowsOf d) : cel (setc D j r v) i q = if i = j ∧ q = r then v else cel D i q := by
  have hl := h.len
  have hrow := h.rows j hj
  unfold cel setc
  by_cases e : i = j
  · subst e
    have : dk (D.set i ((dk D i).set r v)) i = (dk D i).set r v := by simp [dk, List.getD_eq_getElem?_getD, List.getElem?_set, hl, hj]
    rw [this]
    by_cases e2 : q = r
    · subst e2
      rw [if_pos ⟨rfl, rfl⟩]
      simp [gn, List.getD_eq_getElem?_getD, List.getElem?_set, hrow, hr]
    · rw [if_neg (fun h => e2 h.2)]
      simp [gn, List.getD_eq_getElem?_getD, List.getElem?_set, show r ≠ q from fun h => e2 h.symm]
  · rw [if_neg (fun h => e h.1)]
    have : dk (D.set j ((dk D j).set r v)) i = dk D i := by simp [dk, List.getD_eq_getElem?_getD, List.getElem?_set, show j ≠ i from fun h => e h.symm]
    rw [this]
theorem dk_setc {d : Nat} {D : Discs} (h : Shape d D) {j r v i : Nat} (hj : j < d) : dk (setc D j r v) i = if i = j then (dk D j).set r v else dk D i := by
  have hl := h.len
  unfold setc
  by_cases e : i = j
  · subst e; rw [if_pos rfl]; simp [dk, List.getD_eq_getElem?_getD, List.getElem?_set, hl, hj]
  · rw [if_neg e]; simp [dk, List.getD_eq_getElem?_getD, List.getElem?_set, show j ≠ i from fun h => e h.symm]
theorem Shape.setc {d : Nat} {D : Discs} (h : Shape d D) {j r v : Nat} (hj : j < d) (hr : r < rowsOf d) (hv : v < 256) : Shape d (setc D j r v) := by
  refine ⟨by rw [Go.Proofs.Ytldcpihjoakigaa.setc, List.length_set]; exact h.len, fun i hi => ?_, fun i q => ?_⟩
  · rw [dk_setc h hj]; split
    · rw [List.length_set]; exact h.rows j hj
    · exact h.rows i hi
  · rw [cel_setc h hj hr]; split
    · exact hv
    · exact h.small i q
/-- one whole disc is another one -/
theorem cel_set {d : Nat} {D : Discs} (h : Shape d D) {j i q : Nat} {l : List Nat} (hj : j < d) : cel (D.set j l) i q = if i = j then gn l q else cel D i q := by
  have hl := h.len
  unfold cel
  by_cases e : i = j
  · subst e; rw [if_pos rfl]
    have : dk (D.set i l) i = l := by simp [dk, List.getD_eq_getElem?_getD, List.getElem?_set, hl, hj]
    rw [this]
  · rw [if_neg e]
    have : dk (D.set j l) i = dk D i := by simp [dk, List.getD_eq_getElem?_getD, List.getElem?_set, show j ≠ i from fun h => e h.symm]
    rw [this]
def aRead (d : Nat) (D : Discs) (lost : Int) (b : Nat) : Nat := if (discOf d b : Int) = lost then othr D (discOf d b) (rowOf d b) d else cel D (discOf d b) (rowOf d b)
def aSet (D : Discs) (lost : Int) (j r v : Nat) : Discs := if (j : Int) = lost then D else setc D j r v
def chk (d r : Nat) : Nat := d - 1 - r % d
def aWrite (d : Nat) (D : Discs) (lost : Int) (b v : Nat) : Discs :=
  aSet (aSet D lost (chk d (rowOf d b)) (rowOf d b) (cel D (chk d (rowOf d b)) (rowOf d b) ^^^ aRead d D lost b ^^^ v)) lost (discOf d b) (rowOf d b) v
def aLost (d : Nat) (D : Discs) (j : Nat) : Discs := D.set j (List.replicate (rowsOf d) 0)
def aRenew (d : Nat) (D : Discs) (j : Nat) : Discs := D.set j ((List.range (rowsOf d)).map fun r => othr D j r d)

/-- what the discs say: L is what stands there, lost or not -/
structure AI (d : Nat) (blocks : List Nat) (D : Discs) (lost : Int) (L : Nat → Nat → Nat) : Prop where
  shape : Shape d D
  lost_ : -1 ≤ lost ∧ lost < d
  there : ∀ j r, j < d → r < rowsOf d → (j : Int) ≠ lost → cel D j r = L j r
  par : ∀ r, r < rowsOf d → xr (fun j => L j r) d = 0
  blk : ∀ b, b < 24 → L (discOf d b) (rowOf d b) = gn blocks b
  small : ∀ j r, L j r < 256
theorem AI.oth {d : Nat} {blocks : List Nat} {D : Discs} {lost : Int} {L : Nat → Nat → Nat} (h : AI d blocks D lost L) {j r : Nat} (hj : j < d) (hr : r < rowsOf d) (hl : lost = -1 ∨ lost = (j : Int)) : othr D j r d = L j r := by
  have e : othr D j r d = xr (fun i => if i = j then 0 else (fun i => L i r) i) d := xr_congr fun i hi => by
    by_cases e : i = j
    · rw [if_pos e, if_pos e]
    · rw [if_neg e, if_neg e]; exact h.there i r hi hr (by omega)
  rw [e, xr_at hj, h.par r hr, Nat.zero_xor, Nat.xor_zero]
theorem place_ok {d b : Nat} (hd : 3 ≤ d) (hd6 : d ≤ 6) (hb : b < 24) : discOf d b < d ∧ discOf d b ≠ chk d (rowOf d b) ∧ chk d (rowOf d b) < d ∧ rowOf d b < rowsOf d := by
  obtain ⟨h1, h2, _⟩ := stripe_apart hd hd6 hb hb
  refine ⟨h1, h2, by unfold chk; omega, ?_⟩
  unfold rowOf rowsOf
  have : d = 3 ∨ d = 4 ∨ d = 5 ∨ d = 6 := by omega
  rcases this with rfl | rfl | rfl | rfl <;> omega
theorem AI.read {d : Nat} {blocks : List Nat} {D : Discs} {lost : Int} {L : Nat → Nat → Nat} (h : AI d blocks D lost L) (hd : 3 ≤ d) (hd6 : d ≤ 6) {b : Nat} (hb : b < 24) : aRead d D lost b = gn blocks b := by
  obtain ⟨h1, h2, h3, h4⟩ := place_ok hd hd6 hb
  rw [← h.blk b hb]
  unfold aRead
  by_cases e : (discOf d b : Int) = lost
  · rw [if_pos e]; exact h.oth h1 h4 (.inr e.symm)
  · rw [if_neg e]; exact h.there _ _ h1 h4 e
theorem x256 {a b : Nat} (ha : a < 256) (hb : b < 256) : a ^^^ b < 256 := Nat.xor_lt_two_pow (n := 8) ha hb
theorem othr_lt {d : Nat} {D : Discs} (h : Shape d D) (j r k : Nat) : othr D j r k < 256 := xr_lt (m := 8) (fun i => by split; omega; exact h.small i r) k
theorem aRead_lt {d : Nat} {D : Discs} (h : Shape d D) (lost : Int) (b : Nat) : aRead d D lost b < 256 := by
  unfold aRead; split
  · exact othr_lt h _ _ _
  · exact h.small _ _
theorem aSet_shape {d : Nat} {D : Discs} (h : Shape d D) {lost : Int} {j r v : Nat} (hj : j < d) (hr : r < rowsOf d) (hv : v < 256) : Shape d (aSet D lost j r v) := by
  unfold aSet; split
  · exact h
  · exact h.setc hj hr hv
theorem aWrite_shape {d : Nat} {D : Discs} (h : Shape d D) {lost : Int} (hd : 3 ≤ d) (hd6 : d ≤ 6) {b v : Nat} (hb : b < 24) (hv : v < 256) : Shape d (aWrite d D lost b v) := by
  obtain ⟨h1, h2, h3, h4⟩ := place_ok hd hd6 hb
  exact aSet_shape (aSet_shape h h3 h4 (x256 (x256 (h.small _ _) (aRead_lt h _ _)) hv)) h1 h4 hv
theorem AI.write {d : Nat} {blocks : List Nat} {D : Discs} {lost : Int} {L : Nat → Nat → Nat} (h : AI d blocks D lost L) (hd : 3 ≤ d) (hd6 : d ≤ 6) {b v : Nat} (hb : b < 24) (hv : v < 256) (hbl : blocks.length = 24) :
    ∃ L', AI d (blocks.set b v) (aWrite d D lost b v) lost L' := by
  obtain ⟨h1, h2, h3, h4⟩ := place_ok hd hd6 hb
  have hrd := h.read hd hd6 hb
  have hwas := h.blk b hb
  have hsh1 := aSet_shape h.shape (lost := lost) h3 h4 (x256 (x256 (h.shape.small (chk d (rowOf d b)) (rowOf d b)) (aRead_lt h.shape lost b)) hv)
  refine ⟨fun j r => if r = rowOf d b then (if j = discOf d b then v else if j = chk d (rowOf d b) then L j r ^^^ gn blocks b ^^^ v else L j r) else L j r, aWrite_shape h.shape hd hd6 hb hv, h.lost_, fun j r hj hr hne => ?_, fun r hr => ?_, fun b' hb' => ?_, fun j r => ?_⟩
  · have hT := h.there j r hj hr hne
    have e1 : cel (aWrite d D lost b v) j r = if j = discOf d b ∧ r = rowOf d b then v else cel (aSet D lost (chk d (rowOf d b)) (rowOf d b) (cel D (chk d (rowOf d b)) (rowOf d b) ^^^ aRead d D lost b ^^^ v)) j r := by
      unfold aWrite
      generalize aSet D lost (chk d (rowOf d b)) (rowOf d b) (cel D (chk d (rowOf d b)) (rowOf d b) ^^^ aRead d D lost b ^^^ v) = D1 at *
      unfold aSet
      by_cases e : (discOf d b : Int) = lost
      · rw [if_pos e, if_neg]; rintro ⟨rfl, _⟩; exact hne e
      · rw [if_neg e, cel_setc hsh1 h1 h4]
    have e2 : cel (aSet D lost (chk d (rowOf d b)) (rowOf d b) (cel D (chk d (rowOf d b)) (rowOf d b) ^^^ aRead d D lost b ^^^ v)) j r = if j = chk d (rowOf d b) ∧ r = rowOf d b then cel D (chk d (rowOf d b)) (rowOf d b) ^^^ aRead d D lost b ^^^ v else cel D j r := by
      unfold aSet
      by_cases e : (chk d (rowOf d b) : Int) = lost
      · rw [if_pos e, if_neg]; rintro ⟨rfl, _⟩; exact hne e
      · rw [if_neg e, cel_setc h.shape h3 h4]
    rw [e1, e2]
    by_cases er : r = rowOf d b
    · subst er
      rw [if_pos rfl]
      by_cases ej : j = discOf d b
      · rw [if_pos ⟨ej, rfl⟩, if_pos ej]
      · rw [if_neg (fun h => ej h.1), if_neg ej]
        by_cases ec : j = chk d (rowOf d b)
        · rw [if_pos ⟨ec, rfl⟩, if_pos ec, hrd, ← ec, hT]
        · rw [if_neg (fun h => ec h.1), if_neg ec, hT]
    · rw [if_neg (fun h => er h.2), if_neg (fun h => er h.2), if_neg er, hT]
  · by_cases er : r = rowOf d b
    · subst er
      simp only [if_true]
      have e1 : xr (fun j => if j = discOf d b then v else (fun j => if j = chk d (rowOf d b) then L j (rowOf d b) ^^^ gn blocks b ^^^ v else L j (rowOf d b)) j) d = 0 := by
        rw [xr_at h1]
        have e2 : xr (fun j => if j = chk d (rowOf d b) then L j (rowOf d b) ^^^ gn blocks b ^^^ v else L j (rowOf d b)) d = xr (fun j => if j = chk d (rowOf d b) then L (chk d (rowOf d b)) (rowOf d b) ^^^ gn blocks b ^^^ v else (fun j => L j (rowOf d b)) j) d := xr_congr fun j _ => by
          by_cases e : j = chk d (rowOf d b)
          · rw [if_pos e, if_pos e, e]
          · rw [if_neg e, if_neg e]
        rw [e2, xr_at h3, h.par _ h4]
        simp only [if_neg h2]
        rw [hwas, Nat.zero_xor]
        generalize L (chk d (rowOf d b)) (rowOf d b) = A
        generalize gn blocks b = C
        have : A ^^^ (A ^^^ C ^^^ v) ^^^ C ^^^ v = (A ^^^ A) ^^^ (C ^^^ C) ^^^ (v ^^^ v) := by ac_rfl
        rw [this]; simp
      exact e1
    · simp only [if_neg er]; exact h.par r hr
  · by_cases eb : b' = b
    · subst eb
      rw [if_pos rfl, if_pos rfl]
      simp [gn, hbl, hb]
    · have hgn : gn (blocks.set b v) b' = gn blocks b' := by simp [gn, List.getD_eq_getElem?_getD, List.getElem?_set, show b ≠ b' from fun h => eb h.symm]
      rw [hgn, ← h.blk b' hb']
      obtain ⟨_, g2, g3, _⟩ := stripe_apart hd hd6 hb' hb
      by_cases er : rowOf d b' = rowOf d b
      · rw [if_pos er]
        have hnd : discOf d b' ≠ discOf d b := fun h => eb (g3.1 ⟨h, er⟩)
        rw [if_neg hnd, if_neg]
        rw [← er]; exact g2
      · rw [if_neg er]
  · split
    · split
      · exact hv
      · split
        · exact x256 (x256 (h.small _ _) (by rw [← hwas]; exact h.small _ _)) hv
        · exact h.small _ _
    · exact h.small _ _
theorem gn_rep0 (n r : Nat) : gn (List.replicate n 0) r = 0 := by
  unfold gn; rw [List.getD_eq_getElem?_getD, List.getElem?_replicate]; split <;> rfl
theorem AI.lose {d : Nat} {blocks : List Nat} {D : Discs} {L : Nat → Nat → Nat} (h : AI d blocks D (-1) L) {j : Nat} (hj : j < d) : AI d blocks (aLost d D j) (j : Int) L := by
  refine ⟨⟨by rw [aLost, List.length_set]; exact h.shape.len, fun i hi => ?_, fun i q => ?_⟩, by omega, fun i r hi hr hne => ?_, h.par, h.blk, h.small⟩
  · have hl := h.shape.len
    unfold aLost
    by_cases e : i = j
    · subst e; simp [dk, List.getD_eq_getElem?_getD, List.getElem?_set, hl, hi]
    · have : dk (D.set j (List.replicate (rowsOf d) 0)) i = dk D i := by simp [dk, List.getD_eq_getElem?_getD, List.getElem?_set, show j ≠ i from fun h => e h.symm]
      rw [this]; exact h.shape.rows i hi
  · rw [aLost, cel_set h.shape hj, gn_rep0]; split
    · omega
    · exact h.shape.small i q
  · rw [aLost, cel_set h.shape hj, if_neg (by omega)]; exact h.there i r hi hr (by omega)
theorem AI.renew {d : Nat} {blocks : List Nat} {D : Discs} {L : Nat → Nat → Nat} {j : Nat} (h : AI d blocks D (j : Int) L) (hj : j < d) : AI d blocks (aRenew d D j) (-1) L := by
  have hg : ∀ r, gn ((List.range (rowsOf d)).map fun r => othr D j r d) r = if r < rowsOf d then othr D j r d else 0 := fun r => by
    unfold gn
    by_cases hr : r < rowsOf d
    · simp [hr]
    · rw [List.getD_eq_getElem?_getD, List.getElem?_eq_none (by simp; omega), if_neg hr]; rfl
  refine ⟨⟨by rw [aRenew, List.length_set]; exact h.shape.len, fun i hi => ?_, fun i q => ?_⟩, by omega, fun i r hi hr hne => ?_, h.par, h.blk, h.small⟩
  · have hl := h.shape.len
    unfold aRenew
    by_cases e : i = j
    · subst e; simp [dk, List.getD_eq_getElem?_getD, List.getElem?_set, hl, hi]
    · have : dk (D.set j ((List.range (rowsOf d)).map fun r => othr D j r d)) i = dk D i := by simp [dk, List.getD_eq_getElem?_getD, List.getElem?_set, show j ≠ i from fun h => e h.symm]
      rw [this]; exact h.shape.rows i hi
  · rw [aRenew, cel_set h.shape hj, hg]
    split
    · split
      · exact othr_lt h.shape _ _ _
      · omega
    · exact h.shape.small i q
  · rw [aRenew, cel_set h.shape hj, hg, if_pos hr]
    by_cases e : i = j
    · subst e; rw [if_pos rfl]; exact h.oth hj hr (.inr rfl)
    · rw [if_neg e]; exact h.there i r hi hr (by omega)
theorem AI.start {d : Nat} (hd : 3 ≤ d) : AI d (List.replicate 24 0) (List.replicate d (List.replicate (rowsOf d) 0)) (-1) (fun _ _ => 0) := by
  have hdk : ∀ j, dk (List.replicate d (List.replicate (rowsOf d) 0)) j = if j < d then List.replicate (rowsOf d) 0 else [] := fun j => by
    unfold dk; rw [List.getD_eq_getElem?_getD, List.getElem?_replicate]; split <;> rfl
  have hc : ∀ j r, cel (List.replicate d (List.replicate (rowsOf d) 0)) j r = 0 := fun j r => by
    unfold cel; rw [hdk]; split
    · exact gn_rep0 _ _
    · rfl
  refine ⟨⟨by simp, fun j hj => by rw [hdk, if_pos hj, List.length_replicate], fun j r => by rw [hc]; omega⟩, by omega, fun j r _ _ _ => hc j r, fun r _ => xr_zero d, fun b _ => (gn_rep0 24 b).symm, fun _ _ => by omega⟩
end Go.Proofs.Ytldcpihjoakigaa
