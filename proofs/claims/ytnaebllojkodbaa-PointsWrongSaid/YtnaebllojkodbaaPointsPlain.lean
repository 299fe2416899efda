/-
  Plain: values of a polynomial at so many places determine it; the polynomial through so many values.
-/
import Derived.Test.YtnaebllojkodbaaRootsPlain
namespace Go.Proofs.Ytnaebllojkodbaa
open Go V
attribute [local irreducible] fmul

def putp (n : Nat) (data : List Nat) : List Nat := (List.range n).map fun i => pval data (i + 1)
theorem putp_len (n : Nat) (data : List Nat) : (putp n data).length = n := by simp [putp]
theorem putp_succ (n : Nat) (data : List Nat) : putp (n + 1) data = putp n data ++ [pval data (n + 1)] := by simp [putp, List.range_succ]
theorem putp_gn {n k : Nat} (data : List Nat) (h : k < n) : gn (putp n data) k = pval data (k + 1) := by simp [putp, gn, h]
theorem putp_small {n : Nat} {data : List Nat} (hs : Small data) (hn : n ≤ 15) : Small (putp n data) := by
  intro c hc
  obtain ⟨i, hi, rfl⟩ := List.mem_map.1 hc
  rw [List.mem_range] at hi
  exact pval_lt hs (by omega)
/-- two polynomials of one length that are the same at so many places are the same -/
theorem poly_same {p q : List Nat} (hl : p.length = q.length) (h16 : p.length ≤ 16) (hp : Small p) (hq : Small q) {xs : List Nat} (hnd : xs.Nodup) (hx : p.length ≤ xs.length) (h : ∀ x ∈ xs, x < 16 ∧ pval p x = pval q x) : p = q := by
  have hz := roots_all p.length (padd p q) (by simp [padd, hl]) h16 (padd_small hp hq) xs hnd hx fun x hxx => by
    obtain ⟨h1, h2⟩ := h x hxx
    exact ⟨h1, by rw [pval_padd hl hp hq h1, h2, Nat.xor_self]⟩
  refine gn_eq_of hl fun k hk => ?_
  have h1 : k < (padd p q).length := by simp [padd]; omega
  have := hz _ (List.getElem_mem h1)
  simp only [padd, List.getElem_zipWith] at this
  rw [xor_zero_iff] at this
  rw [gn_lt hk, gn_lt (by omega)]; exact this
/-- times (x - a) -/
def lmul (own : List Nat) (a : Nat) : List Nat := padd (psc a own ++ [0]) (0 :: own)
theorem lmul_len (own : List Nat) (a : Nat) : (lmul own a).length = own.length + 1 := by simp [lmul, padd, psc]
theorem small_app {p q : List Nat} (hp : Small p) (hq : Small q) : Small (p ++ q) := fun c hc => (List.mem_append.1 hc).elim (hp c) (hq c)
theorem small_zero : Small [0] := by simp [Small]
theorem lmul_small {own : List Nat} {a : Nat} (ha : a < 16) (h : Small own) : Small (lmul own a) :=
  padd_small (small_app (psc_small ha h) small_zero) (small_cons.2 ⟨by omega, h⟩)
theorem pval_app0 {s : List Nat} (h2 : Small s) {x : Nat} (hx : x < 16) : pval (s ++ [0]) x = pval s x := by
  induction s with
  | nil => simp [pval, (fmul_z hx).2]
  | cons b s ih =>
    rw [small_cons] at h2
    show fmul (pval (s ++ [0]) x) x ^^^ b = fmul (pval s x) x ^^^ b
    rw [ih h2.2]
theorem pval_lmul {own : List Nat} {a x : Nat} (ha : a < 16) (h : Small own) (hx : x < 16) : pval (lmul own a) x = fmul (pval own x) (x ^^^ a) := by
  have hv := pval_lt h hx
  unfold lmul
  rw [pval_padd (by simp [psc]) (small_app (psc_small ha h) small_zero) (small_cons.2 ⟨by omega, h⟩) hx, pval_app0 (psc_small ha h) hx, pval_psc h ha hx]
  show fmul a (pval own x) ^^^ (fmul (pval own x) x ^^^ 0) = _
  rw [Nat.xor_zero, fmul_comm ha hv, ← fmul_xor hv ha hx, Nat.xor_comm a x]
def ownp (i : Nat) (ps : List Nat) (own : List Nat) : List Nat := ps.foldl (fun o j => if j = i then o else lmul o (j + 1)) own
def prd (i x : Nat) : List Nat → Nat
  | [] => 1
  | j :: ps => if j = i then prd i x ps else fmul (x ^^^ (j + 1)) (prd i x ps)
theorem prd_lt {i x : Nat} (hx : x < 16) : ∀ {ps : List Nat}, (∀ j ∈ ps, j < 15) → prd i x ps < 16
  | [], _ => by simp [prd]
  | j :: ps, h => by
    have ih := prd_lt (i := i) hx (fun j hj => h j (List.mem_cons_of_mem _ hj))
    have := h j (List.mem_cons_self ..)
    unfold prd
    split
    · exact ih
    · exact fmul_lt (x16 hx (by omega)) ih
theorem ownp_facts {i : Nat} : ∀ {ps own : List Nat}, (∀ j ∈ ps, j < 15) → Small own → Small (ownp i ps own) ∧ (ownp i ps own).length = own.length + (ps.filter fun j => decide (j ≠ i)).length ∧ ∀ x, x < 16 → pval (ownp i ps own) x = fmul (pval own x) (prd i x ps)
  | [], own, _, hs => ⟨hs, by simp [ownp], fun x hx => (fmul_one (pval_lt hs hx)).symm⟩
  | j :: ps, own, h, hs => by
    have hj := h j (List.mem_cons_self ..)
    have hps : ∀ j ∈ ps, j < 15 := fun j hj => h j (List.mem_cons_of_mem _ hj)
    show Small (ownp i ps (if j = i then own else lmul own (j + 1))) ∧ (ownp i ps (if j = i then own else lmul own (j + 1))).length = _ ∧ ∀ x, x < 16 → pval (ownp i ps (if j = i then own else lmul own (j + 1))) x = _
    by_cases e : j = i
    · rw [if_pos e]
      obtain ⟨h1, h2, h3⟩ := ownp_facts (i := i) hps hs
      refine ⟨h1, by rw [h2, List.filter_cons_of_neg (by simp [e])], fun x hx => ?_⟩
      rw [h3 x hx]; unfold prd; rw [if_pos e]
      cases ps <;> rfl
    · rw [if_neg e]
      obtain ⟨h1, h2, h3⟩ := ownp_facts (i := i) hps (lmul_small (a := j + 1) (by omega) hs)
      refine ⟨h1, by rw [h2, lmul_len, List.filter_cons_of_pos (by simp [e])]; simp; omega, fun x hx => ?_⟩
      rw [h3 x hx, pval_lmul (by omega) hs hx]
      have := prd_lt (i := i) hx hps
      conv => rhs; unfold prd
      rw [if_neg e, fmul_assoc (pval_lt hs hx) (x16 hx (by omega)) this]
def finv (d : Nat) : Nat := fpow d 14
def scp (i : Nat) (ps : List Nat) (s : Nat) : Nat := ps.foldl (fun s j => if j = i then s else fmul s (finv ((i + 1) ^^^ (j + 1)))) s
def isc (i : Nat) : List Nat → Nat
  | [] => 1
  | j :: ps => if j = i then isc i ps else fmul (finv ((i + 1) ^^^ (j + 1))) (isc i ps)
theorem finv_lt {d : Nat} (hd : d < 16) : finv d < 16 := fpow_lt hd 14
theorem isc_lt {i : Nat} (hi : i < 15) : ∀ {ps : List Nat}, (∀ j ∈ ps, j < 15) → isc i ps < 16
  | [], _ => by simp [isc]
  | j :: ps, h => by
    have ih := isc_lt hi (fun j hj => h j (List.mem_cons_of_mem _ hj))
    have := h j (List.mem_cons_self ..)
    unfold isc
    split
    · exact ih
    · exact fmul_lt (finv_lt (x16 (by omega) (by omega))) ih
theorem scp_eq {i : Nat} (hi : i < 15) : ∀ {ps : List Nat} {s : Nat}, (∀ j ∈ ps, j < 15) → s < 16 → scp i ps s = fmul s (isc i ps)
  | [], s, _, hs => (fmul_one hs).symm
  | j :: ps, s, h, hs => by
    have hj := h j (List.mem_cons_self ..)
    have hps : ∀ j ∈ ps, j < 15 := fun j hj => h j (List.mem_cons_of_mem _ hj)
    show scp i ps (if j = i then s else fmul s (finv ((i + 1) ^^^ (j + 1)))) = _
    by_cases e : j = i
    · rw [if_pos e, scp_eq hi hps hs]; conv => rhs; unfold isc
      rw [if_pos e]
    · have hf := finv_lt (x16 (a := i + 1) (b := j + 1) (by omega) (by omega))
      rw [if_neg e, scp_eq hi hps (fmul_lt hs hf)]; conv => rhs; unfold isc
      rw [if_neg e, fmul_assoc hs hf (isc_lt hi hps)]
theorem scp_lt {i : Nat} (hi : i < 15) {ps : List Nat} {s : Nat} (h : ∀ j ∈ ps, j < 15) (hs : s < 16) : scp i ps s < 16 := by rw [scp_eq hi h hs]; exact fmul_lt hs (isc_lt hi h)
theorem finv_all : (List.range 16).all (fun d => decide (d = 0) || decide (fmul (finv d) d = 1)) = true := by decide +kernel
theorem finv_mul {d : Nat} (hd : d < 16) (h0 : d ≠ 0) : fmul (finv d) d = 1 := by
  have h := List.all_eq_true.1 finv_all d (List.mem_range.2 hd)
  simp only [Bool.or_eq_true, decide_eq_true_eq] at h
  exact h.resolve_left h0
theorem isc_prd {i : Nat} (hi : i < 15) : ∀ {ps : List Nat}, (∀ j ∈ ps, j < 15) → fmul (isc i ps) (prd i (i + 1) ps) = 1
  | [], _ => by show fmul 1 1 = 1; exact fone_mul (by omega)
  | j :: ps, h => by
    have hj := h j (List.mem_cons_self ..)
    have hps : ∀ j ∈ ps, j < 15 := fun j hj => h j (List.mem_cons_of_mem _ hj)
    have ih := isc_prd hi hps
    unfold isc prd
    by_cases e : j = i
    · rw [if_pos e, if_pos e]; exact ih
    · rw [if_neg e, if_neg e]
      have hd := x16 (a := i + 1) (b := j + 1) (by omega) (by omega)
      have hA := isc_lt hi hps
      have hB := prd_lt (i := i) (x := i + 1) (by omega) hps
      have hv := finv_mul hd (fun h0 => by rw [xor_zero_iff] at h0; omega)
      have hfl := finv_lt hd
      generalize (i + 1) ^^^ (j + 1) = d at *
      generalize isc i ps = A at *
      generalize prd i (i + 1) ps = B at *
      rw [fmul_comm hfl hA, fmul_assoc hA hfl (fmul_lt hd hB), ← fmul_assoc hfl hd hB, hv, fone_mul hB, ih]
theorem prd_zero {i m : Nat} (hm : m < 15) : ∀ {ps : List Nat}, (∀ j ∈ ps, j < 15) → m ∈ ps → m ≠ i → prd i (m + 1) ps = 0
  | [], _, h, _ => by simp at h
  | j :: ps, h, hin, hne => by
    have hj := h j (List.mem_cons_self ..)
    have hps : ∀ j ∈ ps, j < 15 := fun j hj => h j (List.mem_cons_of_mem _ hj)
    have hB := prd_lt (i := i) (x := m + 1) (by omega) hps
    unfold prd
    by_cases e : j = i
    · rw [if_pos e]
      exact prd_zero hm hps ((List.mem_cons.1 hin).resolve_left fun h => hne (h.trans e)) hne
    · rw [if_neg e]
      rcases List.mem_cons.1 hin with h | h
      · subst h; rw [Nat.xor_self]; exact (fmul_z hB).2
      · rw [prd_zero hm hps h hne]
        exact (fmul_z (x16 (by omega) (by omega))).1
/-- the polynomial through l's values at these places -/
def thr (l places : List Nat) (ps : List Nat) (sum : List Nat) : List Nat := ps.foldl (fun s i => padd s (psc (scp i places (gn l i)) (ownp i places [1]))) sum
theorem thr_app (l places ps : List Nat) (i : Nat) (sum : List Nat) : thr l places (ps ++ [i]) sum = padd (thr l places ps sum) (psc (scp i places (gn l i)) (ownp i places [1])) := by simp [thr, List.foldl_append]
theorem filter_ne_len {i : Nat} : ∀ {ps : List Nat}, ps.Nodup → i ∈ ps → (ps.filter fun j => decide (j ≠ i)).length + 1 = ps.length
  | [], _, h => by simp at h
  | j :: ps, hn, h => by
    rw [List.nodup_cons] at hn
    by_cases e : j = i
    · subst e
      rw [List.filter_cons_of_neg (by simp)]
      have : ps.filter (fun k => decide (k ≠ j)) = ps := List.filter_eq_self.2 fun k hk => by
        have : k ≠ j := fun h => hn.1 (h ▸ hk)
        simpa using this
      rw [this]; rfl
    · rw [List.filter_cons_of_pos (by simp [e])]
      have := filter_ne_len hn.2 ((List.mem_cons.1 h).resolve_left fun h => e h.symm)
      simp only [List.length_cons]; omega
theorem thr_facts {l places : List Nat} (hp : ∀ j ∈ places, j < 15) (hnd : places.Nodup) (hs : ∀ k, gn l k < 16) : ∀ {ps : List Nat} {sum : List Nat}, (∀ i ∈ ps, i ∈ places) → ps.Nodup → Small sum → sum.length = places.length →
    Small (thr l places ps sum) ∧ (thr l places ps sum).length = places.length ∧ ∀ m, m ∈ places → pval (thr l places ps sum) (m + 1) = pval sum (m + 1) ^^^ (if m ∈ ps then gn l m else 0)
  | [], sum, _, _, hsm, hl => ⟨hsm, hl, fun m _ => by simp [thr]⟩
  | i :: ps, sum, hin, hn, hsm, hl => by
    rw [List.nodup_cons] at hn
    have hi := hin i (List.mem_cons_self ..)
    have hi15 := hp i hi
    obtain ⟨o1, o2, o3⟩ := ownp_facts (i := i) (own := [1]) hp (by simp [Small])
    have hsc := scp_lt hi15 hp (hs i)
    have hol : (psc (scp i places (gn l i)) (ownp i places [1])).length = places.length := by
      rw [psc, List.length_map, o2]
      have := filter_ne_len hnd hi
      simp only [List.length_cons, List.length_nil]; omega
    have hps := psc_small hsc o1
    obtain ⟨h1, h2, h3⟩ := thr_facts hp hnd hs (ps := ps) (sum := padd sum (psc (scp i places (gn l i)) (ownp i places [1]))) (fun j hj => hin j (List.mem_cons_of_mem _ hj)) hn.2 (padd_small hsm hps) (by simp [padd, hl, hol])
    refine ⟨h1, h2, fun m hm => ?_⟩
    have hm15 := hp m hm
    have e1 : pval (thr l places (i :: ps) sum) (m + 1) = pval (padd sum (psc (scp i places (gn l i)) (ownp i places [1]))) (m + 1) ^^^ (if m ∈ ps then gn l m else 0) := h3 m hm
    rw [e1, pval_padd (by rw [hl, hol]) hsm hps (by omega), pval_psc o1 hsc (by omega), o3 (m + 1) (by omega)]
    have hprd := prd_lt (i := i) (x := m + 1) (by omega) hp
    rw [show pval [1] (m + 1) = 1 from by simp [pval, (fmul_z (show m + 1 < 16 by omega)).2], fone_mul hprd]
    by_cases e : m = i
    · subst e
      rw [if_neg hn.1, Nat.xor_zero, if_pos (List.mem_cons_self ..), scp_eq hi15 hp (hs m), fmul_assoc (hs m) (isc_lt hi15 hp) hprd, isc_prd hi15 hp, fmul_one (hs m)]
    · rw [prd_zero hm15 hp hm e, (fmul_z hsc).1, Nat.xor_zero]
      by_cases hm2 : m ∈ ps
      · rw [if_pos hm2, if_pos (List.mem_cons_of_mem _ hm2)]
      · rw [if_neg hm2, if_neg (fun h => (List.mem_cons.1 h).elim e hm2)]
theorem pval_zeros {x : Nat} (hx : x < 16) : ∀ k, pval (List.replicate k 0) x = 0
  | 0 => rfl
  | k + 1 => by
    show fmul (pval (List.replicate k 0) x) x ^^^ 0 = 0
    rw [pval_zeros hx k, (fmul_z hx).2]; rfl
theorem small_zeros (k : Nat) : Small (List.replicate k 0) := fun c hc => by rw [List.eq_of_mem_replicate hc]; omega
def through (l places : List Nat) : List Nat := thr l places places (List.replicate places.length 0)
/-- it goes through them; and it is the only one of its length -/
theorem through_only {l places data : List Nat} (hp : ∀ j ∈ places, j < 15) (hnd : places.Nodup) (hs : ∀ k, gn l k < 16) (hd : Small data) (hl : data.length = places.length) (h16 : data.length ≤ 16) (h : ∀ m ∈ places, pval data (m + 1) = gn l m) : through l places = data := by
  obtain ⟨h1, h2, h3⟩ := thr_facts hp hnd hs (ps := places) (sum := List.replicate places.length 0) (fun _ h => h) hnd (small_zeros _) (by simp)
  refine poly_same (by rw [hl]; exact h2) (by show (thr _ _ _ _).length ≤ 16; rw [h2]; omega) h1 hd (xs := places.map (· + 1)) ?_ (by simp; exact Nat.le_of_eq h2) fun x hx => ?_
  · exact List.pairwise_map.2 (hnd.imp fun h e => h (by omega))
  · obtain ⟨m, hm, rfl⟩ := List.mem_map.1 hx
    have := hp m hm
    refine ⟨by omega, ?_⟩
    show pval (thr l places places _) (m + 1) = _
    rw [h3 m hm, pval_zeros (by omega), Nat.zero_xor, if_pos hm, h m hm]
theorem through_small {l places : List Nat} (hp : ∀ j ∈ places, j < 15) (hnd : places.Nodup) (hs : ∀ k, gn l k < 16) : Small (through l places) ∧ (through l places).length = places.length := by
  obtain ⟨h1, h2, _⟩ := thr_facts hp hnd hs (ps := places) (sum := List.replicate places.length 0) (fun _ h => h) hnd (small_zeros _) (by simp)
  exact ⟨h1, h2⟩
end Go.Proofs.Ytnaebllojkodbaa
