/-
  Plain: the turns of a text, in order; from their last bytes the text comes again.
-/
import Derived.Test.YtcoplafphgpmpaaStabPlain
import Derived.Test.YtcoplafphgpmpaaVcmpb
namespace Go.Proofs.Ytcoplafphgpmpaa
open Go V

def rot (t : List Nat) (i : Nat) : List Nat := t.drop i ++ t.take i
def rk (t : List Nat) (i : Nat) : Nat := vb (rot t i)
theorem rot_len {t : List Nat} {i : Nat} (h : i ≤ t.length) : (rot t i).length = t.length := by
  rw [rot, List.length_append, List.length_drop, List.length_take]; omega
theorem rot_zero (t : List Nat) : rot t 0 = t := by simp [rot]
theorem rot_all (t : List Nat) : rot t t.length = t := by simp [rot]
theorem rot_256 {t : List Nat} (h : ∀ x ∈ t, x < 256) (i : Nat) : ∀ x ∈ rot t i, x < 256 := fun x hx => by
  rcases List.mem_append.1 hx with h1 | h1
  · exact h x (List.mem_of_mem_drop h1)
  · exact h x (List.mem_of_mem_take h1)
theorem rot_twice {t : List Nat} {i : Nat} (h : i ≤ t.length) : ((t ++ t).drop i).take t.length = rot t i := by
  rw [List.drop_append_of_le_length h, List.take_append, List.take_of_length_le (by rw [List.length_drop]; omega), List.length_drop, show t.length - (t.length - i) = i by omega]; rfl
theorem rot_rot {t : List Nat} {a b : Nat} (h : a + b ≤ t.length) : rot (rot t a) b = rot t (a + b) := by
  unfold rot
  rw [List.drop_append_of_le_length (by rw [List.length_drop]; omega), List.take_append_of_le_length (by rw [List.length_drop]; omega), List.drop_drop, List.append_assoc, List.take_add]
theorem rot_cons {t : List Nat} {i : Nat} (h : i < t.length) : rot t i = gn t i :: (t.drop (i + 1) ++ t.take i) := by
  unfold rot; rw [drop_at t h]; rfl
theorem rot_snoc {t : List Nat} {i : Nat} (h : i < t.length) : rot t (i + 1) = (t.drop (i + 1) ++ t.take i) ++ [gn t i] := by
  unfold rot; rw [take_at t h, List.append_assoc]
theorem vb_snoc (x : Nat) : ∀ l : List Nat, vb (l ++ [x]) = vb l * 256 + x
  | [] => by simp [vb]
  | y :: l => by
    rw [List.cons_append, vb, vb, vb_snoc x l, List.length_append, List.length_singleton, Nat.pow_succ, Nat.add_mul, Nat.mul_assoc]; omega
/-- the last byte comes to the front -/
def toFr (n x : Nat) : Nat := (x % 256) * 256 ^ (n - 1) + x / 256
theorem rk_lt {t : List Nat} (h : ∀ x ∈ t, x < 256) {i : Nat} (hi : i ≤ t.length) : rk t i < 256 ^ t.length := by
  have := vb_lt (rot_256 h i)
  rwa [rot_len hi] at this
theorem rk_all (t : List Nat) : rk t t.length = rk t 0 := by rw [rk, rk, rot_all, rot_zero]
theorem rk_mod {t : List Nat} (h : ∀ x ∈ t, x < 256) {i : Nat} (hi : i < t.length) : rk t (i + 1) % 256 = gn t i := by
  rw [rk, rot_snoc hi, vb_snoc]
  have := h (gn t i) (gn_mem' hi)
  omega
theorem rk_fr {t : List Nat} (h : ∀ x ∈ t, x < 256) {i : Nat} (hi : i < t.length) : toFr t.length (rk t (i + 1)) = rk t i := by
  have h1 := rk_mod h hi
  have h2 := h (gn t i) (gn_mem' hi)
  unfold toFr
  rw [h1, rk, rk, rot_snoc hi, vb_snoc, rot_cons hi, vb]
  have hl : (t.drop (i + 1) ++ t.take i).length = t.length - 1 := by rw [List.length_append, List.length_drop, List.length_take]; omega
  rw [hl]
  omega
theorem toFr_inj {n x y : Nat} (hn : 0 < n) (hx : x < 256 ^ n) (hy : y < 256 ^ n) (h : toFr n x = toFr n y) : x = y := by
  obtain ⟨k, rfl⟩ : ∃ k, n = k + 1 := ⟨n - 1, by omega⟩
  unfold toFr at h
  rw [Nat.add_sub_cancel] at h
  rw [Nat.pow_succ] at hx hy
  have hp : 0 < 256 ^ k := Nat.pow_pos (by omega)
  generalize 256 ^ k = q at *
  have hx2 : x / 256 < q := by omega
  have hy2 : y / 256 < q := by omega
  have e1 : x % 256 = y % 256 := by
    have a1 : ((x % 256) * q + x / 256) / q = x % 256 := by rw [Nat.add_comm, Nat.add_mul_div_right _ _ hp, Nat.div_eq_of_lt hx2, Nat.zero_add]
    have a2 : ((y % 256) * q + y / 256) / q = y % 256 := by rw [Nat.add_comm, Nat.add_mul_div_right _ _ hp, Nat.div_eq_of_lt hy2, Nat.zero_add]
    rw [h] at a1; omega
  rw [e1] at h; omega
theorem toFr_mono {n x y : Nat} (hn : 0 < n) (hx : x < 256 ^ n) (h : x % 256 < y % 256 ∨ x % 256 = y % 256 ∧ x ≤ y) : toFr n x ≤ toFr n y := by
  obtain ⟨k, rfl⟩ : ∃ k, n = k + 1 := ⟨n - 1, by omega⟩
  unfold toFr
  rw [Nat.add_sub_cancel]
  rw [Nat.pow_succ] at hx
  generalize 256 ^ k = q at *
  rcases h with h | ⟨h, h2⟩
  · have := Nat.mul_le_mul_right q (show x % 256 + 1 ≤ y % 256 by omega)
    rw [Nat.add_mul] at this; omega
  · rw [h]; omega
theorem map_gn_range (t : List Nat) : (List.range t.length).map (gn t) = t := by
  refine List.ext_getElem (by simp) fun i h1 h2 => ?_
  simp [gn_lt h2]
/-- in order: the least turn first; like ones as they stand -/
structure Ordd2 (key : Nat → Nat) (n : Nat) (ord : List Nat) : Prop where
  perm : ord.Perm (List.range n)
  srt : Srt (KK key) ord
theorem Ordd2.len {key : Nat → Nat} {n : Nat} {ord : List Nat} (h : Ordd2 key n ord) : ord.length = n := by rw [h.perm.length_eq, List.length_range]
theorem Ordd2.lt {key : Nat → Nat} {n : Nat} {ord : List Nat} (h : Ordd2 key n ord) {k : Nat} (hk : k < n) : gn ord k < n := List.mem_range.1 (h.perm.mem_iff.1 (gn_mem' (by rw [h.len]; exact hk)))
theorem Ordd2.uniq {key : Nat → Nat} {n : Nat} {o o2 : List Nat} (h : Ordd2 key n o) (h2 : Ordd2 key n o2) : o = o2 :=
  (h.perm.trans h2.perm.symm).eq_of_pairwise (fun a b _ _ h1 h3 => by omega) h.srt h2.srt
theorem Ordd2.weak {key : Nat → Nat} {n : Nat} {o : List Nat} (h : Ordd2 key n o) (hn : n ≤ 64) : (o.map key).Pairwise (· ≤ ·) := by
  rw [List.pairwise_map]
  refine List.Pairwise.imp_of_mem (fun {a b} ha hb hab => ?_) h.srt
  have h1 := List.mem_range.1 (h.perm.mem_iff.1 ha)
  have h2 := List.mem_range.1 (h.perm.mem_iff.1 hb)
  exact (kk_le (by omega) (by omega) hab).1
theorem Ordd2.gn_le {key : Nat → Nat} {n : Nat} {o : List Nat} (h : Ordd2 key n o) (hn : n ≤ 64) {i j : Nat} (hij : i ≤ j) (hj : j < n) : key (gn o i) ≤ key (gn o j) := by
  by_cases e : i = j
  · rw [e]; exact Nat.le_refl _
  · exact (kk_le (Nat.lt_of_lt_of_le (h.lt (by omega)) hn) (Nat.lt_of_lt_of_le (h.lt hj) hn) (srt_gn h.srt (by omega) (by rw [h.len]; exact hj))).1
theorem le_uniq {a b : List Nat} (hp : a.Perm b) (ha : a.Pairwise (· ≤ ·)) (hb : b.Pairwise (· ≤ ·)) : a = b := hp.eq_of_pairwise (fun _ _ _ _ h1 h2 => Nat.le_antisymm h1 h2) ha hb
def lastOf (t : List Nat) (ord : List Nat) : List Nat := ord.map fun i => gn (t ++ t) (i + t.length - 1)
theorem last_mod {t : List Nat} (h : ∀ x ∈ t, x < 256) {i : Nat} (hi : i < t.length) : gn (t ++ t) (i + t.length - 1) = rk t i % 256 := by
  cases i with
  | zero =>
    rw [show 0 + t.length - 1 = t.length - 1 by omega, gl_l (by omega), ← rk_all]
    have := rk_mod h (i := t.length - 1) (by omega)
    rw [show t.length - 1 + 1 = t.length by omega] at this; exact this.symm
  | succ j => rw [show j + 1 + t.length - 1 = t.length + j by omega, gl_r, rk_mod h (by omega)]
structure Turned (t l : List Nat) (at_ : Nat) : Prop where
  out : ∃ ord, Ordd2 (rk t) t.length ord ∧ l = lastOf t ord ∧ (t.length = 0 → at_ = 0) ∧ (0 < t.length → at_ < t.length ∧ gn ord at_ = 0)
theorem Turned.len {t l : List Nat} {a : Nat} (h : Turned t l a) : l.length = t.length := by
  obtain ⟨o, h1, rfl, _⟩ := h.out
  rw [lastOf, List.length_map, h1.len]
theorem lastOf_eq {t ord : List Nat} (h : ∀ x ∈ t, x < 256) (ho : Ordd2 (rk t) t.length ord) : lastOf t ord = (ord.map (rk t)).map (· % 256) := by
  rw [lastOf, List.map_map]
  refine List.map_congr_left fun i hi => ?_
  exact last_mod h (List.mem_range.1 (ho.perm.mem_iff.1 hi))
theorem Turned.perm {t l : List Nat} {a : Nat} (h : Turned t l a) (h256 : ∀ x ∈ t, x < 256) : l.Perm t := by
  obtain ⟨o, h1, rfl, _⟩ := h.out
  refine (h1.perm.map _).trans ?_
  cases ht : t.length with
  | zero => have := nil_of ht; subst this; exact List.Perm.refl _
  | succ k =>
    have e : (List.range (k + 1)).map (fun i => gn (t ++ t) (i + (k + 1) - 1)) = gn t k :: (List.range k).map (gn t) := by
      rw [List.range_succ_eq_map, List.map_cons, List.map_map]
      congr 1
      · rw [show 0 + (k + 1) - 1 = k by omega, gl_l (by omega)]
      · refine List.map_congr_left fun i hi => ?_
        show gn (t ++ t) (i + 1 + (k + 1) - 1) = gn t i
        rw [show i + 1 + (k + 1) - 1 = t.length + i by omega, gl_r]
    rw [e]
    have e2 : t = (List.range k).map (gn t) ++ [gn t k] := by
      conv => lhs; rw [← map_gn_range t, ht, List.range_succ, List.map_append]
      rfl
    conv => rhs; rw [e2]
    exact (List.perm_append_comm (l₁ := [gn t k]))
theorem rk_perm1 {t : List Nat} : ((List.range t.length).map (rk (rot t 1))).Perm ((List.range t.length).map (rk t)) := by
  cases ht : t.length with
  | zero => exact List.Perm.refl _
  | succ k =>
    have e : (List.range (k + 1)).map (rk (rot t 1)) = (List.range k).map (fun i => rk t (i + 1)) ++ [rk t 0] := by
      rw [List.range_succ, List.map_append]
      congr 1
      · refine List.map_congr_left fun i hi => ?_
        have := List.mem_range.1 hi
        rw [rk, rot_rot (by omega), Nat.add_comm 1 i]; rfl
      · rw [List.map_singleton, rk, rot_rot (by omega), Nat.add_comm 1 k, ← ht, ← rk_all]; rfl
    rw [e, List.range_succ_eq_map, List.map_cons, List.map_map]
    exact (List.perm_append_comm (l₂ := [rk t 0]))
theorem rk_perm {t : List Nat} : ∀ {k : Nat}, k ≤ t.length → ((List.range t.length).map (rk (rot t k))).Perm ((List.range t.length).map (rk t))
  | 0, _ => by rw [rot_zero]
  | k + 1, h => by
    have h1 := rk_perm (t := t) (k := k) (by omega)
    have h2 := rk_perm1 (t := rot t k)
    rw [rot_len (by omega), rot_rot (by omega)] at h2
    exact h2.trans h1
/-- a turned text has the same last bytes -/
theorem Turned.same {t l m : List Nat} {a b k : Nat} (hl : t.length ≤ 64) (h256 : ∀ x ∈ t, x < 256) (hk : k ≤ t.length) (h : Turned t l a) (h2 : Turned (rot t k) m b) : l = m := by
  obtain ⟨o, h1, rfl, _⟩ := h.out
  obtain ⟨o2, h3, rfl, _⟩ := h2.out
  rw [lastOf_eq h256 h1, lastOf_eq (rot_256 h256 k) h3]
  have hrl := rot_len hk
  rw [hrl] at h3
  have e : o.map (rk t) = o2.map (rk (rot t k)) := le_uniq ((h1.perm.map _).trans (rk_perm hk).symm |>.trans (h3.perm.map _).symm) (h1.weak hl) (h3.weak hl)
  rw [e]
theorem Turned.uniq {t l m : List Nat} {a b : Nat} (h : Turned t l a) (h2 : Turned t m b) : l = m ∧ a = b := by
  obtain ⟨o, h1, rfl, hz, hp⟩ := h.out
  obtain ⟨o2, h3, rfl, hz2, hp2⟩ := h2.out
  have e := h1.uniq h3
  subst e
  refine ⟨rfl, ?_⟩
  rcases Nat.eq_zero_or_pos t.length with h0 | h0
  · rw [hz h0, hz2 h0]
  · obtain ⟨h4, h5⟩ := hp h0
    obtain ⟨h6, h7⟩ := hp2 h0
    have hnd : o.Nodup := h1.perm.nodup_iff.2 List.nodup_range
    rw [gn_lt (by rw [h1.len]; exact h4)] at h5
    rw [gn_lt (by rw [h1.len]; exact h6)] at h7
    exact (List.getElem_inj hnd).1 (h5.trans h7.symm)
/-- where the walk back stands, and what it has told -/
def goT (nx : List Nat) (a : Nat) : Nat → Nat
  | 0 => a
  | k + 1 => gn nx (goT nx a k)
def outT (l nx : List Nat) (a k : Nat) : List Nat := (List.range k).map fun j => gn l (goT nx a (j + 1))
theorem outT_succ (l nx : List Nat) (a k : Nat) : outT l nx a (k + 1) = outT l nx a k ++ [gn l (gn nx (goT nx a k))] := by
  unfold outT; rw [List.range_succ, List.map_append]; rfl
theorem outT_len (l nx : List Nat) (a k : Nat) : (outT l nx a k).length = k := by simp [outT]
theorem goT_lt {l nx : List Nat} {n a : Nat} (h : Ordd2 (gn l) n nx) (ha : a < n) : ∀ k, goT nx a k < n
  | 0 => ha
  | k + 1 => h.lt (goT_lt h ha k)
theorem turn_back {t l nx : List Nat} {a : Nat} (hl : t.length ≤ 64) (h0 : 0 < t.length) (h256 : ∀ x ∈ t, x < 256) (h : Turned t l a) (hn : Ordd2 (gn l) t.length nx) : outT l nx a t.length = t := by
  obtain ⟨o, ho, rfl, _, hp⟩ := h.out
  obtain ⟨ha, ha0⟩ := hp h0
  have hlg : ∀ i, i < t.length → gn (lastOf t o) i = rk t (gn o i) % 256 := fun i hi => by
    rw [gn_lt (by rw [lastOf, List.length_map, ho.len]; exact hi)]
    unfold lastOf
    rw [List.getElem_map, ← gn_lt (show i < o.length by rw [ho.len]; exact hi)]
    exact last_mod h256 (ho.lt hi)
  have hb : ∀ i, i < t.length → rk t (gn o i) < 256 ^ t.length := fun i hi => rk_lt h256 (Nat.le_of_lt (ho.lt hi))
  -- the two lists are one
  have hS : o.map (rk t) = nx.map fun i => toFr t.length (rk t (gn o i)) := by
    refine le_uniq ?_ (ho.weak hl) ?_
    · have e1 : (nx.map fun i => toFr t.length (rk t (gn o i))).Perm ((List.range t.length).map fun i => toFr t.length (rk t (gn o i))) := hn.perm.map _
      have e2 : (List.range t.length).map (fun i => toFr t.length (rk t (gn o i))) = o.map fun x => toFr t.length (rk t x) := by
        conv => rhs; rw [← map_gn_range o, ho.len, List.map_map]
        rfl
      have e3 : (o.map fun x => toFr t.length (rk t x)).Perm ((List.range t.length).map fun x => toFr t.length (rk t x)) := ho.perm.map _
      refine (ho.perm.map _).trans ?_
      rw [e2] at e1
      refine List.Perm.trans ?_ (e1.trans e3).symm
      obtain ⟨k, hk⟩ : ∃ k, t.length = k + 1 := ⟨t.length - 1, by omega⟩
      have e4 : (List.range t.length).map (fun x => toFr t.length (rk t x)) = rk t k :: (List.range k).map (rk t) := by
        rw [hk, List.range_succ_eq_map, List.map_cons, List.map_map]
        congr 1
        · rw [← rk_all, ← hk]
          have := rk_fr h256 (i := k) (by omega)
          rw [← hk] at this; exact this
        · refine List.map_congr_left fun i hi => ?_
          have := List.mem_range.1 hi
          have h9 := rk_fr h256 (i := i) (by omega)
          rw [hk] at h9; exact h9
      rw [e4, hk, List.range_succ, List.map_append]
      exact (List.perm_append_comm (l₂ := [rk t k]))
    · rw [List.pairwise_map]
      refine List.Pairwise.imp_of_mem (fun {x y} hx hy hxy => ?_) hn.srt
      have h1 := List.mem_range.1 (hn.perm.mem_iff.1 hx)
      have h2 := List.mem_range.1 (hn.perm.mem_iff.1 hy)
      obtain ⟨h3, h4⟩ := kk_le (show x < 64 by omega) (show y < 64 by omega) hxy
      rw [hlg x h1, hlg y h2] at h3 h4
      refine toFr_mono h0 (hb x h1) ?_
      rcases Nat.lt_or_eq_of_le h3 with h5 | h5
      · exact .inl h5
      · exact .inr ⟨h5, ho.gn_le hl (Nat.le_of_lt (h4 h5)) h2⟩
  have hstep : ∀ j, j < t.length → toFr t.length (rk t (gn o (gn nx j))) = rk t (gn o j) := fun j hj => by
    have h1 : (o.map (rk t))[j]? = (nx.map fun i => toFr t.length (rk t (gn o i)))[j]? := by rw [hS]
    rw [List.getElem?_map, List.getElem?_map, List.getElem?_eq_getElem (by rw [ho.len]; exact hj), List.getElem?_eq_getElem (by rw [hn.len]; exact hj)] at h1
    simp only [Option.map_some, Option.some.injEq] at h1
    rw [gn_lt (show j < nx.length by rw [hn.len]; exact hj), gn_lt (show j < o.length by rw [ho.len]; exact hj)]
    exact h1.symm
  have hgo : ∀ k, k ≤ t.length → rk t (gn o (goT nx a k)) = rk t k := by
    intro k
    induction k with
    | zero => intro _; rw [goT, ha0]
    | succ k ih =>
      intro hk
      have hlt := goT_lt hn ha k
      have hlt2 := goT_lt hn ha (k + 1)
      have h1 := hstep _ hlt
      rw [ih (by omega), ← rk_fr h256 (i := k) (by omega)] at h1
      exact toFr_inj h0 (hb _ hlt2) (rk_lt h256 hk) h1
  conv => rhs; rw [← map_gn_range t]
  unfold outT
  refine List.map_congr_left fun j hj => ?_
  have hj := List.mem_range.1 hj
  rw [hlg _ (goT_lt hn ha (j + 1)), hgo (j + 1) (by omega), rk_mod h256 hj]
/-- how many of the first are a byte -/
def cntB (l : List Nat) (b k : Nat) : Nat := ((List.range k).map fun j => if gn l j = b then 1 else 0).sum
theorem cntB_succ (l : List Nat) (b k : Nat) : cntB l b (k + 1) = cntB l b k + if gn l k = b then 1 else 0 := by
  unfold cntB; rw [List.range_succ, List.map_append, List.sum_append]; simp
theorem cntB_le (l : List Nat) (b : Nat) : ∀ k, cntB l b k ≤ k
  | 0 => Nat.le_refl _
  | k + 1 => by
    have := cntB_le l b k
    rw [cntB_succ]; split <;> omega
theorem cntB_all (l : List Nat) (b : Nat) : cntB l b l.length = (l.map fun x => if x = b then 1 else 0).sum := by
  unfold cntB
  conv => rhs; rw [← map_gn_range l, List.map_map]
  rfl
theorem cntB_perm {l t : List Nat} (h : l.Perm t) (b : Nat) : cntB l b l.length = cntB t b t.length := by
  rw [cntB_all, cntB_all]
  exact (h.map _).sum_nat
theorem lastOf_succ {t ord : List Nat} {k : Nat} (hk : k < ord.length) : lastOf t (ord.take (k + 1)) = lastOf t (ord.take k) ++ [gn (t ++ t) (gn ord k + t.length - 1)] := by
  unfold lastOf; rw [take_at ord hk, List.map_append]; rfl
theorem rd_rot {w : World} {p : Option Addr} {c i : Nat} {t : List Nat} (h : Rd w p (yv (t ++ t))) (hc : t.length + t.length ≤ c) (hi : i < t.length) : Rd w (cutAt p c i) (yv (rot t i)) := by
  rw [← rot_twice (Nat.le_of_lt hi)]
  exact (h.cut_yv (by rw [List.length_append]; exact hc)).take_yv
end Go.Proofs.Ytcoplafphgpmpaa
