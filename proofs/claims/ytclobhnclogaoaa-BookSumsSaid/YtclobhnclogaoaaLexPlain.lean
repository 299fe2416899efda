/-
  Plain: the greedy code: it covers (Gilbert; Varshamov), its words are far apart, and it is closed under sums (Conway; Sloane).
-/
import Derived.Test.YtclobhnclogaoaaRankBPlain
import Derived.Test.YtclobhnclogaoaaCountPlain
namespace Go.Proofs.Ytclobhnclogaoaa
open Go V

def nearAny (d w : Nat) (l : List Nat) : Bool := l.any fun a => decide (popc (a ^^^ w) < d)
def growTo (d : Nat) : Nat → List Nat := iter (fun w l => if nearAny d w l = true then l else l ++ [w]) []
theorem growTo_succ (d k : Nat) : growTo d (k + 1) = if nearAny d k (growTo d k) = true then growTo d k else growTo d k ++ [k] := rfl
theorem growTo_pre (d : Nat) {j : Nat} : ∀ {k}, j ≤ k → growTo d j <+: growTo d k
  | 0, h => by obtain rfl : j = 0 := by omega
               exact List.prefix_rfl
  | k + 1, h => by
    by_cases e : j = k + 1
    · subst e; exact List.prefix_rfl
    · have ih := growTo_pre d (j := j) (k := k) (by omega)
      rw [growTo_succ]; split
      · exact ih
      · exact ih.trans (List.prefix_append _ _)
theorem growTo_len (d : Nat) {j k : Nat} (h : j ≤ k) : (growTo d j).length ≤ (growTo d k).length := (growTo_pre d h).length_le
theorem growTo_lt (d : Nat) : ∀ k, ∀ a ∈ growTo d k, a < k
  | 0, a, h => by cases h
  | k + 1, a, h => by
    rw [growTo_succ] at h
    split at h
    · have := growTo_lt d k a h; omega
    · rcases List.mem_append.1 h with h | h
      · have := growTo_lt d k a h; omega
      · simp at h; omega
theorem nearAny_iff (d w : Nat) (l : List Nat) : nearAny d w l = true ↔ ∃ a ∈ l, popc (a ^^^ w) < d := by simp [nearAny]
theorem growTo_far (d : Nat) : ∀ k, (growTo d k).Pairwise fun a b => d ≤ popc (a ^^^ b)
  | 0 => List.Pairwise.nil
  | k + 1 => by
    rw [growTo_succ]
    split
    · exact growTo_far d k
    · rename_i h
      rw [nearAny_iff] at h
      refine List.pairwise_append.2 ⟨growTo_far d k, List.pairwise_singleton _ _, fun a ha b hb => ?_⟩
      simp at hb; subst hb
      exact Nat.le_of_not_lt fun hlt => h ⟨a, ha, hlt⟩
theorem growTo_cover {d : Nat} (hd : 1 ≤ d) : ∀ k w, w < k → ∃ a ∈ growTo d k, popc (a ^^^ w) < d
  | 0, w, h => by omega
  | k + 1, w, h => by
    by_cases e : w = k
    · subst e
      by_cases hn : nearAny d w (growTo d w) = true
      · rw [growTo_succ, if_pos hn]; exact (nearAny_iff _ _ _).1 hn
      · rw [growTo_succ, if_neg hn]; exact ⟨w, by simp, by rw [Nat.xor_self]; show popTo 0 32 < d; rw [popTo_of_zero]; omega⟩
    · obtain ⟨a, ha, hlt⟩ := growTo_cover hd k w (by omega)
      exact ⟨a, (growTo_pre d (Nat.le_succ k)).subset ha, hlt⟩
theorem sm_pos {f : Nat → Nat} {i : Nat} : ∀ {k : Nat}, i < k → 1 ≤ f i → 1 ≤ sm f k
  | 0, h, _ => by omega
  | k + 1, h, hf => by
    rw [sm_succ]
    by_cases e : i = k
    · subst e; omega
    · have := sm_pos (k := k) (i := i) (by omega) hf; omega
theorem cover_le (f : Nat → Nat → Bool) (k : Nat) : ∀ (R : List Nat), (∀ w ∈ R, ∃ i, i < k ∧ f i w = true) → R.length ≤ sm (fun i => R.countP (f i)) k
  | [], _ => Nat.zero_le _
  | w :: R, h => by
    have ih := cover_le f k R fun x hx => h x (by simp [hx])
    obtain ⟨i, hi, hf⟩ := h w (by simp)
    have e : sm (fun i => (w :: R).countP (f i)) k = sm (fun i => R.countP (f i)) k + sm (fun i => if f i w = true then 1 else 0) k := by
      rw [← sm_add]; exact sm_congr fun j _ => by rw [List.countP_cons]
    have h1 : 1 ≤ sm (fun i => if f i w = true then 1 else 0) k := sm_pos hi (by simp [hf])
    rw [e, List.length_cons]; omega
theorem gilbert {n d : Nat} (hd : 1 ≤ d) : 2 ^ n ≤ (growTo d (2 ^ n)).length * ballN n (d - 1) := by
  have h := cover_le (fun i w => decide (popc (w ^^^ gn (growTo d (2 ^ n)) i) ≤ d - 1)) (growTo d (2 ^ n)).length (List.range (2 ^ n)) fun w hw => by
    obtain ⟨a, ha, hlt⟩ := growTo_cover hd (2 ^ n) w (List.mem_range.1 hw)
    obtain ⟨i, hi, rfl⟩ := List.getElem_of_mem ha
    refine ⟨i, hi, decide_eq_true ?_⟩
    rw [gn_lt hi, popc_comm]; omega
  rw [List.length_range] at h
  refine Nat.le_trans h (Nat.le_of_eq ?_)
  rw [← sm_const]
  refine sm_congr fun i hi => ?_
  exact ball_any_centre (by rw [gn_lt hi]; exact growTo_lt d _ _ (List.getElem_mem hi))
theorem growTo_apart {d k i j : Nat} (hi : i < (growTo d k).length) (hj : j < (growTo d k).length) (hij : i ≠ j) : d ≤ popc (gn (growTo d k) i ^^^ gn (growTo d k) j) := by
  have h := List.pairwise_iff_getElem.1 (growTo_far d k)
  rw [gn_lt hi, gn_lt hj]
  rcases Nat.lt_or_gt_of_ne hij with hlt | hlt
  · exact h i j hi hj hlt
  · rw [popc_comm]; exact h j i hj hi hlt

/-! ### Sums: by the values of a game -/
theorem bounded (f : Nat → Nat) : ∀ N, ∃ M, ∀ r, r < N → f r < M
  | 0 => ⟨0, fun _ h => by omega⟩
  | N + 1 => by
    obtain ⟨M, h⟩ := bounded f N
    refine ⟨M + f N + 1, fun r hr => ?_⟩
    by_cases e : r = N
    · subst e; omega
    · have := h r (by omega); omega
theorem least_not (p : Nat → Prop) : ∀ M, ¬ p M → ∃ v, ¬ p v ∧ ∀ u, u < v → p u := by
  intro M
  induction M using Nat.strongRecOn with
  | _ M ih =>
    intro h
    by_cases hc : ∃ u, u < M ∧ ¬ p u
    · obtain ⟨u, hu, hn⟩ := hc; exact ih u hu hn
    · exact ⟨M, h, fun u hu => Classical.byContradiction fun hn => hc ⟨u, hu, hn⟩⟩
theorem mex_ex (d k : Nat) (g : Nat → Nat) : ∃ v, (¬ ∃ r, r < 2 ^ k ∧ popTo r k + 2 ≤ d ∧ g r = v) ∧ ∀ u, u < v → ∃ r, r < 2 ^ k ∧ popTo r k + 2 ≤ d ∧ g r = u := by
  obtain ⟨M, h⟩ := bounded g (2 ^ k)
  exact least_not (fun v => ∃ r, r < 2 ^ k ∧ popTo r k + 2 ≤ d ∧ g r = v) M fun ⟨r, hr, _, e⟩ => by have := h r hr; omega
noncomputable def mexV (d k : Nat) (g : Nat → Nat) : Nat := Classical.choose (mex_ex d k g)
theorem mexV_not (d k : Nat) (g : Nat → Nat) : ¬ ∃ r, r < 2 ^ k ∧ popTo r k + 2 ≤ d ∧ g r = mexV d k g := (Classical.choose_spec (mex_ex d k g)).1
theorem mexV_all (d k : Nat) (g : Nat → Nat) : ∀ u, u < mexV d k g → ∃ r, r < 2 ^ k ∧ popTo r k + 2 ≤ d ∧ g r = u := (Classical.choose_spec (mex_ex d k g)).2
noncomputable def gv (d : Nat) : Nat → Nat → Nat
  | 0, _ => 0
  | k + 1, w => gv d k w ^^^ (if w.testBit k = true then mexV d k (gv d k) else 0)
theorem gv_congr (d : Nat) {a b : Nat} : ∀ {k}, (∀ j, j < k → a.testBit j = b.testBit j) → gv d k a = gv d k b
  | 0, _ => rfl
  | k + 1, h => by rw [gv, gv, gv_congr d (k := k) fun j hj => h j (by omega), h k (by omega)]
theorem gv_xor (d a b : Nat) : ∀ k, gv d k (a ^^^ b) = gv d k a ^^^ gv d k b
  | 0 => (by show (0 : Nat) = 0 ^^^ 0; rfl)
  | k + 1 => by
    rw [gv, gv, gv, gv_xor d a b k, Nat.testBit_xor]
    generalize gv d k a = x; generalize gv d k b = y; generalize mexV d k (gv d k) = z
    have e : ∀ x y z : Nat, x ^^^ y = (x ^^^ z) ^^^ (y ^^^ z) := fun x y z => by
      rw [Nat.xor_assoc, ← Nat.xor_assoc z, Nat.xor_comm z y, Nat.xor_assoc y, Nat.xor_self, Nat.xor_zero]
    cases a.testBit k <;> cases b.testBit k <;> simp
    · rw [Nat.xor_assoc]
    · rw [Nat.xor_assoc, Nat.xor_comm y z, ← Nat.xor_assoc]
    · exact e x y z
/-- no step from a word of no value to one of no value -/
theorem gv_one (d : Nat) : ∀ k a w, a < 2 ^ k → w < 2 ^ k → a < w → gv d k a = gv d k w → popTo (a ^^^ w) k < d → False
  | 0, a, w, ha, hw, h, _, _ => by simp at ha hw; omega
  | k + 1, a, w, ha, hw, h, hg, hp => by
    rcases split_top ha with ⟨ta, la⟩ | ⟨ta, va, hva, ea, ca⟩ <;> rcases split_top hw with ⟨tw, lw⟩ | ⟨tw, vw, hvw, ew, cw⟩
    · rw [gv, gv, ta, tw] at hg
      rw [popTo_succ, Nat.testBit_xor, ta, tw] at hp
      exact gv_one d k a w la lw h (by simpa using hg) (by simpa using hp)
    · rw [gv, gv, ta, tw, if_pos rfl] at hg
      rw [popTo_succ, Nat.testBit_xor, ta, tw] at hp
      have e1 : gv d k w = gv d k vw := gv_congr d cw
      have e2 : popTo (a ^^^ w) k = popTo (a ^^^ vw) k := (rk_congr fun j hj => by rw [Nat.testBit_xor, Nat.testBit_xor, cw j hj]).2
      refine mexV_not d k (gv d k) ⟨a ^^^ vw, Nat.xor_lt_two_pow la hvw, ?_, ?_⟩
      · rw [e2] at hp; simp at hp; omega
      · rw [gv_xor, ← e1]
        simp at hg
        rw [hg, Nat.xor_comm (gv d k w), Nat.xor_assoc, Nat.xor_self, Nat.xor_zero]
    · omega
    · rw [gv, gv, ta, tw, if_pos rfl] at hg
      rw [popTo_succ, Nat.testBit_xor, ta, tw] at hp
      have e0 : gv d k va = gv d k a := (gv_congr d ca).symm
      have e1 : gv d k vw = gv d k w := (gv_congr d cw).symm
      have e2 : popTo (a ^^^ w) k = popTo (va ^^^ vw) k := (rk_congr fun j hj => by rw [Nat.testBit_xor, Nat.testBit_xor, ca j hj, cw j hj]).2
      refine gv_one d k va vw hva hvw (by omega) ?_ (by rw [← e2]; simpa using hp)
      rw [e0, e1]
      have := congrArg (· ^^^ mexV d k (gv d k)) hg
      simpa [Nat.xor_assoc, Nat.xor_self] using this
theorem lt_of_top {a b : Nat} (i : Nat) (ha : a.testBit i = false) (hb : b.testBit i = true) (h : ∀ j, i < j → a.testBit j = b.testBit j) : a < b := by
  have hh : a >>> (i + 1) = b >>> (i + 1) := Nat.eq_of_testBit_eq fun j => by rw [Nat.testBit_shiftRight, Nat.testBit_shiftRight]; exact h _ (by omega)
  rw [Nat.shiftRight_eq_div_pow, Nat.shiftRight_eq_div_pow, Nat.pow_succ, ← Nat.div_div_eq_div_mul, ← Nat.div_div_eq_div_mul] at hh
  rw [Nat.testBit_eq_decide_div_mod_eq] at ha hb
  have ha' := of_decide_eq_false ha
  have hb' := of_decide_eq_true hb
  have hlt : a / 2 ^ i < b / 2 ^ i := by omega
  exact Nat.lt_of_div_lt_div hlt
theorem top_bit : ∀ n x, x < 2 ^ n → x ≠ 0 → ∃ b, x.testBit b = true ∧ ∀ j, b < j → x.testBit j = false
  | 0, x, h, hx => by simp at h; omega
  | n + 1, x, h, hx => by
    rcases split_top h with ⟨_, lx⟩ | ⟨tx, _⟩
    · exact top_bit n x lx hx
    · exact ⟨n, tx, fun j hj => Nat.testBit_lt_two_pow (Nat.lt_of_lt_of_le h (Nat.pow_le_pow_right (by omega) (by omega)))⟩
theorem gv_coin (d w b : Nat) : ∀ k, (gv d k w).testBit b = true → ∃ i, i < k ∧ w.testBit i = true ∧ (mexV d i (gv d i)).testBit b = true
  | 0, h => by simp [gv] at h
  | k + 1, h => by
    rw [gv, Nat.testBit_xor] at h
    by_cases hk : (gv d k w).testBit b = true
    · obtain ⟨i, hi, h1, h2⟩ := gv_coin d w b k hk; exact ⟨i, by omega, h1, h2⟩
    · by_cases ht : w.testBit k = true
      · rw [if_pos ht] at h
        refine ⟨k, by omega, ht, ?_⟩
        revert h hk; cases (gv d k w).testBit b <;> simp
      · rw [if_neg ht] at h; simp at h; exact absurd h hk
theorem gv_low (d : Nat) {t i : Nat} (ht : t < 2 ^ i) : ∀ k, gv d (i + k) t = gv d i t
  | 0 => rfl
  | k + 1 => by rw [← Nat.add_assoc, gv, gv_low d ht k, Nat.testBit_lt_two_pow (Nat.lt_of_lt_of_le ht (Nat.pow_le_pow_right (by omega) (by omega)))]; simp
/-- from a word of some value there is a step to one of none -/
theorem gv_some (d k w : Nat) (hg : gv d k w ≠ 0) : ∃ a, a < w ∧ gv d k a = 0 ∧ popTo (a ^^^ w) k < d ∧ (w < 2 ^ k → a < 2 ^ k) := by
  obtain ⟨b, hb, hab⟩ := top_bit _ (gv d k w) Nat.lt_two_pow_self hg
  obtain ⟨i, hi, hwi, hmi⟩ := gv_coin d w b k hb
  have hlt : mexV d i (gv d i) ^^^ gv d k w < mexV d i (gv d i) :=
    lt_of_top b (by rw [Nat.testBit_xor, hmi, hb]; rfl) hmi fun j hj => by rw [Nat.testBit_xor, hab j hj]; simp
  obtain ⟨r, hr, hpr, hgr⟩ := mexV_all d i (gv d i) _ hlt
  have htop : (2 ^ i + r).testBit i = true := by rw [Nat.testBit_two_pow_add_eq, Nat.testBit_lt_two_pow hr]; rfl
  have hlow : ∀ j, j < i → (2 ^ i + r).testBit j = r.testBit j := fun j hj => Nat.testBit_two_pow_add_gt hj _
  have hT : 2 ^ i + r < 2 ^ (i + 1) := by rw [Nat.pow_succ]; omega
  have hhigh : ∀ j, i < j → (2 ^ i + r).testBit j = false := fun j hj => Nat.testBit_lt_two_pow (Nat.lt_of_lt_of_le hT (Nat.pow_le_pow_right (by omega) (by omega)))
  obtain ⟨e, rfl⟩ : ∃ e, k = i + 1 + e := ⟨k - (i + 1), by omega⟩
  have hgt : gv d (i + 1 + e) (2 ^ i + r) = gv d (i + 1 + e) w := by
    rw [gv_low d hT e, gv, htop, if_pos rfl, gv_congr d hlow, hgr]
    rw [Nat.xor_comm (mexV d i (gv d i)), Nat.xor_assoc, Nat.xor_self, Nat.xor_zero]
  have hpt : popTo (2 ^ i + r) (i + 1 + e) = popTo r i + 1 := by
    rw [popTo_short hT e, popTo_succ, htop, if_pos rfl, (rk_congr hlow).2]
  refine ⟨w ^^^ (2 ^ i + r), ?_, ?_, ?_, fun hw => Nat.xor_lt_two_pow hw (Nat.lt_of_lt_of_le hT (Nat.pow_le_pow_right (by omega) (by omega)))⟩
  · exact lt_of_top i (by rw [Nat.testBit_xor, hwi, htop]; rfl) hwi fun j hj => by rw [Nat.testBit_xor, hhigh j hj]; simp
  · rw [gv_xor, hgt, Nat.xor_self]
  · rw [Nat.xor_comm w, Nat.xor_assoc, Nat.xor_self, Nat.xor_zero, hpt]; omega
theorem growTo_gv {d n : Nat} (hn : n ≤ 32) : ∀ k, k ≤ 2 ^ n → ∀ a, a ∈ growTo d k ↔ a < k ∧ gv d n a = 0
  | 0, _, a => by constructor
                  · intro h; cases h
                  · intro h; omega
  | k + 1, hk, a => by
    have ih := growTo_gv (d := d) hn k (by omega)
    have hnear : nearAny d k (growTo d k) = true ↔ gv d n k ≠ 0 := by
      rw [nearAny_iff]
      constructor
      · rintro ⟨a, ha, hlt⟩ h0
        obtain ⟨hak, hga⟩ := (ih a).1 ha
        have hx : a ^^^ k < 2 ^ n := Nat.xor_lt_two_pow (by omega) (by omega)
        exact gv_one d n a k (by omega) (by omega) hak (by rw [hga, h0]) (by rw [← popc_short hx hn]; exact hlt)
      · intro h0
        obtain ⟨a, hak, hga, hlt, hs⟩ := gv_some d n k h0
        have hx : a ^^^ k < 2 ^ n := Nat.xor_lt_two_pow (hs (by omega)) (by omega)
        exact ⟨a, (ih a).2 ⟨hak, hga⟩, by rw [popc_short hx hn]; exact hlt⟩
    rw [growTo_succ]
    by_cases h : nearAny d k (growTo d k) = true
    · rw [if_pos h, ih a]
      constructor
      · rintro ⟨h1, h2⟩; exact ⟨by omega, h2⟩
      · rintro ⟨h1, h2⟩
        refine ⟨?_, h2⟩
        by_cases e : a = k
        · subst e; exact absurd h2 (hnear.1 h)
        · omega
    · rw [if_neg h, List.mem_append, ih a, List.mem_singleton]
      have h0 : gv d n k = 0 := Classical.byContradiction fun hc => h (hnear.2 hc)
      constructor
      · rintro (⟨h1, h2⟩ | rfl)
        · exact ⟨by omega, h2⟩
        · exact ⟨by omega, h0⟩
      · rintro ⟨h1, h2⟩
        by_cases e : a = k
        · exact .inr e
        · exact .inl ⟨by omega, h2⟩
theorem grow_sums {d n a b : Nat} (hn : n ≤ 32) (ha : a ∈ growTo d (2 ^ n)) (hb : b ∈ growTo d (2 ^ n)) : a ^^^ b ∈ growTo d (2 ^ n) := by
  have hg := growTo_gv (d := d) hn (2 ^ n) (Nat.le_refl _)
  obtain ⟨a1, a2⟩ := (hg a).1 ha
  obtain ⟨b1, b2⟩ := (hg b).1 hb
  exact (hg _).2 ⟨Nat.xor_lt_two_pow a1 b1, by rw [gv_xor, a2, b2]; rfl⟩
end Go.Proofs.Ytclobhnclogaoaa
