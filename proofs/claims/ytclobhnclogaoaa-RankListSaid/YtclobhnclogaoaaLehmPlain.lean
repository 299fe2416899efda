/-
  Plain: lists that hold each number once, and their ranks (Lehmer).
-/
import Derived.Test.YtclobhnclogaoaaRankPlain
namespace Go.Proofs.Ytclobhnclogaoaa
open Go V

def fct : Nat → Nat := iter (fun i x => x * (i + 1)) 1
theorem fct_succ (k : Nat) : fct (k + 1) = fct k * (k + 1) := rfl
theorem fct_pos : ∀ k, 1 ≤ fct k
  | 0 => Nat.le_refl _
  | k + 1 => by have := fct_pos k; rw [fct_succ]; exact Nat.mul_pos this (by omega)
theorem fct_mono {j : Nat} : ∀ {k}, j ≤ k → fct j ≤ fct k
  | 0, h => by obtain rfl : j = 0 := by omega
               exact Nat.le_refl _
  | k + 1, h => by
    by_cases e : j = k + 1
    · subst e; exact Nat.le_refl _
    · have := fct_mono (j := j) (k := k) (by omega)
      rw [fct_succ]; exact Nat.le_trans this (Nat.le_mul_of_pos_right _ (by omega))
theorem fct_le {k : Nat} (h : k ≤ 8) : fct k ≤ 40320 := fct_mono h

/-! ### From the back -/
def rnk : List Nat → List Nat → Nat
  | _, [] => 0
  | left, x :: r => left.idxOf x * fct r.length + rnk (left.erase x) r
theorem rnk_lt : ∀ (l left : List Nat), left.length = l.length → (∀ x ∈ l, x ∈ left) → l.Nodup → rnk left l < fct l.length
  | [], _, _, _, _ => fct_pos 0
  | x :: r, left, hl, hm, hn => by
    have hx : x ∈ left := hm x (by simp)
    obtain ⟨hxr, hr⟩ := List.nodup_cons.1 hn
    have hlen : (left.erase x).length = r.length := by rw [List.length_erase_of_mem hx]; simp at hl; omega
    have ih := rnk_lt r (left.erase x) hlen (fun y hy => (List.mem_erase_of_ne (fun e : y = x => hxr (by rw [← e]; exact hy))).2 (hm y (by simp [hy]))) hr
    have hi : left.idxOf x < left.length := List.idxOf_lt_length_of_mem hx
    simp only [rnk, List.length_cons, fct_succ]
    have : left.idxOf x * fct r.length ≤ r.length * fct r.length := Nat.mul_le_mul_right _ (by simp at hl; omega)
    have e : fct r.length * (r.length + 1) = r.length * fct r.length + fct r.length := by rw [Nat.mul_add, Nat.mul_one, Nat.mul_comm]
    omega
def unr : Nat → List Nat → Nat → List Nat
  | 0, _, _ => []
  | m + 1, left, i => left.getD (i / fct m) 0 :: unr m (left.eraseIdx (i / fct m)) (i % fct m)
theorem unr_len : ∀ m left i, (unr m left i).length = m
  | 0, _, _ => rfl
  | m + 1, left, i => by simp [unr, unr_len m]
theorem eraseIdx_idxOf {l : List Nat} {x : Nat} : l.eraseIdx (l.idxOf x) = l.erase x := by
  rw [List.erase_eq_eraseIdx_of_idxOf]; rfl
theorem unr_rnk : ∀ (l left : List Nat), left.length = l.length → (∀ x ∈ l, x ∈ left) → l.Nodup → unr l.length left (rnk left l) = l
  | [], _, _, _, _ => rfl
  | x :: r, left, hl, hm, hn => by
    have hx : x ∈ left := hm x (by simp)
    obtain ⟨hxr, hr⟩ := List.nodup_cons.1 hn
    have hlen : (left.erase x).length = r.length := by rw [List.length_erase_of_mem hx]; simp at hl; omega
    have hm2 : ∀ y ∈ r, y ∈ left.erase x := fun y hy => (List.mem_erase_of_ne (fun e : y = x => hxr (by rw [← e]; exact hy))).2 (hm y (by simp [hy]))
    have hlt := rnk_lt r (left.erase x) hlen hm2 hr
    have hi : left.idxOf x < left.length := List.idxOf_lt_length_of_mem hx
    have hd : rnk left (x :: r) / fct r.length = left.idxOf x := by
      simp only [rnk]
      rw [Nat.mul_comm, Nat.mul_add_div (fct_pos _), Nat.div_eq_of_lt hlt, Nat.add_zero]
    have hmd : rnk left (x :: r) % fct r.length = rnk (left.erase x) r := by
      simp only [rnk]
      rw [Nat.mul_comm, Nat.mul_add_mod, Nat.mod_eq_of_lt hlt]
    simp only [List.length_cons, unr]
    rw [hd, hmd, eraseIdx_idxOf, unr_rnk r (left.erase x) hlen hm2 hr]
    congr 1
    rw [List.getD_eq_getElem?_getD, List.getElem?_eq_getElem hi]
    simp
theorem unr_spec : ∀ (m : Nat) (left : List Nat) (i : Nat), left.length = m → left.Nodup → i < fct m → (unr m left i).Perm left ∧ rnk left (unr m left i) = i
  | 0, left, i, hl, _, hi => by
    obtain rfl := List.eq_nil_of_length_eq_zero hl
    have h1 : fct 0 = 1 := rfl
    exact ⟨.refl _, by show 0 = i; omega⟩
  | m + 1, left, i, hl, hn, hi => by
    have hf := fct_pos m
    have hat : i / fct m < left.length := by
      rw [hl]; rw [fct_succ, Nat.mul_comm] at hi; exact Nat.div_lt_of_lt_mul (by rw [Nat.mul_comm]; exact hi)
    have hx : left.getD (i / fct m) 0 = left[i / fct m] := by simp [hat]
    have hmem : left[i / fct m] ∈ left := List.getElem_mem hat
    have hidx : left.idxOf left[i / fct m] = i / fct m := List.Nodup.idxOf_getElem hn _ hat
    have her : left.eraseIdx (i / fct m) = left.erase left[i / fct m] := by rw [← eraseIdx_idxOf, hidx]
    obtain ⟨p1, p2⟩ := unr_spec m (left.eraseIdx (i / fct m)) (i % fct m) (by rw [List.length_eraseIdx_of_lt hat]; omega) (hn.sublist (List.eraseIdx_sublist _ _)) (Nat.mod_lt _ hf)
    constructor
    · simp only [unr]
      rw [hx]
      refine (List.Perm.cons _ p1).trans ?_
      rw [her]
      exact (List.perm_cons_erase hmem).symm
    · simp only [unr, rnk]
      rw [hx, hidx, ← her, p2, unr_len, Nat.mul_comm]
      exact Nat.div_add_mod _ _

/-! ### From the front, by a set of bits -/
def seenTo (l : List Nat) : Nat → Nat := iter (fun i s => s ||| 1 <<< gn l i) 0
theorem seenTo_succ (l : List Nat) (k : Nat) : seenTo l (k + 1) = seenTo l k ||| 1 <<< gn l k := rfl
def lessAt (l : List Nat) (k : Nat) : Nat := gn l k - popc (seenTo l k &&& (1 <<< gn l k - 1))
def ordTo (l : List Nat) (n : Nat) : Nat → Nat := iter (fun i s => s + lessAt l i * fct (n - 1 - i)) 0
theorem ordTo_succ (l : List Nat) (n k : Nat) : ordTo l n (k + 1) = ordTo l n k + lessAt l k * fct (n - 1 - k) := rfl
theorem seenTo_bit (l : List Nat) (x : Nat) : ∀ k, (seenTo l k).testBit x = decide (∃ j, j < k ∧ gn l j = x)
  | 0 => by simp [seenTo, iter]
  | k + 1 => by
    rw [seenTo_succ, Nat.testBit_or, seenTo_bit l x k, Nat.shiftLeft_eq, Nat.one_mul, Nat.testBit_two_pow]
    rw [Bool.eq_iff_iff]
    simp only [Bool.or_eq_true, decide_eq_true_eq]
    constructor
    · rintro (⟨j, hj, h⟩ | h)
      · exact ⟨j, by omega, h⟩
      · exact ⟨k, by omega, h⟩
    · rintro ⟨j, hj, h⟩
      by_cases e : j = k
      · subst e; exact .inr h
      · exact .inl ⟨j, by omega, h⟩
theorem seenTo_lt (l : List Nat) (n : Nat) : ∀ k, (∀ j, j < k → gn l j < n) → seenTo l k < 2 ^ n
  | 0, _ => Nat.two_pow_pos n
  | k + 1, h => by
    rw [seenTo_succ, Nat.shiftLeft_eq, Nat.one_mul]
    exact Nat.or_lt_two_pow (seenTo_lt l n k fun j hj => h j (by omega)) (Nat.pow_lt_pow_right (by omega) (h k (by omega)))
/-- the numbers below n that did not come among the first k -/
def leftAt (l : List Nat) (n k : Nat) : List Nat := (List.range n).filter fun x => !(seenTo l k).testBit x
theorem leftAt_zero (l : List Nat) (n : Nat) : leftAt l n 0 = List.range n := by
  unfold leftAt
  rw [List.filter_eq_self]
  intro x _
  simp [seenTo, iter]
theorem popTo_low (s x : Nat) : ∀ k, x ≤ k → popTo (s &&& (1 <<< x - 1)) k = popTo s x := by
  intro k hk
  rw [Nat.shiftLeft_eq, Nat.one_mul]
  have h1 := popTo_and s x x (Nat.le_refl _)
  rw [← h1]
  have hlt : s &&& (2 ^ x - 1) < 2 ^ x := Nat.and_lt_two_pow _ (by have := Nat.two_pow_pos x; omega)
  obtain ⟨d, rfl⟩ := Nat.exists_eq_add_of_le hk
  clear hk
  induction d with
  | zero => rfl
  | succ d ih => rw [← Nat.add_assoc, popTo_succ, ih, Nat.testBit_lt_two_pow (Nat.lt_of_lt_of_le hlt (Nat.pow_le_pow_right (by omega) (by omega)))]; simp
theorem count_unseen (s : Nat) : ∀ x, ((List.range x).filter fun y => !s.testBit y).length + popTo s x = x
  | 0 => rfl
  | x + 1 => by
    have ih := count_unseen s x
    rw [List.range_succ, List.filter_append, List.length_append, popTo_succ]
    cases h : s.testBit x <;> simp [h] <;> omega
theorem idxOf_left (s n x : Nat) (hx : x < n) (hs : s.testBit x = false) : ((List.range n).filter fun y => !s.testBit y).idxOf x = ((List.range x).filter fun y => !s.testBit y).length := by
  obtain ⟨d, rfl⟩ : ∃ d, n = x + (d + 1) := ⟨n - x - 1, by omega⟩
  rw [List.range_add, List.filter_append, List.idxOf_append, if_neg (by simp [List.mem_filter])]
  rw [List.range_succ_eq_map, List.map_cons, Nat.add_zero, List.filter_cons_of_pos (by simp [hs]), List.idxOf_cons_self, Nat.zero_add]
theorem lessAt_idx {l : List Nat} {n k : Nat} (hn : n ≤ 8) (hx : gn l k < n) (hs : (seenTo l k).testBit (gn l k) = false) : lessAt l k = (leftAt l n k).idxOf (gn l k) := by
  have h1 := count_unseen (seenTo l k) (gn l k)
  unfold lessAt leftAt popc
  rw [popTo_low _ _ 32 (by omega), idxOf_left _ n _ hx hs]
  omega
theorem leftAt_succ {l : List Nat} {n k : Nat} : leftAt l n (k + 1) = (leftAt l n k).erase (gn l k) := by
  have hnd : (leftAt l n k).Nodup := List.nodup_range.sublist List.filter_sublist
  rw [List.Nodup.erase_eq_filter hnd]
  unfold leftAt
  rw [List.filter_filter]
  refine List.filter_congr fun x _ => ?_
  rw [seenTo_succ, Nat.testBit_or, Nat.shiftLeft_eq, Nat.one_mul, Nat.testBit_two_pow]
  by_cases e : gn l k = x
  · subst e; simp
  · simp [e, Ne.symm e]
/-- each number once -/
def OnceN (l : List Nat) : Prop := ∀ k, k < l.length → gn l k < l.length ∧ ∀ j, j < k → gn l j ≠ gn l k
theorem drop_gn {l : List Nat} {k : Nat} (h : k < l.length) : l.drop k = gn l k :: l.drop (k + 1) := by rw [List.drop_eq_getElem_cons h, gn_lt h]
theorem ord_rest {l : List Nat} (hn : l.length ≤ 8) (ho : OnceN l) : ∀ d k, k + d = l.length → ordTo l l.length k + rnk (leftAt l l.length k) (l.drop k) = ordTo l l.length l.length
  | 0, k, h => by
    obtain rfl : k = l.length := by omega
    rw [List.drop_length]; rfl
  | d + 1, k, h => by
    have hk : k < l.length := by omega
    have ih := ord_rest hn ho d (k + 1) (by omega)
    obtain ⟨h1, h2⟩ := ho k hk
    have hs : (seenTo l k).testBit (gn l k) = false := by
      rw [seenTo_bit, decide_eq_false_iff_not]
      rintro ⟨j, hj, e⟩; exact h2 j hj e
    rw [← ih, drop_gn hk, ordTo_succ, leftAt_succ]
    simp only [rnk]
    rw [lessAt_idx hn h1 hs, List.length_drop, show l.length - 1 - k = l.length - (k + 1) by omega]
    omega
theorem ord_rnk {l : List Nat} (hn : l.length ≤ 8) (ho : OnceN l) : ordTo l l.length l.length = rnk (List.range l.length) l := by
  have := ord_rest hn ho l.length 0 (by omega)
  rw [leftAt_zero, List.drop_zero] at this
  have h0 : ordTo l l.length 0 = 0 := rfl
  rw [h0, Nat.zero_add] at this; exact this.symm
theorem once_nodup {l : List Nat} (ho : OnceN l) : l.Nodup := by
  rw [List.nodup_iff_pairwise_ne, List.pairwise_iff_getElem]
  intro i j hi hj hij e
  have := (ho j hj).2 i hij
  rw [gn_lt hi, gn_lt hj] at this
  exact this e
theorem once_mem {l : List Nat} (ho : OnceN l) : ∀ x ∈ l, x ∈ List.range l.length := by
  intro x hx
  obtain ⟨k, hk, rfl⟩ := List.getElem_of_mem hx
  have := (ho k hk).1
  rw [gn_lt hk] at this
  exact List.mem_range.2 this
theorem ord_lt {l : List Nat} (hn : l.length ≤ 8) (ho : OnceN l) : ordTo l l.length l.length < fct l.length := by
  rw [ord_rnk hn ho]; exact rnk_lt l _ (by simp) (once_mem ho) (once_nodup ho)
theorem unr_ord {l : List Nat} (hn : l.length ≤ 8) (ho : OnceN l) : unr l.length (List.range l.length) (ordTo l l.length l.length) = l := by
  rw [ord_rnk hn ho]; exact unr_rnk l _ (by simp) (once_mem ho) (once_nodup ho)
theorem unr_once {n i : Nat} (hi : i < fct n) : OnceN (unr n (List.range n) i) := by
  obtain ⟨p, _⟩ := unr_spec n (List.range n) i (by simp) List.nodup_range hi
  have hnd : (unr n (List.range n) i).Nodup := p.nodup_iff.2 List.nodup_range
  intro k hk
  rw [unr_len] at *
  have hk' : k < (unr n (List.range n) i).length := by rw [unr_len]; exact hk
  refine ⟨?_, fun j hj e => ?_⟩
  · rw [gn_lt hk']; exact List.mem_range.1 (p.mem_iff.1 (List.getElem_mem hk'))
  · have hj' : j < (unr n (List.range n) i).length := by rw [unr_len]; omega
    rw [gn_lt hk', gn_lt hj'] at e
    have := (List.pairwise_iff_getElem.1 (List.nodup_iff_pairwise_ne.1 hnd)) j k hj' hk' hj
    exact this e
theorem ord_unr {n i : Nat} (hn : n ≤ 8) (hi : i < fct n) : ordTo (unr n (List.range n) i) n n = i := by
  have ho := unr_once hi
  have hl := unr_len n (List.range n) i
  have h := ord_rnk (by rw [hl]; exact hn) ho
  rw [hl] at h
  rw [h]; exact (unr_spec n (List.range n) i (by simp) List.nodup_range hi).2
theorem less_pop (l : List Nat) (k : Nat) (h : gn l k ≤ 8) : popc (seenTo l k &&& (1 <<< gn l k - 1)) ≤ gn l k := by
  unfold popc
  rw [popTo_low _ _ 32 (by omega)]; exact popTo_le _ _
theorem ordTo_le (l : List Nat) (n : Nat) (hn : n ≤ 8) : ∀ k, (∀ j, j < k → gn l j < n) → ordTo l n k ≤ k * (8 * 40320)
  | 0, _ => Nat.le_refl _
  | k + 1, h => by
    have ih := ordTo_le l n hn k fun j hj => h j (by omega)
    have h1 : lessAt l k ≤ 8 := by have := h k (by omega); unfold lessAt; omega
    have h2 : fct (n - 1 - k) ≤ 40320 := fct_le (by omega)
    have := Nat.mul_le_mul h1 h2
    rw [ordTo_succ]; omega

/-! ### The lists as the code has them -/
def OnceP (l : List Int) : Prop := ∀ k, k < l.length → (0 ≤ gz l k ∧ gz l k < l.length) ∧ ∀ j, j < k → gz l j ≠ gz l k
abbrev nats (l : List Int) : List Nat := l.map Int.toNat
theorem nats_gn (l : List Int) (k : Nat) (h : 0 ≤ gz l k) : (gn (nats l) k : Int) = gz l k := by
  unfold gn gz nats at *
  simp only [List.getD_eq_getElem?_getD, List.getElem?_map] at *
  cases hl : l[k]? with
  | none => simp
  | some z => rw [hl] at h; simp only [Option.getD_some] at h; simp; omega
theorem once_nats {l : List Int} (h : OnceP l) : OnceN (nats l) := by
  intro k hk
  have hk' : k < l.length := by simpa [nats] using hk
  obtain ⟨h1, h2⟩ := h k hk'
  have hg := nats_gn l k h1.1
  have hll : (nats l).length = l.length := by simp [nats]
  refine ⟨by rw [hll]; omega, fun j hj e => ?_⟩
  have hgj := nats_gn l j (h j (by omega)).1.1
  exact h2 j hj (by rw [← hg, ← hgj, e])
theorem nats_back {l : List Int} (h : OnceP l) : (nats l).map (fun x : Nat => (x : Int)) = l := by
  refine gz_eq_of (by simp [nats]) fun k hk => ?_
  have hk' : k < l.length := by simpa [nats] using hk
  have hg := nats_gn l k (h k hk').1.1
  rw [← hg]
  unfold gz gn
  simp only [List.getD_eq_getElem?_getD, List.getElem?_map]
  rw [List.getElem?_eq_getElem hk']; simp
theorem once_cast {l : List Nat} (h : OnceN l) : OnceP (l.map fun x : Nat => (x : Int)) := by
  have hg : ∀ j, j < l.length → gz (l.map fun x : Nat => (x : Int)) j = (gn l j : Int) := fun j hj => by
    unfold gz gn
    simp only [List.getD_eq_getElem?_getD, List.getElem?_map]
    rw [List.getElem?_eq_getElem hj]; simp
  intro k hk
  have hk' : k < l.length := by simpa using hk
  obtain ⟨h1, h2⟩ := h k hk'
  rw [hg k hk', List.length_map]
  refine ⟨by omega, fun j hj e => ?_⟩
  rw [hg j (by omega)] at e
  exact h2 j hj (by omega)
theorem nats_cast (l : List Nat) : nats (l.map fun x : Nat => (x : Int)) = l := by
  unfold nats
  rw [List.map_map]
  conv => rhs; rw [← List.map_id l]
  exact List.map_congr_left fun x _ => by simp
/-- one step of taking out -/
structure Us where
  left : List Nat
  out : List Nat
  i : Nat
def ustep (n k : Nat) (s : Us) : Us := ⟨s.left.eraseIdx (s.i / fct (n - 1 - k)), s.out ++ [s.left.getD (s.i / fct (n - 1 - k)) 0], s.i % fct (n - 1 - k)⟩
def uTo (n i : Nat) : Nat → Us := iter (ustep n) ⟨List.range n, [], i⟩
theorem uTo_succ (n i k : Nat) : uTo n i (k + 1) = ustep n k (uTo n i k) := rfl
theorem uTo_spec {n i : Nat} (hi : i < fct n) : ∀ k, k ≤ n → (uTo n i k).left.length = n - k ∧ (uTo n i k).out.length = k ∧ (uTo n i k).i < fct (n - k) ∧ (uTo n i k).out ++ unr (n - k) (uTo n i k).left (uTo n i k).i = unr n (List.range n) i
  | 0, _ => ⟨by simp [uTo, iter], rfl, hi, by show [] ++ _ = _; rfl⟩
  | k + 1, hk => by
    obtain ⟨h1, h2, h3, h4⟩ := uTo_spec hi k (by omega)
    have hn : n - k = (n - 1 - k) + 1 := by omega
    have hf := fct_pos (n - 1 - k)
    have hat : (uTo n i k).i / fct (n - 1 - k) < (uTo n i k).left.length := by
      rw [h1, hn]; rw [hn, fct_succ, Nat.mul_comm] at h3; exact Nat.div_lt_of_lt_mul (by rw [Nat.mul_comm]; exact h3)
    rw [uTo_succ]
    simp only [ustep]
    refine ⟨by rw [List.length_eraseIdx_of_lt hat]; omega, by rw [List.length_append, h2]; rfl, by rw [show n - (k + 1) = n - 1 - k by omega]; exact Nat.mod_lt _ hf, ?_⟩
    rw [← h4, hn]
    simp only [unr]
    rw [List.append_assoc, show n - (k + 1) = n - 1 - k by omega]; rfl
theorem uTo_at {n i k : Nat} (hi : i < fct n) (hk : k < n) : (uTo n i k).i / fct (n - 1 - k) < n - k := by
  obtain ⟨h1, h2, h3, h4⟩ := uTo_spec hi k (by omega)
  have hn : n - k = (n - 1 - k) + 1 := by omega
  rw [hn]; rw [hn, fct_succ, Nat.mul_comm] at h3; exact Nat.div_lt_of_lt_mul (by rw [Nat.mul_comm]; exact h3)
theorem uTo_end {n i : Nat} (hi : i < fct n) : (uTo n i n).out = unr n (List.range n) i := by
  obtain ⟨_, _, _, h4⟩ := uTo_spec hi n (Nat.le_refl _)
  rw [Nat.sub_self] at h4
  rw [← h4]; simp [unr]
end Go.Proofs.Ytclobhnclogaoaa
