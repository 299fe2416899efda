/-
  Plain: sums of rows, words that have an even number in common with each row, and how many there are (MacWilliams).
-/
import Derived.Test.YtjmpkmomlpgbdaaCountPlain
namespace Go.Proofs.Ytjmpkmomlpgbdaa
open Go V

theorem popTo_xor_par (a b : Nat) : ∀ k, popTo (a ^^^ b) k % 2 = (popTo a k + popTo b k) % 2
  | 0 => rfl
  | k + 1 => by
    have := popTo_xor_par a b k
    simp only [popTo_succ, Nat.testBit_xor]
    cases a.testBit k <;> cases b.testBit k <;> simp <;> omega
def od (x y : Nat) : Bool := decide (popc (x &&& y) % 2 = 1)
theorem od_xor (c a b : Nat) : od c (a ^^^ b) = (od c a != od c b) := by
  unfold od
  have h : c &&& (a ^^^ b) = (c &&& a) ^^^ (c &&& b) := Nat.and_xor_distrib_left
  have := popTo_xor_par (c &&& a) (c &&& b) 32
  rw [h]
  unfold popc
  by_cases h1 : popTo (c &&& a) 32 % 2 = 1 <;> by_cases h2 : popTo (c &&& b) 32 % 2 = 1 <;> by_cases h3 : popTo (c &&& a ^^^ c &&& b) 32 % 2 = 1 <;> first | (exfalso; omega) | simp [h1, h2, h3]
theorem od_comm (a b : Nat) : od a b = od b a := by unfold od; rw [Nat.and_comm]
theorem od_zero (a : Nat) : od a 0 = false := by unfold od popc; rw [Nat.and_zero, popTo_of_zero]; rfl
def ch (x y : Nat) : Int := if od x y = true then -1 else 1
theorem ch_xor (c a b : Nat) : ch c (a ^^^ b) = ch c a * ch c b := by
  unfold ch; rw [od_xor]; cases od c a <;> cases od c b <;> rfl
theorem ch_comm (a b : Nat) : ch a b = ch b a := by unfold ch; rw [od_comm]
theorem ch_zero (a : Nat) : ch a 0 = 1 := by unfold ch; rw [od_zero]; rfl
/-- sums over lists -/
def sI : List Nat → (Nat → Int) → Int
  | [], _ => 0
  | x :: l, f => f x + sI l f
theorem sI_app (f : Nat → Int) : ∀ a b : List Nat, sI (a ++ b) f = sI a f + sI b f
  | [], b => by simp [sI]
  | x :: a, b => by rw [List.cons_append, sI, sI, sI_app f a b, Int.add_assoc]
theorem sI_map (f : Nat → Int) (g : Nat → Nat) : ∀ l : List Nat, sI (l.map g) f = sI l fun x => f (g x)
  | [] => rfl
  | x :: l => by rw [List.map_cons, sI, sI, sI_map f g l]
theorem sI_congr {f g : Nat → Int} : ∀ {l : List Nat}, (∀ x ∈ l, f x = g x) → sI l f = sI l g
  | [], _ => rfl
  | x :: l, h => by rw [sI, sI, h x (by simp), sI_congr fun y hy => h y (by simp [hy])]
theorem sI_perm (f : Nat → Int) {a b : List Nat} (h : a.Perm b) : sI a f = sI b f := by
  induction h with
  | nil => rfl
  | cons x _ ih => rw [sI, sI, ih]
  | swap x y l => simp only [sI]; omega
  | trans _ _ ih1 ih2 => exact ih1.trans ih2
theorem sI_add (f g : Nat → Int) : ∀ l : List Nat, sI l (fun x => f x + g x) = sI l f + sI l g
  | [] => rfl
  | x :: l => by rw [sI, sI, sI, sI_add f g l]; omega
theorem sI_mul (c : Int) (f : Nat → Int) : ∀ l : List Nat, sI l (fun x => c * f x) = c * sI l f
  | [] => by simp [sI]
  | x :: l => by rw [sI, sI, sI_mul c f l, Int.mul_add]
theorem sI_zero : ∀ l : List Nat, sI l (fun _ => 0) = 0
  | [] => rfl
  | x :: l => by rw [sI, sI_zero l]; rfl
theorem sI_one : ∀ l : List Nat, sI l (fun _ => 1) = l.length
  | [] => rfl
  | x :: l => by rw [sI, sI_one l, List.length_cons]; omega
theorem sI_swap (f : Nat → Nat → Int) (b : List Nat) : ∀ a : List Nat, sI a (fun x => sI b (f x)) = sI b fun y => sI a fun x => f x y
  | [] => (sI_zero b).symm
  | x :: a => by simp only [sI]; rw [sI_swap f b a, ← sI_add]
theorem sI_filter (p : Nat → Bool) (f : Nat → Int) : ∀ l : List Nat, sI (l.filter p) f = sI l fun x => if p x = true then f x else 0
  | [] => rfl
  | x :: l => by
    rw [List.filter_cons, sI]
    by_cases h : p x = true
    · rw [if_pos h, if_pos h, sI, sI_filter p f l]
    · rw [if_neg h, if_neg h, sI_filter p f l, Int.zero_add]
theorem sI_count (p : Nat → Bool) (c : Int) (l : List Nat) : sI l (fun x => if p x = true then c else 0) = c * (l.filter p).length := by
  rw [← sI_filter, ← sI_one, ← sI_mul, sI_congr fun x _ => (Int.mul_one c).symm]
theorem sI_ind {a : Nat} {c : Int} : ∀ {l : List Nat}, l.Nodup → a ∈ l → sI l (fun x => if x = a then c else 0) = c
  | [], _, h => by simp at h
  | x :: l, hn, h => by
    rw [List.nodup_cons] at hn
    rw [sI]
    by_cases e : x = a
    · subst e
      rw [if_pos rfl, sI_congr (f := fun y => if y = x then c else 0) (g := fun _ => 0) (fun y hy => if_neg (fun e : y = x => hn.1 (e ▸ hy))), sI_zero, Int.add_zero]
    · rw [if_neg e, Int.zero_add, sI_ind hn.2]
      rcases List.mem_cons.1 h with h | h
      · exact absurd h.symm e
      · exact h
theorem sI_not {a : Nat} {c : Int} {l : List Nat} (h : ¬ a ∈ l) : sI l (fun x => if x = a then c else 0) = 0 := by
  rw [sI_congr (f := fun y => if y = a then c else 0) (g := fun _ => 0) (fun y hy => if_neg (fun e : y = a => h (e ▸ hy))), sI_zero]
theorem sI_range_succ (k : Nat) (f : Nat → Int) : sI (List.range (k + 1)) f = sI (List.range k) f + f k := by
  rw [List.range_succ, sI_app, sI, sI, Int.add_zero]
/-- all sums, row by row -/
def spS (l : List Nat) (r : Nat) : List Nat := if r ∈ l then l else l ++ l.map (· ^^^ r)
def spk (rows : List Nat) (k : Nat) : List Nat := (rows.take k).foldl spS [0]
def spn (rows : List Nat) : List Nat := spk rows rows.length
theorem spk_succ {rows : List Nat} {k : Nat} (hk : k < rows.length) : spk rows (k + 1) = spS (spk rows k) (gn rows k) := by
  unfold spk
  rw [List.take_succ_eq_append_getElem hk, List.foldl_append, gn_lt hk]; rfl
/-- the sum of the rows that are set -/
def sumW (rows : List Nat) (s : Nat) : Nat → Nat := iter (fun i x => if s.testBit i = true then x ^^^ gn rows i else x) 0
theorem sumW_succ (rows : List Nat) (s k : Nat) : sumW rows s (k + 1) = if s.testBit k = true then sumW rows s k ^^^ gn rows k else sumW rows s k := rfl
theorem sumW_congr (rows : List Nat) (s t : Nat) : ∀ k, (∀ j, j < k → s.testBit j = t.testBit j) → sumW rows s k = sumW rows t k
  | 0, _ => rfl
  | k + 1, h => by rw [sumW_succ, sumW_succ, h k (by omega), sumW_congr rows s t k fun j hj => h j (by omega)]
def evn (rows : List Nat) (k y : Nat) : Bool := decide (∀ j, j < k → od y (gn rows j) = false)
structure SpI (m : Nat) (rows : List Nat) (k : Nat) (L : List Nat) : Prop where
  zero : 0 ∈ L
  nodup : L.Nodup
  clos : ∀ x ∈ L, ∀ y ∈ L, x ^^^ y ∈ L
  mem : ∀ j, j < k → gn rows j ∈ L
  lt : ∀ x ∈ L, x < 2 ^ m
  pow : ∃ e, e ≤ k ∧ L.length = 2 ^ e
  even : ∀ y, evn rows k y = true → ∀ x ∈ L, od y x = false
  chr : ∀ y, sI L (ch y) = if evn rows k y = true then (L.length : Int) else 0
  sums : ∀ x ∈ L, ∃ s, s < 2 ^ k ∧ sumW rows s k = x
theorem evn_succ (rows : List Nat) (k y : Nat) : evn rows (k + 1) y = (evn rows k y && !od y (gn rows k)) := by
  unfold evn
  rw [Bool.eq_iff_iff]
  simp only [decide_eq_true_iff, Bool.and_eq_true, Bool.not_eq_true']
  constructor
  · intro h; exact ⟨fun j hj => h j (by omega), h k (by omega)⟩
  · rintro ⟨h1, h2⟩ j hj
    by_cases e : j = k
    · subst e; exact h2
    · exact h1 j (by omega)
theorem SpI.start (m : Nat) (rows : List Nat) : SpI m rows 0 [0] := by
  refine ⟨by simp, by simp, by simp, fun j h => by omega, fun x hx => by simp at hx; rw [hx]; exact Nat.two_pow_pos m, ⟨0, Nat.le_refl _, rfl⟩, fun y _ x hx => by simp at hx; rw [hx]; exact od_zero y, fun y => ?_, fun x hx => by simp at hx; exact ⟨0, by simp, by rw [hx]; rfl⟩⟩
  have : evn rows 0 y = true := by simp [evn]
  rw [if_pos this, sI, sI, ch_zero]; rfl
theorem xor_xor_self (a b : Nat) : a ^^^ b ^^^ b = a := by rw [Nat.xor_assoc, Nat.xor_self, Nat.xor_zero]
theorem SpI.step {m k : Nat} {rows L : List Nat} (h : SpI m rows k L) (hr : gn rows k < 2 ^ m) : SpI m rows (k + 1) (spS L (gn rows k)) := by
  unfold spS
  by_cases hin : gn rows k ∈ L
  · rw [if_pos hin]
    obtain ⟨e, he, hl⟩ := h.pow
    refine ⟨h.zero, h.nodup, h.clos, fun j hj => ?_, h.lt, ⟨e, by omega, hl⟩, fun y hy x hx => ?_, fun y => ?_, fun x hx => ?_⟩
    · by_cases e : j = k
      · subst e; exact hin
      · exact h.mem j (by omega)
    · rw [evn_succ, Bool.and_eq_true] at hy; exact h.even y hy.1 x hx
    · rw [h.chr y, evn_succ]
      by_cases hy : evn rows k y = true
      · rw [hy, h.even y hy _ hin]; rfl
      · simp [hy]
    · obtain ⟨s, hs, e⟩ := h.sums x hx
      refine ⟨s, by rw [Nat.pow_succ]; omega, ?_⟩
      rw [sumW_succ, Nat.testBit_lt_two_pow hs]; simpa using e
  · rw [if_neg hin]
    generalize hr0 : gn rows k = r at *
    obtain ⟨e, he, hl⟩ := h.pow
    have hmm : ∀ x, x ∈ L ++ L.map (· ^^^ r) ↔ x ∈ L ∨ x ^^^ r ∈ L := by
      intro x
      rw [List.mem_append, List.mem_map]
      constructor
      · rintro (hx | ⟨z, hz, rfl⟩)
        · exact .inl hx
        · right; rw [xor_xor_self]; exact hz
      · rintro (hx | hx)
        · exact .inl hx
        · exact .inr ⟨_, hx, xor_xor_self x r⟩
    refine ⟨(hmm 0).2 (.inl h.zero), ?_, fun x hx y hy => ?_, fun j hj => ?_, fun x hx => ?_, ⟨e + 1, by omega, by rw [List.length_append, List.length_map, hl, Nat.pow_succ]; omega⟩, fun y hy x hx => ?_, fun y => ?_, fun x hx => ?_⟩
    · rw [List.nodup_append]
      refine ⟨h.nodup, ?_, ?_⟩
      · rw [List.nodup_iff_pairwise_ne] at *
        rw [List.pairwise_map]
        refine h.nodup.imp fun {a b} hab e => hab ?_
        have : a ^^^ r ^^^ r = b ^^^ r ^^^ r := by rw [e]
        rwa [xor_xor_self, xor_xor_self] at this
      · rintro a ha b hb rfl
        obtain ⟨z, hz, rfl⟩ := List.mem_map.1 hb
        have := h.clos _ ha _ hz
        rw [Nat.xor_comm z r, xor_xor_self] at this
        exact hin this
    · rw [hmm] at *
      rcases hx with hx | hx <;> rcases hy with hy | hy
      · exact .inl (h.clos x hx y hy)
      · right; rw [Nat.xor_assoc]; exact h.clos x hx _ hy
      · right; rw [Nat.xor_assoc, Nat.xor_comm y r, ← Nat.xor_assoc]; exact h.clos _ hx y hy
      · left
        have := h.clos _ hx _ hy
        rwa [Nat.xor_assoc, Nat.xor_comm y r, ← Nat.xor_assoc r r y, Nat.xor_self, Nat.zero_xor] at this
    · rw [hmm]
      by_cases e : j = k
      · subst e; right; rw [hr0, Nat.xor_self]; exact h.zero
      · exact .inl (h.mem j (by omega))
    · rw [hmm] at hx
      rcases hx with hx | hx
      · exact h.lt x hx
      · have := Nat.xor_lt_two_pow (h.lt _ hx) hr
        rwa [xor_xor_self] at this
    · rw [evn_succ, Bool.and_eq_true, hr0] at hy
      rw [hmm] at hx
      rcases hx with hx | hx
      · exact h.even y hy.1 x hx
      · have := h.even y hy.1 _ hx
        rw [od_xor] at this
        simpa [show od y r = false by simpa using hy.2] using this
    · rw [sI_app, sI_map, sI_congr (f := fun x => ch y (x ^^^ r)) (g := fun x => ch y r * ch y x) (fun x _ => by rw [ch_xor, Int.mul_comm]), sI_mul, h.chr y, evn_succ, hr0, List.length_append, List.length_map]
      unfold ch
      cases hy : evn rows k y <;> cases ho : od y r <;> simp <;> omega
    · rw [hmm] at hx
      rcases hx with hx | hx
      · obtain ⟨s, hs, e⟩ := h.sums x hx
        refine ⟨s, by rw [Nat.pow_succ]; omega, ?_⟩
        rw [sumW_succ, Nat.testBit_lt_two_pow hs]; simpa using e
      · obtain ⟨s, hs, e⟩ := h.sums _ hx
        refine ⟨2 ^ k + s, by rw [Nat.pow_succ]; omega, ?_⟩
        rw [sumW_succ, Nat.testBit_two_pow_add_eq, Nat.testBit_lt_two_pow hs, sumW_congr rows (2 ^ k + s) s k (fun j hj => Nat.testBit_two_pow_add_gt hj s), e, hr0]
        exact xor_xor_self x r
theorem spk_inv {m : Nat} {rows : List Nat} (h : ∀ x ∈ rows, x < 2 ^ m) : ∀ k, k ≤ rows.length → SpI m rows k (spk rows k)
  | 0, _ => by unfold spk; rw [List.take_zero]; exact SpI.start m rows
  | k + 1, hk => by
    rw [spk_succ (by omega)]
    exact (spk_inv h k (by omega)).step (h _ (by rw [gn_lt (show k < rows.length by omega)]; exact List.getElem_mem _))
theorem spn_inv {m : Nat} {rows : List Nat} (h : ∀ x ∈ rows, x < 2 ^ m) : SpI m rows rows.length (spn rows) := spk_inv h _ (Nat.le_refl _)
theorem SpI.sum_mem {m n : Nat} {rows L : List Nat} (h : SpI m rows n L) (s : Nat) : ∀ k, k ≤ n → sumW rows s k ∈ L
  | 0, _ => h.zero
  | k + 1, hk => by
    rw [sumW_succ]
    split
    · exact h.clos _ (h.sum_mem s k (by omega)) _ (h.mem k (by omega))
    · exact h.sum_mem s k (by omega)
/-- what is counted over all words -/
theorem add_xor {n x : Nat} (hx : x < 2 ^ n) : 2 ^ n + x = 2 ^ n ^^^ x := by
  apply Nat.eq_of_testBit_eq
  intro i
  rw [Nat.testBit_xor, Nat.testBit_two_pow]
  by_cases h1 : i < n
  · rw [Nat.testBit_two_pow_add_gt h1, decide_eq_false (show ¬ n = i by omega)]; simp
  · by_cases h2 : i = n
    · subst h2; rw [Nat.testBit_two_pow_add_eq]; simp
    · rw [decide_eq_false (show ¬ n = i by omega), Nat.testBit_lt_two_pow (x := 2 ^ n + x), Nat.testBit_lt_two_pow (x := x)]
      · rfl
      · exact Nat.lt_of_lt_of_le hx (Nat.pow_le_pow_right (by omega) (by omega))
      · have : 2 ^ (n + 1) ≤ 2 ^ i := Nat.pow_le_pow_right (by omega) (by omega)
        rw [Nat.pow_succ] at this; omega
theorem popc_two_pow {n : Nat} (hn : n < 32) : popc (2 ^ n) = 1 := by
  have := popc_high (v := 0) hn (Nat.two_pow_pos n)
  rwa [Nat.add_zero, show popc 0 = 0 from popTo_of_zero 32] at this
theorem ch_pow {n z : Nat} (hn : n < 32) : ch (2 ^ n) z = if z.testBit n = true then -1 else 1 := by
  unfold ch od
  rw [Nat.and_comm, and_two_pow']
  cases z.testBit n
  · simp [popc, popTo_of_zero]
  · simp [popc_two_pow hn]
theorem range_double (n : Nat) (f : Nat → Int) : sI (List.range (2 ^ (n + 1))) f = sI (List.range (2 ^ n)) f + sI (List.range (2 ^ n)) fun x => f (2 ^ n + x) := by
  rw [Nat.pow_succ, Nat.mul_two, List.range_add, sI_app, sI_map]
theorem orth : ∀ (n z : Nat), n ≤ 32 → z < 2 ^ n → sI (List.range (2 ^ n)) (fun x => ch x z) = if z = 0 then ((2 ^ n : Nat) : Int) else 0
  | 0, z, _, hz => by
    obtain rfl : z = 0 := by simpa using hz
    rw [if_pos rfl]; simp [List.range_succ, sI, ch_zero]
  | n + 1, z, hn, hz => by
    have hstep : sI (List.range (2 ^ n)) (fun x => ch (2 ^ n + x) z) = ch (2 ^ n) z * sI (List.range (2 ^ n)) (fun x => ch x z) := by
      rw [← sI_mul]
      refine sI_congr fun x hx => ?_
      rw [add_xor (List.mem_range.1 hx), ch_comm, ch_xor, ch_comm z, ch_comm z]
    rw [range_double, hstep, ch_pow (by omega)]
    cases hb : z.testBit n with
    | true =>
      have : z ≠ 0 := fun e => by rw [e, Nat.zero_testBit] at hb; cases hb
      rw [if_neg this, if_pos rfl]; omega
    | false =>
      have hz2 : z < 2 ^ n := by
        refine Nat.lt_of_not_le fun hle => ?_
        obtain ⟨q, rfl⟩ := Nat.exists_eq_add_of_le hle
        rw [Nat.testBit_two_pow_add_eq, Nat.testBit_lt_two_pow (by rw [Nat.pow_succ] at hz; omega)] at hb
        cases hb
      rw [orth n z (by omega) hz2, Nat.pow_succ]
      by_cases e : z = 0 <;> simp [e]; omega
def dl (rows : List Nat) (n : Nat) : List Nat := (List.range (2 ^ n)).filter (evn rows rows.length)
theorem dual_count {m : Nat} {rows L : List Nat} (h : SpI m rows rows.length L) (hm : m ≤ 32) : L.length * (dl rows m).length = 2 ^ m := by
  have h1 : sI (List.range (2 ^ m)) (fun y => sI L (ch y)) = (L.length : Int) * ((dl rows m).length : Int) := by
    rw [sI_congr (fun y _ => h.chr y), sI_count]; rfl
  rw [sI_swap, sI_congr (fun x hx => orth m x hm (h.lt x hx)), sI_ind h.nodup h.zero] at h1
  have h2 : ((2 ^ m : Nat) : Int) = ((L.length * (dl rows m).length : Nat) : Int) := by rw [h1, Int.natCast_mul]
  exact (Int.ofNat.inj h2).symm
theorem double_dual {m : Nat} {rows L : List Nat} (h : SpI m rows rows.length L) (hm : m ≤ 32) {w : Nat} (hw : w < 2 ^ m) : (∀ x ∈ dl rows m, od x w = false) ↔ w ∈ L := by
  constructor
  · intro hall
    refine Classical.byContradiction fun hno => ?_
    have h1 : sI (List.range (2 ^ m)) (fun y => sI L (fun x => ch y w * ch y x)) = (L.length : Int) * ((dl rows m).length : Int) := by
      rw [sI_congr (g := fun y => if evn rows rows.length y = true then (L.length : Int) else 0) (fun y hy => ?_), sI_count]; rfl
      rw [sI_mul, h.chr y]
      by_cases he : evn rows rows.length y = true
      · have hy2 : y ∈ dl rows m := List.mem_filter.2 ⟨hy, he⟩
        rw [if_pos he]
        unfold ch
        rw [hall y hy2]; simp
      · rw [if_neg he]; simp
    rw [sI_swap, sI_congr (g := fun x => if x = w then ((2 ^ m : Nat) : Int) else 0) (fun x hx => ?_), sI_not hno] at h1
    · have hc := dual_count h hm
      rw [← Int.natCast_mul, hc] at h1
      have := Nat.two_pow_pos m
      omega
    · rw [sI_congr (g := fun y => ch y (w ^^^ x)) (fun y _ => (ch_xor y w x).symm), orth m _ hm (Nat.xor_lt_two_pow hw (h.lt x hx))]
      by_cases e : x = w
      · rw [if_pos e, if_pos (by rw [e]; exact Nat.xor_self w)]
      · rw [if_neg e, if_neg (fun e2 => e (xor_eq_zero.1 e2).symm)]
  · intro hin x hx
    exact h.even x (List.mem_filter.1 hx).2 w hin
/-- MacWilliams -/
def krP : Nat → Nat → Int
  | 0, k => if k = 0 then 1 else 0
  | p + 1, 0 => krP p 0
  | p + 1, k + 1 => krP p (k + 1) + krP p k
def krw (p : Nat) : Nat → Nat → Int
  | 0, k => krP p k
  | q + 1, 0 => krw p q 0
  | q + 1, k + 1 => krw p q (k + 1) - krw p q k
theorem krw_q0 (p q : Nat) : krw p (q + 1) 0 = krw p q 0 := rfl
theorem krw_q (p q k : Nat) : krw p (q + 1) (k + 1) = krw p q (k + 1) - krw p q k := rfl
theorem krw_p0 (p : Nat) : ∀ q, krw (p + 1) q 0 = krw p q 0
  | 0 => rfl
  | q + 1 => by rw [krw_q0, krw_q0, krw_p0 p q]
theorem krw_p (p : Nat) : ∀ q k, krw (p + 1) q (k + 1) = krw p q (k + 1) + krw p q k
  | 0, k => rfl
  | q + 1, 0 => by rw [krw_q, krw_q, krw_q0, krw_p p q 0, krw_p0]; omega
  | q + 1, k + 1 => by rw [krw_q, krw_q, krw_q, krw_p p q (k + 1), krw_p p q k]; omega
def Kf (n k x : Nat) : Int := sI (List.range (2 ^ n)) fun w => if popc w = k then ch w x else 0
theorem Kf_step {n x : Nat} (hn : n < 32) : Kf (n + 1) 0 x = Kf n 0 x ∧ ∀ k, Kf (n + 1) (k + 1) x = Kf n (k + 1) x + ch (2 ^ n) x * Kf n k x := by
  have hp : ∀ v ∈ List.range (2 ^ n), popc (2 ^ n + v) = 1 + popc v := fun v hv => popc_high hn (List.mem_range.1 hv)
  refine ⟨?_, fun k => ?_⟩
  · unfold Kf
    rw [range_double, sI_congr (g := fun _ => 0) (fun v hv => by rw [hp v hv, if_neg (by omega)]) (l := List.range (2 ^ n)) (f := fun v => if popc (2 ^ n + v) = 0 then ch (2 ^ n + v) x else 0), sI_zero, Int.add_zero]
  · unfold Kf
    rw [range_double, ← sI_mul]
    congr 1
    refine sI_congr fun v hv => ?_
    rw [hp v hv]
    by_cases e : popc v = k
    · rw [if_pos (by omega), if_pos e, add_xor (List.mem_range.1 hv), ch_comm, ch_xor, ch_comm x, ch_comm x]
    · rw [if_neg (by omega), if_neg e, Int.mul_zero]
theorem Kf_low {n x : Nat} (hx : x < 2 ^ n) (k : Nat) : Kf n k (2 ^ n + x) = Kf n k x := by
  unfold Kf
  refine sI_congr fun w hw => ?_
  have : ch w (2 ^ n + x) = ch w x := by
    unfold ch od
    have : w &&& (2 ^ n + x) = w &&& x := by
      apply Nat.eq_of_testBit_eq
      intro i
      rw [Nat.testBit_and, Nat.testBit_and]
      by_cases h : i < n
      · rw [Nat.testBit_two_pow_add_gt h]
      · rw [Nat.testBit_lt_two_pow (x := w) (Nat.lt_of_lt_of_le (List.mem_range.1 hw) (Nat.pow_le_pow_right (by omega) (by omega)))]; simp
    rw [this]
  rw [this]
theorem Kf_krw : ∀ (n x : Nat), n ≤ 32 → x < 2 ^ n → ∀ k, Kf n k x = krw (n - popc x) (popc x) k
  | 0, x, _, hx, k => by
    obtain rfl : x = 0 := by simpa using hx
    have : popc 0 = 0 := popTo_of_zero 32
    rw [this]
    simp [Kf, List.range_succ, sI, this, ch_zero, krw, krP]
    by_cases e : k = 0
    · subst e; rfl
    · rw [if_neg e, if_neg (fun h => e h.symm)]
  | n + 1, x, hn, hx, k => by
    obtain ⟨h0, hs⟩ := Kf_step (x := x) (show n < 32 by omega)
    by_cases hlt : x < 2 ^ n
    · have ih := Kf_krw n x (by omega) hlt
      have hp := popc_le hlt
      rw [ch_pow (by omega), Nat.testBit_lt_two_pow hlt] at hs
      rw [show n + 1 - popc x = n - popc x + 1 by omega]
      cases k with
      | zero => rw [h0, krw_p0, ih]
      | succ k => rw [hs, krw_p, ih, ih]; simp
    · obtain ⟨y, rfl⟩ := Nat.exists_eq_add_of_le (Nat.le_of_not_lt hlt)
      have hy : y < 2 ^ n := by rw [Nat.pow_succ] at hx; omega
      have ih := Kf_krw n y (by omega) hy
      rw [ch_pow (by omega), Nat.testBit_two_pow_add_eq, Nat.testBit_lt_two_pow hy] at hs
      rw [popc_high (by omega) hy, show n + 1 - (1 + popc y) = n - popc y by omega, Nat.add_comm 1]
      cases k with
      | zero => rw [h0, Kf_low hy, krw_q0, ih]
      | succ k => rw [hs, Kf_low hy, Kf_low hy, krw_q, ih, ih]; simp; omega
theorem popc_ones {n : Nat} (hn : n ≤ 32) : popc (2 ^ n - 1) = n := by
  have : ∀ k, k ≤ n → popTo (2 ^ n - 1) k = k := by
    intro k
    induction k with
    | zero => intro _; rfl
    | succ k ih =>
      intro hk
      rw [popTo_succ, Nat.testBit_two_pow_sub_one, decide_eq_true (show k < n by omega), if_pos rfl, ih (by omega)]
  have h2 := popTo_add (2 ^ n - 1) n (32 - n)
  rw [show n + (32 - n) = 32 by omega, this n (Nat.le_refl _), Nat.shiftRight_eq_div_pow, Nat.div_eq_of_lt (by have := Nat.two_pow_pos n; omega), popTo_of_zero] at h2
  exact h2
theorem Kf_ones {n x : Nat} (hn : n ≤ 32) (hx : x < 2 ^ n) (k : Nat) : Kf n k (2 ^ popc x - 1) = Kf n k x := by
  have hp := popc_le hx
  have hp32 : popc x ≤ 32 := by omega
  have hlt : 2 ^ popc x - 1 < 2 ^ n := by
    have := Nat.pow_le_pow_right (n := 2) (by omega) hp
    have := Nat.two_pow_pos (popc x)
    omega
  rw [Kf_krw n _ hn hlt, Kf_krw n x hn hx, popc_ones hp32]
def cntW (L : List Nat) (j : Nat) : Nat := (L.filter fun x => decide (popc x = j)).length
theorem sum_by_weight (g : Nat → Int) (L : List Nat) : ∀ n, sI (List.range n) (fun j => (cntW L j : Int) * g j) = sI L fun x => if popc x < n then g (popc x) else 0
  | 0 => by simp [sI, sI_zero]
  | n + 1 => by
    rw [sI_range_succ, sum_by_weight g L n, Int.mul_comm, cntW, ← sI_count, ← sI_add]
    refine sI_congr fun x _ => ?_
    by_cases e : popc x = n
    · subst e; simp
    · have : (popc x < n + 1) = (popc x < n) := propext (by omega)
      simp [e, this]
theorem macw {m : Nat} {rows L : List Nat} (h : SpI m rows rows.length L) (hm : m ≤ 32) (k : Nat) : sI (List.range (m + 1)) (fun j => (cntW L j : Int) * Kf m k (2 ^ j - 1)) = (L.length : Int) * (cntW (dl rows m) k : Int) := by
  rw [sum_by_weight (fun j => Kf m k (2 ^ j - 1)) L (m + 1), sI_congr (g := fun x => sI (List.range (2 ^ m)) fun w => if popc w = k then ch w x else 0) (fun x hx => by
    have := popc_le (h.lt x hx)
    rw [if_pos (by omega), Kf_ones hm (h.lt x hx)]; rfl), sI_swap,
    sI_congr (g := fun w => if (evn rows rows.length w && decide (popc w = k)) = true then (L.length : Int) else 0) (fun w _ => by
      by_cases e : popc w = k
      · simp only [if_pos e]
        rw [h.chr w, decide_eq_true e, Bool.and_true]
      · simp only [if_neg e]
        rw [sI_zero, decide_eq_false e, Bool.and_false]; rfl), sI_count]
  congr 2
  unfold cntW dl
  rw [List.filter_filter]
  congr 1
  refine List.filter_congr fun x _ => ?_
  rw [Bool.and_comm]
theorem cntW_all {L : List Nat} {n : Nat} (h : ∀ x ∈ L, popc x < n) : sI (List.range n) (fun j => (cntW L j : Int)) = (L.length : Int) := by
  rw [sI_congr (g := fun j => (cntW L j : Int) * 1) (fun j _ => (Int.mul_one _).symm), sum_by_weight (fun _ => 1) L n, sI_congr (g := fun _ => 1) (fun x hx => if_pos (h x hx)), sI_one]
theorem cntW_perm {a b : List Nat} (h : a.Perm b) (j : Nat) : cntW a j = cntW b j := (h.filter _).length_eq
end Go.Proofs.Ytjmpkmomlpgbdaa
