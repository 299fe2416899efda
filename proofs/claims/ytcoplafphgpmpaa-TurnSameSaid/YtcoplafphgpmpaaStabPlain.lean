/-
  Plain: the stable sort: what its steps do to a list (blocks, turns of neighbours, merges in place), by a key that no two share.
-/
import Derived.Test.YtcoplafphgpmpaaVbase
namespace Go.Proofs.Ytcoplafphgpmpaa
open Go V

abbrev Srt (K : Nat → Nat) (l : List Nat) : Prop := l.Pairwise (K · < K ·)
/-- a key, and where a thing stood -/
def KK (key : Nat → Nat) (x : Nat) : Nat := key x * 64 + x
theorem kk_less {key : Nat → Nat} {x y : Nat} (h : x < y) (hy : y < 64) : (key y < key x → KK key y < KK key x) ∧ (¬ key y < key x → KK key x < KK key y) := by
  unfold KK; constructor <;> intro h1 <;> omega
theorem kk_inj {key : Nat → Nat} {x y : Nat} (hx : x < 64) (hy : y < 64) (h : KK key x = KK key y) : x = y := by
  unfold KK at h; omega
theorem kk_le {key : Nat → Nat} {x y : Nat} (hx : x < 64) (hy : y < 64) (h : KK key x < KK key y) : key x ≤ key y ∧ (key x = key y → x < y) := by
  unfold KK at h; constructor
  · omega
  · intro e; rw [e] at h; omega

theorem gl_l {a b : List Nat} {k : Nat} (h : k < a.length) : gn (a ++ b) k = gn a k := by simp [gn, List.getD_eq_getElem?_getD, List.getElem?_append_left h]
theorem gl_r {a b : List Nat} (k : Nat) : gn (a ++ b) (a.length + k) = gn b k := by simp [gn, List.getD_eq_getElem?_getD, List.getElem?_append_right]
theorem gl_r0 {a b : List Nat} : gn (a ++ b) a.length = gn b 0 := gl_r 0
theorem gl_c (x : Nat) (l : List Nat) : gn (x :: l) 0 = x := rfl
theorem gl_cs (x : Nat) (l : List Nat) (k : Nat) : gn (x :: l) (k + 1) = gn l k := by simp [gn]
theorem set_mid (a b : List Nat) (x y : Nat) : (a ++ x :: b).set a.length y = a ++ y :: b := by
  rw [List.set_append_right _ _ (Nat.le_refl _)]; simp
theorem set_mid2 (a b : List Nat) (x y z : Nat) : (a ++ x :: y :: b).set (a.length + 1) z = a ++ x :: z :: b := by
  rw [List.set_append_right _ _ (by omega)]; simp
theorem srt_gn {K : Nat → Nat} {l : List Nat} (h : Srt K l) {i j : Nat} (hij : i < j) (hj : j < l.length) : K (gn l i) < K (gn l j) := by
  rw [gn_lt hj, gn_lt (show i < l.length by omega)]
  exact List.pairwise_iff_getElem.1 h i j (by omega) hj hij
theorem take_at (l : List Nat) {k : Nat} (h : k < l.length) : l.take (k + 1) = l.take k ++ [gn l k] := by
  rw [List.take_succ_eq_append_getElem h, gn_lt h]
theorem drop_at (l : List Nat) {k : Nat} (h : k < l.length) : l.drop k = gn l k :: l.drop (k + 1) := by
  rw [List.drop_eq_getElem_cons h, gn_lt h]

/-- neighbours change places -/
theorem sw_adj (a b : List Nat) (x y : Nat) {k : Nat} (hk : k = a.length) : ((a ++ x :: y :: b).set k (gn (a ++ x :: y :: b) (k + 1))).set (k + 1) (gn (a ++ x :: y :: b) k) = a ++ y :: x :: b := by
  subst hk
  rw [gl_r, gl_r0, gl_cs, gl_c, gl_c, set_mid, set_mid2]
theorem sw_adj2 (a b : List Nat) (x y : Nat) {k : Nat} (hk : k = a.length) : ((a ++ x :: y :: b).set (k + 1) (gn (a ++ x :: y :: b) k)).set k (gn (a ++ x :: y :: b) (k + 1)) = a ++ y :: x :: b := by
  subst hk
  rw [gl_r, gl_r0, gl_cs, gl_c, gl_c, set_mid2, set_mid]
/-- a thing goes up -/
def upT (P : List Nat) (x : Nat) (B T : List Nat) (t : Nat) : List Nat := P ++ (B.take t ++ (x :: (B.drop t ++ T)))
theorem upT_step (P : List Nat) (x : Nat) (B T : List Nat) {t k : Nat} (ht : t < B.length) (hk : k = P.length + t) :
    ((upT P x B T t).set k (gn (upT P x B T t) (k + 1))).set (k + 1) (gn (upT P x B T t) k) = upT P x B T (t + 1) := by
  have e : upT P x B T t = (P ++ B.take t) ++ x :: gn B t :: (B.drop (t + 1) ++ T) := by
    unfold upT; rw [drop_at B ht]; simp
  rw [e, sw_adj _ _ _ _ (by rw [List.length_append, List.length_take]; omega)]
  unfold upT; rw [take_at B ht]; simp
theorem upT_step2 (P : List Nat) (x : Nat) (B T : List Nat) {t k : Nat} (ht : t < B.length) (hk : k = P.length + t) :
    ((upT P x B T (t + 1)).set (k + 1) (gn (upT P x B T (t + 1)) k)).set k (gn (upT P x B T (t + 1)) (k + 1)) = upT P x B T t := by
  have e : upT P x B T (t + 1) = (P ++ B.take t) ++ gn B t :: x :: (B.drop (t + 1) ++ T) := by
    unfold upT; rw [take_at B ht]; simp
  rw [e, sw_adj2 _ _ _ _ (by rw [List.length_append, List.length_take]; omega)]
  unfold upT; rw [drop_at B ht]; simp
theorem upT_len (P : List Nat) (x : Nat) (B T : List Nat) (t : Nat) : (upT P x B T t).length = P.length + (B.length + (1 + T.length)) := by
  unfold upT; simp only [List.length_append, List.length_cons, List.length_take, List.length_drop]; omega
theorem upT_zero (P : List Nat) (x : Nat) (B T : List Nat) : upT P x B T 0 = P ++ (x :: (B ++ T)) := by simp [upT]
theorem upT_all (P : List Nat) (x : Nat) (B T : List Nat) : upT P x B T B.length = P ++ (B ++ (x :: T)) := by simp [upT]

/-- two stretches change places, so many of their things -/
def swR (P U M V S : List Nat) (i : Nat) : List Nat := P ++ (V.take i ++ (U.drop i ++ (M ++ (U.take i ++ (V.drop i ++ S)))))
theorem swR_len (P U M V S : List Nat) (i : Nat) : (swR P U M V S i).length = P.length + (V.length + (U.length + (M.length + S.length))) := by
  unfold swR; simp only [List.length_append, List.length_take, List.length_drop]; omega
theorem swR_zero (P U M V S : List Nat) : swR P U M V S 0 = P ++ (U ++ (M ++ (V ++ S))) := by simp [swR]
theorem swR_all (P U M V S : List Nat) {n : Nat} (hU : U.length = n) (hV : V.length = n) : swR P U M V S n = P ++ (V ++ (M ++ (U ++ S))) := by
  unfold swR
  rw [List.take_of_length_le (by omega), List.drop_of_length_le (by omega), List.take_of_length_le (by omega), List.drop_of_length_le (by omega)]; simp
theorem swR_step (P U M V S : List Nat) {n i ka kb : Nat} (hU : U.length = n) (hV : V.length = n) (hi : i < n) (ha : ka = P.length + i) (hb : kb = P.length + U.length + M.length + i) :
    ((swR P U M V S i).set ka (gn (swR P U M V S i) kb)).set kb (gn (swR P U M V S i) ka) = swR P U M V S (i + 1) := by
  have hu := drop_at U (k := i) (by omega)
  have hv := drop_at V (k := i) (by omega)
  have e : swR P U M V S i = (P ++ V.take i) ++ gn U i :: ((U.drop (i + 1) ++ (M ++ U.take i)) ++ gn V i :: (V.drop (i + 1) ++ S)) := by
    unfold swR; rw [hu, hv]; simp
  have e2 : swR P U M V S (i + 1) = (P ++ V.take i) ++ gn V i :: ((U.drop (i + 1) ++ (M ++ U.take i)) ++ gn U i :: (V.drop (i + 1) ++ S)) := by
    unfold swR; rw [take_at U (by omega), take_at V (by omega)]; simp
  have la : ka = (P ++ V.take i).length := by rw [List.length_append, List.length_take]; omega
  have lb : kb = ((P ++ V.take i) ++ gn U i :: (U.drop (i + 1) ++ (M ++ U.take i))).length := by
    simp only [List.length_append, List.length_take, List.length_cons, List.length_drop]; omega
  have f : ∀ z y : Nat, (P ++ V.take i) ++ z :: ((U.drop (i + 1) ++ (M ++ U.take i)) ++ y :: (V.drop (i + 1) ++ S)) = ((P ++ V.take i) ++ z :: (U.drop (i + 1) ++ (M ++ U.take i))) ++ y :: (V.drop (i + 1) ++ S) := by
    intro z y; simp
  have lz : ∀ z : Nat, ((P ++ V.take i) ++ z :: (U.drop (i + 1) ++ (M ++ U.take i))).length = kb := by
    intro z; rw [lb]; simp only [List.length_append, List.length_cons]
  have ga : gn (swR P U M V S i) ka = gn U i := by rw [e, la, gl_r0, gl_c]
  have gb' : gn (swR P U M V S i) kb = gn V i := by rw [e, f, ← lz (gn U i), gl_r0, gl_c]
  rw [ga, gb', e, la, set_mid, f, ← lz (gn V i), set_mid, e2, f]

/-- what a merge of two neighbours is to leave -/
theorem mrg_perm {A1 A2 B1 B2 X1 X2 : List Nat} (h1 : X1.Perm (A1 ++ B1)) (h2 : X2.Perm (A2 ++ B2)) : (X1 ++ X2).Perm ((A1 ++ A2) ++ (B1 ++ B2)) := by
  refine (h1.append h2).trans ?_
  rw [List.append_assoc, List.append_assoc]
  refine List.Perm.append_left A1 ?_
  rw [← List.append_assoc, ← List.append_assoc]
  exact List.Perm.append_right B2 List.perm_append_comm
theorem mrg_srt {K : Nat → Nat} {A1 A2 B1 B2 X1 X2 : List Nat} (h1 : X1.Perm (A1 ++ B1)) (h2 : X2.Perm (A2 ++ B2)) (s1 : Srt K X1) (s2 : Srt K X2) (sA : Srt K (A1 ++ A2)) (sB : Srt K (B1 ++ B2))
    (hab : ∀ x ∈ A1, ∀ y ∈ B2, K x < K y) (hba : ∀ x ∈ B1, ∀ y ∈ A2, K x < K y) : Srt K (X1 ++ X2) := by
  refine List.pairwise_append.2 ⟨s1, s2, fun x hx y hy => ?_⟩
  have hA := (List.pairwise_append.1 sA).2.2
  have hB := (List.pairwise_append.1 sB).2.2
  rcases List.mem_append.1 (h1.mem_iff.1 hx) with hx | hx <;> rcases List.mem_append.1 (h2.mem_iff.1 hy) with hy | hy
  · exact hA x hx y hy
  · exact hab x hx y hy
  · exact hba x hx y hy
  · exact hB x hx y hy
/-- all of a beginning are below all of an end, where its last is below the other's first -/
theorem all_lt {K : Nat → Nat} {A B : List Nat} {i j : Nat} (sA : Srt K A) (sB : Srt K B) (hi : i ≤ A.length) (h : i = 0 ∨ j ≥ B.length ∨ K (gn A (i - 1)) < K (gn B j)) : ∀ x ∈ A.take i, ∀ y ∈ B.drop j, K x < K y := by
  intro x hx y hy
  obtain ⟨p, hp, rfl⟩ := List.mem_iff_getElem.1 hx
  obtain ⟨q, hq, rfl⟩ := List.mem_iff_getElem.1 hy
  rw [List.length_take] at hp
  rw [List.length_drop] at hq
  rw [List.getElem_take, List.getElem_drop]
  have h : K (gn A (i - 1)) < K (gn B j) := by
    rcases h with h | h | h
    · omega
    · omega
    · exact h
  have h1 : K (A[p]'(by omega)) ≤ K (gn A (i - 1)) := by
    rw [← gn_lt (show p < A.length by omega)]
    by_cases e : p = i - 1
    · rw [e]; exact Nat.le_refl _
    · exact Nat.le_of_lt (srt_gn sA (by omega) (by omega))
  have h2 : K (gn B j) ≤ K (B[j + q]'(by omega)) := by
    rw [← gn_lt (show j + q < B.length by omega)]
    by_cases e : q = 0
    · rw [e]; exact Nat.le_refl _
    · exact Nat.le_of_lt (srt_gn sB (by omega) (by omega))
  omega
theorem ins1 {K : Nat → Nat} {B : List Nat} {x i : Nat} (sB : Srt K B) (hi : i ≤ B.length) (h1 : i = 0 ∨ K (gn B (i - 1)) < K x) (h2 : i = B.length ∨ K x < K (gn B i)) : Srt K (B.take i ++ x :: B.drop i) := by
  have hx : Srt K [x] := List.pairwise_singleton _ _
  have a1 := all_lt (i := i) (j := 0) sB hx hi (by rcases h1 with h | h; exact .inl h; exact .inr (.inr h))
  have a2 := all_lt (i := 1) (j := i) hx sB (by simp) (by rcases h2 with h | h; exact .inr (.inl (by omega)); exact .inr (.inr h))
  have s := sB
  rw [← List.take_append_drop i B] at s
  have hs := List.pairwise_append.1 s
  refine List.pairwise_append.2 ⟨hs.1, List.pairwise_cons.2 ⟨fun y hy => a2 x (by simp) y hy, hs.2.1⟩, fun a ha b hb => ?_⟩
  rcases List.mem_cons.1 hb with e | hb
  · rw [e]; exact a1 a ha x (by simp)
  · exact hs.2.2 a ha b hb
theorem ins1_perm {B : List Nat} {x i : Nat} : (B.take i ++ x :: B.drop i).Perm ([x] ++ B) := by
  refine List.perm_middle.trans ?_
  rw [List.take_append_drop]; exact List.Perm.refl _
theorem ins1_perm2 {B : List Nat} {x i : Nat} : (B.take i ++ x :: B.drop i).Perm (B ++ [x]) := ins1_perm.trans List.perm_append_comm

/-- a stretch of a list -/
def seg (L : List Nat) (a b : Nat) : List Nat := (L.drop a).take (b - a)
theorem seg_len {L : List Nat} {a b : Nat} (hb : b ≤ L.length) : (seg L a b).length = b - a := by
  unfold seg; rw [List.length_take, List.length_drop]; omega
theorem seg_dec {L : List Nat} {a m b : Nat} (h1 : a ≤ m) (h2 : m ≤ b) : L = L.take a ++ (seg L a m ++ (seg L m b ++ L.drop b)) := by
  have e1 : seg L m b ++ L.drop b = L.drop m := by
    unfold seg
    conv => rhs; rw [← List.take_append_drop (b - m) (L.drop m)]
    rw [List.drop_drop, show m + (b - m) = b by omega]
  have e2 : seg L a m ++ L.drop m = L.drop a := by
    unfold seg
    conv => rhs; rw [← List.take_append_drop (m - a) (L.drop a)]
    rw [List.drop_drop, show a + (m - a) = m by omega]
  rw [e1, e2, List.take_append_drop]
theorem seg_dec1 {L : List Nat} {a m : Nat} (h1 : a ≤ m) : L = L.take a ++ (seg L a m ++ L.drop m) := by
  have := seg_dec (L := L) h1 (Nat.le_refl m)
  rw [show seg L m m = [] by simp [seg]] at this; simpa using this
theorem seg_mid (P X S : List Nat) {a b : Nat} (ha : P.length = a) (hb : a + X.length = b) : seg (P ++ (X ++ S)) a b = X := by
  subst ha; subst hb
  unfold seg
  rw [List.drop_left, show P.length + X.length - P.length = X.length by omega, List.take_left]
theorem seg_lo (P Z Y : List Nat) {c d : Nat} (h : d ≤ P.length) : seg (P ++ Z) c d = seg (P ++ Y) c d := by
  unfold seg
  by_cases hc : c ≤ P.length
  · rw [List.drop_append_of_le_length hc, List.drop_append_of_le_length hc, List.take_append_of_le_length (by rw [List.length_drop]; omega), List.take_append_of_le_length (by rw [List.length_drop]; omega)]
  · rw [show d - c = 0 by omega]; simp
theorem seg_hi (P X Y S : List Nat) {c d : Nat} (hl : X.length = Y.length) (h : P.length + X.length ≤ c) : seg (P ++ (X ++ S)) c d = seg (P ++ (Y ++ S)) c d := by
  unfold seg
  have e : ∀ Z : List Nat, Z.length ≤ c → (Z ++ S).drop c = S.drop (c - Z.length) := fun Z hZ => by rw [List.drop_append, List.drop_of_length_le hZ, List.nil_append]
  rw [← List.append_assoc, ← List.append_assoc, e (P ++ X) (by rw [List.length_append]; omega), e (P ++ Y) (by rw [List.length_append]; omega), List.length_append, List.length_append, hl]
/-- a stretch holds the numbers that it held, in order -/
structure Run (K : Nat → Nat) (L : List Nat) (a b : Nat) : Prop where
  perm : (seg L a b).Perm (List.range' a (b - a))
  srt : Srt K (seg L a b)
theorem Run.mem {K : Nat → Nat} {L : List Nat} {a b x : Nat} (h : Run K L a b) (hx : x ∈ seg L a b) : a ≤ x ∧ x < b := by
  have := h.perm.mem_iff.1 hx
  rw [List.mem_range'] at this
  obtain ⟨i, hi, rfl⟩ := this; omega
/-- blocks of one length -/
def Runs (K : Nat → Nat) (n s : Nat) (L : List Nat) (lo hi : Nat) : Prop := ∀ c, lo ≤ c → c < hi → c % s = 0 → Run K L c (min (c + s) n)
theorem Runs.last {K : Nat → Nat} {n s lo a b : Nat} {L L' : List Nat} (h : Runs K n s L lo a) (hc : ∀ c d, d ≤ a → seg L' c d = seg L c d) (ha : a % s = 0) (hb : b = a + s ∨ b = n) (han : a ≤ n) (hr : Run K L' a (min b n)) (hbs : n ≤ b ∨ b = a + s) (hs : 0 < s) (hbs2 : b ≤ a + s) : Runs K n s L' lo b := by
  intro c h1 h2 h3
  by_cases hca : c < a
  · have hd : c + s ≤ a := by
      have e1 := Nat.div_add_mod c s
      have e2 := Nat.div_add_mod a s
      rw [h3] at e1; rw [ha] at e2
      have : c / s < a / s := Nat.lt_of_mul_lt_mul_left (a := s) (by omega)
      have := Nat.mul_le_mul_left s (show c / s + 1 ≤ a / s by omega)
      rw [Nat.mul_add] at this; omega
    have := h c h1 hca h3
    rw [show min (c + s) n = c + s by omega] at this ⊢
    exact ⟨by rw [hc _ _ hd]; exact this.perm, by rw [hc _ _ hd]; exact this.srt⟩
  · have hca2 : c = a := by
      have e1 := Nat.div_add_mod c s
      have e2 := Nat.div_add_mod a s
      rw [h3] at e1; rw [ha] at e2
      by_cases h9 : c / s ≤ a / s
      · have := Nat.mul_le_mul_left s h9; omega
      · have := Nat.mul_le_mul_left s (show a / s + 1 ≤ c / s by omega)
        rw [Nat.mul_add] at this; omega
    subst hca2
    rw [show min (c + s) n = min b n by omega]; exact hr
theorem Runs.keep {K : Nat → Nat} {n s a hi : Nat} {L L' : List Nat} (h : Runs K n s L a hi) (hc : ∀ c d, a ≤ c → seg L' c d = seg L c d) : Runs K n s L' a hi := fun c h1 h2 h3 =>
  ⟨by rw [hc _ _ h1]; exact (h c h1 h2 h3).perm, by rw [hc _ _ h1]; exact (h c h1 h2 h3).srt⟩
theorem Runs.sub {K : Nat → Nat} {n s a a' hi : Nat} {L : List Nat} (h : Runs K n s L a hi) (ha : a ≤ a') : Runs K n s L a' hi := fun c h1 h2 h3 => h c (by omega) h2 h3
/-- a merge of two runs -/
theorem Run.merge {K : Nat → Nat} {L X P S : List Nat} {a m b : Nat} (h1 : Run K L a m) (h2 : Run K L m b) (ham : a ≤ m) (hmb : m ≤ b) (hb : b ≤ L.length) (hX : X.Perm (seg L a m ++ seg L m b)) (hs : Srt K X) (hP : P.length = a) : Run K (P ++ (X ++ S)) a b := by
  have hl : X.length = b - a := by
    rw [hX.length_eq, List.length_append, seg_len (by omega), seg_len hb]; omega
  have e := seg_mid P X S hP (b := b) (by omega)
  refine ⟨?_, by rw [e]; exact hs⟩
  rw [e]
  refine hX.trans ((h1.perm.append h2.perm).trans ?_)
  rw [show b - a = (m - a) + (b - m) by omega]
  have := List.range'_append_1 (s := a) (m := m - a) (n := b - m)
  rw [show a + (m - a) = m by omega] at this
  rw [this]
theorem rng_lt (a k : Nat) : (List.range' a k).Pairwise (· < ·) := List.pairwise_lt_range'
theorem seg_range (n : Nat) {a b : Nat} (hb : b ≤ n) : seg (List.range n) a b = List.range' a (b - a) := by
  unfold seg
  refine List.ext_getElem (by simp; omega) fun i h1 h2 => ?_
  simp
theorem upT_eq (P : List Nat) (x : Nat) (B T : List Nat) (t : Nat) : upT P x B T t = P ++ ((B.take t ++ x :: B.drop t) ++ T) := by simp [upT]
theorem srt_take1 (K : Nat → Nat) (A : List Nat) : Srt K (A.take 1) := by cases A <;> simp [Srt]
theorem lt_take {A : List Nat} (h : A.Pairwise (· < ·)) {t x : Nat} (ht : t < A.length) (hx : x ∈ A.take t) : x < gn A t := by
  obtain ⟨i, hi, rfl⟩ := List.mem_iff_getElem.1 hx
  rw [List.length_take] at hi
  rw [List.getElem_take, gn_lt ht]
  exact List.pairwise_iff_getElem.1 h i t (by omega) ht (by omega)
theorem gn_mem' {A : List Nat} {t : Nat} (ht : t < A.length) : gn A t ∈ A := by rw [gn_lt ht]; exact List.getElem_mem _
theorem dl_eq {X : List Nat} (h : 0 < X.length) : X.dropLast ++ [gn X (X.length - 1)] = X := by
  have hne : X ≠ [] := by intro e; rw [e] at h; simp at h
  rw [gn_lt (by omega), ← List.getLast_eq_getElem hne, List.dropLast_concat_getLast]
theorem ins_step (P X1 X2 T : List Nat) (x : Nat) {j : Nat} (h : 0 < X1.length) (hj : j = P.length + X1.length) :
    ((P ++ (X1 ++ (x :: (X2 ++ T)))).set j (gn (P ++ (X1 ++ (x :: (X2 ++ T)))) (j - 1))).set (j - 1) (gn (P ++ (X1 ++ (x :: (X2 ++ T)))) j) = P ++ (X1.dropLast ++ (x :: ((gn X1 (X1.length - 1) :: X2) ++ T))) := by
  have e : P ++ (X1 ++ (x :: (X2 ++ T))) = (P ++ X1.dropLast) ++ gn X1 (X1.length - 1) :: x :: (X2 ++ T) := by
    conv => lhs; rw [← dl_eq h]
    simp
  obtain ⟨k, rfl⟩ : ∃ k, j = k + 1 := ⟨j - 1, by omega⟩
  rw [Nat.add_sub_cancel, e, sw_adj2 _ _ _ _ (by rw [List.length_append, List.length_dropLast]; omega)]
  simp
theorem ins_fin {K : Nat → Nat} {X1 X2 : List Nat} {x : Nat} (s : Srt K (X1 ++ X2)) (h2 : ∀ y ∈ X2, K x < K y) (h1 : X1.length = 0 ∨ K (gn X1 (X1.length - 1)) < K x) : Srt K (X1 ++ x :: X2) := by
  have hs := List.pairwise_append.1 s
  have a1 := all_lt (i := X1.length) (j := 0) hs.1 (List.pairwise_singleton _ x) (Nat.le_refl _) (by rcases h1 with h | h; exact .inl h; exact .inr (.inr h))
  rw [List.take_length] at a1
  refine List.pairwise_append.2 ⟨hs.1, List.pairwise_cons.2 ⟨h2, hs.2.1⟩, fun a ha b hb => ?_⟩
  rcases List.mem_cons.1 hb with e | hb
  · rw [e]; exact a1 a ha x (by simp)
  · exact hs.2.2 a ha b hb
theorem ins_perm {X1 X2 A : List Nat} {t : Nat} (h : (X1 ++ X2).Perm (A.take t)) (ht : t < A.length) : (X1 ++ gn A t :: X2).Perm (A.take (t + 1)) := by
  rw [take_at A ht]
  refine List.perm_middle.trans ?_
  refine (List.Perm.cons _ h).trans ?_
  exact (List.perm_append_comm (l₁ := [gn A t]) (l₂ := A.take t))
theorem sym_cut {K : Nat → Nat} {A E : List Nat} {i j : Nat} (sA : Srt K A) (sE : Srt K E) (hi : i ≤ A.length) (hj : j ≤ E.length) (h1 : i = 0 ∨ j ≥ E.length ∨ K (gn A (i - 1)) < K (gn E j)) (h2 : j = 0 ∨ i ≥ A.length ∨ K (gn E (j - 1)) < K (gn A i)) :
    ∃ A1 A2 E1 E2, A = A1 ++ A2 ∧ E = E1 ++ E2 ∧ A1.length = i ∧ E1.length = j ∧ (∀ x ∈ A1, ∀ y ∈ E2, K x < K y) ∧ (∀ x ∈ E1, ∀ y ∈ A2, K x < K y) :=
  ⟨A.take i, A.drop i, E.take j, E.drop j, by simp, by simp, by rw [List.length_take]; omega, by rw [List.length_take]; omega, all_lt sA sE hi h1, all_lt sE sA hj h2⟩
theorem nil_of {l : List Nat} (h : l.length = 0) : l = [] := List.length_eq_zero_iff.1 h
theorem seg_put {L X : List Nat} {a b : Nat} (hab : a ≤ b) (hb : b ≤ L.length) (hX : X.length = b - a) : (L.take a ++ (X ++ L.drop b)).length = L.length ∧ (∀ c d, d ≤ a → seg (L.take a ++ (X ++ L.drop b)) c d = seg L c d) ∧ (∀ c d, b ≤ c → seg (L.take a ++ (X ++ L.drop b)) c d = seg L c d) ∧ seg (L.take a ++ (X ++ L.drop b)) a b = X := by
  have hta : (L.take a).length = a := by rw [List.length_take]; omega
  refine ⟨by rw [List.length_append, List.length_append, hta, List.length_drop]; omega, fun c d h => ?_, fun c d h => ?_, seg_mid _ _ _ hta (by omega)⟩
  · conv => rhs; rw [seg_dec1 (L := L) hab]
    exact seg_lo _ _ _ (by omega)
  · conv => rhs; rw [seg_dec1 (L := L) hab]
    exact seg_hi _ _ _ _ (by rw [seg_len hb]; exact hX) (by omega)
theorem mod2 {a s : Nat} (h : a % (2 * s) = 0) : a % s = 0 ∧ (a + s) % s = 0 ∧ (a + 2 * s) % (2 * s) = 0 := by
  have h1 : a % s = 0 := Nat.mod_eq_zero_of_dvd (Nat.dvd_trans (Nat.dvd_mul_left s 2) (Nat.dvd_of_mod_eq_zero h))
  refine ⟨h1, by rw [Nat.add_mod_right]; exact h1, by rw [Nat.add_mod_right]; exact h⟩
theorem seg_all {L : List Nat} {n : Nat} (h : L.length = n) : seg L 0 n = L := by
  unfold seg; rw [List.drop_zero, Nat.sub_zero, List.take_of_length_le (by omega)]
end Go.Proofs.Ytcoplafphgpmpaa
