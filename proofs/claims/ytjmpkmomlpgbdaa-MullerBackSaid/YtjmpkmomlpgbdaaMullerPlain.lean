/-
  Plain: sums of products of variables, over at most four variables: parts, votes, how far two sums are apart.
-/
import Derived.Test.YtjmpkmomlpgbdaaSortPlain
import Derived.Test.YtjmpkmomlpgbdaaWordsPlain
namespace Go.Proofs.Ytjmpkmomlpgbdaa
open Go V

def deg (p : Nat) : Nat := popTo p 4
def inP (q x : Nat) : Bool := x &&& q == q
def adn (x p : Nat) : Nat := x ^^^ (x &&& p)
def cnt (g : Nat → Bool) : Nat → Nat
  | 0 => 0
  | n + 1 => cnt g n + (if g n = true then 1 else 0)
/-- the sum over one part -/
def cs (f : Nat → Bool) (p o : Nat) : Nat → Bool
  | 0 => false
  | n + 1 => xor (cs f p o n) (f n && (adn n p == o))
/-- the sum of so many products -/
def mk (ps : List Nat) (D : Nat → Bool) (x : Nat) : Nat → Bool
  | 0 => false
  | k + 1 => xor (mk ps D x k) (D k && inP (gn ps k) x)
def sm (g : Nat → Bool) : Nat → Bool
  | 0 => false
  | k + 1 => xor (sm g k) (g k)

theorem mono0 : ∀ m, m < 5 → ∀ p, p < 2 ^ m → ∀ q, q < 2 ^ m → ∀ o, o < 2 ^ m → (!(o &&& p == 0) || !decide (deg q ≤ deg p) || (cs (inP q) p o (2 ^ m) == (q == p))) = true := by decide +kernel
theorem mono (m : Nat) (hm : m < 5) (p : Nat) (hp : p < 2 ^ m) (q : Nat) (hq : q < 2 ^ m) (o : Nat) (ho : o < 2 ^ m) (h1 : o &&& p = 0) (h2 : deg q ≤ deg p) : cs (inP q) p o (2 ^ m) = (q == p) := by
  have := mono0 m hm p hp q hq o ho
  simpa [h1, h2] using this
theorem keys_many : ∀ m, m < 5 → ∀ p, p < 2 ^ m → cnt (fun o => o &&& p == 0) (2 ^ m) = 2 ^ (m - deg p) := by decide +kernel
theorem adn_key : ∀ x, x < 16 → ∀ p, p < 16 → adn x p &&& p = 0 ∧ adn x p ≤ x := by decide +kernel
theorem deg_le : ∀ m, m < 5 → ∀ p, p < 2 ^ m → deg p ≤ m := by decide +kernel

theorem cs_xor (f g : Nat → Bool) (p o : Nat) : ∀ n, cs (fun x => xor (f x) (g x)) p o n = xor (cs f p o n) (cs g p o n)
  | 0 => rfl
  | n + 1 => by
    rw [cs, cs, cs, cs_xor f g p o n]
    cases f n <;> cases g n <;> cases (adn n p == o) <;> cases cs f p o n <;> cases cs g p o n <;> rfl
theorem cs_and (b : Bool) (f : Nat → Bool) (p o : Nat) : ∀ n, cs (fun x => b && f x) p o n = (b && cs f p o n)
  | 0 => by cases b <;> rfl
  | n + 1 => by rw [cs, cs, cs_and b f p o n]; cases b <;> simp
theorem cs_false (p o : Nat) : ∀ n, cs (fun _ => false) p o n = false
  | 0 => rfl
  | n + 1 => by rw [cs, cs_false p o n]; rfl
theorem cs_congr {f g : Nat → Bool} (p o : Nat) : ∀ n, (∀ x, x < n → f x = g x) → cs f p o n = cs g p o n
  | 0, _ => rfl
  | n + 1, h => by rw [cs, cs, cs_congr p o n fun x hx => h x (by omega), h n (by omega)]
theorem cs_mk (ps : List Nat) (D : Nat → Bool) (p o n : Nat) : ∀ k, cs (fun x => mk ps D x k) p o n = sm (fun i => D i && cs (inP (gn ps i)) p o n) k
  | 0 => cs_false p o n
  | k + 1 => by
    have h : (fun x => mk ps D x (k + 1)) = fun x => xor (mk ps D x k) (D k && inP (gn ps k) x) := rfl
    rw [h, cs_xor, cs_mk ps D p o n k, cs_and (D k) (inP (gn ps k))]; rfl
theorem mk_xor (ps : List Nat) (D E : Nat → Bool) (x : Nat) : ∀ k, mk ps (fun i => xor (D i) (E i)) x k = xor (mk ps D x k) (mk ps E x k)
  | 0 => rfl
  | k + 1 => by
    rw [mk, mk, mk, mk_xor ps D E x k]
    cases D k <;> cases E k <;> cases inP (gn ps k) x <;> cases mk ps D x k <;> cases mk ps E x k <;> rfl
theorem mk_congr (ps : List Nat) {D E : Nat → Bool} (x : Nat) : ∀ k, (∀ i, i < k → D i = E i) → mk ps D x k = mk ps E x k
  | 0, _ => rfl
  | k + 1, h => by rw [mk, mk, mk_congr ps x k fun i hi => h i (by omega), h k (by omega)]
/-- one product alone -/
theorem sm_one (ps : List Nat) (D : Nat → Bool) (i : Nat) : ∀ k, (∀ j, j < k → gn ps j = gn ps i → j = i) → sm (fun j => D j && (gn ps j == gn ps i)) k = (decide (i < k) && D i)
  | 0, _ => by simp [sm]
  | k + 1, h => by
    rw [sm, sm_one ps D i k fun j hj => h j (by omega)]
    by_cases e : k = i
    · subst e; simp
    · have h1 : (gn ps k == gn ps i) = false := by
        rw [beq_eq_false_iff_ne]; exact fun h2 => e (h k (by omega) h2)
      rw [h1, Bool.and_false, Bool.xor_false]
      by_cases h2 : i < k
      · simp [h2, show i < k + 1 by omega]
      · simp [h2, show ¬ i < k + 1 by omega]
theorem sm_congr {f g : Nat → Bool} : ∀ k, (∀ i, i < k → f i = g i) → sm f k = sm g k
  | 0, _ => rfl
  | k + 1, h => by rw [sm, sm, sm_congr k fun i hi => h i (by omega), h k (by omega)]
/-- products that may stand in a code -/
structure Prods (m r : Nat) (ps : List Nat) : Prop where
  lt : ∀ i, i < ps.length → gn ps i < 2 ^ m
  deg : ∀ i, i < ps.length → deg (gn ps i) ≤ r
  inj : ∀ i, i < ps.length → ∀ j, j < ps.length → gn ps j = gn ps i → j = i
/-- what a part sums up to tells a product of the greatest degree -/
theorem part_tells {m r : Nat} {ps : List Nat} (hm : m < 5) (hp : Prods m r ps) {D : Nat → Bool} {i : Nat} (hi : i < ps.length) (hD : ∀ j, j < ps.length → D j = true → deg (gn ps j) ≤ deg (gn ps i)) {o : Nat} (ho : o < 2 ^ m) (hk : o &&& gn ps i = 0) :
    cs (fun x => mk ps D x ps.length) (gn ps i) o (2 ^ m) = D i := by
  rw [cs_mk]
  rw [sm_congr (g := fun j => D j && (gn ps j == gn ps i)) ps.length fun j hj => ?_]
  · rw [sm_one ps D i _ fun j hj h => hp.inj i hi j hj h]; simp [hi]
  · cases hd : D j with
    | false => simp
    | true => simp only [Bool.true_and]; exact mono m hm _ (hp.lt i hi) _ (hp.lt j hj) o ho hk (hD j hj hd)
theorem cnt_congr {f g : Nat → Bool} : ∀ k, (∀ i, i < k → f i = g i) → cnt f k = cnt g k
  | 0, _ => rfl
  | k + 1, h => by rw [cnt, cnt, cnt_congr k fun i hi => h i (by omega), h k (by omega)]
theorem cnt_one {f g : Nat → Bool} (a : Nat) (h : ∀ i, i ≠ a → f i = g i) : ∀ N, cnt f N ≤ cnt g N + (if a < N then 1 else 0)
  | 0 => by simp [cnt]
  | N + 1 => by
    have ih := cnt_one a h N
    rw [cnt, cnt]
    by_cases e : N = a
    · subst e
      rw [if_neg (Nat.lt_irrefl N)] at ih
      rw [if_pos (show N < N + 1 by omega)]
      have h1 : (if f N = true then 1 else 0) ≤ 1 := by split <;> omega
      omega
    · rw [h N e]
      by_cases h2 : a < N
      · rw [if_pos h2] at ih; rw [if_pos (show a < N + 1 by omega)]; omega
      · rw [if_neg h2] at ih; rw [if_neg (show ¬ a < N + 1 by omega)]; omega
/-- no more parts are odd than bits are set -/
theorem parts_le (f : Nat → Bool) (p N : Nat) : ∀ n, cnt (fun o => cs f p o n) N ≤ cnt f n
  | 0 => by
    have h : ∀ k, cnt (fun _ => false) k = 0 := fun k => by induction k with
      | zero => rfl
      | succ k ih => rw [cnt, ih]; rfl
    show cnt (fun _ => false) N ≤ 0
    rw [h]; omega
  | n + 1 => by
    have ih := parts_le f p N n
    rw [cnt]
    cases hf : f n with
    | false =>
      have : (fun o => cs f p o (n + 1)) = fun o => cs f p o n := by
        funext o; rw [cs, hf]; simp
      rw [this]; simp; exact ih
    | true =>
      have := cnt_one (f := fun o => cs f p o (n + 1)) (g := fun o => cs f p o n) (adn n p) (fun o ho => by
        show cs f p o (n + 1) = cs f p o n
        rw [cs, hf, show (adn n p == o) = false from beq_eq_false_iff_ne.2 fun h => ho h.symm]; simp) N
      rw [if_pos rfl]
      split at this <;> omega
theorem cnt_le {f g : Nat → Bool} : ∀ N, (∀ i, i < N → f i = true → g i = true) → cnt f N ≤ cnt g N
  | 0, _ => Nat.le_refl _
  | N + 1, h => by
    rw [cnt, cnt]
    have ih := cnt_le N fun i hi => h i (by omega)
    cases hf : f N with
    | false => simp; split <;> omega
    | true => rw [h N (by omega) hf]; simp; exact ih
theorem arg_max (P : Nat → Bool) (h : Nat → Nat) : ∀ k, (∃ i, i < k ∧ P i = true) → ∃ i, i < k ∧ P i = true ∧ ∀ j, j < k → P j = true → h j ≤ h i
  | 0, ⟨i, hi, _⟩ => by omega
  | k + 1, ⟨i, hi, hP⟩ => by
    by_cases hex : ∃ i, i < k ∧ P i = true
    · obtain ⟨a, ha, hPa, hmax⟩ := arg_max P h k hex
      by_cases hk : P k = true ∧ h a < h k
      · refine ⟨k, by omega, hk.1, fun j hj hPj => ?_⟩
        by_cases e : j = k
        · rw [e]; omega
        · have := hmax j (by omega) hPj; omega
      · refine ⟨a, by omega, hPa, fun j hj hPj => ?_⟩
        by_cases e : j = k
        · subst e; exact Classical.byContradiction fun h2 => hk ⟨hPj, by omega⟩
        · exact hmax j (by omega) hPj
    · have e : i = k := Classical.byContradiction fun h2 => hex ⟨i, by omega, hP⟩
      subst e
      refine ⟨i, by omega, hP, fun j hj hPj => ?_⟩
      by_cases e : j = i
      · rw [e]; omega
      · exact absurd ⟨j, by omega, hPj⟩ hex
/-- two sums of unlike data are far apart -/
theorem muller_far {m r : Nat} {ps : List Nat} (hm : m < 5) (hp : Prods m r ps) {a b : Nat → Bool} (hne : ∃ i, i < ps.length ∧ a i ≠ b i) :
    2 ^ (m - r) ≤ cnt (fun x => xor (mk ps a x ps.length) (mk ps b x ps.length)) (2 ^ m) := by
  obtain ⟨i0, hi0, hab⟩ := hne
  obtain ⟨i, hi, hDi, hmax⟩ := arg_max (fun i => xor (a i) (b i)) (fun i => deg (gn ps i)) ps.length ⟨i0, hi0, by
    show xor (a i0) (b i0) = true
    cases h1 : a i0 <;> cases h2 : b i0 <;> simp_all⟩
  have e : (fun x => xor (mk ps a x ps.length) (mk ps b x ps.length)) = fun x => mk ps (fun i => xor (a i) (b i)) x ps.length := by
    funext x; rw [mk_xor]
  rw [e]
  refine Nat.le_trans ?_ (parts_le _ (gn ps i) (2 ^ m) (2 ^ m))
  refine Nat.le_trans (Nat.pow_le_pow_right (by omega) (Nat.sub_le_sub_left (hp.deg i hi) m)) ?_
  rw [← keys_many m hm _ (hp.lt i hi)]
  refine cnt_le _ fun o ho hk => ?_
  show cs (fun x => mk ps (fun i => xor (a i) (b i)) x ps.length) (gn ps i) o (2 ^ m) = true
  rw [part_tells hm hp hi hmax ho (by simpa using hk)]
  exact hDi
/-- a vote: how many parts are odd, against how many there are -/
def yesP (f : Nat → Bool) (p m : Nat) : Nat := cnt (fun o => (o &&& p == 0) && cs f p o (2 ^ m)) (2 ^ m)
theorem cnt_and_not (k g : Nat → Bool) : ∀ N, cnt (fun o => k o && g o) N + cnt (fun o => k o && !g o) N = cnt k N
  | 0 => rfl
  | N + 1 => by
    have ih := cnt_and_not k g N
    rw [cnt, cnt, cnt, ← ih]
    cases k N <;> cases g N <;> simp <;> omega
/-- what most parts say is so, if fewer bits than half of the parts are wrong -/
theorem vote_tells {m r : Nat} {ps : List Nat} (hm : m < 5) (hp : Prods m r ps) {D e f : Nat → Bool} {i : Nat} (hi : i < ps.length) (hD : ∀ j, j < ps.length → D j = true → deg (gn ps j) ≤ deg (gn ps i))
    (hf : ∀ x, x < 2 ^ m → f x = xor (mk ps D x ps.length) (e x)) (he : 2 * cnt e (2 ^ m) < 2 ^ (m - r)) :
    decide (2 ^ (m - deg (gn ps i)) < 2 * yesP f (gn ps i) m) = D i := by
  have hK := keys_many m hm _ (hp.lt i hi)
  have hle : 2 ^ (m - r) ≤ 2 ^ (m - deg (gn ps i)) := Nat.pow_le_pow_right (by omega) (Nat.sub_le_sub_left (hp.deg i hi) m)
  have hw := parts_le e (gn ps i) (2 ^ m) (2 ^ m)
  have hcs : ∀ o, o < 2 ^ m → o &&& gn ps i = 0 → cs f (gn ps i) o (2 ^ m) = xor (D i) (cs e (gn ps i) o (2 ^ m)) := fun o ho hk => by
    rw [cs_congr (gn ps i) o (2 ^ m) hf, cs_xor, part_tells hm hp hi hD ho hk]
  have hsum := cnt_and_not (fun o => o &&& gn ps i == 0) (fun o => cs f (gn ps i) o (2 ^ m)) (2 ^ m)
  unfold yesP
  rw [← hK] at hle ⊢
  cases hd : D i with
  | false =>
    refine decide_eq_false ?_
    have : cnt (fun o => (o &&& gn ps i == 0) && cs f (gn ps i) o (2 ^ m)) (2 ^ m) ≤ cnt (fun o => cs e (gn ps i) o (2 ^ m)) (2 ^ m) := cnt_le _ fun o ho h => by
      rw [Bool.and_eq_true, beq_iff_eq] at h
      have h2 := hcs o ho h.1
      rw [hd, Bool.false_xor] at h2
      rw [← h2]; exact h.2
    omega
  | true =>
    refine decide_eq_true ?_
    have : cnt (fun o => (o &&& gn ps i == 0) && !cs f (gn ps i) o (2 ^ m)) (2 ^ m) ≤ cnt (fun o => cs e (gn ps i) o (2 ^ m)) (2 ^ m) := cnt_le _ fun o ho h => by
      rw [Bool.and_eq_true, beq_iff_eq] at h
      have h2 := hcs o ho h.1
      rw [hd] at h2
      have h3 := h.2
      rw [h2] at h3
      simpa using h3
    omega
theorem cnt_self (g : Nat → Bool) : ∀ N, cnt g N ≤ N
  | 0 => Nat.le_refl _
  | N + 1 => by
    have := cnt_self g N
    rw [cnt]; split <;> omega
/-- the products in order -/
def prods (r m : Nat) : List Nat := isort (fun a b => decide (deg a < deg b)) ((List.range (2 ^ m)).filter fun p => decide (deg p ≤ r))
theorem prods_ok : ∀ m, m < 5 → ∀ r, r < m + 1 → (∀ i, i < (prods r m).length → gn (prods r m) i < 2 ^ m) ∧ (∀ i, i < (prods r m).length → deg (gn (prods r m) i) ≤ r) ∧ (∀ i, i < (prods r m).length → ∀ j, j < (prods r m).length → gn (prods r m) j = gn (prods r m) i → j = i) ∧ (prods r m).length ≤ 16 := by decide +kernel
theorem prodsP {m r : Nat} (hm : m < 5) (hr : r ≤ m) : Prods m r (prods r m) := by
  obtain ⟨h1, h2, h3, _⟩ := prods_ok m hm r (by omega)
  exact ⟨h1, h2, h3⟩
end Go.Proofs.Ytjmpkmomlpgbdaa
