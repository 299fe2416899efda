/-
  Plain: a polynomial over the field of sixteen that is not all nought has fewer roots than numbers (Lagrange).
-/
import Derived.Test.YtnaebllojkodbaaFieldPlain
namespace Go.Proofs.Ytnaebllojkodbaa
open Go V
attribute [local irreducible] fmul

/-- the value at x: the last number first -/
def pval : List Nat → Nat → Nat
  | [], _ => 0
  | c :: t, x => fmul (pval t x) x ^^^ c
def Small (l : List Nat) : Prop := ∀ c ∈ l, c < 16
theorem x16 {a b : Nat} (ha : a < 16) (hb : b < 16) : a ^^^ b < 16 := Nat.xor_lt_two_pow (n := 4) ha hb
theorem pval_lt : ∀ {l : List Nat} {x : Nat}, Small l → x < 16 → pval l x < 16
  | [], _, _, _ => by simp [pval]
  | c :: t, x, hs, hx => x16 (fmul_lt (pval_lt (fun c h => hs c (List.mem_cons_of_mem _ h)) hx) hx) (hs c (List.mem_cons_self ..))
theorem fmul_xor {a b c : Nat} (ha : a < 16) (hb : b < 16) (hc : c < 16) : fmul a (b ^^^ c) = fmul a b ^^^ fmul a c := (field_laws ha hb hc).2.2.1
theorem fmul_xor' {a b c : Nat} (ha : a < 16) (hb : b < 16) (hc : c < 16) : fmul (a ^^^ b) c = fmul a c ^^^ fmul b c := by
  rw [fmul_comm (x16 ha hb) hc, fmul_xor hc ha hb, fmul_comm hc ha, fmul_comm hc hb]
def zeroDiv (a b : Nat) : Bool := decide (fmul a b ≠ 0) || decide (a = 0) || decide (b = 0)
theorem zeroDiv_all : (List.range 16).all (fun a => (List.range 16).all fun b => zeroDiv a b) = true := by decide +kernel
theorem fmul_zero_of {a b : Nat} (ha : a < 16) (hb : b < 16) (h : fmul a b = 0) : a = 0 ∨ b = 0 := by
  have h1 := List.all_eq_true.1 (List.all_eq_true.1 zeroDiv_all a (List.mem_range.2 ha)) b (List.mem_range.2 hb)
  simp only [zeroDiv, Bool.or_eq_true, decide_eq_true_eq] at h1
  rcases h1 with (h1 | h1) | h1
  · exact absurd h h1
  · exact .inl h1
  · exact .inr h1
theorem zmul_all : (List.range 16).all (fun a => decide (fmul a 0 = 0) && decide (fmul 0 a = 0)) = true := by decide +kernel
theorem fmul_z {a : Nat} (ha : a < 16) : fmul a 0 = 0 ∧ fmul 0 a = 0 := by
  have h1 := List.all_eq_true.1 zmul_all a (List.mem_range.2 ha)
  simpa using h1
theorem xor_zero_iff {a b : Nat} : a ^^^ b = 0 ↔ a = b :=
  ⟨fun h => by
    have h2 : a ^^^ b ^^^ b = 0 ^^^ b := by rw [h]
    rw [Nat.xor_assoc, Nat.xor_self, Nat.xor_zero, Nat.zero_xor] at h2; exact h2, fun h => by rw [h, Nat.xor_self]⟩
/-- sums and multiples of polynomials -/
def padd : List Nat → List Nat → List Nat := List.zipWith (· ^^^ ·)
def psc (a : Nat) (l : List Nat) : List Nat := l.map (fmul a)
theorem small_cons {c : Nat} {t : List Nat} : Small (c :: t) ↔ c < 16 ∧ Small t := by simp [Small]
theorem psc_small {a : Nat} {l : List Nat} (ha : a < 16) (h : Small l) : Small (psc a l) := by
  intro c hc
  obtain ⟨b, hb, rfl⟩ := List.mem_map.1 hc
  exact fmul_lt ha (h b hb)
theorem padd_small : ∀ {p q : List Nat}, Small p → Small q → Small (padd p q)
  | [], _, _, _ => by simp [padd, Small]
  | _ :: _, [], _, _ => by simp [padd, Small]
  | a :: p, b :: q, hp, hq => by
    rw [small_cons] at hp hq
    show Small ((a ^^^ b) :: padd p q)
    exact small_cons.2 ⟨x16 hp.1 hq.1, padd_small hp.2 hq.2⟩
theorem pval_padd : ∀ {p q : List Nat} {x : Nat}, p.length = q.length → Small p → Small q → x < 16 → pval (padd p q) x = pval p x ^^^ pval q x
  | [], [], _, _, _, _, _ => by simp [padd, pval]
  | a :: p, b :: q, x, hl, hp, hq, hx => by
    rw [small_cons] at hp hq
    show fmul (pval (padd p q) x) x ^^^ (a ^^^ b) = (fmul (pval p x) x ^^^ a) ^^^ (fmul (pval q x) x ^^^ b)
    rw [pval_padd (by simpa using hl) hp.2 hq.2 hx, fmul_xor' (pval_lt hp.2 hx) (pval_lt hq.2 hx) hx]
    ac_rfl
theorem pval_psc : ∀ {l : List Nat} {a x : Nat}, Small l → a < 16 → x < 16 → pval (psc a l) x = fmul a (pval l x)
  | [], a, _, _, ha, _ => (fmul_z ha).1.symm
  | c :: t, a, x, hs, ha, hx => by
    rw [small_cons] at hs
    have hv := pval_lt hs.2 hx
    show fmul (pval (psc a t) x) x ^^^ fmul a c = fmul a (fmul (pval t x) x ^^^ c)
    rw [pval_psc hs.2 ha hx, fmul_xor ha (fmul_lt hv hx) hs.1, fmul_assoc ha hv hx]
/-- t(x) - t(a) is (x - a) times some polynomial -/
theorem pdiv : ∀ (t : List Nat) (a : Nat), Small t → a < 16 → ∃ s : List Nat, s.length = t.length - 1 ∧ Small s ∧ ∀ x, x < 16 → pval t x ^^^ pval t a = fmul (x ^^^ a) (pval s x)
  | [], a, _, ha => ⟨[], rfl, by simp [Small], fun x hx => by simp [pval, (fmul_z (x16 hx ha)).1]⟩
  | c :: u, a, hs, ha => by
    rw [small_cons] at hs
    obtain ⟨s, h1, h2, h3⟩ := pdiv u a hs.2 ha
    cases u with
    | nil => exact ⟨[], rfl, by simp [Small], fun x hx => by simp [pval, (fmul_z hx).2, (fmul_z ha).2, (fmul_z (x16 hx ha)).1]⟩
    | cons d u =>
      have hlen : (d :: u).length = (psc a (s ++ [0])).length := by simp [psc, h1]
      have hs0 : Small (s ++ [0]) := by
        intro c hc
        rcases List.mem_append.1 hc with h | h
        · exact h2 c h
        · rw [List.mem_singleton] at h; omega
      have hv0 : ∀ x, x < 16 → pval (s ++ [0]) x = pval s x := by
        intro x hx
        clear h1 h3 hlen hs0
        induction s with
        | nil => simp [pval, (fmul_z hx).2]
        | cons b s ih =>
          rw [small_cons] at h2
          show fmul (pval (s ++ [0]) x) x ^^^ b = fmul (pval s x) x ^^^ b
          rw [ih h2.2]
      refine ⟨padd (d :: u) (psc a (s ++ [0])), ?_, padd_small hs.2 (psc_small ha hs0), fun x hx => ?_⟩
      · simp [padd, psc, h1]
      · rw [pval_padd hlen hs.2 (psc_small ha hs0) hx, pval_psc hs0 ha hx, hv0 x hx]
        have hx1 := pval_lt hs.2 hx
        have ha1 := pval_lt hs.2 ha
        have hsx := pval_lt h2 hx
        have hxa := x16 hx ha
        rw [fmul_xor hxa hx1 (fmul_lt ha hsx)]
        rw [show fmul (x ^^^ a) (fmul a (pval s x)) = fmul a (fmul (x ^^^ a) (pval s x)) by
          rw [← fmul_assoc hxa ha hsx, fmul_comm hxa ha, fmul_assoc ha hxa hsx]]
        rw [← h3 x hx, fmul_xor ha hx1 ha1, fmul_xor' hx ha hx1]
        show (fmul (pval (d :: u) x) x ^^^ c) ^^^ (fmul (pval (d :: u) a) a ^^^ c) = _
        rw [fmul_comm hx1 hx, fmul_comm ha1 ha]
        generalize fmul x (pval (d :: u) x) = A
        generalize fmul a (pval (d :: u) a) = D
        generalize fmul a (pval (d :: u) x) = E
        have e1 : (A ^^^ c) ^^^ (D ^^^ c) = A ^^^ D ^^^ (c ^^^ c) := by ac_rfl
        have e2 : A ^^^ E ^^^ (E ^^^ D) = A ^^^ D ^^^ (E ^^^ E) := by ac_rfl
        rw [e1, e2, Nat.xor_self, Nat.xor_self]
/-- as many roots as numbers: all are nought -/
theorem roots_all : ∀ (n : Nat) (l : List Nat), l.length = n → n ≤ 16 → Small l → ∀ xs : List Nat, xs.Nodup → n ≤ xs.length → (∀ x ∈ xs, x < 16 ∧ pval l x = 0) → ∀ c ∈ l, c = 0
  | 0, l, hl, _, _, _, _, _, _ => by obtain rfl := List.eq_nil_of_length_eq_zero hl; simp
  | n + 1, [], hl, _, _, _, _, _, _ => by simp at hl
  | n + 1, c :: t, hl, hn, hs, xs, hnd, hxl, hr => by
    cases xs with
    | nil => simp at hxl
    | cons a ys =>
      obtain ⟨ha, hra⟩ := hr a (List.mem_cons_self ..)
      obtain ⟨s, h1, h2, h3⟩ := pdiv (c :: t) a hs ha
      rw [List.nodup_cons] at hnd
      have hsl : s.length = n := by rw [h1, hl]; rfl
      have hz := roots_all n s hsl (by omega) h2 ys hnd.2 (by simpa using hxl) fun y hy => by
        obtain ⟨hy16, hry⟩ := hr y (List.mem_cons_of_mem _ hy)
        refine ⟨hy16, ?_⟩
        have := h3 y hy16
        rw [hra, hry, Nat.xor_self] at this
        rcases fmul_zero_of (x16 hy16 ha) (pval_lt h2 hy16) this.symm with h | h
        · rw [xor_zero_iff] at h; subst h; exact absurd hy hnd.1
        · exact h
      have hs0 : ∀ x, x < 16 → pval s x = 0 := by
        intro x hx
        clear h1 h3 hsl
        induction s with
        | nil => rfl
        | cons b s ih =>
          show fmul (pval s x) x ^^^ b = 0
          rw [ih (small_cons.1 h2).2 (fun c hc => hz c (List.mem_cons_of_mem _ hc)), (fmul_z hx).2, hz b (List.mem_cons_self ..)]; rfl
      have hall : ∀ x, x < 16 → pval (c :: t) x = 0 := fun x hx => by
        have := h3 x hx
        rw [hra, Nat.xor_zero, hs0 x hx, (fmul_z (x16 hx ha)).1] at this
        exact this
      rw [small_cons] at hs
      have hc0 : c = 0 := by
        have := hall 0 (by omega)
        rw [show pval (c :: t) 0 = fmul (pval t 0) 0 ^^^ c from rfl, (fmul_z (pval_lt hs.2 (by omega))).1, Nat.zero_xor] at this
        exact this
      have ht : ∀ b ∈ t, b = 0 := roots_all n t (by simpa using hl) (by omega) hs.2 ((List.range 15).map (· + 1)) (by decide) (by simp; omega) fun x hx => by
        obtain ⟨j, hj, rfl⟩ := List.mem_map.1 hx
        rw [List.mem_range] at hj
        refine ⟨by omega, ?_⟩
        have := hall (j + 1) (by omega)
        rw [show pval (c :: t) (j + 1) = fmul (pval t (j + 1)) (j + 1) ^^^ c from rfl, hc0, Nat.xor_zero] at this
        rcases fmul_zero_of (pval_lt hs.2 (by omega)) (by omega) this with h | h
        · exact h
        · omega
      intro b hb
      rcases List.mem_cons.1 hb with h | h
      · rw [h]; exact hc0
      · exact ht b h
end Go.Proofs.Ytnaebllojkodbaa
