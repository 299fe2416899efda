/-
  Plain: the field of sixteen numbers: products bit by bit, powers by squares.
-/
import Derived.Test.YtnaebllojkodbaaVbase
namespace Go.Proofs.Ytnaebllojkodbaa
open Go V

structure Ts where
  a : Nat
  b : Nat
  p : Nat
  deriving DecidableEq
def tstep (s : Ts) : Ts := ⟨if 15 < s.a <<< 1 then s.a <<< 1 ^^^ 19 else s.a <<< 1, s.b >>> 1, if s.b &&& 1 = 1 then s.p ^^^ s.a else s.p⟩
def tTo (a b : Nat) : Nat → Ts := iter (fun _ s => tstep s) ⟨a, b, 0⟩
theorem tTo_succ (a b k : Nat) : tTo a b (k + 1) = tstep (tTo a b k) := rfl
theorem tTo_a (a b k : Nat) : (tTo a b (k + 1)).a = if 15 < (tTo a b k).a <<< 1 then (tTo a b k).a <<< 1 ^^^ 19 else (tTo a b k).a <<< 1 := rfl
theorem tTo_b (a b k : Nat) : (tTo a b (k + 1)).b = (tTo a b k).b >>> 1 := rfl
theorem tTo_p (a b k : Nat) : (tTo a b (k + 1)).p = if (tTo a b k).b &&& 1 = 1 then (tTo a b k).p ^^^ (tTo a b k).a else (tTo a b k).p := rfl
def fmul (a b : Nat) : Nat := (tTo a b 4).p
def tCheck (a b k : Nat) : Bool := let s := tTo a b k; decide (s.a < 16) && decide (s.b < 16) && decide (s.p < 16) && (decide (s.b ≠ 0) || decide (s.p = fmul a b)) && (decide (k ≠ 4) || decide (s.b = 0))
theorem t_all : (List.range 16).all (fun a => (List.range 16).all fun b => (List.range 5).all fun k => tCheck a b k) = true := by decide +kernel
theorem t_facts {a b k : Nat} (ha : a < 16) (hb : b < 16) (hk : k ≤ 4) : (tTo a b k).a < 16 ∧ (tTo a b k).b < 16 ∧ (tTo a b k).p < 16 ∧ ((tTo a b k).b = 0 → (tTo a b k).p = fmul a b) ∧ (k = 4 → (tTo a b k).b = 0) := by
  have h := List.all_eq_true.1 (List.all_eq_true.1 (List.all_eq_true.1 t_all a (List.mem_range.2 ha)) b (List.mem_range.2 hb)) k (List.mem_range.2 (by omega))
  simp only [tCheck, Bool.and_eq_true, Bool.or_eq_true, decide_eq_true_eq] at h
  obtain ⟨⟨⟨⟨h1, h2⟩, h3⟩, h4⟩, h5⟩ := h
  exact ⟨h1, h2, h3, fun e => h4.resolve_left (fun h => h e), fun e => h5.resolve_left (fun h => h e)⟩
theorem fmul_lt {a b : Nat} (ha : a < 16) (hb : b < 16) : fmul a b < 16 := (t_facts ha hb (Nat.le_refl 4)).2.2.1

def fieldOk (a b c : Nat) : Bool := decide (fmul a b = fmul b a) && decide (fmul (fmul a b) c = fmul a (fmul b c)) && decide (fmul a (b ^^^ c) = fmul a b ^^^ fmul a c) && decide (fmul 1 a = a)
theorem field_all : (List.range 16).all (fun a => (List.range 16).all fun b => (List.range 16).all fun c => fieldOk a b c) = true := by decide +kernel
theorem field_laws {a b c : Nat} (ha : a < 16) (hb : b < 16) (hc : c < 16) : fmul a b = fmul b a ∧ fmul (fmul a b) c = fmul a (fmul b c) ∧ fmul a (b ^^^ c) = fmul a b ^^^ fmul a c ∧ fmul 1 a = a := by
  have h := List.all_eq_true.1 (List.all_eq_true.1 (List.all_eq_true.1 field_all a (List.mem_range.2 ha)) b (List.mem_range.2 hb)) c (List.mem_range.2 hc)
  simp only [fieldOk, Bool.and_eq_true, decide_eq_true_eq] at h
  obtain ⟨⟨⟨h1, h2⟩, h3⟩, h4⟩ := h
  exact ⟨h1, h2, h3, h4⟩

/-- are these numbers of the field? -/
def OkF (l : List Int) : Prop := ∀ z ∈ l, 0 ≤ z ∧ z ≤ 15
theorem okF_cons (z : Int) (l : List Int) : OkF (z :: l) ↔ (0 ≤ z ∧ z ≤ 15) ∧ OkF l := by simp [OkF]
theorem okF_nil : OkF [] := by simp [OkF]

/-! ### Powers -/
structure Ps where
  x : Nat
  a : Nat
  k : Nat
def pstep (s : Ps) : Ps := ⟨if s.k &&& 1 = 1 then fmul s.x s.a else s.x, fmul s.a s.a, s.k >>> 1⟩
def pTo (a k : Nat) : Nat → Ps := iter (fun _ s => pstep s) ⟨1, a, k⟩
theorem pTo_succ (a k j : Nat) : pTo a k (j + 1) = pstep (pTo a k j) := rfl
/-- so often with itself -/
def fpow (a : Nat) : Nat → Nat
  | 0 => 1
  | k + 1 => fmul (fpow a k) a
theorem fpow_lt {a : Nat} (ha : a < 16) : ∀ k, fpow a k < 16
  | 0 => by simp [fpow]
  | k + 1 => fmul_lt (fpow_lt ha k) ha
theorem fmul_comm {a b : Nat} (ha : a < 16) (hb : b < 16) : fmul a b = fmul b a := (field_laws (c := 0) ha hb (by omega)).1
theorem fmul_assoc {a b c : Nat} (ha : a < 16) (hb : b < 16) (hc : c < 16) : fmul (fmul a b) c = fmul a (fmul b c) := (field_laws ha hb hc).2.1
theorem fone_mul {a : Nat} (ha : a < 16) : fmul 1 a = a := (field_laws (b := 0) (c := 0) ha (by omega) (by omega)).2.2.2
theorem fpow_add {a : Nat} (ha : a < 16) (j : Nat) : ∀ k, fpow a (j + k) = fmul (fpow a j) (fpow a k)
  | 0 => by rw [Nat.add_zero, fpow, fmul_comm (fpow_lt ha j) (by omega), fone_mul (fpow_lt ha j)]
  | k + 1 => by
    rw [← Nat.add_assoc]
    show fmul (fpow a (j + k)) a = fmul (fpow a j) (fmul (fpow a k) a)
    rw [fpow_add ha j k, fmul_assoc (fpow_lt ha j) (fpow_lt ha k) ha]
theorem fpow_square {a : Nat} (ha : a < 16) : ∀ k, fpow (fmul a a) k = fpow a (2 * k)
  | 0 => rfl
  | k + 1 => by
    show fmul (fpow (fmul a a) k) (fmul a a) = fmul (fmul (fpow a (2 * k)) a) a
    rw [fpow_square ha k, fmul_assoc (fpow_lt ha _) ha ha]
theorem pTo_inv {a : Nat} (ha : a < 16) (k : Nat) : ∀ j, (pTo a k j).x < 16 ∧ (pTo a k j).a < 16 ∧ (pTo a k j).k = k >>> j ∧ fmul (pTo a k j).x (fpow (pTo a k j).a (pTo a k j).k) = fpow a k
  | 0 => ⟨by simp [pTo, iter], by simpa [pTo, iter] using ha, rfl, fone_mul (fpow_lt ha k)⟩
  | j + 1 => by
    obtain ⟨h1, h2, h3, h4⟩ := pTo_inv ha k j
    rw [pTo_succ]
    generalize pTo a k j = s at *
    obtain ⟨x, b, m⟩ := s
    simp only at h1 h2 h3 h4
    subst h3
    have hsh : k >>> (j + 1) = (k >>> j) >>> 1 := by rw [Nat.shiftRight_add]
    have hm : k >>> j = 2 * ((k >>> j) >>> 1) + (k >>> j) % 2 := by
      rw [Nat.shiftRight_eq_div_pow (k >>> j) 1]; omega
    have hand : (k >>> j) &&& 1 = (k >>> j) % 2 := Nat.and_one_is_mod _
    generalize k >>> j = m at *
    generalize hq : m >>> 1 = q at *
    refine ⟨?_, fmul_lt h2 h2, by show m >>> 1 = _; rw [hq]; exact hsh.symm, ?_⟩
    · simp only [pstep]; split
      · exact fmul_lt h1 h2
      · exact h1
    · simp only [pstep, hq]
      rw [fpow_square h2]
      by_cases hb : m % 2 = 1
      · rw [hand, if_pos hb, fmul_assoc h1 h2 (fpow_lt h2 _), fmul_comm h2 (fpow_lt h2 _)]
        show fmul x (fpow b (2 * q + 1)) = _
        rw [← h4, hm, hb]
      · rw [hand, if_neg hb, ← h4, hm, show m % 2 = 0 from by omega]
        rfl
theorem pTo_x (a k j : Nat) : (pTo a k (j + 1)).x = if (pTo a k j).k &&& 1 = 1 then fmul (pTo a k j).x (pTo a k j).a else (pTo a k j).x := rfl
theorem pTo_a (a k j : Nat) : (pTo a k (j + 1)).a = fmul (pTo a k j).a (pTo a k j).a := rfl
theorem pTo_k (a k j : Nat) : (pTo a k (j + 1)).k = (pTo a k j).k >>> 1 := rfl
theorem fmul_one {a : Nat} (ha : a < 16) : fmul a 1 = a := by rw [fmul_comm ha (by omega), fone_mul ha]
theorem inv_all : (List.range 16).all (fun a => decide (a = 0) || (decide (fmul a (fpow a 14) = 1) && decide (fpow (fpow a 14) 14 = a) && decide (fpow a 15 = 1) && decide (fpow a 14 ≠ 0))) = true := by decide +kernel
theorem inv_facts {a : Nat} (ha : a < 16) (h0 : a ≠ 0) : fmul a (fpow a 14) = 1 ∧ fpow (fpow a 14) 14 = a ∧ fpow a 15 = 1 ∧ fpow a 14 ≠ 0 := by
  have h := List.all_eq_true.1 inv_all a (List.mem_range.2 ha)
  simp only [Bool.and_eq_true, Bool.or_eq_true, decide_eq_true_eq] at h
  rcases h with h | ⟨⟨⟨h1, h2⟩, h3⟩, h4⟩
  · exact absurd h h0
  · exact ⟨h1, h2, h3, h4⟩
end Go.Proofs.Ytnaebllojkodbaa
