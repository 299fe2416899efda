/-
  Plain: depths of leaves of trees: their words rise, and their room is used up.
-/
import Derived.Test.YtohflgcbpmoinaaAlphaPlain
import Derived.Test.YtohflgcbpmoinaaDigsPlain
namespace Go.Proofs.Ytohflgcbpmoinaa
open Go V

inductive Trl : Nat → List Nat → Prop
  | leaf (d : Nat) : Trl d [d]
  | node {d : Nat} {a b : List Nat} : Trl (d + 1) a → Trl (d + 1) b → Trl d (a ++ b)
theorem Trl.dep {d : Nat} {l : List Nat} (h : Trl d l) : 1 ≤ l.length ∧ ∀ x ∈ l, d ≤ x ∧ x + 1 ≤ d + l.length := by
  induction h with
  | leaf d => exact ⟨Nat.le_refl _, fun x hx => by rw [List.mem_singleton.1 hx]; simp⟩
  | @node d a b _ _ iha ihb =>
    obtain ⟨ha, hax⟩ := iha
    obtain ⟨hb, hbx⟩ := ihb
    refine ⟨by rw [List.length_append]; omega, fun x hx => ?_⟩
    rw [List.length_append]
    rcases List.mem_append.1 hx with hx | hx
    · have := hax x hx; omega
    · have := hbx x hx; omega
theorem pow_half {d : Nat} (h : d + 1 ≤ 8) : 2 ^ (8 - (d + 1)) + 2 ^ (8 - (d + 1)) = 2 ^ (8 - d) := by
  rw [show 8 - d = (8 - (d + 1)) + 1 by omega, Nat.pow_succ]; omega
theorem Trl.kr {d : Nat} {l : List Nat} (h : Trl d l) (h8 : ∀ x ∈ l, x ≤ 8) : kr l = 2 ^ (8 - d) := by
  induction h with
  | leaf d => simp [Go.Proofs.Ytohflgcbpmoinaa.kr]
  | @node d a b ha hb iha ihb =>
    have h1 := ha.dep
    have hd : d + 1 ≤ 8 := by
      obtain ⟨x, hx⟩ := List.exists_mem_of_length_pos (l := a) h1.1
      have := (h1.2 x hx).1
      have := h8 x (List.mem_append_left _ hx)
      omega
    rw [kr_app, iha fun x hx => h8 x (List.mem_append_left _ hx), ihb fun x hx => h8 x (List.mem_append_right _ hx), pow_half hd]
theorem gn_appl {a b : List Nat} {k : Nat} (h : k < a.length) : gn (a ++ b) k = gn a k := by
  rw [gn_lt h, gn_lt (by rw [List.length_append]; omega), List.getElem_append_left h]
theorem gn_appr {a b : List Nat} {k : Nat} (h : a.length ≤ k) : gn (a ++ b) k = gn b (k - a.length) := by
  unfold gn; rw [List.getD_eq_getElem?_getD, List.getD_eq_getElem?_getD, List.getElem?_append_right h]
theorem Trl.al {d : Nat} {l : List Nat} (h : Trl d l) (h8 : ∀ x ∈ l, x ≤ 8) : ∀ s, 2 ^ (8 - d) ∣ s → ∀ k, k < l.length → 2 ^ (8 - gn l k) ∣ s + Go.Proofs.Ytohflgcbpmoinaa.kr (l.take k) := by
  induction h with
  | leaf d =>
    intro s hs k hk
    obtain rfl : k = 0 := by simpa using hk
    simpa [Go.Proofs.Ytohflgcbpmoinaa.kr, gn] using hs
  | @node d a b ha hb iha ihb =>
    intro s hs k hk
    have h1 := ha.dep
    have hd : d + 1 ≤ 8 := by
      obtain ⟨x, hx⟩ := List.exists_mem_of_length_pos (l := a) h1.1
      have := (h1.2 x hx).1
      have := h8 x (List.mem_append_left _ hx)
      omega
    have hs1 : 2 ^ (8 - (d + 1)) ∣ s := Nat.dvd_trans (Nat.pow_dvd_pow 2 (by omega)) hs
    by_cases hka : k < a.length
    · rw [gn_appl hka, List.take_append_of_le_length (by omega)]
      exact iha (fun x hx => h8 x (List.mem_append_left _ hx)) s hs1 k hka
    · have hkr := ha.kr fun x hx => h8 x (List.mem_append_left _ hx)
      rw [gn_appr (by omega), List.take_append, List.take_of_length_le (by omega), kr_app, ← Nat.add_assoc, hkr]
      rw [List.length_append] at hk
      exact ihb (fun x hx => h8 x (List.mem_append_right _ hx)) _ (Nat.dvd_add hs1 (Nat.dvd_refl _)) _ (by omega)
/-- what lens finds of a stretch, d bits down -/
structure Ln (ws : List Nat) (T : Nat → Nat → Nat) (i j d : Nat) (l : List Nat) : Prop where
  len : l.length = j - i
  tree : Trl d l
  cost : cost ((ws.drop i).take (j - i)) l = T i j + d * sumR ws i (j - i)
theorem Ln.leaf {ws : List Nat} {T : Nat → Nat → Nat} {i d : Nat} (hz : T i (i + 1) = 0) (hi : i < ws.length) : Ln ws T i (i + 1) d [d] := by
  refine ⟨by simp, .leaf d, ?_⟩
  rw [show i + 1 - i = 1 by omega, hz]
  have : (ws.drop i).take 1 = [gn ws i] := by
    rw [List.drop_eq_getElem_cons hi, gn_lt hi]; rfl
  unfold sumR
  rw [this]; simp [Go.Proofs.Ytohflgcbpmoinaa.cost, Nat.mul_comm]
theorem Ln.node {ws a b : List Nat} {T : Nat → Nat → Nat} {i j k d : Nat} (ha : Ln ws T i k (d + 1) a) (hb : Ln ws T k j (d + 1) b) (hik : i < k) (hkj : k < j) (hj : j ≤ ws.length) (hT : T i k + T k j + sumR ws i (j - i) = T i j) : Ln ws T i j d (a ++ b) := by
  refine ⟨by rw [List.length_append, ha.len, hb.len]; omega, .node ha.tree hb.tree, ?_⟩
  have e : j - i = (k - i) + (j - k) := by omega
  have hs : sumR ws i (j - i) = sumR ws i (k - i) + sumR ws k (j - k) := by
    rw [e, sumR_add, show i + (k - i) = k by omega]
  have hc : (ws.drop i).take (j - i) = (ws.drop i).take (k - i) ++ (ws.drop k).take (j - k) := by
    rw [e, cut_two, show i + (k - i) = k by omega]
  have hl : a.length = ((ws.drop i).take (k - i)).length := by rw [ha.len, List.length_take, List.length_drop]; omega
  rw [hc, cost_app _ _ _ _ hl, ha.cost, hb.cost, ← hT, hs, Nat.add_mul, Nat.add_mul, Nat.mul_add]
  omega
/-- the words -/
def vl : List Bool → Nat
  | [] => 0
  | b :: bs => (if b = true then 2 ^ bs.length else 0) + vl bs
theorem vl_lt : ∀ l : List Bool, vl l < 2 ^ l.length
  | [] => by simp [vl]
  | b :: bs => by
    have := vl_lt bs
    rw [vl, List.length_cons, Nat.pow_succ]
    split <;> omega
theorem vl_snoc (b : Bool) : ∀ l : List Bool, vl (l ++ [b]) = 2 * vl l + if b = true then 1 else 0
  | [] => by simp [vl]
  | c :: l => by
    rw [List.cons_append, vl, vl, vl_snoc b l, List.length_append, List.length_cons, List.length_nil, Nat.zero_add, Nat.pow_succ]
    split <;> split <;> omega
theorem vl_digs (x n : Nat) : ∀ k, k ≤ n → vl (digs x n k) = (x >>> (n - k)) % 2 ^ k
  | 0, _ => by simp [digs, iter, vl, Nat.mod_one]
  | k + 1, h => by
    rw [digs_succ, vl_snoc, vl_digs x n k (by omega), Nat.testBit_eq_decide_div_mod_eq]
    rw [Nat.shiftRight_eq_div_pow, Nat.shiftRight_eq_div_pow, show n - k = (n - 1 - k) + 1 by omega, show n - (k + 1) = n - 1 - k by omega, Nat.pow_succ, ← Nat.div_div_eq_div_mul]
    generalize x / 2 ^ (n - 1 - k) = y
    rw [Nat.pow_succ, Nat.mul_comm (2 ^ k) 2, Nat.mod_mul]
    by_cases e : y % 2 = 1
    · simp [e]; omega
    · have : y % 2 = 0 := by omega
      simp [this]
theorem vl_all {x n : Nat} (h : x < 2 ^ n) : vl (digs x n n) = x := by
  rw [vl_digs x n n (Nat.le_refl _), Nat.sub_self, Nat.shiftRight_zero, Nat.mod_eq_of_lt h]
def rs : List Bool → List Bool → Bool
  | a :: as, b :: bs => if a = b then rs as bs else b
  | _, _ => false
theorem rs_lt : ∀ (N : Nat) (u v : List Bool), u.length ≤ N → v.length ≤ N → (vl u + 1) * 2 ^ (N - u.length) ≤ vl v * 2 ^ (N - v.length) → rs u v = true
  | N, [], v, _, hv, h => by
    exfalso
    have h1 := vl_lt v
    have h2 : vl v * 2 ^ (N - v.length) < 2 ^ v.length * 2 ^ (N - v.length) := Nat.mul_lt_mul_of_pos_right h1 (Nat.two_pow_pos _)
    rw [← Nat.pow_add, show v.length + (N - v.length) = N by omega] at h2
    simp [vl] at h
    omega
  | N, a :: u, [], _, _, h => by
    exfalso
    have := Nat.mul_pos (Nat.succ_pos (vl (a :: u))) (Nat.two_pow_pos (N - (a :: u).length))
    rw [show vl [] = 0 from rfl, Nat.zero_mul] at h
    simp only [Nat.succ_eq_add_one] at this
    omega
  | 0, a :: u, b :: v, hu, _, _ => by simp at hu
  | N + 1, a :: u, b :: v, hu, hv, h => by
    rw [List.length_cons] at hu hv
    rw [vl, vl, List.length_cons, List.length_cons, show N + 1 - (u.length + 1) = N - u.length by omega, show N + 1 - (v.length + 1) = N - v.length by omega] at h
    have eu : 2 ^ u.length * 2 ^ (N - u.length) = 2 ^ N := by rw [← Nat.pow_add, show u.length + (N - u.length) = N by omega]
    have ev : 2 ^ v.length * 2 ^ (N - v.length) = 2 ^ N := by rw [← Nat.pow_add, show v.length + (N - v.length) = N by omega]
    have hv2 : vl v * 2 ^ (N - v.length) < 2 ^ N := by rw [← ev]; exact Nat.mul_lt_mul_of_pos_right (vl_lt v) (Nat.two_pow_pos _)
    unfold rs
    cases a <;> cases b <;> simp only [if_true, Bool.false_eq_true, if_false, Nat.zero_add, reduceCtorEq] at h ⊢
    · exact rs_lt N u v (by omega) (by omega) h
    · rw [Nat.add_assoc, Nat.add_mul, eu] at h
      exfalso; omega
    · rw [Nat.add_assoc, Nat.add_mul, eu, Nat.add_mul (2 ^ v.length), ev] at h
      exact rs_lt N u v (by omega) (by omega) (by omega)
theorem rs_drop {a b : List Bool} {k : Nat} (ha : k < a.length) (hb : k < b.length) : rs (a.drop k) (b.drop k) = if gb a k = gb b k then rs (a.drop (k + 1)) (b.drop (k + 1)) else gb b k := by
  rw [List.drop_eq_getElem_cons ha, List.drop_eq_getElem_cons hb, gb_lt ha, gb_lt hb, rs]
theorem rs_end {a b : List Bool} {k : Nat} (h : a.length ≤ k ∨ b.length ≤ k) : rs (a.drop k) (b.drop k) = false := by
  rcases h with h | h
  · rw [List.drop_eq_nil_of_le h]; simp [rs]
  · rw [List.drop_eq_nil_of_le h]; cases a.drop k <;> rfl
/-- the words of given lengths, one behind the other -/
def mw (l : List Nat) (k : Nat) : List Bool := digs (kr (l.take k) / 2 ^ (8 - gn l k)) (gn l k) (gn l k)
structure Al (l : List Nat) : Prop where
  eight : ∀ k, k < l.length → gn l k ≤ 8
  dvd : ∀ k, k < l.length → 2 ^ (8 - gn l k) ∣ kr (l.take k)
  all : kr l ≤ 256
theorem Al.next {l : List Nat} (h : Al l) {k : Nat} (hk : k < l.length) : kr (l.take k) + 2 ^ (8 - gn l k) ≤ 256 := by
  rw [← kr_take l k hk]
  have := kr_take_le l (l.length - (k + 1)) (k + 1) (by omega)
  rw [show k + 1 + (l.length - (k + 1)) = l.length by omega, List.take_length] at this
  exact Nat.le_trans this h.all
theorem Al.at {l : List Nat} (h : Al l) {k : Nat} (hk : k < l.length) : (kr (l.take k) + 2 ^ (8 - gn l k) - 1) / 2 ^ (8 - gn l k) * 2 ^ (8 - gn l k) = kr (l.take k) := by
  obtain ⟨q, hq⟩ := h.dvd k hk
  have hp := Nat.two_pow_pos (8 - gn l k)
  generalize 2 ^ (8 - gn l k) = P at *
  rw [hq, show P * q + P - 1 = (P - 1) + P * q by omega, Nat.add_mul_div_left _ _ hp, Nat.div_eq_of_lt (by omega), Nat.zero_add, Nat.mul_comm]
theorem Al.lt {l : List Nat} (h : Al l) {k : Nat} (hk : k < l.length) : kr (l.take k) / 2 ^ (8 - gn l k) < 2 ^ gn l k := by
  have h1 := h.next hk
  have h8 := h.eight k hk
  have e : (2 : Nat) ^ gn l k * 2 ^ (8 - gn l k) = 256 := by rw [← Nat.pow_add, show gn l k + (8 - gn l k) = 8 by omega]
  rw [Nat.div_lt_iff_lt_mul (Nat.two_pow_pos _), e]
  have := Nat.two_pow_pos (8 - gn l k)
  omega
theorem mw_len (l : List Nat) (k : Nat) : (mw l k).length = gn l k := digs_len _ _ _
theorem Al.rises {l : List Nat} (h : Al l) {k : Nat} (hk : k + 1 < l.length) : rs (mw l k) (mw l (k + 1)) = true := by
  refine rs_lt 8 _ _ (by rw [mw_len]; exact h.eight _ (by omega)) (by rw [mw_len]; exact h.eight _ hk) ?_
  rw [mw_len, mw_len, mw, mw, vl_all (h.lt (by omega)), vl_all (h.lt hk), Nat.add_mul, Nat.div_mul_cancel (h.dvd k (by omega)), Nat.div_mul_cancel (h.dvd _ hk), Nat.one_mul, kr_take l k (by omega)]
  exact Nat.le_refl _
theorem Trl.al0 {l : List Nat} (h : Trl 0 l) (hl : l.length ≤ 8) : Al l := by
  have hd := h.dep
  have h8 : ∀ x ∈ l, x ≤ 8 := fun x hx => by have := hd.2 x hx; omega
  refine ⟨fun k hk => h8 _ (by rw [gn_lt hk]; exact List.getElem_mem _), fun k hk => ?_, ?_⟩
  · have := h.al h8 0 (Nat.dvd_zero _) k hk
    rwa [Nat.zero_add] at this
  · rw [h.kr h8]; exact Nat.le_refl _
theorem Al.nil : Al [] := ⟨fun k h => absurd h (by simp), fun k h => absurd h (by simp), by simp [kr]⟩
end Go.Proofs.Ytohflgcbpmoinaa
