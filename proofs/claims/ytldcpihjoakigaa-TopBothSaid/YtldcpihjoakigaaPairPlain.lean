/-
  Plain: two sites of discs and a line between them: package pair.
-/
import Derived.Test.YtldcpihjoakigaaShipPlain
import Derived.Test.YtldcpihjoakigaaArrayMem
import Derived.Test.YtldcpihjoakigaaMovesPlain
namespace Go.Proofs.Ytldcpihjoakigaa
open Go V

structure PS where
  l : SL
  D0 : Discs
  t0 : Int
  D1 : Discs
  t1 : Int
  main : Nat
  told : Nat
def pputs (d : Nat) (t : Int) (ws : List St) (D : Discs) : Discs := ws.foldl (fun D x => aWrite d D t x.block.toNat x.val) D
/-- the writes from one number to another -/
def wsl (s : SL) (a : Nat) : List St := (s.wr.take s.put).drop a
def pat (d : Nat) (s : PS) (x : St) : PS × Nat × Nat :=
  if x.site < s.main ∨ 1 < x.site ∨ x.block < 0 then (s, 0, 2)
  else if x.kind = 9 then (if 24 ≤ x.block then (s, 0, 2) else (s, if x.site = 0 then aRead d s.D0 s.t0 x.block.toNat else aRead d s.D1 s.t1 x.block.toNat, 0))
  else if (d : Int) ≤ x.block then (s, 0, 2)
  else if x.site = 0 then
    (if x.kind = 7 then (if 0 ≤ s.t0 then (s, 0, 7) else ({ s with D0 := aLost d s.D0 x.block.toNat, t0 := x.block }, 0, 0))
     else (if s.t0 ≠ x.block then (s, 0, 7) else ({ s with D0 := aRenew d s.D0 x.block.toNat, t0 := -1 }, 0, 0)))
  else
    (if x.kind = 7 then (if 0 ≤ s.t1 then (s, 0, 7) else ({ s with D1 := aLost d s.D1 x.block.toNat, t1 := x.block }, 0, 0))
     else (if s.t1 ≠ x.block then (s, 0, 7) else ({ s with D1 := aRenew d s.D1 x.block.toNat, t1 := -1 }, 0, 0)))
def pwr (d : Nat) (s : PS) (x : St) : PS × Nat :=
  if x.block < 0 ∨ 24 ≤ x.block then (s, 2)
  else if s.main = 0 then ({ s with D0 := aWrite d s.D0 s.t0 x.block.toNat x.val, l := { s.l with wr := s.l.wr ++ [x] } }, 0)
  else ({ s with D1 := aWrite d s.D1 s.t1 x.block.toNat x.val }, 0)
def pch (d : Nat) (s : PS) : PS × Nat :=
  if s.main = 1 then (s, 7)
  else ({ s with told := stold s.l, l := { s.l with put := s.l.got }, D1 := pputs d s.t1 (wsl { s.l with put := s.l.got } s.l.put) s.D1, main := 1 }, 0)
def pnew (d : Nat) (s : PS) (x : St) : PS × Nat × Nat :=
  if x.kind < 1 ∨ 10 < x.kind then (s, 0, 6)
  else if x.kind = 1 then ((pwr d s x).1, 0, (pwr d s x).2)
  else if x.kind = 10 then ((pch d s).1, 0, (pch d s).2)
  else if 7 ≤ x.kind then pat d s x
  else if s.main = 1 then (s, 0, 7)
  else ({ s with l := ldo s.l x.kind, D1 := pputs d s.t1 (wsl (ldo s.l x.kind) s.l.put) s.D1 }, 0, lcode s.l x.kind)
def pinit (d mode : Nat) : PS := ⟨⟨mode, [], 0, 0, 0, 0⟩, List.replicate d (List.replicate (rowsOf d) 0), -1, List.replicate d (List.replicate (rowsOf d) 0), -1, 0, 0⟩
def pplay (d mode : Nat) (l : List St) : PS := l.foldl (fun s x => (pnew d s x).1) (pinit d mode)
/-- what the steps are told: code and value -/
def pouts (d mode : Nat) (l : List St) : Nat → List (Nat × Nat) := iter (fun i o => o ++ [((pnew d (pplay d mode (l.take i)) (gS l i)).2.2, (pnew d (pplay d mode (l.take i)) (gS l i)).2.1)]) []
theorem pouts_succ (d mode : Nat) (l : List St) (k : Nat) : pouts d mode l (k + 1) = pouts d mode l k ++ [((pnew d (pplay d mode (l.take k)) (gS l k)).2.2, (pnew d (pplay d mode (l.take k)) (gS l k)).2.1)] := rfl
theorem pouts_len (d mode : Nat) (l : List St) : ∀ k, (pouts d mode l k).length = k
  | 0 => rfl
  | k + 1 => by rw [pouts_succ, List.length_append, pouts_len d mode l k]; rfl
theorem pplay_app (d mode : Nat) (l m : List St) : pplay d mode (l ++ m) = m.foldl (fun s x => (pnew d s x).1) (pplay d mode l) := by simp [pplay, List.foldl_append]
theorem pplay_take {d mode : Nat} {l : List St} {k : Nat} (h : k < l.length) : pplay d mode (l.take (k + 1)) = (pnew d (pplay d mode (l.take k)) (gS l k)).1 := by
  rw [List.take_add_one, List.getElem?_eq_getElem h, Option.toList_some, pplay_app, gS_lt h]; rfl
theorem pouts_take (d mode : Nat) (l : List St) (n : Nat) (hn : n ≤ l.length) : ∀ k, k ≤ n → pouts d mode (l.take n) k = pouts d mode l k
  | 0, _ => rfl
  | k + 1, h => by
    rw [pouts_succ, pouts_succ, pouts_take d mode l n hn k (by omega), List.take_take, show min k n = k by omega]
    have : gS (l.take n) k = gS l k := by unfold gS; simp [List.getD_eq_getElem?_getD, List.getElem?_take, show k < n by omega]
    rw [this]
theorem pouts_prefix (d mode : Nat) (l : List St) (k : Nat) : ∀ n, k ≤ n → (pouts d mode l n).take k = pouts d mode l k
  | 0, h => by obtain rfl : k = 0 := by omega
               rfl
  | n + 1, h => by
    by_cases e : k = n + 1
    · subst e; rw [List.take_of_length_le (by rw [pouts_len]; omega)]
    · rw [pouts_succ, List.take_append_of_le_length (by rw [pouts_len]; omega), pouts_prefix d mode l k n (by omega)]
theorem pouts_at {d mode : Nat} {l : List St} {k n : Nat} (h : k < n) : gp (pouts d mode l n) k = ((pnew d (pplay d mode (l.take k)) (gS l k)).2.2, (pnew d (pplay d mode (l.take k)) (gS l k)).2.1) := by
  have h1 : (pouts d mode l n)[k]? = (pouts d mode l (k + 1))[k]? := by
    rw [← pouts_prefix d mode l (k + 1) n (by omega), List.getElem?_take, if_pos (by omega)]
  unfold gp
  rw [List.getD_eq_getElem?_getD, h1, pouts_succ, List.getElem?_append_right (by rw [pouts_len]; omega), pouts_len, Nat.sub_self]; rfl
def ptold (s : PS) : Nat := if s.main = 0 then stold s.l else s.told

/-- what a row of writes leaves -/
def app24 (l : List St) : List Nat := l.foldl (fun m x => m.set x.block.toNat x.val) (List.replicate 24 0)
theorem app24_1 (l : List St) (x : St) : app24 (l ++ [x]) = (app24 l).set x.block.toNat x.val := by simp [app24, List.foldl_append]
def K24 (x : St) : Prop := 0 ≤ x.block ∧ x.block < 24 ∧ x.val < 256
/-- one site -/
structure Site (d : Nat) (D : Discs) (t : Int) (b : List Nat) : Prop where
  len : b.length = 24
  small : ∀ r, gn b r < 256
  ai : ∃ L, AI d b D t L
theorem Site.start {d : Nat} (hd : 3 ≤ d) : Site d (List.replicate d (List.replicate (rowsOf d) 0)) (-1) (List.replicate 24 0) :=
  ⟨by simp, fun r => by rw [gn_rep0]; omega, _, AI.start hd⟩
theorem gn_set_lt {b : List Nat} {j v : Nat} (h : ∀ r, gn b r < 256) (hv : v < 256) (r : Nat) : gn (b.set j v) r < 256 := by
  unfold gn at *
  rw [List.getD_eq_getElem?_getD, List.getElem?_set]
  have := h r
  rw [List.getD_eq_getElem?_getD] at this
  split
  · split
    · exact hv
    · simp
  · exact this
theorem Site.write {d : Nat} {D : Discs} {t : Int} {b : List Nat} (h : Site d D t b) (hd : 3 ≤ d) (hd6 : d ≤ 6) {x : St} (hx : K24 x) : Site d (aWrite d D t x.block.toNat x.val) t (b.set x.block.toNat x.val) := by
  obtain ⟨L, hL⟩ := h.ai
  obtain ⟨h1, h2, h3⟩ := hx
  refine ⟨by rw [List.length_set]; exact h.len, gn_set_lt h.small h3, ?_⟩
  obtain ⟨L2, hL2⟩ := hL.write hd hd6 (b := x.block.toNat) (v := x.val) (by omega) h3 h.len
  exact ⟨L2, hL2⟩
theorem Site.puts {d : Nat} {t : Int} (hd : 3 ≤ d) (hd6 : d ≤ 6) : ∀ (ws : List St) (D : Discs) (b : List Nat), (∀ x ∈ ws, K24 x) → Site d D t b → Site d (pputs d t ws D) t (ws.foldl (fun m x => m.set x.block.toNat x.val) b)
  | [], D, b, _, h => h
  | x :: ws, D, b, hk, h => Site.puts hd hd6 ws _ _ (fun y hy => hk y (by simp [hy])) (h.write hd hd6 (hk x (by simp)))
structure PV (d mode : Nat) (s : PS) : Prop where
  mode_ : s.l.mode = mode
  put : s.l.put ≤ s.l.got
  got : s.l.got ≤ s.l.sent
  sent : s.l.sent ≤ s.l.wr.length
  known : s.main = 0 → s.l.known ≤ s.l.got
  known3 : s.main = 0 → mode = 3 → s.l.known ≤ s.l.put
  kept : ∀ x ∈ s.l.wr, K24 x
  main : s.main ≤ 1
  s0 : ∃ b, Site d s.D0 s.t0 b ∧ (s.main = 0 → b = app24 s.l.wr)
  s1 : ∃ b, Site d s.D1 s.t1 b ∧ (s.main = 0 → b = app24 (s.l.wr.take s.l.put))
theorem PV.init {d mode : Nat} (hd : 3 ≤ d) : PV d mode (pinit d mode) :=
  ⟨rfl, Nat.le_refl _, Nat.le_refl _, Nat.le_refl _, fun _ => Nat.le_refl _, fun _ _ => Nat.le_refl _, by simp [pinit], by simp [pinit], ⟨_, Site.start hd, fun _ => rfl⟩, ⟨_, Site.start hd, fun _ => rfl⟩⟩
theorem wsl_app (s : SL) {a : Nat} (h : a ≤ s.put) (h2 : s.put ≤ s.wr.length) : s.wr.take a ++ wsl s a = s.wr.take s.put := by
  unfold wsl
  have : s.wr.take a = (s.wr.take s.put).take a := by rw [List.take_take, show min a s.put = a by omega]
  rw [this, List.take_append_drop]
theorem app24_app (l m : List St) : m.foldl (fun m x => m.set x.block.toNat x.val) (app24 l) = app24 (l ++ m) := by simp [app24, List.foldl_append]
theorem wsl_mem {s : SL} {a : Nat} {x : St} (h : x ∈ wsl s a) : x ∈ s.wr := List.mem_of_mem_take (List.mem_of_mem_drop h)
theorem ldo_wr' (s : SL) (k : Int) : (ldo s k).wr = s.wr ∧ (ldo s k).mode = s.mode ∧ s.put ≤ (ldo s k).put := by
  unfold ldo; repeat' split
  all_goals first
    | exact ⟨rfl, rfl, Nat.le_refl _⟩
    | exact ⟨rfl, rfl, Nat.le_succ _⟩
theorem ldo_ok {s : SL} (k : Int) (h1 : s.put ≤ s.got) (h2 : s.got ≤ s.sent) (h3 : s.sent ≤ s.wr.length) : (ldo s k).put ≤ (ldo s k).got ∧ (ldo s k).got ≤ (ldo s k).sent ∧ (ldo s k).sent ≤ (ldo s k).wr.length := by
  obtain ⟨m, w, a, b, c, e⟩ := s
  simp only at h1 h2 h3
  unfold ldo; repeat' split
  all_goals (simp only at *; omega)
theorem ldo_known {s : SL} (k : Int) (h1 : s.put ≤ s.got) (hk : s.known ≤ s.got) (hk3 : s.mode = 3 → s.known ≤ s.put) : (ldo s k).known ≤ (ldo s k).got ∧ (s.mode = 3 → (ldo s k).known ≤ (ldo s k).put) ∧ s.known ≤ (ldo s k).known := by
  obtain ⟨m, w, a, b, c, e⟩ := s
  simp only at h1 hk hk3
  unfold ldo; repeat' split
  all_goals (simp only at *; omega)
theorem PV.step {d mode : Nat} {s : PS} (h : PV d mode s) (hd : 3 ≤ d) (hd6 : d ≤ 6) {x : St} (hv : x.val < 256) : PV d mode (pnew d s x).1 ∧ s.main ≤ (pnew d s x).1.main ∧ ptold s ≤ ptold (pnew d s x).1 := by
  have hm := h.main
  have hsame : PV d mode s ∧ s.main ≤ s.main ∧ ptold s ≤ ptold s := ⟨h, Nat.le_refl _, Nat.le_refl _⟩
  obtain ⟨b0, hs0, hb0⟩ := h.s0
  obtain ⟨b1, hs1, hb1⟩ := h.s1
  unfold pnew
  split
  · exact hsame
  split
  · -- a write
    unfold pwr
    split
    · exact hsame
    split
    · rename_i hb hm0
      have hk : K24 x := ⟨by omega, by omega, hv⟩
      refine ⟨⟨h.mode_, h.put, h.got, ?_, h.known, h.known3, ?_, h.main, ?_, ?_⟩, Nat.le_refl _, ?_⟩
      · show s.l.sent ≤ (s.l.wr ++ [x]).length
        have h9 := h.sent
        rw [List.length_append]; omega
      · intro y hy
        rcases List.mem_append.1 hy with hy | hy
        · exact h.kept y hy
        · rw [List.mem_singleton] at hy; subst hy; exact hk
      · exact ⟨_, hs0.write hd hd6 hk, fun _ => by rw [hb0 hm0, app24_1]⟩
      · refine ⟨b1, hs1, fun _ => ?_⟩
        show b1 = app24 ((s.l.wr ++ [x]).take s.l.put)
        have h7 := h.put; have h8 := h.got; have h9 := h.sent
        rw [List.take_append_of_le_length (show s.l.put ≤ s.l.wr.length by omega)]
        exact hb1 hm0
      · unfold ptold stold
        simp only [hm0, if_true, List.length_append, List.length_cons, List.length_nil]
        split <;> omega
    · rename_i hb hm0
      have hk : K24 x := ⟨by omega, by omega, hv⟩
      exact ⟨⟨h.mode_, h.put, h.got, h.sent, h.known, h.known3, h.kept, h.main, ⟨b0, hs0, hb0⟩, ⟨_, hs1.write hd hd6 hk, fun h0 => absurd h0 hm0⟩⟩, Nat.le_refl _, Nat.le_refl _⟩
  split
  · unfold pch
    split
    · exact hsame
    · rename_i hm1
      have hm0 : s.main = 0 := by omega
      have hle : s.l.got ≤ s.l.wr.length := by have := h.got; have := h.sent; omega
      refine ⟨⟨h.mode_, Nat.le_refl _, h.got, h.sent, fun h0 => (by cases h0), fun h0 => (by cases h0), h.kept, Nat.le_refl _, ⟨b0, hs0, fun h0 => (by cases h0)⟩, ?_⟩, h.main, ?_⟩
      · exact ⟨_, Site.puts hd hd6 _ _ _ (fun x hx => h.kept x (wsl_mem (s := { s.l with put := s.l.got }) hx)) hs1, fun h0 => (by cases h0)⟩
      · unfold ptold
        rw [if_pos hm0, if_neg (by simp)]
        exact Nat.le_refl _
  split
  · -- at a site
    unfold pat
    split
    · exact hsame
    split
    · split
      · exact hsame
      · exact hsame
    split
    · exact hsame
    rename_i hg _ hbl
    have h0b : 0 ≤ x.block := by omega
    have hbd : x.block.toNat < d := by omega
    have hbe : ((x.block.toNat : Nat) : Int) = x.block := by omega
    split
    · split
      · split
        · exact hsame
        · rename_i ht
          obtain ⟨L, hL⟩ := hs0.ai
          have hlo := hL.lost_
          have e : s.t0 = -1 := by omega
          rw [e] at hL
          refine ⟨⟨h.mode_, h.put, h.got, h.sent, h.known, h.known3, h.kept, h.main, ⟨b0, ⟨hs0.len, hs0.small, L, ?_⟩, hb0⟩, ⟨b1, hs1, hb1⟩⟩, Nat.le_refl _, Nat.le_refl _⟩
          have := hL.lose hbd
          rwa [hbe] at this
      · split
        · exact hsame
        · rename_i ht
          obtain ⟨L, hL⟩ := hs0.ai
          have e : s.t0 = ((x.block.toNat : Nat) : Int) := by omega
          rw [e] at hL
          exact ⟨⟨h.mode_, h.put, h.got, h.sent, h.known, h.known3, h.kept, h.main, ⟨b0, ⟨hs0.len, hs0.small, L, hL.renew hbd⟩, hb0⟩, ⟨b1, hs1, hb1⟩⟩, Nat.le_refl _, Nat.le_refl _⟩
    · split
      · split
        · exact hsame
        · rename_i ht
          obtain ⟨L, hL⟩ := hs1.ai
          have hlo := hL.lost_
          have e : s.t1 = -1 := by omega
          rw [e] at hL
          refine ⟨⟨h.mode_, h.put, h.got, h.sent, h.known, h.known3, h.kept, h.main, ⟨b0, hs0, hb0⟩, ⟨b1, ⟨hs1.len, hs1.small, L, ?_⟩, hb1⟩⟩, Nat.le_refl _, Nat.le_refl _⟩
          have := hL.lose hbd
          rwa [hbe] at this
      · split
        · exact hsame
        · rename_i ht
          obtain ⟨L, hL⟩ := hs1.ai
          have e : s.t1 = ((x.block.toNat : Nat) : Int) := by omega
          rw [e] at hL
          exact ⟨⟨h.mode_, h.put, h.got, h.sent, h.known, h.known3, h.kept, h.main, ⟨b0, hs0, hb0⟩, ⟨b1, ⟨hs1.len, hs1.small, L, hL.renew hbd⟩, hb1⟩⟩, Nat.le_refl _, Nat.le_refl _⟩
  split
  · exact hsame
  · rename_i hm1
    have hm0 : s.main = 0 := by omega
    obtain ⟨q1, q2, q3⟩ := ldo_ok x.kind h.put h.got h.sent
    obtain ⟨r1, r2, r3⟩ := ldo_wr' s.l x.kind
    obtain ⟨k1, k2, k3⟩ := ldo_known x.kind h.put (h.known hm0) (fun hm => h.known3 hm0 (by rw [← h.mode_]; exact hm))
    refine ⟨⟨by rw [r2]; exact h.mode_, q1, q2, q3, fun _ => k1, fun _ hm => k2 (by rw [h.mode_]; exact hm), fun y hy => h.kept y (by rw [← r1]; exact hy), h.main, ⟨b0, hs0, fun _ => by rw [r1]; exact hb0 hm0⟩, ?_⟩, Nat.le_refl _, ?_⟩
    · refine ⟨_, Site.puts hd hd6 _ _ _ (fun y hy => h.kept y (by rw [← r1]; exact wsl_mem hy)) hs1, fun _ => ?_⟩
      rw [hb1 hm0, app24_app, ← r1, wsl_app _ r3 (by omega)]
    · unfold ptold stold
      simp only [hm0, if_true, r2, r1]
      split <;> omega
theorem PV.fold {d mode : Nat} (hd : 3 ≤ d) (hd6 : d ≤ 6) : ∀ (l : List St) (s : PS), PV d mode s → (∀ x ∈ l, x.val < 256) → PV d mode (l.foldl (fun s x => (pnew d s x).1) s) ∧ s.main ≤ (l.foldl (fun s x => (pnew d s x).1) s).main ∧ ptold s ≤ ptold (l.foldl (fun s x => (pnew d s x).1) s)
  | [], s, h, _ => ⟨h, Nat.le_refl _, Nat.le_refl _⟩
  | x :: l, s, h, hl => by
    obtain ⟨h1, h2, h3⟩ := h.step hd hd6 (hl x (by simp))
    obtain ⟨g1, g2, g3⟩ := PV.fold hd hd6 l _ h1 (fun y hy => hl y (by simp [hy]))
    exact ⟨g1, Nat.le_trans h2 g2, Nat.le_trans h3 g3⟩
theorem PV.all {d mode : Nat} (hd : 3 ≤ d) (hd6 : d ≤ 6) (l : List St) (hl : ∀ x ∈ l, x.val < 256) : PV d mode (pplay d mode l) := (PV.fold hd hd6 l _ (PV.init hd) hl).1
theorem top_front {d mode : Nat} (hd : 3 ≤ d) (hd6 : d ≤ 6) (l : List St) (hl : ∀ x ∈ l, x.val < 256) (n : Nat) : (pplay d mode (l.take n)).main ≤ (pplay d mode l).main ∧ ptold (pplay d mode (l.take n)) ≤ ptold (pplay d mode l) := by
  have h := PV.fold hd hd6 (l.drop n) _ (PV.all (mode := mode) hd hd6 (l.take n) (fun x hx => hl x (List.mem_of_mem_take hx))) (fun x hx => hl x (List.mem_of_mem_drop hx))
  have e : (l.drop n).foldl (fun s x => (pnew d s x).1) (pplay d mode (l.take n)) = pplay d mode l := by rw [← pplay_app, List.take_append_drop]
  rw [e] at h
  exact h.2
theorem pnew_wr (d : Nat) (s : PS) (x : St) : (pnew d s x).1.l.wr = s.l.wr ∨ (pnew d s x).1.l.wr = s.l.wr ++ [x] := by
  have key : ∀ r : PS × Nat × Nat, pnew d s x = r → r.1.l.wr = s.l.wr ∨ r.1.l.wr = s.l.wr ++ [x] := by
    intro r hr
    have hl := (ldo_wr' s.l x.kind).1
    unfold pnew at hr
    split at hr
    · subst hr; exact .inl rfl
    split at hr
    · subst hr
      unfold pwr
      split
      · exact .inl rfl
      split
      · exact .inr rfl
      · exact .inl rfl
    split at hr
    · subst hr
      unfold pch
      split
      · exact .inl rfl
      · exact .inl rfl
    split at hr
    · subst hr
      refine .inl ?_
      unfold pat
      repeat' split
      all_goals rfl
    split at hr
    · subst hr; exact .inl rfl
    · subst hr; exact .inl hl
  exact key _ rfl
theorem wr_len {d mode : Nat} (l : List St) : (pplay d mode l).l.wr.length ≤ l.length := by
  induction l using snoc_ind with
  | h0 => exact Nat.le_refl _
  | h1 l x ih =>
    rw [pplay_app, List.length_append]
    simp only [List.foldl_cons, List.foldl_nil, List.length_cons, List.length_nil]
    rcases pnew_wr d (pplay d mode l) x with h | h
    · rw [h]; omega
    · rw [h, List.length_append, List.length_cons, List.length_nil]; omega
end Go.Proofs.Ytldcpihjoakigaa
