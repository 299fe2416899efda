/-
  Plain: the code of a trellis of four states: words differ at five places at least; the best path.
-/
import Derived.Test.YtbbmgcmibgdkiaaVbase
namespace Go.Proofs.Ytbbmgcmibgdkiaa
open Go V

abbrev St2 := Bool × Bool
def out0 (s : St2) (b : Bool) : Bool := (b != s.1) != s.2
def out1 (s : St2) (b : Bool) : Bool := b != s.2
def nxs (s : St2) (b : Bool) : St2 := (b, s.1)
def enc (s : St2) : List Bool → List Bool
  | [] => []
  | b :: bs => out0 s b :: out1 s b :: enc (nxs s b) bs
def fin (s : St2) : List Bool → St2
  | [] => s
  | b :: bs => fin (nxs s b) bs
theorem enc_len (s : St2) (bs : List Bool) : (enc s bs).length = 2 * bs.length := by
  induction bs generalizing s with
  | nil => rfl
  | cons b bs ih => rw [enc, List.length_cons, List.length_cons, List.length_cons, ih]; omega
theorem enc_app (s : St2) (a b : List Bool) : enc s (a ++ b) = enc s a ++ enc (fin s a) b := by
  induction a generalizing s with
  | nil => rfl
  | cons x a ih => rw [List.cons_append, enc, enc, fin, ih]; rfl
theorem fin_app (s : St2) (a b : List Bool) : fin s (a ++ b) = fin (fin s a) b := by
  induction a generalizing s with
  | nil => rfl
  | cons x a ih => rw [List.cons_append, fin, fin, ih]
/-- at how many places two lists differ -/
def dif : List Bool → List Bool → Nat
  | a :: as, b :: bs => (if a = b then 0 else 1) + dif as bs
  | _, _ => 0
theorem dif_comm : ∀ a b, dif a b = dif b a
  | [], [] => rfl
  | [], _ :: _ => rfl
  | _ :: _, [] => rfl
  | a :: as, b :: bs => by
    rw [dif, dif, dif_comm as bs]
    by_cases e : a = b
    · rw [if_pos e, if_pos e.symm]
    · rw [if_neg e, if_neg (fun h => e h.symm)]
theorem dif_tri : ∀ a b c : List Bool, a.length = b.length → b.length = c.length → dif a c ≤ dif a b + dif b c
  | [], [], [], _, _ => Nat.le_refl _
  | a :: as, b :: bs, c :: cs, h1, h2 => by
    have := dif_tri as bs cs (by simpa using h1) (by simpa using h2)
    rw [dif, dif, dif]
    cases a <;> cases b <;> cases c <;> simp <;> omega
theorem dif_app : ∀ a b c d : List Bool, a.length = b.length → dif (a ++ c) (b ++ d) = dif a b + dif c d
  | [], [], c, d, _ => by simp [dif]
  | a :: as, b :: bs, c, d, h => by
    rw [List.cons_append, List.cons_append, dif, dif, dif_app as bs c d (by simpa using h), Nat.add_assoc]
theorem dif_self : ∀ a : List Bool, dif a a = 0
  | [] => rfl
  | a :: as => by rw [dif, if_pos rfl, dif_self as]
theorem dif_le : ∀ a b : List Bool, dif a b ≤ a.length
  | [], b => by cases b <;> simp [dif]
  | a :: as, [] => by simp [dif]
  | a :: as, b :: bs => by
    have := dif_le as bs
    rw [dif, List.length_cons]
    split <;> omega
theorem dif_zero : ∀ {a b : List Bool}, a.length = b.length → dif a b = 0 → a = b
  | [], [], _, _ => rfl
  | a :: as, b :: bs, h, h0 => by
    rw [dif] at h0
    by_cases e : a = b
    · rw [if_pos e] at h0
      rw [e, dif_zero (a := as) (b := bs) (by simpa using h) (by omega)]
    · rw [if_neg e] at h0; omega
theorem dif_take {a b : List Bool} {k : Nat} (ha : k < a.length) (hb : k < b.length) : dif (a.take (k + 1)) (b.take (k + 1)) = dif (a.take k) (b.take k) + if gb a k = gb b k then 0 else 1 := by
  rw [List.take_succ_eq_append_getElem ha, List.take_succ_eq_append_getElem hb, dif_app _ _ _ _ (by rw [List.length_take, List.length_take]; omega), gb_lt ha, gb_lt hb]
  simp [dif]
/-- what is left to pay from a difference of states -/
def pot : St2 → St2 → Nat
  | (a, b), (c, d) => if a = c then (if b = d then 0 else 2) else 3
theorem pot_le (s t : St2) : ∀ a b : List Bool, a.length = b.length → fin s a = fin t b → pot s t ≤ dif (enc s a) (enc t b) := by
  intro a
  induction a generalizing s t with
  | nil =>
    intro b hl hf
    obtain rfl : b = [] := by simpa using hl.symm
    simp only [fin] at hf
    subst hf
    obtain ⟨s1, s2⟩ := s
    simp [pot]
  | cons x a ih =>
    intro b hl hf
    cases b with
    | nil => simp at hl
    | cons y b =>
      have h := ih (nxs s x) (nxs t y) b (by simpa using hl) hf
      rw [enc, enc, dif, dif]
      obtain ⟨s1, s2⟩ := s
      obtain ⟨t1, t2⟩ := t
      revert h
      simp only [nxs, out0, out1]
      generalize dif (enc (x, s1) a) (enc (y, t1) b) = D
      cases s1 <;> cases s2 <;> cases t1 <;> cases t2 <;> cases x <;> cases y <;> simp [pot] <;> omega
theorem five (s : St2) : ∀ a b : List Bool, a.length = b.length → fin s a = fin s b → a ≠ b → 5 ≤ dif (enc s a) (enc s b) := by
  intro a
  induction a generalizing s with
  | nil => intro b hl _ hne; exact absurd (List.eq_nil_of_length_eq_zero hl.symm).symm hne
  | cons x a ih =>
    intro b hl hf hne
    cases b with
    | nil => simp at hl
    | cons y b =>
      by_cases e : x = y
      · subst e
        have := ih (nxs s x) b (by simpa using hl) hf (fun h => hne (by rw [h]))
        rw [enc, enc, dif, dif, if_pos rfl, if_pos rfl]; omega
      · have h := pot_le (nxs s x) (nxs s y) a b (by simpa using hl) hf
        rw [enc, enc, dif, dif]
        obtain ⟨s1, s2⟩ := s
        revert h
        simp only [nxs, out0, out1]
        generalize dif (enc (x, s1) a) (enc (y, s1) b) = D
        cases s1 <;> cases s2 <;> cases x <;> cases y <;> first | (exact absurd rfl e) | (simp [pot]; done) | (simp [pot]; omega)
def zero2 : St2 := (false, false)
def putL (d : List Bool) : List Bool := enc zero2 (d ++ [false, false])
theorem putL_len (d : List Bool) : (putL d).length = 2 * d.length + 4 := by
  rw [putL, enc_len, List.length_append]; simp; omega
theorem fin_two (s : St2) (d : List Bool) : fin s (d ++ [false, false]) = zero2 := by
  rw [fin_app]; rfl
theorem putL_far {a b : List Bool} (hl : a.length = b.length) (hne : a ≠ b) : 5 ≤ dif (putL a) (putL b) :=
  five zero2 _ _ (by rw [List.length_append, List.length_append, hl]) (by rw [fin_two, fin_two]) fun h => hne (List.append_cancel_right h)
/-- may bits stand ahead: behind place n there are only zeros -/
def okp (n : Nat) (bs : List Bool) : Prop := ∀ j, n ≤ j → gb bs j = false
/-- a path of k bits to a state, as good as any -/
structure Pth (n : Nat) (l : List Bool) (k : Nat) (t : St2) (bits : List Bool) (m : Nat) : Prop where
  len : bits.length = k
  ok : okp n bits
  state : fin zero2 bits = t
  off : dif (enc zero2 bits) (l.take (2 * k)) = m
def Low (n : Nat) (l : List Bool) (k : Nat) (t : St2) (m : Nat) : Prop := ∀ bs : List Bool, bs.length = k → okp n bs → fin zero2 bs = t → m ≤ dif (enc zero2 bs) (l.take (2 * k))
def Non (n : Nat) (k : Nat) (t : St2) : Prop := ∀ bs : List Bool, bs.length = k → okp n bs → fin zero2 bs ≠ t
theorem okp_app {n : Nat} {bs : List Bool} {b : Bool} : okp n (bs ++ [b]) ↔ okp n bs ∧ (n ≤ bs.length → b = false) := by
  unfold okp
  have hg : ∀ j, gb (bs ++ [b]) j = if j = bs.length then b else gb bs j := fun j => by
    unfold gb
    rw [List.getD_eq_getElem?_getD, List.getD_eq_getElem?_getD]
    by_cases h : j = bs.length
    · subst h; rw [if_pos rfl, List.getElem?_append_right (Nat.le_refl _)]; simp
    · rw [if_neg h]
      by_cases h2 : j < bs.length
      · rw [List.getElem?_append_left h2]
      · rw [List.getElem?_eq_none (by rw [List.length_append]; simp; omega), List.getElem?_eq_none (by omega)]
  constructor
  · intro h
    refine ⟨fun j hj => ?_, fun hn => ?_⟩
    · by_cases e : j = bs.length
      · unfold gb; rw [List.getD_eq_getElem?_getD, List.getElem?_eq_none (by omega)]; rfl
      · have := h j hj; rwa [hg, if_neg e] at this
    · have := h bs.length hn; rwa [hg, if_pos rfl] at this
  · rintro ⟨h1, h2⟩ j hj
    rw [hg]
    split
    · rename_i e; subst e; exact h2 hj
    · exact h1 j hj
def two (l : List Bool) (k : Nat) (s : St2) (b : Bool) : Nat := (if out0 s b = gb l (2 * k) then 0 else 1) + if out1 s b = gb l (2 * k + 1) then 0 else 1
theorem dif_snoc {l bs : List Bool} {k : Nat} (hk : bs.length = k) (hl : 2 * k + 2 ≤ l.length) (b : Bool) : dif (enc zero2 (bs ++ [b])) (l.take (2 * (k + 1))) = dif (enc zero2 bs) (l.take (2 * k)) + two l k (fin zero2 bs) b := by
  rw [show 2 * (k + 1) = 2 * k + 1 + 1 by omega, List.take_succ_eq_append_getElem (show 2 * k + 1 < l.length by omega), List.take_succ_eq_append_getElem (show 2 * k < l.length by omega), List.append_assoc, enc_app,
    dif_app _ _ _ _ (by rw [enc_len, List.length_take]; omega)]
  congr 1
  simp only [enc, List.cons_append, List.nil_append, dif, two]
  rw [gb_lt (show 2 * k < l.length by omega), gb_lt (show 2 * k + 1 < l.length by omega)]; simp
theorem Pth.step {n k off : Nat} {l bits : List Bool} {s : St2} (h : Pth n l k s bits off) (hl : 2 * k + 2 ≤ l.length) (b : Bool) (hb : n ≤ k → b = false) : Pth n l (k + 1) (nxs s b) (bits ++ [b]) (off + two l k s b) := by
  refine ⟨by rw [List.length_append, h.len]; rfl, okp_app.2 ⟨h.ok, fun hn => hb (by rw [← h.len]; exact hn)⟩, by rw [fin_app, h.state]; rfl, ?_⟩
  rw [dif_snoc h.len hl, h.off, h.state]
theorem snoc_of {bs : List Bool} {k : Nat} (h : bs.length = k + 1) : ∃ c b, bs = c ++ [b] ∧ c.length = k := by
  have hne : bs ≠ [] := fun e => by rw [e] at h; simp at h
  exact ⟨bs.dropLast, bs.getLast hne, (List.dropLast_concat_getLast hne).symm, by rw [List.length_dropLast]; omega⟩
/-- the table after k rounds: what is known of each state -/
def Tab (n : Nat) (l : List Bool) (k : Nat) (f : St2 → Option (List Bool × Nat)) : Prop :=
  ∀ t, (∀ bits off, f t = some (bits, off) → Pth n l k t bits off ∧ Low n l k t off) ∧ (f t = none → Non n k t)
/-- the table of the next round, while it is made: what has been taken so far -/
structure Nxt (n : Nat) (l : List Bool) (k : Nat) (f g : St2 → Option (List Bool × Nat)) (seen : St2 → Bool → Prop) : Prop where
  path : ∀ t bits off, g t = some (bits, off) → Pth n l (k + 1) t bits off
  low : ∀ s b, seen s b → (n ≤ k → b = false) → ∀ p o, f s = some (p, o) → ∃ q m, g (nxs s b) = some (q, m) ∧ m ≤ o + two l k s b
theorem Nxt.start (n : Nat) (l : List Bool) (k : Nat) (f : St2 → Option (List Bool × Nat)) : Nxt n l k f (fun _ => none) (fun _ _ => False) := ⟨by simp, by simp⟩
theorem Nxt.take {n k : Nat} {l : List Bool} {f g : St2 → Option (List Bool × Nat)} {seen : St2 → Bool → Prop} (h : Nxt n l k f g seen) (hT : Tab n l k f) (hl : 2 * k + 2 ≤ l.length) {s : St2} {b : Bool} (hb : n ≤ k → b = false) {p : List Bool} {o : Nat} (hf : f s = some (p, o))
    (hold : ∀ q m, g (nxs s b) = some (q, m) → o + two l k s b ≤ m) : Nxt n l k f (fun t => if t = nxs s b then some (p ++ [b], o + two l k s b) else g t) (fun s2 b2 => seen s2 b2 ∨ s2 = s ∧ b2 = b) := by
  refine ⟨fun t bits off ht => ?_, fun s2 b2 hs hb2 p2 o2 hf2 => ?_⟩
  · by_cases e : t = nxs s b
    · subst e
      simp only [if_true, Option.some.injEq, Prod.mk.injEq] at ht
      obtain ⟨rfl, rfl⟩ := ht
      exact ((hT s).1 p o hf).1.step hl b hb
    · simp only [if_neg e] at ht
      exact h.path t bits off ht
  · rcases hs with hs | ⟨rfl, rfl⟩
    · obtain ⟨q, m, hg, hm⟩ := h.low s2 b2 hs hb2 p2 o2 hf2
      by_cases e : nxs s2 b2 = nxs s b
      · refine ⟨_, _, if_pos e, ?_⟩
        rw [e] at hg
        have := hold q m hg; omega
      · exact ⟨q, m, by simp only [if_neg e]; exact hg, hm⟩
    · rw [hf] at hf2; cases hf2
      exact ⟨_, _, if_pos rfl, Nat.le_refl _⟩
theorem Nxt.skip {n k : Nat} {l : List Bool} {f g : St2 → Option (List Bool × Nat)} {seen : St2 → Bool → Prop} (h : Nxt n l k f g seen) {s : St2} {b : Bool} {p : List Bool} {o : Nat} (hf : f s = some (p, o)) {q : List Bool} {m : Nat}
    (hg : g (nxs s b) = some (q, m)) (hm : m ≤ o + two l k s b) : Nxt n l k f g (fun s2 b2 => seen s2 b2 ∨ s2 = s ∧ b2 = b) := by
  refine ⟨h.path, fun s2 b2 hs hb2 p2 o2 hf2 => ?_⟩
  rcases hs with hs | ⟨rfl, rfl⟩
  · exact h.low s2 b2 hs hb2 p2 o2 hf2
  · rw [hf] at hf2; cases hf2
    exact ⟨q, m, hg, hm⟩
theorem Nxt.weak {n k : Nat} {l : List Bool} {f g : St2 → Option (List Bool × Nat)} {seen seen2 : St2 → Bool → Prop} (h : Nxt n l k f g seen) (hs : ∀ s b, seen2 s b → (n ≤ k → b = false) → (∃ p, f s = some p) → seen s b) : Nxt n l k f g seen2 :=
  ⟨h.path, fun s b h1 h2 p o h3 => h.low s b (hs s b h1 h2 ⟨_, h3⟩) h2 p o h3⟩
theorem Nxt.done {n k : Nat} {l : List Bool} {f g : St2 → Option (List Bool × Nat)} (h : Nxt n l k f g (fun _ _ => True)) (hT : Tab n l k f) (hl : 2 * k + 2 ≤ l.length) : Tab n l (k + 1) g := by
  have key : ∀ bs : List Bool, bs.length = k + 1 → okp n bs → ∃ q m, g (fin zero2 bs) = some (q, m) ∧ m ≤ dif (enc zero2 bs) (l.take (2 * (k + 1))) := by
    intro bs hbl hbo
    obtain ⟨c, b, rfl, hc⟩ := snoc_of hbl
    obtain ⟨ho, hb⟩ := okp_app.1 hbo
    rw [hc] at hb
    rw [dif_snoc hc hl, fin_app]
    cases hf : f (fin zero2 c) with
    | none => exact absurd rfl ((hT _).2 hf c hc ho)
    | some po =>
      obtain ⟨p, o⟩ := po
      obtain ⟨q, m, hg, hm⟩ := h.low _ b trivial hb p o hf
      refine ⟨q, m, hg, ?_⟩
      have := ((hT _).1 p o hf).2 c hc ho rfl
      omega
  refine fun t => ⟨fun bits off ht => ⟨h.path t bits off ht, fun bs h1 h2 h3 => ?_⟩, fun ht bs h1 h2 h3 => ?_⟩
  · obtain ⟨q, m, hg, hm⟩ := key bs h1 h2
    rw [h3, ht] at hg; cases hg
    exact hm
  · obtain ⟨q, m, hg, hm⟩ := key bs h1 h2
    rw [h3, ht] at hg; cases hg
theorem Tab.start (n : Nat) (l : List Bool) : Tab n l 0 (fun t => if t = zero2 then some ([], 0) else none) := by
  refine fun t => ⟨fun bits off ht => ?_, fun ht bs h1 _ h3 => ?_⟩
  · by_cases e : t = zero2
    · simp only [if_pos e, Option.some.injEq, Prod.mk.injEq] at ht
      obtain ⟨rfl, rfl⟩ := ht
      exact ⟨⟨rfl, fun j _ => by simp [gb], e.symm, by simp [enc, dif]⟩, fun _ _ _ _ => Nat.zero_le _⟩
    · simp only [if_neg e] at ht; cases ht
  · obtain rfl : bs = [] := List.eq_nil_of_length_eq_zero h1
    rw [← h3] at ht; simp [fin] at ht
theorem okp_data {n : Nat} {d : List Bool} (h : d.length = n) : okp n (d ++ [false, false]) := by
  intro j hj
  unfold gb
  rw [List.getD_eq_getElem?_getD, List.getElem?_append_right (by omega)]
  generalize j - d.length = q
  match q with
  | 0 => rfl
  | 1 => rfl
  | q + 2 => rfl
theorem okp_split {n : Nat} {bs : List Bool} (h : okp n bs) (hl : bs.length = n + 2) : bs = bs.take n ++ [false, false] := by
  refine gb_eq_of (by rw [List.length_append, List.length_take]; simp; omega) fun j hj => ?_
  by_cases hjn : j < n
  · unfold gb
    rw [List.getD_eq_getElem?_getD, List.getD_eq_getElem?_getD, List.getElem?_append_left (by rw [List.length_take]; omega), List.getElem?_take, if_pos hjn]
  · rw [h j (by omega)]
    have := okp_data (d := bs.take n) (n := n) (by rw [List.length_take]; omega) j (by omega)
    exact this.symm
/-- the end: the best data -/
structure Best (n : Nat) (l d : List Bool) (m : Nat) : Prop where
  len : d.length = n
  off : dif (putL d) l = m
  low : ∀ x : List Bool, x.length = n → m ≤ dif (putL x) l
theorem Tab.best {n : Nat} {l : List Bool} {f : St2 → Option (List Bool × Nat)} (h : Tab n l (n + 2) f) (hl : l.length = 2 * n + 4) : ∃ bits off, f zero2 = some (bits, off) ∧ bits.length = n + 2 ∧ Best n l (bits.take n) off := by
  have ht : l.take (2 * (n + 2)) = l := List.take_of_length_le (by omega)
  cases hf : f zero2 with
  | none =>
    exfalso
    exact (h zero2).2 hf (List.replicate n false ++ [false, false]) (by simp) (okp_data (by simp)) (fin_two _ _)
  | some po =>
    obtain ⟨bits, off⟩ := po
    obtain ⟨hp, hlow⟩ := (h zero2).1 bits off hf
    refine ⟨bits, off, rfl, hp.len, by rw [List.length_take, hp.len]; omega, ?_, fun x hx => ?_⟩
    · have := hp.off
      rw [ht] at this
      rw [putL, ← okp_split hp.ok hp.len]; exact this
    · have := hlow (x ++ [false, false]) (by rw [List.length_append, hx]; rfl) (okp_data hx) (fin_two _ _)
      rwa [ht] at this
theorem Best.back {n : Nat} {d d2 x : List Bool} {off : Nat} (h : Best n x d2 off) (hd : d.length = n) (hx : x.length = 2 * n + 4) (h2 : dif (putL d) x ≤ 2) : d2 = d ∧ off = dif (putL d) x := by
  have h1 := h.low d hd
  have e : d2 = d := by
    refine Classical.byContradiction fun hne => ?_
    have h5 := putL_far (h.len.trans hd.symm) hne
    have h3 := dif_tri (putL d2) x (putL d) (by rw [putL_len, h.len, hx]) (by rw [putL_len, hd, hx])
    rw [dif_comm x (putL d), h.off] at h3
    omega
  refine ⟨e, ?_⟩
  have := h.off
  rw [e] at this; exact this.symm
end Go.Proofs.Ytbbmgcmibgdkiaa
