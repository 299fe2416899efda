/-
  Plain: two sites, one line: what is written here is sent, taken and put there.
-/
import Derived.Test.YtldcpihjoakigaaVheap
namespace Go.Proofs.Ytldcpihjoakigaa
open Go V

theorem snoc_ind {α : Type} {P : List α → Prop} (h0 : P []) (h1 : ∀ l a, P l → P (l ++ [a])) (l : List α) : P l := by
  have key : ∀ r : List α, P r.reverse := by
    intro r
    induction r with
    | nil => exact h0
    | cons a r ih => rw [List.reverse_cons]; exact h1 _ _ ih
  have := key l.reverse
  rw [List.reverse_reverse] at this; exact this

structure St where
  kind : Int
  site : Int
  block : Int
  val : Nat
def gS (l : List St) (k : Nat) : St := l.getD k ⟨0, 0, 0, 0⟩
theorem gS_lt {l : List St} {k : Nat} (h : k < l.length) : gS l k = l[k] := by simp [gS, h]
/-- the cells of steps -/
def stc (x : St) : List Value := [.int .i64 x.kind, .int .i64 x.site, .int .i64 x.block, .int .u8 (x.val : Int)]
def sv (l : List St) : List Value := l.flatMap stc
theorem sv_len (l : List St) : (sv l).length = l.length * 4 := by
  unfold sv; induction l with
  | nil => rfl
  | cons a l ih => simp [List.flatMap_cons, ih, stc]; omega
theorem sv_app (l m : List St) : sv l ++ sv m = sv (l ++ m) := by simp [sv]
theorem sv_app1 (l : List St) (x : St) : sv l ++ [.int .i64 x.kind, .int .i64 x.site, .int .i64 x.block, .int .u8 (x.val : Int)] = sv (l ++ [x]) := by simp [sv, stc]
theorem sv_at {l : List St} : ∀ {k : Nat}, k < l.length → ((sv l).drop (k * 4)).take 4 = stc (gS l k) ∧ (sv l)[k * 4]? = some (.int .i64 (gS l k).kind) := by
  induction l with
  | nil => intro k h; simp at h
  | cons a l ih =>
    intro k h
    cases k with
    | zero => simp [sv, gS, stc, List.flatMap_cons]
    | succ k =>
      have := ih (k := k) (by simpa using h)
      rw [show (k + 1) * 4 = k * 4 + 4 by omega]
      simpa [sv, gS, stc, List.flatMap_cons] using this
theorem sv_one (l : List St) : ∀ u ∈ sv l, u.oneCell' = true := by
  intro u hu
  obtain ⟨x, _, hx⟩ := List.mem_flatMap.1 hu
  simp [stc] at hx
  rcases hx with h | h | h | h <;> rw [h] <;> rfl

structure SL where
  mode : Nat
  wr : List St
  sent : Nat
  got : Nat
  put : Nat
  known : Nat
def ldo (s : SL) (k : Int) : SL :=
  if k = 2 then (if s.sent < s.wr.length then { s with sent := s.sent + 1 } else s)
  else if k = 3 then (if s.got < s.sent then { s with got := s.got + 1 } else s)
  else if k = 4 then (if s.put < s.got then { s with put := s.put + 1 } else s)
  else if k = 6 then { s with sent := s.got }
  else if k = 5 then { s with known := if s.mode = 3 then s.put else s.got }
  else s
def lcode (s : SL) (k : Int) : Nat :=
  if k = 2 then (if s.sent < s.wr.length then 0 else 5)
  else if k = 3 then (if s.got < s.sent then 0 else 5)
  else if k = 4 then (if s.put < s.got then 0 else 5)
  else if k = 6 then 0 else if k = 5 then 0 else 6
structure SS where
  l : SL
  main : List Nat
  other : List Nat
  codes : List Nat
def Kept (x : St) : Prop := 0 ≤ x.block ∧ x.block < 8
instance (x : St) : Decidable (Kept x) := by unfold Kept; infer_instance
def sst (s : SS) (x : St) : SS :=
  if x.kind = 1 then (if Kept x then ⟨{ s.l with wr := s.l.wr ++ [x] }, s.main.set x.block.toNat x.val, s.other, s.codes ++ [0]⟩ else ⟨s.l, s.main, s.other, s.codes ++ [2]⟩)
  else ⟨ldo s.l x.kind, s.main, if x.kind = 4 ∧ s.l.put < s.l.got then s.other.set (gS s.l.wr s.l.put).block.toNat (gS s.l.wr s.l.put).val else s.other, s.codes ++ [lcode s.l x.kind]⟩
def sinit (mode : Nat) : SS := ⟨⟨mode, [], 0, 0, 0, 0⟩, List.replicate 8 0, List.replicate 8 0, []⟩
def splay (mode : Nat) (l : List St) : SS := l.foldl sst (sinit mode)
theorem splay_app (mode : Nat) (l m : List St) : splay mode (l ++ m) = m.foldl sst (splay mode l) := by simp [splay, List.foldl_append]
theorem splay_take {mode : Nat} {l : List St} {k : Nat} (h : k < l.length) : splay mode (l.take (k + 1)) = sst (splay mode (l.take k)) (gS l k) := by
  rw [List.take_add_one, List.getElem?_eq_getElem h, Option.toList_some, splay_app, gS_lt h]; rfl
def stold (s : SL) : Nat := if s.mode = 1 then s.wr.length else s.known

def apply (l : List St) : List Nat := l.foldl (fun m x => m.set x.block.toNat x.val) (List.replicate 8 0)
theorem apply_app1 (l : List St) (x : St) : apply (l ++ [x]) = (apply l).set x.block.toNat x.val := by simp [apply, List.foldl_append]
theorem apply_len (l : List St) : (apply l).length = 8 := by
  induction l using snoc_ind with
  | h0 => rfl
  | h1 l x ih => rw [apply_app1, List.length_set, ih]
structure SI (mode : Nat) (s : SS) : Prop where
  mode_ : s.l.mode = mode
  put : s.l.put ≤ s.l.got
  got : s.l.got ≤ s.l.sent
  sent : s.l.sent ≤ s.l.wr.length
  known : s.l.known ≤ s.l.got
  known3 : mode = 3 → s.l.known ≤ s.l.put
  kept : ∀ x ∈ s.l.wr, Kept x
  main : s.main = apply s.l.wr
  other : s.other = apply (s.l.wr.take s.l.put)
theorem SI.start (mode : Nat) : SI mode (sinit mode) := ⟨rfl, by simp [sinit], by simp [sinit], by simp [sinit], by simp [sinit], fun _ => by simp [sinit], by simp [sinit], rfl, rfl⟩
theorem take_app_le {l : List St} {x : St} {k : Nat} (h : k ≤ l.length) : (l ++ [x]).take k = l.take k := by rw [List.take_append_of_le_length h]
theorem take_gS {l : List St} {k : Nat} (h : k < l.length) : l.take (k + 1) = l.take k ++ [gS l k] := by rw [List.take_add_one, List.getElem?_eq_getElem h, Option.toList_some, gS_lt h]
theorem SI.step {mode : Nat} {s : SS} (h : SI mode s) (x : St) : SI mode (sst s x) := by
  have h1 := h.put; have h2 := h.got; have h3 := h.sent; have h4 := h.known
  unfold sst
  by_cases hk : x.kind = 1
  · rw [if_pos hk]
    by_cases hb : Kept x
    · rw [if_pos hb]
      refine ⟨h.mode_, h1, h2, by simp only [List.length_append]; omega, h4, h.known3, fun y hy => ?_, ?_, ?_⟩
      · rcases List.mem_append.1 hy with hy | hy
        · exact h.kept y hy
        · rw [List.mem_singleton] at hy; rw [hy]; exact hb
      · simp only [apply_app1, h.main]
      · simp only [h.other]; rw [take_app_le (by omega)]
    · rw [if_neg hb]; exact ⟨h.mode_, h1, h2, h3, h4, h.known3, h.kept, h.main, h.other⟩
  · rw [if_neg hk]
    have h3' := h.known3
    unfold ldo
    repeat' split
    all_goals first
      | (exfalso; omega)
      | exact ⟨h.mode_, h1, h2, h3, h4, h.known3, h.kept, h.main, h.other⟩
      | exact ⟨h.mode_, h1, by simp only; omega, by simp only; omega, h4, h.known3, h.kept, h.main, h.other⟩
      | exact ⟨h.mode_, by simp only; omega, by simp only; omega, h3, by simp only; omega, h.known3, h.kept, h.main, h.other⟩
      | exact ⟨h.mode_, by simp only; omega, h2, h3, h4, fun e => by have := h.known3 e; simp only; omega, h.kept, h.main, by simp only; rw [take_gS (by omega), apply_app1, h.other]⟩
      | exact ⟨h.mode_, h1, Nat.le_refl _, by simp only; omega, h4, h.known3, h.kept, h.main, h.other⟩
      | exact ⟨h.mode_, h1, h2, h3, by simp only; omega, fun e => by simp only; omega, h.kept, h.main, h.other⟩
      | (have hmm := h.mode_; exact ⟨h.mode_, h1, h2, h3, by simp only; omega, fun e => by exfalso; omega, h.kept, h.main, h.other⟩)
theorem SI.fold {mode : Nat} {s : SS} (h : SI mode s) : ∀ l : List St, SI mode (l.foldl sst s)
  | [] => h
  | x :: l => SI.fold (h.step x) l
theorem SI.all (mode : Nat) (l : List St) : SI mode (splay mode l) := (SI.start mode).fold l
theorem sst_codes (s : SS) (x : St) : (sst s x).codes.length = s.codes.length + 1 := by
  unfold sst; split
  · split <;> simp
  · simp
theorem sst_codes_app (s : SS) (x : St) : ∃ c, (sst s x).codes = s.codes ++ [c] ∧ (sst s x).l.wr = (if x.kind = 1 ∧ c = 0 then s.l.wr ++ [x] else s.l.wr) ∧ c ≤ 6 := by
  unfold sst; split
  · split
    · exact ⟨0, rfl, by simp [*], by omega⟩
    · exact ⟨2, rfl, by simp, by omega⟩
  · rename_i hk
    refine ⟨_, rfl, ?_, ?_⟩
    · have e : ∀ c : Nat, (if x.kind = 1 ∧ c = 0 then s.l.wr ++ [x] else s.l.wr) = s.l.wr := fun c => if_neg fun h => hk h.1
      rw [e]; simp only [ldo]; repeat' split
      all_goals rfl
    · simp only [lcode]; repeat' split
      all_goals omega
theorem splay_codes (mode : Nat) (l : List St) : (splay mode l).codes.length = l.length := by
  induction l using snoc_ind with
  | h0 => rfl
  | h1 l x ih => rw [splay_app]; show (sst _ x).codes.length = _; rw [sst_codes, ih]; simp
theorem splay_wr_len (mode : Nat) (l : List St) : (splay mode l).l.wr.length ≤ l.length := by
  induction l using snoc_ind with
  | h0 => simp [splay, sinit]
  | h1 l x ih =>
    rw [splay_app]; show (sst _ x).l.wr.length ≤ _
    obtain ⟨c, _, h2, _⟩ := sst_codes_app (splay mode l) x
    rw [h2, List.length_append]; split <;> simp <;> omega
/-- the writes that were done -/
def wrt (l : List St) (codes : List Nat) : Nat → List St := iter (fun i m => if (gS l i).kind = 1 ∧ gn codes i = 0 then m ++ [gS l i] else m) []
theorem wrt_succ (l : List St) (codes : List Nat) (k : Nat) : wrt l codes (k + 1) = if (gS l k).kind = 1 ∧ gn codes k = 0 then wrt l codes k ++ [gS l k] else wrt l codes k := rfl
theorem wrt_len (l : List St) (codes : List Nat) : ∀ k, (wrt l codes k).length ≤ k
  | 0 => Nat.le_refl _
  | k + 1 => by have := wrt_len l codes k; rw [wrt_succ]; split <;> simp <;> omega
theorem fold_codes (s : SS) (l : List St) : ∃ d, (l.foldl sst s).codes = s.codes ++ d := by
  induction l generalizing s with
  | nil => exact ⟨[], by simp⟩
  | cons x l ih =>
    obtain ⟨c, h1, _⟩ := sst_codes_app s x
    obtain ⟨d, h2⟩ := ih (sst s x)
    exact ⟨c :: d, by rw [List.foldl_cons, h2, h1]; simp⟩
theorem wrt_splay_take (mode : Nat) (l : List St) : ∀ {k : Nat}, k ≤ l.length → wrt l (splay mode l).codes k = (splay mode (l.take k)).l.wr
  | 0, _ => rfl
  | k + 1, h => by
    obtain ⟨c, h1, h2, _⟩ := sst_codes_app (splay mode (l.take k)) (gS l k)
    have hl : (splay mode (l.take k)).codes.length = k := by rw [splay_codes, List.length_take]; omega
    obtain ⟨d, h3⟩ := fold_codes (splay mode (l.take (k + 1))) (l.drop (k + 1))
    rw [← splay_app, List.take_append_drop, splay_take (by omega), h1] at h3
    have hc : gn (splay mode l).codes k = c := by
      rw [h3]; unfold gn
      rw [List.getD_eq_getElem?_getD, List.append_assoc, List.getElem?_append_right (by omega), hl]; simp
    rw [wrt_succ, wrt_splay_take mode l (by omega), splay_take (by omega), h2, hc]
theorem wrt_splay (mode : Nat) (l : List St) : wrt l (splay mode l).codes l.length = (splay mode l).l.wr := by
  rw [wrt_splay_take mode l (Nat.le_refl _), List.take_length]
/-- what does not hang on the mode -/
structure SE (s t : SS) : Prop where
  wr : s.l.wr = t.l.wr
  sent : s.l.sent = t.l.sent
  got : s.l.got = t.l.got
  put : s.l.put = t.l.put
theorem SE.step {s t : SS} (h : SE s t) (x : St) : SE (sst s x) (sst t x) := by
  obtain ⟨⟨ms, ws, ss, gs, ps, ks⟩, m1, o1, c1⟩ := s
  obtain ⟨⟨mt, wt, st, gt, pt, kt⟩, m2, o2, c2⟩ := t
  obtain ⟨h1, h2, h3, h4⟩ := h
  simp only at h1 h2 h3 h4
  subst h1; subst h2; subst h3; subst h4
  unfold sst ldo
  simp only
  repeat' split
  all_goals first
    | exact ⟨rfl, rfl, rfl, rfl⟩
    | (exfalso; omega)
theorem SE.all (a b : Nat) (l : List St) : SE (splay a l) (splay b l) := by
  induction l using snoc_ind with
  | h0 => exact ⟨rfl, rfl, rfl, rfl⟩
  | h1 l x ih => rw [splay_app, splay_app]; exact ih.step x
theorem known_le (l : List St) : (splay 3 l).l.known ≤ (splay 2 l).l.known := by
  induction l using snoc_ind with
  | h0 => exact Nat.le_refl _
  | h1 l x ih =>
    have he := SE.all 3 2 l
    have h3 := SI.all 3 l
    have h2 := SI.all 2 l
    rw [splay_app, splay_app]
    show (sst _ x).l.known ≤ (sst _ x).l.known
    generalize splay 3 l = s at *
    generalize splay 2 l = t at *
    have hm3 := h3.mode_; have hm2 := h2.mode_; have hp := h3.put; have hg := he.got
    unfold sst ldo
    repeat' split
    all_goals first
      | exact ih
      | (simp only; omega)
      | (exfalso; omega)
/-- what the other site has, so many writes looked at -/
def upto (wr : List St) (put k : Nat) : List Nat := apply (wr.take (if k ≤ put then k else put))
theorem upto_lt {wr : List St} {put k : Nat} (h : k < put) (hk : k < wr.length) : upto wr put (k + 1) = (upto wr put k).set (gS wr k).block.toNat (gS wr k).val := by
  unfold upto; rw [if_pos (by omega), if_pos (by omega), take_gS hk, apply_app1]
theorem upto_ge {wr : List St} {put k : Nat} (h : ¬ k < put) : upto wr put (k + 1) = upto wr put k := by
  unfold upto; rw [if_neg (by omega)]; by_cases e : k ≤ put
  · rw [if_pos e]; have : k = put := by omega
    rw [this]
  · rw [if_neg e]
theorem upto_len (wr : List St) (put k : Nat) : (upto wr put k).length = 8 := apply_len _
theorem apply_take_succ {wr : List St} {k : Nat} (hk : k < wr.length) : apply (wr.take (k + 1)) = (apply (wr.take k)).set (gS wr k).block.toNat (gS wr k).val := by rw [take_gS hk, apply_app1]
/-- all is sent, taken, put and heard -/
def sK (k : Int) : St := ⟨k, 0, 0, 0⟩
def allOf (l : List St) : List St := l ++ [sK 6] ++ List.replicate l.length (sK 2) ++ List.replicate l.length (sK 3) ++ List.replicate l.length (sK 4) ++ [sK 5]
def mn (a b : Nat) : Nat := if a ≤ b then a else b
theorem sends (s : SS) : ∀ n, ((List.replicate n (sK 2)).foldl sst s).l = { s.l with sent := if s.l.sent ≤ s.l.wr.length then mn (s.l.sent + n) (s.l.wr.length) else s.l.sent }
  | 0 => by
    obtain ⟨⟨m, w, a, b, c, d⟩, _, _, _⟩ := s
    simp only [List.replicate_zero, List.foldl_nil, Nat.add_zero, mn]
    by_cases h : a ≤ w.length
    · rw [if_pos h, if_pos h]
    · rw [if_neg h]
  | n + 1 => by
    rw [List.replicate_succ', List.foldl_append]
    show (sst _ (sK 2)).l = _
    have ih := sends s n
    generalize (List.replicate n (sK 2)).foldl sst s = t at ih
    unfold sst
    rw [if_neg (by simp [sK])]
    simp only [ldo, sK, if_true]
    rw [ih]
    obtain ⟨⟨m, w, a, b, c, d⟩, _, _, _⟩ := s
    simp only [mn]
    repeat' split
    all_goals first
      | rfl
      | (exfalso; omega)
      | (congr 1; omega)
theorem takes (s : SS) : ∀ n, ((List.replicate n (sK 3)).foldl sst s).l = { s.l with got := if s.l.got ≤ s.l.sent then mn (s.l.got + n) (s.l.sent) else s.l.got }
  | 0 => by
    obtain ⟨⟨m, w, a, b, c, d⟩, _, _, _⟩ := s
    simp only [List.replicate_zero, List.foldl_nil, Nat.add_zero, mn]
    by_cases h : b ≤ a
    · rw [if_pos h, if_pos h]
    · rw [if_neg h]
  | n + 1 => by
    rw [List.replicate_succ', List.foldl_append]
    show (sst _ (sK 3)).l = _
    have ih := takes s n
    generalize (List.replicate n (sK 3)).foldl sst s = t at ih
    unfold sst
    rw [if_neg (by simp [sK])]
    simp only [ldo, sK, if_true]
    rw [if_neg (by decide)]
    rw [ih]
    obtain ⟨⟨m, w, a, b, c, d⟩, _, _, _⟩ := s
    simp only [mn]
    repeat' split
    all_goals first
      | rfl
      | (exfalso; omega)
      | (congr 1; omega)
theorem puts (s : SS) : ∀ n, ((List.replicate n (sK 4)).foldl sst s).l = { s.l with put := if s.l.put ≤ s.l.got then mn (s.l.put + n) (s.l.got) else s.l.put }
  | 0 => by
    obtain ⟨⟨m, w, a, b, c, d⟩, _, _, _⟩ := s
    simp only [List.replicate_zero, List.foldl_nil, Nat.add_zero, mn]
    by_cases h : c ≤ b
    · rw [if_pos h, if_pos h]
    · rw [if_neg h]
  | n + 1 => by
    rw [List.replicate_succ', List.foldl_append]
    show (sst _ (sK 4)).l = _
    have ih := puts s n
    generalize (List.replicate n (sK 4)).foldl sst s = t at ih
    unfold sst
    rw [if_neg (by simp [sK])]
    simp only [ldo, sK, if_true]
    rw [if_neg (by decide)]
    rw [if_neg (by decide)]
    rw [ih]
    obtain ⟨⟨m, w, a, b, c, d⟩, _, _, _⟩ := s
    simp only [mn]
    repeat' split
    all_goals first
      | rfl
      | (exfalso; omega)
      | (congr 1; omega)
def allp (l : List St) : Nat → List St
  | 0 => l ++ [sK 6]
  | j + 1 => allp l j ++ List.replicate l.length (sK (gn [2, 3, 4] j : Int))
theorem allp_len (l : List St) : ∀ j, (allp l j).length = l.length + 1 + j * l.length
  | 0 => by simp [allp]
  | j + 1 => by rw [allp, List.length_append, allp_len l j, List.length_replicate, Nat.add_mul]; omega
theorem allp_all (l : List St) : allp l 3 ++ [sK 5] = allOf l := by simp [allp, allOf, gn, sK]
theorem rep_succ (l : List St) (m : Nat) (x : St) : l ++ List.replicate (m + 1) x = (l ++ List.replicate m x) ++ [x] := by rw [List.replicate_succ', List.append_assoc]
theorem ship_all (mode : Nat) (l : List St) : (splay mode (allOf l)).l.got = (splay mode (allOf l)).l.wr.length ∧ (splay mode (allOf l)).l.put = (splay mode (allOf l)).l.wr.length ∧
    stold (splay mode (allOf l)).l = (splay mode (allOf l)).l.wr.length ∧ (splay mode (allOf l)).main = (splay mode (allOf l)).other := by
  have hI := SI.all mode (allOf l)
  have hs := SI.all mode l
  have hn := splay_wr_len mode l
  have key : (splay mode (allOf l)).l = { (splay mode l).l with sent := (splay mode l).l.wr.length, got := (splay mode l).l.wr.length, put := (splay mode l).l.wr.length, known := (splay mode l).l.wr.length } := by
    unfold allOf
    rw [splay_app, splay_app, splay_app, splay_app, splay_app]
    simp only [List.foldl_cons, List.foldl_nil]
    have h1 : (sst (splay mode l) (sK 6)).l = { (splay mode l).l with sent := (splay mode l).l.got } := by
      unfold sst
      rw [if_neg (by simp [sK])]
      simp [ldo, sK]
    have hp := hs.put; have hg := hs.got; have hse := hs.sent
    generalize splay mode l = s at *
    generalize sst s (sK 6) = s1 at *
    have h2 := sends s1 l.length
    generalize (List.replicate l.length (sK 2)).foldl sst s1 = s2 at *
    have h3 := takes s2 l.length
    generalize (List.replicate l.length (sK 3)).foldl sst s2 = s3 at *
    have h4 := puts s3 l.length
    generalize (List.replicate l.length (sK 4)).foldl sst s3 = s4 at *
    obtain ⟨⟨m, w, a, b, c, d⟩, _, _, _⟩ := s
    simp only at h1 hp hg hse hn
    rw [h1] at h2
    simp only at h2
    rw [if_pos (by omega), show mn (b + l.length) w.length = w.length from by unfold mn; split <;> omega] at h2
    rw [h2] at h3
    simp only at h3
    rw [if_pos (by omega), show mn (b + l.length) w.length = w.length from by unfold mn; split <;> omega] at h3
    rw [h3] at h4
    simp only at h4
    rw [if_pos (by omega), show mn (c + l.length) w.length = w.length from by unfold mn; split <;> omega] at h4
    unfold sst
    rw [if_neg (by simp [sK])]
    simp [ldo, sK, h4]
  rw [hI.main, hI.other]
  generalize splay mode (allOf l) = t at *
  refine ⟨by rw [key], by rw [key], ?_, ?_⟩
  · rw [key]; simp only [stold]; split <;> rfl
  · rw [key]; simp only [List.take_length]
end Go.Proofs.Ytldcpihjoakigaa
