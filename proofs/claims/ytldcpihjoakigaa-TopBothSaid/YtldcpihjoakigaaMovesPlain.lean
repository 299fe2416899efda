/-
  Plain: a script of moves on an array of discs: what is told, what stands where.
-/
import Derived.Test.YtldcpihjoakigaaArrayMem
namespace Go.Proofs.Ytldcpihjoakigaa
open Go V

structure Mv where
  kind : Int
  block : Int
  val : Nat
def gM (l : List Mv) (k : Nat) : Mv := l.getD k ⟨0, 0, 0⟩
theorem gM_lt {l : List Mv} {k : Nat} (h : k < l.length) : gM l k = l[k] := by simp [gM, h]
theorem gM_mem {l : List Mv} {k : Nat} (h : k < l.length) : gM l k ∈ l := by rw [gM_lt h]; exact List.getElem_mem h
def mvc (x : Mv) : List Value := [.int .i64 x.kind, .int .i64 x.block, .int .u8 (x.val : Int)]
def mv (l : List Mv) : List Value := l.flatMap mvc
theorem mv_len (l : List Mv) : (mv l).length = l.length * 3 := by
  unfold mv; induction l with
  | nil => rfl
  | cons a l ih => simp [List.flatMap_cons, ih, mvc]; omega
theorem mv_at {l : List Mv} : ∀ {k : Nat}, k < l.length → ((mv l).drop (k * 3)).take 3 = mvc (gM l k) ∧ (mv l)[k * 3]? = some (.int .i64 (gM l k).kind) := by
  induction l with
  | nil => intro k h; simp at h
  | cons a l ih =>
    intro k h
    cases k with
    | zero => simp [mv, gM, mvc, List.flatMap_cons]
    | succ k =>
      have := ih (k := k) (by simpa using h)
      rw [show (k + 1) * 3 = k * 3 + 3 by omega]
      simpa [mv, gM, mvc, List.flatMap_cons] using this
/-- what was told: codes and bytes -/
def gp (l : List (Nat × Nat)) (k : Nat) : Nat × Nat := l.getD k (0, 0)
def pc2 (l : List (Nat × Nat)) : List Value := l.flatMap fun p => [.int .i64 (p.1 : Int), .int .u8 (p.2 : Int)]
theorem pc2_len (l : List (Nat × Nat)) : (pc2 l).length = l.length * 2 := by
  unfold pc2; induction l with
  | nil => rfl
  | cons a l ih => simp [List.flatMap_cons, ih]; omega
theorem pc2_app (l : List (Nat × Nat)) (p : Nat × Nat) : pc2 l ++ [.int .i64 (p.1 : Int), .int .u8 (p.2 : Int)] = pc2 (l ++ [p]) := by simp [pc2]
theorem pc2_at {l : List (Nat × Nat)} : ∀ {k : Nat}, k < l.length → (pc2 l)[k * 2]? = some (.int .i64 ((gp l k).1 : Int)) ∧ (pc2 l)[k * 2 + 1]? = some (.int .u8 ((gp l k).2 : Int)) := by
  induction l with
  | nil => intro k h; simp at h
  | cons a l ih =>
    intro k h
    cases k with
    | zero => simp [pc2, gp, List.flatMap_cons]
    | succ k =>
      have := ih (k := k) (by simpa using h)
      rw [show (k + 1) * 2 = k * 2 + 2 by omega, show k * 2 + 2 + 1 = k * 2 + 1 + 2 by omega]
      simpa [pc2, gp, List.flatMap_cons] using this
structure AS where
  D : Discs
  lost : Int
  out : List (Nat × Nat)
  blk : List Nat
  cnt : Int
def anew (d : Nat) (s : AS) (m : Mv) : Discs × Int × Nat × Nat := ado d s.D s.lost m.kind m.block m.val
def astep (d : Nat) (s : AS) (m : Mv) : AS :=
  ⟨(anew d s m).1, (anew d s m).2.1, s.out ++ [((anew d s m).2.2.2, (anew d s m).2.2.1)],
   if m.kind = 1 ∧ (anew d s m).2.2.2 = 0 then s.blk.set m.block.toNat m.val else s.blk,
   if m.kind = 3 ∧ (anew d s m).2.2.2 = 0 then s.cnt + 1 else if m.kind = 4 ∧ (anew d s m).2.2.2 = 0 then s.cnt - 1 else s.cnt⟩
def ainit (d : Nat) : AS := ⟨List.replicate d (List.replicate (rowsOf d) 0), -1, [], List.replicate 24 0, 0⟩
def aplay (d : Nat) (l : List Mv) : AS := l.foldl (astep d) (ainit d)
theorem aplay_take {d : Nat} {l : List Mv} {k : Nat} (h : k < l.length) : aplay d (l.take (k + 1)) = astep d (aplay d (l.take k)) (gM l k) := by
  unfold aplay
  rw [List.take_add_one, List.getElem?_eq_getElem h, Option.toList_some, List.foldl_append, gM_lt h]; rfl
theorem aplay_out_len (d : Nat) (l : List Mv) : (aplay d l).out.length = l.length := by
  unfold aplay
  have : ∀ (l : List Mv) (s : AS), (l.foldl (astep d) s).out.length = s.out.length + l.length := by
    intro l
    induction l with
    | nil => intro s; rfl
    | cons a l ih => intro s; rw [List.foldl_cons, ih]; simp [astep]; omega
  rw [this]; simp [ainit]
theorem aplay_out_at {d : Nat} {l : List Mv} {k : Nat} (h : k < l.length) : gp (aplay d l).out k = ((anew d (aplay d (l.take k)) (gM l k)).2.2.2, (anew d (aplay d (l.take k)) (gM l k)).2.2.1) := by
  have key : ∀ n, k < n → n ≤ l.length → gp (aplay d (l.take n)).out k = ((anew d (aplay d (l.take k)) (gM l k)).2.2.2, (anew d (aplay d (l.take k)) (gM l k)).2.2.1) := by
    intro n
    induction n with
    | zero => intro h; omega
    | succ n ih =>
      intro h1 h2
      rw [aplay_take (by omega)]
      have hlen := aplay_out_len d (l.take n)
      rw [List.length_take] at hlen
      have hout : (astep d (aplay d (l.take n)) (gM l n)).out = (aplay d (l.take n)).out ++ [((anew d (aplay d (l.take n)) (gM l n)).2.2.2, (anew d (aplay d (l.take n)) (gM l n)).2.2.1)] := rfl
      rw [hout]
      by_cases e : k = n
      · subst e
        unfold gp
        rw [List.getD_eq_getElem?_getD, List.getElem?_append_right (by omega), show k - (aplay d (l.take k)).out.length = 0 by omega]; rfl
      · have := ih (by omega) (by omega)
        unfold gp at this ⊢
        rw [List.getD_eq_getElem?_getD, List.getElem?_append_left (by omega), ← List.getD_eq_getElem?_getD]; exact this
  have := key l.length h (Nat.le_refl _)
  rwa [List.take_length] at this
structure AV (d : Nat) (s : AS) : Prop where
  blk : s.blk.length = 24
  small : ∀ r, gn s.blk r < 256
  ai : ∃ L, AI d s.blk s.D s.lost L
  cnt : s.cnt = if s.lost = -1 then 0 else 1
theorem AV.step {d : Nat} {s : AS} {m : Mv} (h : AV d s) (hd : 3 ≤ d) (hd6 : d ≤ 6) (hv : m.val < 256) : AV d (astep d s m) := by
  obtain ⟨L, hL⟩ := h.ai
  have hlo := hL.lost_
  have hmo := manyOf_cases d m.kind
  have hc := h.cnt
  unfold astep anew ado
  by_cases h1 : m.kind < 1 ∨ 4 < m.kind
  · simp only [if_pos h1]
    rw [if_neg (by omega), if_neg (by omega), if_neg (by omega)]
    exact ⟨h.blk, h.small, ⟨L, hL⟩, hc⟩
  · simp only [if_neg h1]
    by_cases h2 : m.block < 0 ∨ manyOf d m.kind ≤ m.block
    · simp only [if_pos h2]
      rw [if_neg (by omega), if_neg (by omega), if_neg (by omega)]
      exact ⟨h.blk, h.small, ⟨L, hL⟩, hc⟩
    · simp only [if_neg h2]
      obtain ⟨b, hb⟩ := Int.eq_ofNat_of_zero_le (show 0 ≤ m.block by omega)
      by_cases k2 : m.kind = 2
      · simp only [if_pos k2]
        rw [if_neg (by omega), if_neg (by omega), if_neg (by omega)]
        exact ⟨h.blk, h.small, ⟨L, hL⟩, hc⟩
      · simp only [if_neg k2]
        by_cases k3 : m.kind = 3
        · simp only [if_pos k3]
          by_cases h4 : 0 ≤ s.lost
          · simp only [if_pos h4]
            rw [if_neg (by omega), if_neg (by omega), if_neg (by omega)]
            exact ⟨h.blk, h.small, ⟨L, hL⟩, hc⟩
          · simp only [if_neg h4]
            have hl1 : s.lost = -1 := by omega
            rw [if_neg (by omega), if_pos (show m.kind = 3 ∧ True from ⟨k3, trivial⟩)]
            rw [hl1] at hL
            refine ⟨h.blk, h.small, ⟨L, ?_⟩, ?_⟩
            · simp only [hb, Int.toNat_natCast]; exact hL.lose (j := b) (by omega)
            · simp only; rw [hc, if_pos hl1, if_neg (by omega)]; rfl
        · simp only [if_neg k3]
          by_cases k4 : m.kind = 4
          · simp only [if_pos k4]
            by_cases h4 : s.lost ≠ m.block
            · simp only [if_pos h4]
              rw [if_neg (by omega), if_neg (by omega), if_neg (by omega)]
              exact ⟨h.blk, h.small, ⟨L, hL⟩, hc⟩
            · simp only [if_neg h4]
              have hl1 : s.lost = (b : Int) := by omega
              rw [if_neg (by omega), if_neg (by omega), if_pos (show m.kind = 4 ∧ True from ⟨k4, trivial⟩)]
              rw [hl1] at hL
              refine ⟨h.blk, h.small, ⟨L, ?_⟩, ?_⟩
              · simp only [hb, Int.toNat_natCast]; exact hL.renew (j := b) (by omega)
              · simp only; rw [hc, if_neg (by omega), if_pos trivial]; rfl
          · simp only [if_neg k4]
            rw [if_pos (show m.kind = 1 ∧ True from ⟨by omega, trivial⟩), if_neg (by omega), if_neg (by omega)]
            obtain ⟨L', hL'⟩ := hL.write hd hd6 (b := b) (v := m.val) (by omega) hv h.blk
            refine ⟨by simp only [List.length_set]; exact h.blk, fun r => ?_, ⟨L', ?_⟩, hc⟩
            · simp only
              unfold gn
              rw [List.getD_eq_getElem?_getD, List.getElem?_set]
              split
              · split
                · exact hv
                · simp
              · rw [← List.getD_eq_getElem?_getD]; exact h.small r
            · simp only [hb, Int.toNat_natCast]; exact hL'
theorem AV.init {d : Nat} (hd : 3 ≤ d) : AV d (ainit d) := by
  refine ⟨by simp [ainit], fun r => by show gn (List.replicate 24 0) r < 256; rw [gn_rep0]; omega, ⟨_, AI.start hd⟩, rfl⟩
theorem AV.all {d : Nat} (hd : 3 ≤ d) (hd6 : d ≤ 6) (l : List Mv) (hl : ∀ x ∈ l, x.val < 256) : AV d (aplay d l) := by
  have : ∀ (l : List Mv) (s : AS), AV d s → (∀ x ∈ l, x.val < 256) → AV d (l.foldl (astep d) s) := by
    intro l
    induction l with
    | nil => intro s hs _; exact hs
    | cons a l ih => intro s hs ha; exact ih _ (hs.step hd hd6 (ha a (List.mem_cons_self ..))) fun x hx => ha x (List.mem_cons_of_mem _ hx)
  exact this l _ (AV.init hd) hl
/-- what a move that was told well says -/
theorem anew_facts {d : Nat} {s : AS} {m : Mv} (h : AV d s) (hd : 3 ≤ d) (hd6 : d ≤ 6) :
    (m.kind = 1 → (anew d s m).2.2.2 = 0 → 0 ≤ m.block ∧ m.block < 24) ∧ (m.kind = 2 → ((anew d s m).2.2.2 = 0 ↔ 0 ≤ m.block ∧ m.block < 24) ∧ ((anew d s m).2.2.2 = 0 → (anew d s m).2.2.1 = gn s.blk m.block.toNat)) := by
  obtain ⟨L, hL⟩ := h.ai
  have hmo := manyOf_cases d m.kind
  unfold anew ado
  refine ⟨fun hk => ?_, fun hk => ?_⟩
  · rw [if_neg (by omega)]
    by_cases h2 : m.block < 0 ∨ manyOf d m.kind ≤ m.block
    · rw [if_pos h2]; intro h; simp at h
    · intro _; omega
  · rw [if_neg (by omega)]
    by_cases h2 : m.block < 0 ∨ manyOf d m.kind ≤ m.block
    · rw [if_pos h2]
      refine ⟨⟨fun h => by simp at h, fun h => by omega⟩, fun h => by simp at h⟩
    · rw [if_neg h2, if_pos hk]
      refine ⟨⟨fun _ => by omega, fun _ => rfl⟩, fun _ => ?_⟩
      exact hL.read hd hd6 (by omega)
/-- with no disc lost each row is even -/
theorem AV.rows {d : Nat} {s : AS} (h : AV d s) (hl : s.lost = -1) {r : Nat} (hr : r < rowsOf d) : xr (fun j => cel s.D j r) d = 0 := by
  obtain ⟨L, hL⟩ := h.ai
  rw [xr_congr (g := fun j => L j r) fun j hj => hL.there j r hj hr (by omega)]
  exact hL.par r hr
theorem told_facts {d : Nat} {l : List Mv} {k : Nat} (hk : k < l.length) (hd : 3 ≤ d) (hd6 : d ≤ 6) (hv : ∀ x ∈ l, x.val < 256) :
    ((gM l k).kind = 1 → (gp (aplay d l).out k).1 = 0 → 0 ≤ (gM l k).block ∧ (gM l k).block < 24) ∧ ((gM l k).kind = 2 → ((gp (aplay d l).out k).1 = 0 ↔ 0 ≤ (gM l k).block ∧ (gM l k).block < 24)) ∧
    ((gM l k).kind = 2 → (gp (aplay d l).out k).1 = 0 → (gp (aplay d l).out k).2 = gn (aplay d (l.take k)).blk (gM l k).block.toNat) ∧ (aplay d (l.take k)).blk.length = 24 ∧
    (aplay d (l.take (k + 1))).blk = (if (gM l k).kind = 1 ∧ (gp (aplay d l).out k).1 = 0 then (aplay d (l.take k)).blk.set (gM l k).block.toNat (gM l k).val else (aplay d (l.take k)).blk) ∧
    (aplay d (l.take (k + 1))).cnt = (if (gM l k).kind = 3 ∧ (gp (aplay d l).out k).1 = 0 then (aplay d (l.take k)).cnt + 1 else if (gM l k).kind = 4 ∧ (gp (aplay d l).out k).1 = 0 then (aplay d (l.take k)).cnt - 1 else (aplay d (l.take k)).cnt) := by
  have hav := AV.all hd hd6 (l.take k) (fun x hx => hv x (List.mem_of_mem_take hx))
  obtain ⟨h1, h2⟩ := anew_facts (m := gM l k) hav hd hd6
  have ho := aplay_out_at (d := d) hk
  rw [ho, aplay_take hk]
  exact ⟨h1, fun h => (h2 h).1, fun h => (h2 h).2, hav.blk, rfl, rfl⟩
theorem toAM {w : World} {B g : Nat} {po : Option Addr} {co : Nat} {T : List Tx} {lost : Int} {m l : Oz} (h : Mz w B (m :: l :: arrO g po T.length co lost :: outO po co T :: tz 5 T)) : AM w B g po co T lost [l] := by
  unfold AM
  refine h.tail.perm ?_
  have : (arrO g po T.length co lost :: outO po co T :: (tz 5 T ++ [l])) = (arrO g po T.length co lost :: outO po co T :: tz 5 T) ++ [l] := rfl
  rw [this]
  exact List.perm_append_comm (l₂ := [l])
theorem fromAM {w : World} {B g : Nat} {po : Option Addr} {co : Nat} {T : List Tx} {lost : Int} {l : Oz} (h : AM w B g po co T lost [l]) : Mz w B (l :: arrO g po T.length co lost :: outO po co T :: tz 5 T) := by
  unfold AM at h
  refine h.perm ?_
  have : (arrO g po T.length co lost :: outO po co T :: (tz 5 T ++ [l])) = (arrO g po T.length co lost :: outO po co T :: tz 5 T) ++ [l] := rfl
  rw [this]
  exact List.perm_append_comm (l₁ := [l])
end Go.Proofs.Ytldcpihjoakigaa
