/-
  Plain: when all is sent, taken and put, both sites have the same.
-/
import Derived.Test.YtldcpihjoakigaaPairPlain
namespace Go.Proofs.Ytldcpihjoakigaa
open Go V

theorem pnew_main {d : Nat} {s : PS} {x : St} (h : x.kind ≠ 10) : (pnew d s x).1.main = s.main := by
  have key : ∀ r : PS × Nat × Nat, pnew d s x = r → r.1.main = s.main := by
    intro r hr
    unfold pnew at hr
    split at hr
    · subst hr; rfl
    split at hr
    · subst hr
      unfold pwr
      split
      · rfl
      split
      · rfl
      · rfl
    split at hr
    · subst hr
      unfold pat
      repeat' split
      all_goals rfl
    split at hr
    · subst hr; rfl
    · subst hr; rfl
  exact key _ rfl
theorem pfold_main {d : Nat} : ∀ (l : List St) (s : PS), (∀ x ∈ l, x.kind ≠ 10) → (l.foldl (fun s x => (pnew d s x).1) s).main = s.main
  | [], _, _ => rfl
  | x :: l, s, h => by
    rw [List.foldl_cons, pfold_main l _ fun y hy => h y (by simp [hy]), pnew_main (h x (by simp))]
theorem pnew_sK {d : Nat} {s : PS} {k : Int} (hk : 2 ≤ k) (hk6 : k ≤ 6) (hm : s.main = 0) : (pnew d s (sK k)).1.l = ldo s.l k ∧ (pnew d s (sK k)).1.main = 0 := by
  unfold pnew
  rw [if_neg (show ¬ ((sK k).kind < 1 ∨ 10 < (sK k).kind) by show ¬ (k < 1 ∨ 10 < k); omega), if_neg (show ¬ (sK k).kind = 1 by show ¬ k = 1; omega), if_neg (show ¬ (sK k).kind = 10 by show ¬ k = 10; omega), if_neg (show ¬ 7 ≤ (sK k).kind by show ¬ 7 ≤ k; omega), if_neg (show ¬ s.main = 1 by omega)]
  exact ⟨rfl, hm⟩
theorem psends {d : Nat} {k : Int} (hk : 2 ≤ k) (hk6 : k ≤ 6) : ∀ (n : Nat) (s : PS) (t : SS), s.main = 0 → s.l = t.l →
    ((List.replicate n (sK k)).foldl (fun s x => (pnew d s x).1) s).main = 0 ∧ ((List.replicate n (sK k)).foldl (fun s x => (pnew d s x).1) s).l = ((List.replicate n (sK k)).foldl sst t).l
  | 0, s, t, h1, h2 => ⟨h1, h2⟩
  | n + 1, s, t, h1, h2 => by
    rw [List.replicate_succ, List.foldl_cons, List.foldl_cons]
    obtain ⟨a1, a2⟩ := pnew_sK (d := d) hk hk6 h1
    refine psends hk hk6 n _ _ a2 ?_
    rw [a1, h2]
    unfold sst
    rw [if_neg (by simp [sK]; omega)]; rfl
theorem top_all {d mode : Nat} {l : List St} (hd : 3 ≤ d) (hd6 : d ≤ 6) (hl : ∀ x ∈ l, x.val < 256) (hk : ∀ x ∈ l, x.kind ≠ 10) :
    (pplay d mode (allp l 3)).main = 0 ∧ (pplay d mode (allp l 3)).l.put = (pplay d mode (allp l 3)).l.wr.length := by
  have hI := PV.all (mode := mode) hd hd6 l hl
  have hm : (pplay d mode l).main = 0 := pfold_main l _ hk
  have hn := wr_len (d := d) (mode := mode) l
  have ea : allp l 3 = l ++ [sK 6] ++ List.replicate l.length (sK 2) ++ List.replicate l.length (sK 3) ++ List.replicate l.length (sK 4) := by simp [allp, gn]
  rw [ea, pplay_app, pplay_app, pplay_app, pplay_app]
  simp only [List.foldl_cons, List.foldl_nil]
  have hp := hI.put; have hg := hI.got; have hse := hI.sent
  generalize pplay d mode l = s at *
  obtain ⟨a1, a2⟩ := pnew_sK (d := d) (s := s) (k := 6) (by omega) (by omega) hm
  have h1 : (pnew d s (sK 6)).1.l = { s.l with sent := s.l.got } := by rw [a1]; simp [ldo]
  generalize (pnew d s (sK 6)).1 = s1 at *
  obtain ⟨b1, b2⟩ := psends (d := d) (k := 2) (by omega) (by omega) l.length s1 ⟨s1.l, [], [], []⟩ a2 rfl
  rw [sends] at b2
  generalize (List.replicate l.length (sK 2)).foldl (fun s x => (pnew d s x).1) s1 = s2 at *
  obtain ⟨c1, c2⟩ := psends (d := d) (k := 3) (by omega) (by omega) l.length s2 ⟨s2.l, [], [], []⟩ b1 rfl
  rw [takes] at c2
  generalize (List.replicate l.length (sK 3)).foldl (fun s x => (pnew d s x).1) s2 = s3 at *
  obtain ⟨d1, d2⟩ := psends (d := d) (k := 4) (by omega) (by omega) l.length s3 ⟨s3.l, [], [], []⟩ c1 rfl
  rw [puts] at d2
  generalize (List.replicate l.length (sK 4)).foldl (fun s x => (pnew d s x).1) s3 = s4 at *
  refine ⟨d1, ?_⟩
  obtain ⟨⟨m, w, a, b, c, e⟩, _, _, _, _, _, _⟩ := s
  simp only at h1 hp hg hse hn
  rw [h1] at b2
  simp only at b2
  rw [if_pos (by omega), show mn (b + l.length) w.length = w.length from by unfold mn; split <;> omega] at b2
  rw [b2] at c2
  simp only at c2
  rw [if_pos (by omega), show mn (b + l.length) w.length = w.length from by unfold mn; split <;> omega] at c2
  rw [c2] at d2
  simp only at d2
  rw [if_pos (by omega), show mn (c + l.length) w.length = w.length from by unfold mn; split <;> omega] at d2
  rw [d2]
def rdS (q : Int) (b : Int) : St := ⟨9, q, b, 0⟩
def topL (l : List St) (b : Int) : List St := allp l 3 ++ [rdS 0 b] ++ [rdS 1 b]
theorem topL_len (l : List St) (b : Int) : (topL l b).length = 4 * l.length + 3 := by
  unfold topL; rw [List.length_append, List.length_append, allp_len]; simp; omega
theorem allp_val {l : List St} (hl : ∀ x ∈ l, x.val < 256) : ∀ j, ∀ x ∈ allp l j, x.val < 256
  | 0, x, hx => by
    rcases List.mem_append.1 hx with h | h
    · exact hl x h
    · rw [List.mem_singleton] at h; subst h; simp [sK]
  | j + 1, x, hx => by
    rcases List.mem_append.1 hx with h | h
    · exact allp_val hl j x h
    · rw [List.eq_of_mem_replicate h]; simp [sK]
theorem topL_val {l : List St} (hl : ∀ x ∈ l, x.val < 256) (b : Int) : ∀ x ∈ topL l b, x.val < 256 := by
  intro x hx
  unfold topL at hx
  rcases List.mem_append.1 hx with h | h
  · rcases List.mem_append.1 h with h | h
    · exact allp_val hl 3 x h
    · rw [List.mem_singleton] at h; subst h; simp [rdS]
  · rw [List.mem_singleton] at h; subst h; simp [rdS]
theorem top_both {d mode : Nat} {l : List St} (hd : 3 ≤ d) (hd6 : d ≤ 6) (hl : ∀ x ∈ l, x.val < 256) (hk : ∀ x ∈ l, x.kind ≠ 10) (b : Int) :
    gp (pouts d mode (topL l b) (topL l b).length) ((topL l b).length - 2) = gp (pouts d mode (topL l b) (topL l b).length) ((topL l b).length - 1) ∧
    ((gp (pouts d mode (topL l b) (topL l b).length) ((topL l b).length - 2)).1 = 0 ↔ 0 ≤ b ∧ b < 24) := by
  obtain ⟨h1, h2⟩ := top_all (mode := mode) hd hd6 hl hk
  have hI := PV.all (mode := mode) hd hd6 (allp l 3) (allp_val hl 3)
  have hlen : (topL l b).length = (allp l 3).length + 2 := by simp [topL]
  rw [pouts_at (by omega), pouts_at (by omega), hlen]
  have t1 : (topL l b).take ((allp l 3).length + 2 - 2) = allp l 3 := by
    unfold topL; rw [List.append_assoc, show (allp l 3).length + 2 - 2 = (allp l 3).length by omega, List.take_left]
  have t2 : (topL l b).take ((allp l 3).length + 2 - 1) = allp l 3 ++ [rdS 0 b] := by
    unfold topL; rw [show (allp l 3).length + 2 - 1 = (allp l 3 ++ [rdS 0 b]).length by simp, List.take_left]
  have g1 : gS (topL l b) ((allp l 3).length + 2 - 2) = rdS 0 b := by
    unfold topL gS; rw [List.append_assoc, List.getD_eq_getElem?_getD, List.getElem?_append_right (by omega)]; simp
  have g2 : gS (topL l b) ((allp l 3).length + 2 - 1) = rdS 1 b := by
    unfold topL gS; rw [List.getD_eq_getElem?_getD, List.getElem?_append_right (by simp)]; simp
  rw [t1, t2, g1, g2, pplay_app]
  simp only [List.foldl_cons, List.foldl_nil]
  obtain ⟨b0, ⟨_, _, L0, hA0⟩, e0⟩ := hI.s0
  obtain ⟨b1, ⟨_, _, L1, hA1⟩, e1⟩ := hI.s1
  have e0 := e0 h1
  have e1 := e1 h1
  rw [h2, List.take_length] at e1
  generalize pplay d mode (allp l 3) = s at *
  have hp : ∀ q : Int, (q = 0 ∨ q = 1) → pnew d s (rdS q b) = (s, if b < 0 ∨ 24 ≤ b then 0 else gn (app24 s.l.wr) b.toNat, if b < 0 ∨ 24 ≤ b then 2 else 0) := by
    intro q hq
    have k9 : (rdS q b).kind = 9 := rfl
    have kb : (rdS q b).block = b := rfl
    have ks : (rdS q b).site = q := rfl
    unfold pnew pat
    rw [if_neg (show ¬ ((rdS q b).kind < 1 ∨ 10 < (rdS q b).kind) by omega), if_neg (show ¬ (rdS q b).kind = 1 by omega), if_neg (show ¬ (rdS q b).kind = 10 by omega), if_pos (show 7 ≤ (rdS q b).kind by omega)]
    by_cases hb : b < 0
    · rw [if_pos (show ((rdS q b).site < s.main ∨ 1 < (rdS q b).site ∨ (rdS q b).block < 0) from .inr (.inr hb)), if_pos (show b < 0 ∨ 24 ≤ b from .inl hb), if_pos (show b < 0 ∨ 24 ≤ b from .inl hb)]
    · rw [if_neg (show ¬ ((rdS q b).site < s.main ∨ 1 < (rdS q b).site ∨ (rdS q b).block < 0) by omega), if_pos k9]
      by_cases hb2 : 24 ≤ b
      · rw [if_pos (show 24 ≤ (rdS q b).block from hb2), if_pos (show b < 0 ∨ 24 ≤ b from .inr hb2), if_pos (show b < 0 ∨ 24 ≤ b from .inr hb2)]
      · rw [if_neg (show ¬ 24 ≤ (rdS q b).block from hb2), if_neg (show ¬ (b < 0 ∨ 24 ≤ b) by omega), if_neg (show ¬ (b < 0 ∨ 24 ≤ b) by omega)]
        rcases hq with rfl | rfl
        · rw [if_pos (show (rdS 0 b).site = 0 from rfl)]
          show (s, aRead d s.D0 s.t0 b.toNat, 0) = _
          rw [hA0.read hd hd6 (by omega), e0]
        · rw [if_neg (show ¬ (rdS 1 b).site = 0 from by rw [ks]; omega)]
          show (s, aRead d s.D1 s.t1 b.toNat, 0) = _
          rw [hA1.read hd hd6 (by omega), e1]
  rw [hp 0 (.inl rfl), hp 1 (.inr rfl)]
  refine ⟨rfl, ?_⟩
  simp only
  split <;> omega
end Go.Proofs.Ytldcpihjoakigaa
