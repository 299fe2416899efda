/-
  append to what is left of an own slice behind a cut (s = s[k:]; s = append(s, ..)): in place, or in a fresh block.
-/
import Derived.Test.YtbfcmfjdjldepaaVcutz
namespace Go.Proofs.Ytbfcmfjdjldepaa.V
open Go Go.RowKit

section
variable {P : Program}
theorem run_append_room_cut (w : World) (t ty e : TypeId) (i : TypeInfo) (ht : P.underlying t = some (.slice e)) (hi : P.info? e = some i)
    (g off sLen sCap : Nat) (cur : Array Value) (hg : w.heap[g]? = some (.cells cur e (0, 0)))
    (a : Addr) (m c : Nat) (news : List Value) (hl : news.length = m * i.size) (hnews : ∀ j u, news[j]? = some u → w.cell? (a.add j) = some u) (h1 : ∀ u ∈ news, u.oneCell' = true)
    (hroom : sLen + m ≤ sCap) (hfit : off + sLen * i.size + news.length ≤ cur.size) :
    (Builtin.append_ #[t, t] ty #[.slice (some ⟨g, off, none⟩) sLen sCap, .slice (some a) m c]).run P w =
      .ok (.slice (some ⟨g, off, none⟩) (sLen + m) sCap) (w.setRow g (cur.toList.take (off + sLen * i.size) ++ news ++ cur.toList.drop (off + sLen * i.size + news.length)).toArray) := by
  have hf := run_firstCells_some (P := P) w i.size m a m c news hl hnews
  have hst := run_storeCells_at P g (off + sLen * i.size) e news 0 cur w hg (by simpa using hfit) h1
  simp only [Nat.add_zero] at hst
  simp [Builtin.append_, run_underlying ht, sizeOf, typeInfo, hi, Builtin.lenOf, hroom, hf, Addr.add_lit, hst]

variable {L : Loc} {x y : Operand} {t e : TypeId} {n : Nat} {K : Loc → World → Prop} {w : World} {o : Oper}
theorem Step.appendCut {d B bytes z : Nat} {z0 : Value} {p q : Option Addr} {m c k j c' : Nat} {xs news : List Value}
    (hop : o.op = .call { callee := .builtin .append, args := #[x, y], argTypes := #[t, t] }) (hd : o.dst = some d) (hlt : d < n)
    (ht : P.underlying t = some (.slice e)) (hE : Elem P e z bytes z0) (hz : z0.cells.size = z) (hzp : 0 < z)
    (h1 : ev L x = some (.slice (cutZ p c k z) (m - k) (c - k))) (h2 : ev L y = some (.slice q j c')) (hkm : k ≤ m) (hj : 0 < j) (hown : OwnZ w B e z p m c xs) (hr : Rd w q news) (hl : news.length = j * z) (h1c : ∀ u ∈ news, u.oneCell' = true)
    (hmax : m + j ≤ 9223372036854775807) (hby : (m + j) * bytes ≤ 140737488355328) (hB : B ≤ w.heap.size)
    (h : ∀ p' c2 k' J w', k' ≤ k → J.length = k' * z → OwnZ w' B e z p' (k' + (m - k + j)) c2 (J ++ (xs.drop (k * z) ++ news)) → w.grownBy w' (Value.ownBlock (.slice p m c)) → Below B w w' → (∀ b, p' = some ⟨b, 0, none⟩ → p = some ⟨b, 0, none⟩ ∨ w.heap.size ≤ b) → K ((d, .slice (cutZ p' c2 k' z) (m - k + j) (c2 - k')) :: L) w') : Step P n o L w K := by
  obtain ⟨i, hi, hz0, hsz, hbs⟩ := hE.parts
  subst hbs
  subst hsz
  intro a hk Q
  have e1 := hk.ev h1; have e2 := hk.ev h2
  have hlx := hown.length
  cases q with
  | none =>
    have hnews := hr.none_nil
    subst hnews
    have := Nat.mul_pos hj hzp
    simp at hl; omega
  | some ad =>
    have go : ∀ v' w', (Builtin.append_ #[t, t] o.type #[.slice (cutZ p c k i.size) (m - k) (c - k), .slice (some ad) j c']).run P w = .ok v' w' → (∀ p' c2 k' J, k' ≤ k → v' = .slice (cutZ p' c2 k' i.size) (m - k + j) (c2 - k') → J.length = k' * i.size → OwnZ w' B e i.size p' (k' + (m - k + j)) c2 (J ++ (xs.drop (k * i.size) ++ news)) → w.grownBy w' (Value.ownBlock (.slice p m c)) → (∀ b, p' = some ⟨b, 0, none⟩ → p = some ⟨b, 0, none⟩ ∨ w.heap.size ≤ b) →
        o.wp P a w (fun a' w' => ∃ L', Know n L' a' ∧ K L' w') Q) := by
      intro v' w' hrun p' c2 k' J hkk hv hJ hO hg hb
      subst hv
      unfold Oper.wp
      have hex : (execOp a.eval o).run P w = .ok (.value (.slice (cutZ p' c2 k' i.size) (m - k + j) (c2 - k'))) w' := by
        simp [execOp, hop, resolve, invoke, builtin, e1, e2, hrun, Result.andThen]
      rw [hex, Oper.upon_value, hd]
      exact ⟨_, hk.put hlt _, h _ _ _ _ _ hkk hJ hO hg (below_of_ownz hown hg hB) hb⟩
    rcases hown.2 with ⟨hv, hm0⟩ | ⟨g, cap, cur, hv, hbg, hg, hnc, hcm, hcs, htake⟩
    · cases hv
      obtain rfl : k = 0 := by omega
      have hxs : xs = [] := List.eq_nil_of_length_eq_zero (by simpa using hlx)
      subst hxs
      obtain ⟨v', w', hrun, r1, r2, _⟩ := run_append_own (P := P) w B t o.type e i z0 i.size i.bytes ht hi hz0 rfl rfl hz hzp (.slice none 0 0) 0 [] (World.ownsRow_nil w B e i.size) ad j c' news hl hr.cells h1c
        (by unfold maxLen; omega) (by simpa using hby) hB
      have hshape : ∃ p' c'', v' = .slice p' (0 + j) c'' := by
        rcases r1.2 with ⟨hv, hn⟩ | ⟨g, cap, cur, hv, _⟩
        · omega
        · exact ⟨_, _, hv⟩
      obtain ⟨p', c'', rfl⟩ := hshape
      have hcz : cutZ none 0 0 i.size = none := by simp [cutZ]
      refine go _ _ (by rw [hcz]; exact hrun) p' c'' 0 [] (Nat.zero_le _) (by rw [cutZ_zero, show 0 - 0 + j = 0 + j by omega, Nat.sub_zero]) (by simp) (by rw [show 0 + (0 - 0 + j) = 0 + j by omega, List.drop_nil]; exact r1) r2 ?_
      exact append_blockZ (p := none) (m := 0) (c := 0) ht hi hz0 rfl rfl hz hzp hown hr hl h1c hmax hby hrun
    · cases hv
      have hdl : (xs.drop (k * i.size)).length = (m - k) * i.size := by rw [List.length_drop, hlx, Nat.sub_mul]
      by_cases hroom : m + j ≤ c
      · have hck : c ≠ k := by omega
        have hcut : cutZ (some ⟨g, 0, none⟩) c k i.size = some ⟨g, k * i.size, none⟩ := by unfold cutZ; rw [if_neg hck]; simp [Addr.add_lit]
        have hoff : k * i.size + (m - k) * i.size = m * i.size := by rw [← Nat.add_mul, Nat.add_sub_cancel' hkm]
        have hfit : m * i.size + news.length ≤ cur.size := by rw [hl, hcs, ← Nat.add_mul]; exact Nat.mul_le_mul_right _ hroom
        have hrun := run_append_room_cut (P := P) w t o.type e i ht hi g (k * i.size) (m - k) (c - k) cur hg ad j c' news hl hr.cells h1c (by omega) (by rw [hoff]; exact hfit)
        rw [hoff] at hrun
        have hxx : xs.take (k * i.size) ++ (xs.drop (k * i.size) ++ news) = xs ++ news := by rw [← List.append_assoc, List.take_append_drop]
        rw [← hcut] at hrun
        refine go _ _ hrun (some ⟨g, 0, none⟩) c k (xs.take (k * i.size)) (Nat.le_refl _) rfl (by rw [List.length_take, hlx]; exact Nat.min_eq_left (Nat.mul_le_mul_right _ hkm)) ?_ ⟨rfl, rfl, rfl, by simp, fun k _ hk => setRow_other w g k _ (fun e => hk (by simp [Value.ownBlock, e]))⟩ (fun b hb => .inl hb)
        rw [hxx, show k + (m - k + j) = m + j by omega]
        refine ⟨by rw [List.length_append, hlx, hl, Nat.add_mul], .inr ⟨g, c, _, rfl, hbg, setRow_heap w g cur _ e _ hg, hroom, hcm, ?_, ?_⟩⟩
        · simp only [List.size_toArray, List.length_append, List.length_take, List.length_drop, Array.length_toList]
          omega
        · have hlen : (xs ++ news).length = (m + j) * i.size := by rw [List.length_append, hlx, hl, Nat.add_mul]
          rw [htake, ← hlen]
          exact List.take_left
      · have hRc : Rd w (cutZ (some ⟨g, 0, none⟩) c k i.size) (xs.drop (k * i.size)) := hown.rd.cutz (by rw [hlx]; exact Nat.mul_le_mul_right _ hnc)
        obtain ⟨b0, o0, hcut⟩ : ∃ b0 o0, cutZ (some ⟨g, 0, none⟩) c k i.size = some ⟨b0, o0, none⟩ := by
          unfold cutZ; split
          · exact ⟨_, _, rfl⟩
          · exact ⟨g, k * i.size, by simp [Addr.add_lit]⟩
        rw [hcut] at hRc
        have hby2 : (m - k + j) * i.bytes ≤ 140737488355328 := Nat.le_trans (Nat.mul_le_mul_right _ (by omega)) hby
        have hrun := run_append_grow (P := P) w t o.type e i z0 ht hi hz0 ⟨b0, o0, none⟩ (m - k) (c - k) (xs.drop (k * i.size)) hdl hRc.cells ad j c' news hl hr.cells (by omega) (by omega) (growslice_fits (by omega) hby2)
        have hlen : (xs.drop (k * i.size) ++ news).length = (m - k + j) * i.size := by rw [List.length_append, hdl, hl, Nat.add_mul]
        have hge := grownCap_ge w (m - k + j) (c - k) e
        have hcmx := grownCap_le_maxLen w (m - k + j) (c - k) e (by unfold maxLen; omega)
        rw [← hcut] at hrun
        refine go _ _ hrun (some ⟨w.heap.size, 0, none⟩) (grownCap w (m - k + j) (c - k) e) 0 [] (Nat.zero_le _) (by rw [cutZ_zero]; rfl) (by simp) ?_ ?_ (fun b hb => by cases hb; exact .inr (Nat.le_refl _))
        · rw [List.nil_append, Nat.zero_add]
          refine ⟨hlen, .inr ⟨w.heap.size, _, _, rfl, hB, heap_alloc_new w.drew _, hge, hcmx, ?_, ?_⟩⟩
          · simp only [Array.size_append, List.size_toArray, size_zeroCells, hz]
            rw [← List.length_append, hlen, ← Nat.add_mul]
            congr 1; omega
          · simp only [Array.toList_append, List.append_assoc]
            rw [← List.append_assoc, ← hlen]
            exact List.take_left
        · exact ⟨rfl, rfl, rfl, by simp, fun b hb _ => heap_alloc_old w.drew _ hb⟩
theorem Step.appendCutP {d B bytes z : Nat} {z0 : Value} {p q cp : Option Addr} {m c k j c' : Nat} {xs news : List Value}
    (hop : o.op = .call { callee := .builtin .append, args := #[x, y], argTypes := #[t, t] }) (hd : o.dst = some d) (hlt : d < n)
    (ht : P.underlying t = some (.slice e)) (hE : Elem P e z bytes z0) (hz : z0.cells.size = z) (hzp : 0 < z)
    (h1 : ev L x = some (.slice cp (m - k) (c - k))) (hcp : cp = cutZ p c k z ∨ (c = k ∧ ∃ b0 o0, cp = some ⟨b0, o0, none⟩)) (h2 : ev L y = some (.slice q j c')) (hkm : k ≤ m) (hj : 0 < j) (hown : OwnZ w B e z p m c xs) (hr : Rd w q news) (hl : news.length = j * z) (h1c : ∀ u ∈ news, u.oneCell' = true)
    (hmax : m + j ≤ 9223372036854775807) (hby : (m + j) * bytes ≤ 140737488355328) (hB : B ≤ w.heap.size)
    (h : ∀ p' c2 k' J w', k' ≤ k → J.length = k' * z → OwnZ w' B e z p' (k' + (m - k + j)) c2 (J ++ (xs.drop (k * z) ++ news)) → w.grownBy w' (Value.ownBlock (.slice p m c)) → Below B w w' → (∀ b, p' = some ⟨b, 0, none⟩ → p = some ⟨b, 0, none⟩ ∨ w.heap.size ≤ b) → K ((d, .slice (cutZ p' c2 k' z) (m - k + j) (c2 - k')) :: L) w') : Step P n o L w K := by
  rcases hcp with rfl | ⟨hck, b0, o0, rfl⟩
  · exact Step.appendCut hop hd hlt ht hE hz hzp h1 h2 hkm hj hown hr hl h1c hmax hby hB h
  · have hle := hown.le_cap
    obtain rfl : m = k := by omega
    subst hck
    obtain ⟨i, hi, hz0, hsz, hbs⟩ := hE.parts
    subst hbs
    subst hsz
    intro a hk Q
    have e1 := hk.ev h1; have e2 := hk.ev h2
    have hlx := hown.length
    cases q with
    | none =>
      have hnews := hr.none_nil
      subst hnews
      have := Nat.mul_pos hj hzp
      simp at hl; omega
    | some ad =>
      have hxd : xs.drop (c * i.size) = [] := List.drop_eq_nil_of_le (by omega)
      rw [Nat.sub_self] at e1
      have hby2 : (0 + j) * i.bytes ≤ 140737488355328 := Nat.le_trans (Nat.mul_le_mul_right _ (by omega)) hby
      have hrun := run_append_grow (P := P) w t o.type e i z0 ht hi hz0 ⟨b0, o0, none⟩ 0 0 [] (by simp) (by simp) ad j c' news hl hr.cells (by omega) (by omega) (growslice_fits (by omega) hby2)
      simp only [Nat.zero_add] at hrun
      have hge := grownCap_ge w j 0 e
      have hcmx := grownCap_le_maxLen w j 0 e (by unfold maxLen; omega)
      have hg : w.grownBy (w.drew.alloc (.cells (([] : List Value).toArray ++ news.toArray ++ Builtin.zeroCells z0.cells (grownCap w j 0 e - j)) e)) (Value.ownBlock (.slice p c c)) := ⟨rfl, rfl, rfl, by simp, fun b hb _ => heap_alloc_old w.drew _ hb⟩
      unfold Oper.wp
      have hex : (execOp a.eval o).run P w = .ok (.value (.slice (some ⟨w.heap.size, 0, none⟩) j (grownCap w j 0 e))) (w.drew.alloc (.cells (([] : List Value).toArray ++ news.toArray ++ Builtin.zeroCells z0.cells (grownCap w j 0 e - j)) e)) := by
        simp [execOp, hop, resolve, invoke, builtin, e1, e2, hrun, Result.andThen]
      rw [hex, Oper.upon_value, hd]
      refine ⟨_, hk.put hlt _, ?_⟩
      have := h (some ⟨w.heap.size, 0, none⟩) (grownCap w j 0 e) 0 [] (w.drew.alloc (.cells (([] : List Value).toArray ++ news.toArray ++ Builtin.zeroCells z0.cells (grownCap w j 0 e - j)) e)) (Nat.zero_le _) (by simp) ?_ hg (below_of_ownz hown hg hB) (fun b hb => by cases hb; exact .inr (Nat.le_refl _))
      · rw [cutZ_zero, Nat.sub_self, Nat.sub_zero, Nat.zero_add] at this
        exact this
      · rw [hxd, List.nil_append, List.nil_append, Nat.sub_self, Nat.zero_add, Nat.zero_add]
        refine ⟨hl, .inr ⟨w.heap.size, _, _, rfl, hB, heap_alloc_new w.drew _, hge, hcmx, ?_, ?_⟩⟩
        · simp only [Array.size_append, List.size_toArray, size_zeroCells, hz, List.length_nil]
          rw [hl, Nat.zero_add, ← Nat.add_mul]
          congr 1; omega
        · simp only [Array.toList_append, List.append_assoc, List.nil_append]
          rw [← hl]
          exact List.take_left
end
end Go.Proofs.Ytbfcmfjdjldepaa.V
