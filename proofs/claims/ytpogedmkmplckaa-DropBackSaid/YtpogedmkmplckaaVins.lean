/-
  What slices.Insert asks of the memory: an own slice reaches further within its room; zeros behind some elements in a new block; two slices in two blocks do not overlap.
-/
import Derived.Test.YtpogedmkmplckaaVmem4
import Derived.Test.YtpogedmkmplckaaVext
import Derived.Test.YtpogedmkmplckaaVheap
namespace Go.Proofs.Ytpogedmkmplckaa.V
open Go Go.RowKit

theorem Own.extend {w : World} {B : Nat} {e : TypeId} {p : Option Addr} {m c k : Nat} {xs : List Value} (h : Own w B e p m c xs) (hm : m ≤ k) (hk : k ≤ c) (h0 : 0 < c) : ∃ ys : List Value, ys.length = k - m ∧ Own w B e p k c (xs ++ ys) := by
  obtain ⟨hl, ⟨hv, _⟩ | ⟨g, cap, cur, hv, hb, hg, h1, h2, h3, h4⟩⟩ := h
  · cases hv; omega
  · cases hv
    refine ⟨(cur.toList.drop m).take (k - m), ?_, ?_, .inr ⟨g, c, cur, rfl, hb, hg, hk, h2, h3, ?_⟩⟩
    · have : cur.toList.length = c := by rw [Array.length_toList, h3, Nat.mul_one]
      rw [List.length_take, List.length_drop]; omega
    · have : cur.toList.length = c := by rw [Array.length_toList, h3, Nat.mul_one]
      rw [List.length_append, hl, List.length_take, List.length_drop]; omega
    · rw [← h4, Nat.mul_one, Nat.mul_one]
      have e : k = m + (k - m) := by omega
      conv => lhs; rw [e]
      exact List.take_add
theorem Own.shape {w : World} {B : Nat} {e : TypeId} {p : Option Addr} {m c : Nat} {xs : List Value} (h : Own w B e p m c xs) (h0 : 0 < c) : ∃ g, p = some ⟨g, 0, none⟩ ∧ w.shape? g = some (e, c) ∧ ∀ k, w.frozen? ⟨g, k, none⟩ = false := by
  obtain ⟨hl, ⟨hv, _⟩ | ⟨g, cap, cur, hv, hb, hg, h1, h2, h3, h4⟩⟩ := h
  · cases hv; omega
  · cases hv
    refine ⟨g, rfl, ?_, fun k => ?_⟩
    · unfold World.shape?; rw [hg]; simp [h3]
    · unfold World.frozen?; simp only [hg]; simp
theorem Mem.re1 {w : World} {B : Nat} {a : Ob} {e : TypeId} {p : Option Addr} {m c m' : Nat} {xs xs' : List Value} {S : List Ob} (h : Mem w B (a :: ⟨e, p, m, c, xs⟩ :: S)) (ho : Own w B e p m' c xs') : Mem w B (a :: ⟨e, p, m', c, xs'⟩ :: S) := by
  refine ⟨fun o hq => ?_, ?_⟩
  · rcases List.mem_cons.1 hq with rfl | hq
    · exact h.all _ (List.mem_cons_self ..)
    · rcases List.mem_cons.1 hq with rfl | hq
      · exact ho
      · exact h.all _ (List.mem_cons_of_mem _ (List.mem_cons_of_mem _ hq))
  · have hap := h.apart
    rw [List.pairwise_cons, List.pairwise_cons] at hap ⊢
    refine ⟨fun o hq => ?_, fun o hq => hap.2.1 o hq, hap.2.2⟩
    rcases List.mem_cons.1 hq with rfl | hq
    · exact fun x y hx hy => hap.1 ⟨e, p, m, c, xs⟩ (List.mem_cons_self ..) x y hx hy
    · exact hap.1 o (List.mem_cons_of_mem _ hq)
section
variable {P : Program} {L : Loc} {x y z : Operand} {u v : Value} {t t' e tn : TypeId} {n : Nat} {K : Loc → World → Prop} {w : World} {o : Oper} {d : Nat}
/-- append(s[:i], make([]T, k)...) where there is no room -/
theorem Step.growOn {bytes i k c : Nat} {z0 : Value} {kn : IntKind} {p : Option Addr} {xs : List Value} (hop : o.op = .call { callee := .builtin .append, args := #[x, y], argTypes := #[t, tn] }) (hd : o.dst = some d) (hlt : d < n)
    (ht : P.underlying t = some (.slice e)) (htn : P.underlying tn = some (.int kn)) (hE : Elem P e 1 bytes z0) (hz : z0.cells = #[z0])
    (h1 : ev L x = some (.slice p i c)) (h2 : ev L y = some (.int .i64 (k : Int))) (hr : Rd w p xs) (hl : xs.length = i) (h0 : 0 < k) (hg : c < i + k) (hk : i + k ≤ 1000000) (hby : bytes ≤ 64)
    (h : ∀ w' G, Own w' w.heap.size e (some ⟨w.heap.size, 0, none⟩) (i + k) G (xs ++ List.replicate k z0) → Below w.heap.size w w' → K ((d, .slice (some ⟨w.heap.size, 0, none⟩) (i + k) G) :: L) w') : Step P n o L w K := by
  obtain ⟨ti, hi, hz0, hs, hb⟩ := hE.parts
  subst hb
  have hbk : (i + k) * ti.bytes ≤ 1000000 * 64 := Nat.mul_le_mul hk hby
  have hkk : k * ti.bytes ≤ (i + k) * ti.bytes := Nat.mul_le_mul_right _ (by omega)
  have hold : (Builtin.firstCells ti.size i (.slice p i c)).run P w.drew = .ok xs.toArray w.drew := by
    rw [hs]
    cases p with
    | none =>
      rw [hr.none_nil]
      exact run_firstCells_none ..
    | some ad => exact run_firstCells_some (P := P) w.drew 1 i ad i c xs (by omega) hr.drew.cells
  have hrun := Lib.run_append_grow_zeros (P := P) w t tn o.type e ti z0 .i64 kn ht htn hi hz0 p i c xs hold k h0 (by omega) hg (by omega) (by omega)
    (growslice_fits (need := i + k) (old := c) (bytes := ti.bytes) (by omega) (by omega))
  have hGn := grownCap_ge w (i + k) c e
  have hG63 := grownCap_le_maxLen w (i + k) c e (by unfold maxLen; omega)
  generalize grownCap w (i + k) c e = G at hrun hGn hG63
  have hzs : ∀ q, Builtin.zeroCells z0.cells q = Array.replicate q z0 := fun q => by
    rw [hz]; simp only [Builtin.zeroCells]
    refine Array.ext (by simp) fun j h1 h2 => ?_
    simp [Nat.mod_one]
  rw [hzs, hzs] at hrun
  have hown : Own (w.drew.alloc (.cells (xs.toArray ++ Array.replicate k z0 ++ Array.replicate (G - (i + k)) z0) e)) w.heap.size e (some ⟨w.heap.size, 0, none⟩) (i + k) G (xs ++ List.replicate k z0) := by
    refine ⟨by simp; omega, .inr ⟨w.heap.size, G, _, rfl, Nat.le_refl _, heap_alloc_new w.drew _, hGn, hG63, ?_, ?_⟩⟩
    · simp; omega
    · simp only [Array.toList_append, List.toList_toArray, Array.toList_replicate, Nat.mul_one]
      rw [List.take_append_of_le_length (by simp; omega), List.take_of_length_le (by simp; omega)]
  intro a hk2 Q
  have e1 := hk2.ev h1; have e2 := hk2.ev h2
  unfold Oper.wp
  have hex : (execOp a.eval o).run P w = .ok (.value (.slice (some ⟨w.heap.size, 0, none⟩) (i + k) G)) (w.drew.alloc (.cells (xs.toArray ++ Array.replicate k z0 ++ Array.replicate (G - (i + k)) z0) e)) := by
    simp only [execOp, hop, resolve, invoke, builtin, List.map_toArray, List.map_cons, List.map_nil, e1, e2]
    simp [hrun, Result.andThen]
  rw [hex, Oper.upon_value, hd]
  exact ⟨_, hk2.put hlt _, h _ G hown ((Below.refl _ w).drew.alloc (Nat.le_refl _) _)⟩
theorem Step.overlaps {f : FuncId} {tr : TypeId} {args : List Operand} {tys : Array TypeId} {bytes l lb cb ca la m c B : Nat} {z0 : Value} {pv p : Option Addr} {mv : Nat} {xv xs : List Value} {e' : TypeId} {S : List Ob} (hE : Ext P f (Extern.SlicesOverlaps.overlaps #[t, t] #[tr]))
    (hop : o.op = .call { callee := .value (.func f), args := args.toArray, argTypes := tys }) (hd : o.dst = some d) (hlt : d < n) (ha : argsV L args = some [.slice pv la ca, .slice (cutAt p c l) lb cb])
    (ht : P.underlying t = some (.slice e)) (hEl : Elem P e 1 bytes z0) (hM : Mem w B (⟨e', pv, mv, ca, xv⟩ :: ⟨e, p, m, c, xs⟩ :: S)) (h01 : 0 < ca) (h02 : 0 < c) (h : K ((d, .bool false) :: L) w) : Step P n o L w K := by
  obtain ⟨ti, hi, hz0, hs, hb⟩ := hEl.parts
  obtain ⟨gv, rfl, hsv, hfv⟩ := hM.o0.shape h01
  obtain ⟨g, rfl, hsg, hfg⟩ := hM.o1.shape h02
  have hne : gv ≠ g := (List.pairwise_cons.1 hM.apart).1 _ (List.mem_cons_self ..) gv g rfl rfl
  have hcut : ∃ off, cutAt (some ⟨g, 0, none⟩) c l = some ⟨g, off, none⟩ := by
    unfold cutAt
    split
    · exact ⟨0, rfl⟩
    · exact ⟨l, by rw [Option.map_some, Addr.add_lit, Nat.zero_add]⟩
  obtain ⟨off, hcut⟩ := hcut
  rw [hcut] at ha
  refine Step.callExt hE hop hd hlt ha ?_ h
  exact Lib.run_overlaps_apart (P := P) w t tr e ht ti.size (fun w => run_sizeOf hi w) ⟨gv, 0, none⟩ ⟨g, off, none⟩ la ca lb cb hne e' e ca c hsv hsg (by omega) (hfv 0) (hfv ca)
end
end Go.Proofs.Ytpogedmkmplckaa.V
