/-
  From the reading of an argument to a list of steps.
-/
import Derived.Test.YtldcpihjoakigaaShipPlain
import Derived.Test.YtldcpihjoakigaaVlift
import Derived.Deep.Slices
namespace Go.Proofs.Ytldcpihjoakigaa
open Go Go.RowKit Go.ChangeShapes Go.WideShapes V

theorem sv_get {l : List St} : ∀ {i j : Nat}, i < l.length → j < 4 → (sv l)[i * 4 + j]? = (stc (gS l i))[j]? := by
  intro i j hi hj
  have h := (sv_at hi).1
  have h2 := congrArg (fun l => l[j]?) h
  simp only [List.getElem?_take, List.getElem?_drop, if_pos hj] at h2
  exact h2
theorem add_add (x : Addr) (i j : Nat) : (x.add i).add j = x.add (i + j) := by
  obtain ⟨b, off, s⟩ := x
  unfold Addr.add
  by_cases hi : i = 0
  · subst hi; simp
  · by_cases hj : j = 0
    · subst hj; simp [hi]
    · rw [if_neg hi, if_neg hj, if_neg (by omega)]; simp [Nat.add_assoc]
section
variable {H : Type} {enc : TypeId × Value → H} {P : Program} {W : World} {t e : TypeId} {a : Option Addr} {len cap : Nat} {d : DataW H} {ps : List MemPlace}
theorem arg_steps {f0 f1 f2 f3 : Field} (ht : P.underlying t = some (.slice e)) (he : P.underlying e = some (.struct #[f0, f1, f2, f3])) (hc : P.cellsOf e = 4)
    (o0 : f0.offset = 0 ∧ P.cellsOf f0.type = 1 ∧ P.underlying f0.type = some (.int .i64)) (o1 : f1.offset = 1 ∧ P.cellsOf f1.type = 1 ∧ P.underlying f1.type = some (.int .i64))
    (o2 : f2.offset = 2 ∧ P.cellsOf f2.type = 1 ∧ P.underlying f2.type = some (.int .i64)) (o3 : f3.offset = 3 ∧ P.cellsOf f3.type = 1 ∧ P.underlying f3.type = some (.int .u8))
    (h : DataW.Trod enc P W 0 (fun _ => true) true t (.slice a len cap) d ps) :
    ∃ l : List St, len = l.length ∧ l.length ≤ cap ∧ cap ≤ maxLen ∧ Rd W a (sv l) ∧ ∀ x ∈ l, x.val < 256 := by
  obtain ⟨fuel, hf⟩ := h
  rcases Go.Deep.open_slice ht hf with ⟨hcs, _⟩ | ⟨x, l, c, m, n, D, Pl, hcs, _, hl, hm, hmm, _, hall⟩
  · simp [Value.cells] at hcs
    obtain ⟨rfl, rfl, rfl⟩ := hcs
    exact ⟨[], rfl, Nat.le_refl _, by simp, Rd.nil _ _, by simp⟩
  · simp [Value.cells] at hcs
    obtain ⟨rfl, rfl, rfl⟩ := hcs
    simp only [if_true] at hmm
    subst hmm
    rw [hc] at hall
    have each : ∀ i, i < m → ∃ s : St, s.val < 256 ∧ ∀ j, j < 4 → W.cell? (x.add (i * 4 + j)) = (stc s)[j]? := by
      intro i hi
      obtain ⟨cs, h1, h2⟩ := hall i hi
      obtain ⟨xs, k, _, _, hlen, hxl, hfs⟩ := DataW.trod_struct he h2
      rw [hc] at hlen
      match cs, hlen, xs, hxl with
      | [c0, c1, c2, c3], _, [y0, y1, y2, y3], _ =>
        have t0 := hfs 0 f0 rfl
        have t1 := hfs 1 f1 rfl
        have t2 := hfs 2 f2 rfl
        have t3 := hfs 3 f3 rfl
        simp only [o0.1, o0.2.1, List.drop, List.take] at t0
        simp only [o1.1, o1.2.1, List.drop, List.take] at t1
        simp only [o2.1, o2.2.1, List.drop, List.take] at t2
        simp only [o3.1, o3.2.1, List.drop, List.take] at t3
        have g0 : ∃ z, c0 = .int .i64 z := by obtain ⟨z, hz, _⟩ := DataW.trod_int o0.2.2 t0; simp at hz; exact ⟨z, hz⟩
        have g1 : ∃ z, c1 = .int .i64 z := by obtain ⟨z, hz, _⟩ := DataW.trod_int o1.2.2 t1; simp at hz; exact ⟨z, hz⟩
        have g2 : ∃ z, c2 = .int .i64 z := by obtain ⟨z, hz, _⟩ := DataW.trod_int o2.2.2 t2; simp at hz; exact ⟨z, hz⟩
        have g3 : ∃ z : Nat, c3 = .int .u8 (z : Int) ∧ z < 256 := by
          obtain ⟨z, hz, _, hw⟩ := DataW.trod_int o3.2.2 t3
          obtain ⟨q8, rfl, hq8⟩ := wf_u8 hw
          simp at hz; exact ⟨q8, hz, hq8⟩
        obtain ⟨z0, rfl⟩ := g0
        obtain ⟨z1, rfl⟩ := g1
        obtain ⟨z2, rfl⟩ := g2
        obtain ⟨z3, rfl, h3⟩ := g3
        refine ⟨⟨z0, z1, z2, z3⟩, h3, fun j hj => ?_⟩
        have hcell := (World.cells?_some h1).2.2 j (by omega)
        rw [add_add] at hcell
        rw [hcell]; rfl
    have each2 : ∀ i, ∃ s : St, i < m → s.val < 256 ∧ ∀ j, j < 4 → W.cell? (x.add (i * 4 + j)) = (stc s)[j]? := fun i => by
      by_cases hi : i < m
      · obtain ⟨s, hs⟩ := each i hi; exact ⟨s, fun _ => hs⟩
      · exact ⟨⟨0, 0, 0, 0⟩, fun h => absurd h hi⟩
    obtain ⟨F, hF⟩ := Classical.axiomOfChoice each2
    refine ⟨(List.range len).map F, by simp, by simpa using hl, hm, rd_of_cells fun i u hu => ?_, fun y hy => ?_⟩
    · have hi := (List.getElem?_eq_some_iff.1 hu).1
      rw [sv_len, List.length_map, List.length_range] at hi
      have e1 : i = i / 4 * 4 + i % 4 := by omega
      have hq : i / 4 < len := by omega
      rw [e1, sv_get (by simpa using hq) (by omega)] at hu
      rw [show gS ((List.range len).map F) (i / 4) = F (i / 4) from by simp [gS, hq]] at hu
      have := (hF (i / 4) (by omega)).2 (i % 4) (by omega)
      rw [← e1] at this
      rw [this]; exact hu
    · obtain ⟨i, hi, rfl⟩ := List.mem_map.1 hy
      rw [List.mem_range] at hi
      exact (hF i (by omega)).1
end
end Go.Proofs.Ytldcpihjoakigaa
