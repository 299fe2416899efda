/-
  Slices of slices of truth values that come in: each word lies where it lies; all of it is read.
-/
import Derived.Test.YtbfcmfjdjldepaaVlift
import Derived.Test.YtbfcmfjdjldepaaVheap
import Derived.Deep.Grids
namespace Go.Proofs.Ytbfcmfjdjldepaa.V
open Go Go.RowKit Go.ChangeShapes Go.WideShapes

structure Wd where
  p : Option Addr
  c : Nat
  l : List Bool
def wv (C : List Wd) : List Value := C.map fun x => .slice x.p x.l.length x.c
def gW (C : List Wd) (k : Nat) : Wd := C.getD k ⟨none, 0, []⟩
theorem gW_lt {C : List Wd} {k : Nat} (h : k < C.length) : gW C k = C[k] := by simp [gW, h]
theorem gW_mem {C : List Wd} {k : Nat} (h : k < C.length) : gW C k ∈ C := by rw [gW_lt h]; exact List.getElem_mem h
theorem wv_at {C : List Wd} {k : Nat} (h : k < C.length) : (wv C)[k]? = some (.slice (gW C k).p (gW C k).l.length (gW C k).c) := by simp [wv, gW, h]
theorem wv_lt {C : List Wd} {k : Nat} (h : k < C.length) : k < (wv C).length := by simpa [wv] using h
structure RdW (w : World) (p : Option Addr) (C : List Wd) : Prop where
  head : Rd w p (wv C)
  each : ∀ x ∈ C, Rd w x.p (bv x.l)
  cap : ∀ x ∈ C, x.l.length ≤ x.c ∧ x.c ≤ maxLen
theorem RdW.below {w w' : World} {p : Option Addr} {C : List Wd} (h : RdW w p C) (hb : Below w.heap.size w w') : RdW w' p C := ⟨h.head.below hb, fun x hx => (h.each x hx).below hb, h.cap⟩
theorem RdW.at {w : World} {p : Option Addr} {C : List Wd} (h : RdW w p C) {k : Nat} (hk : k < C.length) : Rd w (gW C k).p (bv (gW C k).l) := h.each _ (gW_mem hk)
theorem RdW.le {w : World} {p : Option Addr} {C : List Wd} (h : RdW w p C) {k : Nat} (hk : k < C.length) : (gW C k).l.length ≤ (gW C k).c := (h.cap _ (gW_mem hk)).1
theorem RdW.max {w : World} {p : Option Addr} {C : List Wd} (h : RdW w p C) {k : Nat} (hk : k < C.length) : (gW C k).l.length ≤ 9223372036854775807 := by
  have h1 := h.cap _ (gW_mem hk)
  have h2 : maxLen = 9223372036854775807 := rfl
  omega

section
variable {H : Type} {enc : TypeId × Value → H} {P : Program} {W : World} {t e q : TypeId} {a : Option Addr} {len cap : Nat} {d : DataW H} {ps : List MemPlace}
theorem arg_grid (ht : P.underlying t = some (.slice e)) (he : P.underlying e = some (.slice q)) (hq : P.underlying q = some .bool) (ce : P.cellsOf e = 1) (cq : P.cellsOf q = 1) (h : DataW.Trod enc P W 0 (fun _ => true) true t (.slice a len cap) d ps) :
    ∃ C : List Wd, len = C.length ∧ C.length ≤ cap ∧ cap ≤ maxLen ∧ RdW W a C := by
  obtain ⟨fuel, hf⟩ := h
  rcases Go.Deep.open_bool_rows ht he hq ce cq hf with ⟨hcs, _⟩ | ⟨x, l, c, A, Ln, Cp, B, hcs, _, hl, hm, _, hcell⟩
  · simp [Value.cells] at hcs
    obtain ⟨rfl, rfl, rfl⟩ := hcs
    exact ⟨[], rfl, Nat.le_refl _, by simp, Rd.nil _ _, by simp, by simp⟩
  · simp [Value.cells] at hcs
    obtain ⟨rfl, rfl, rfl⟩ := hcs
    refine ⟨(List.range len).map fun r => ⟨A r, Cp r, (List.range (Ln r)).map (B r)⟩, by simp, by simpa using hl, hm, rd_of_cells fun i u hu => ?_, fun y hy => ?_, fun y hy => ?_⟩
    · have hi : i < len := by simpa [wv] using (List.getElem?_eq_some_iff.1 hu).1
      simp [wv, hi] at hu
      rw [← hu]
      exact (hcell i (by omega)).1
    · obtain ⟨r, hr, rfl⟩ := List.mem_map.1 hy
      rw [List.mem_range] at hr
      obtain ⟨_, h2, _, h4, h5⟩ := hcell r (by omega)
      cases hA : A r with
      | none =>
        have hz : Ln r = 0 := by have := h4 hA; omega
        simp only [hz]
        exact Rd.nil _ _
      | some ad =>
        refine rd_of_cells fun i u hu => ?_
        have hi : i < Ln r := by simpa [bv] using (List.getElem?_eq_some_iff.1 hu).1
        simp [bv, hi] at hu
        rw [← hu]
        exact (h5 ad hA).2 i (by omega)
    · obtain ⟨r, hr, rfl⟩ := List.mem_map.1 hy
      rw [List.mem_range] at hr
      obtain ⟨_, h2, h3, _⟩ := hcell r (by omega)
      simpa using ⟨h2, h3⟩
end
end Go.Proofs.Ytbfcmfjdjldepaa.V
