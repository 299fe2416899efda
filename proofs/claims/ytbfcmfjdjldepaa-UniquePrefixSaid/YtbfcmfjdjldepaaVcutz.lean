/-
  Parts of slices whose elements take more than one cell.
-/
import Derived.Test.YtbfcmfjdjldepaaVz4
namespace Go.Proofs.Ytbfcmfjdjldepaa.V
open Go Go.RowKit

def cutZ (p : Option Addr) (c l size : Nat) : Option Addr := if c = l then p else p.map (·.add (l * size))
theorem cutZ_zero (p : Option Addr) (c size : Nat) : cutZ p c 0 size = p := by
  unfold cutZ
  split
  · rfl
  · cases p <;> simp [Addr.add]
theorem Rd.cutz {w : World} {p : Option Addr} {cs : List Value} {c l size : Nat} (h : Rd w p cs) (hc : cs.length ≤ c * size) : Rd w (cutZ p c l size) (cs.drop (l * size)) := by
  intro j u hj
  rw [List.getElem?_drop] at hj
  obtain ⟨b, off, e, hcell⟩ := h _ u hj
  have hlt : l * size + j < cs.length := (List.getElem?_eq_some_iff.1 hj).1
  unfold cutZ
  rw [if_neg (by intro e; subst e; omega), e]
  refine ⟨b, off + l * size, by simp [Addr.add_lit], ?_⟩
  rw [Nat.add_assoc]; exact hcell
theorem Rd.takez {w : World} {p : Option Addr} {cs : List Value} (h : Rd w p cs) (k : Nat) : Rd w p (cs.take k) := h.take k

section
variable {P : Program} {S : World → Prop} {L : Loc} {x y z : Operand} {t e : TypeId}
theorem Val.sliceZ {size bytes : Nat} {z0 : Value} {p : Option Addr} {m c l h : Nat} (lo hi : Option Operand) (ht : P.underlying t = some (.slice e)) (hE : Elem P e size bytes z0)
    (h1 : ev L x = some (.slice p m c))
    (hlo : (lo = none ∧ l = 0) ∨ ∃ y k, lo = some y ∧ ev L y = some (.int k (l : Int))) (hhi : (hi = none ∧ h = m) ∨ ∃ y k, hi = some y ∧ ev L y = some (.int k (h : Int))) (hlh : l ≤ h) (hhc : h ≤ c) :
    Val P S (.slice t x lo hi none) L (.slice (cutZ p c l size) (h - l) (c - l)) := by
  intro ρ ha w _ dst ty pos after guard
  have e1 := ha h1
  obtain ⟨i, hi', hz, hs, _⟩ := hE.parts
  have hcut : (if c = l then p else Option.map (fun x => x.add (l * size)) p) = cutZ p c l size := rfl
  have hch : (h : Int) ≤ (c : Int) := by omega
  have hl' : (l : Int) ≤ (h : Int) := by omega
  rcases hlo with ⟨rfl, rfl⟩ | ⟨y1, k1, rfl, h2⟩ <;> rcases hhi with ⟨rfl, rfl⟩ | ⟨y2, k2, rfl, h3⟩
  · rw [Nat.zero_mul] at hcut
    simp [execOp, e1, Instr.sliceAt, Instr.slice, Instr.sliceBounds, run_underlying ht, run_sizeOf hi', hs, ← hcut, go_sem]
  · have e3 := ha h3
    rw [Nat.zero_mul] at hcut
    simp [execOp, e1, e3, Instr.sliceAt, Instr.slice, Instr.sliceBounds, Instr.sliceBound, asIntOf, run_underlying ht, run_sizeOf hi', hs, ← hcut, hhc, go_sem]
  · have e2 := ha h2
    simp [execOp, e1, e2, Instr.sliceAt, Instr.slice, Instr.sliceBounds, Instr.sliceBound, asIntOf, run_underlying ht, run_sizeOf hi', hs, ← hcut, hlh, go_sem]
  · have e2 := ha h2; have e3 := ha h3
    simp [execOp, e1, e2, e3, Instr.sliceAt, Instr.slice, Instr.sliceBounds, Instr.sliceBound, asIntOf, run_underlying ht, run_sizeOf hi', hs, ← hcut, hhc, hlh, go_sem]
theorem Val.sliceToZ {size bytes : Nat} {z0 : Value} {p : Option Addr} {m c h : Nat} {k : IntKind} (ht : P.underlying t = some (.slice e)) (hE : Elem P e size bytes z0)
    (h1 : ev L x = some (.slice p m c)) (h2 : ev L y = some (.int k (h : Int))) (hhc : h ≤ c) : Val P S (.slice t x none (some y) none) L (.slice p h c) := by
  have := Val.sliceZ (S := S) (l := 0) none (some y) ht hE h1 (.inl ⟨rfl, rfl⟩) (.inr ⟨y, k, rfl, h2⟩) (Nat.zero_le _) hhc
  rw [cutZ_zero] at this
  exact this
theorem Val.sliceFromZ {size bytes : Nat} {z0 : Value} {p : Option Addr} {m c l : Nat} {k : IntKind} (ht : P.underlying t = some (.slice e)) (hE : Elem P e size bytes z0)
    (h1 : ev L x = some (.slice p m c)) (h2 : ev L y = some (.int k (l : Int))) (hlm : l ≤ m) (hmc : m ≤ c) : Val P S (.slice t x (some y) none none) L (.slice (cutZ p c l size) (m - l) (c - l)) :=
  Val.sliceZ (S := S) (some y) none ht hE h1 (.inr ⟨y, k, rfl, h2⟩) (.inl ⟨rfl, rfl⟩) hlm hmc
theorem Val.sliceFromToZ {size bytes : Nat} {z0 : Value} {p : Option Addr} {m c l h : Nat} {k k' : IntKind} (ht : P.underlying t = some (.slice e)) (hE : Elem P e size bytes z0)
    (h1 : ev L x = some (.slice p m c)) (h2 : ev L y = some (.int k (l : Int))) (h3 : ev L z = some (.int k' (h : Int))) (hlh : l ≤ h) (hhc : h ≤ c) : Val P S (.slice t x (some y) (some z) none) L (.slice (cutZ p c l size) (h - l) (c - l)) :=
  Val.sliceZ (S := S) (some y) (some z) ht hE h1 (.inr ⟨y, k, rfl, h2⟩) (.inr ⟨z, k', rfl, h3⟩) hlh hhc
end
end Go.Proofs.Ytbfcmfjdjldepaa.V
