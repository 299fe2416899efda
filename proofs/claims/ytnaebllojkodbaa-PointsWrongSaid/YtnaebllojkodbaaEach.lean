/-
  points.each: all choices of places.
-/
import Derived.Test.YtnaebllojkodbaaFill
import Derived.Test.YtnaebllojkodbaaWrongPlain
import Derived.Test.YtnaebllojkodbaaVround
namespace Go.Proofs.Ytnaebllojkodbaa
open Go Go.RowKit V
set_option linter.unusedVariables false
set_option linter.unusedSimpArgs false

/-- the caller's invariant, through what the choices themselves do -/
structure JW (D B : Nat) (J : List (List Nat) → World → Prop) (pre : List (List Nat)) (w : World) : Prop where
  j : J pre w
  st : ∀ pre W W', J pre W → Below B W W' → J pre W'
  sz : B ≤ w.heap.size
  lp : ∀ pre W, J pre W → ∃ r, W.heap[D + 1]? = some (.loop r)
theorem JW.below {D B : Nat} {J : List (List Nat) → World → Prop} {pre : List (List Nat)} {w w' : World} (h : JW D B J pre w) (hb : Below w.heap.size w w') : JW D B J pre w' :=
  ⟨h.st _ _ _ h.j (hb.mono h.sz), h.st, Nat.le_trans h.sz hb.size, h.lp⟩
theorem JW.drew {D B : Nat} {J : List (List Nat) → World → Prop} {pre : List (List Nat)} {w : World} (h : JW D B J pre w) : JW D B J pre w.drew := h.below (Below.refl _ w).drew
theorem JW.off {D B : Nat} {J : List (List Nat) → World → Prop} {pre : List (List Nat)} {w w' : World} (h : JW D B J pre w) (hb : Below B w w') : JW D B J pre w' :=
  ⟨h.st _ _ _ h.j hb, h.st, Nat.le_trans h.sz hb.size, h.lp⟩
theorem y_bool {e : Ending} {A C : Prop} (h : (e = .returned (.bool true) ∧ A) ∨ (e = .returned (.bool false) ∧ C)) : ∃ b : Bool, e = .returned (.bool b) ∧ (b = true → A) ∧ (b = false → C) := by
  rcases h with ⟨rfl, h⟩ | ⟨rfl, h⟩
  · exact ⟨true, rfl, fun _ => h, (fun h => by cases h)⟩
  · exact ⟨false, rfl, (fun h => by cases h), fun _ => h⟩
/-- what a round is asked to do with a choice -/
def YOk (D B n k : Nat) (J : List (List Nat) → World → Prop) (Jx : World → Prop) : Prop :=
  ∀ (pre : List (List Nat)) (ps : List Nat) (p : Option Addr) (m c : Nat) (W : World), J pre W → B ≤ W.heap.size → Rd W p (nv ps) → ps.length = m → Ch n k ps →
    YieldAt Fence.wide 0 Try.prog (D + 1) #[.slice p m c] W fun e W' => (e = .returned (.bool true) ∧ J (pre ++ [ps]) W' ∧ KeptBut (D + 1) W W' ∧ Below D W W') ∨ (e = .returned (.bool false) ∧ Jx W' ∧ ∀ b, D + 2 ≤ b → b < W.heap.size → W'.heap[b]? = W.heap[b]?)

end Go.Proofs.Ytnaebllojkodbaa
