/-
  A range over a function: the statement, and one round of it, by what lies in the loop's record.
-/
import Derived.Test.YtnaebllojkodbaaVin
import Derived.RangeFuncRecord
import Derived.RangeFuncOwn
namespace Go.Proofs.Ytnaebllojkodbaa.V
open Go Go.RowKit

/-- the loop's record -/
def recd (fn : FuncId) (tmps : Array Value) (t : Nat) (assign body : Code) (D : Nat) (st : LoopState) (pe : Option Code) : Loop := { state := st, pending := pe, fn, tmps, params := #[t], assign, body, defers := D }
/-- the world in which the function that is ranged over begins -/
def rangeW (w : World) (fn : FuncId) (tmps : Array Value) (t : Nat) (assign body : Code) : World := (w.alloc (.deferred (some []))).alloc (.loop (recd fn tmps t assign body w.heap.size .ready none))
theorem rangeW_size (w : World) (fn : FuncId) (tmps : Array Value) (t : Nat) (assign body : Code) : (rangeW w fn tmps t assign body).heap.size = w.heap.size + 2 := by simp [rangeW]
theorem rangeW_loop (w : World) (fn : FuncId) (tmps : Array Value) (t : Nat) (assign body : Code) : (rangeW w fn tmps t assign body).heap[w.heap.size + 1]? = some (.loop (recd fn tmps t assign body w.heap.size .ready none)) := by
  have := World.alloc_heap_new (w.alloc (.deferred (some []))) (.loop (recd fn tmps t assign body w.heap.size .ready none))
  rwa [World.size_alloc] at this
theorem rangeW_def (w : World) (fn : FuncId) (tmps : Array Value) (t : Nat) (assign body : Code) : (rangeW w fn tmps t assign body).heap[w.heap.size]? = some (.deferred (some [])) :=
  (Below.heap_alloc _ _ _ (by simp)).trans (World.alloc_heap_new w _)
theorem rangeW_below (w : World) (fn : FuncId) (tmps : Array Value) (t : Nat) (assign body : Code) : Below w.heap.size w (rangeW w fn tmps t assign body) :=
  ((Below.refl _ w).alloc (Nat.le_refl _) _).alloc (by simp) _

section
variable {m : Nat} {P : Program} {n : Nat} {L : Loc} {w : World} {Z : Exit → Act → World → Prop}
theorem RW.range {f : FuncId} {g : Operand} {lb : Array Value} {t : Nat} {assign body : Code} (hb : Body P f) (hg : ev L g = some (.func (.func f) #[] lb))
    (h : ∀ a fn, Know n L a → CallsV P f (#[.func (.yield (w.heap.size + 1)) #[] #[]] ++ lb) (rangeW w fn a.tmps t assign body) (fun v w3 => ∃ rec : Loop, w3.heap[w.heap.size + 1]? = some (.loop rec) ∧ rec.state ≠ .busy ∧
      (match rec.pending with
       | none => Z .normal ⟨a.tmps, [{ target := .collected w.heap.size, args := #[] }]⟩ (w3.putObj (w.heap.size + 1) (.loop { rec with state := .exhausted }))
       | some c => c.wpIn Fence.wide m P Z ⟨a.tmps, [{ target := .collected w.heap.size, args := #[] }]⟩ (w3.putObj (w.heap.size + 1) (.loop { rec with state := .exhausted }))))) :
    RW m P n (.rangeFunc g #[t] assign body) Z L w := by
  intro a ha
  refine wpIn_rangeFunc fun fn _ => ?_
  refine ⟨w.heap.size + 1, [{ target := .collected w.heap.size, args := #[] }], rangeW w fn a.tmps t assign body, { target := .fn (.func f) lb, args := #[.func (.yield (w.heap.size + 1)) #[] #[]] }, rangeW w fn a.tmps t assign body, f,
    #[.func (.yield (w.heap.size + 1)) #[] #[]] ++ lb, rangeW w fn a.tmps t assign body, run_enterLoop_outer _ _ _ _ _, ?_, fun _ _ => trivial, ?_, fun h9 => by simp [Fence.wide] at h9, ?_⟩
  · simp only [resolve, ha.ev hg]
    simp [go_sem, Act.eval]
  · have := run_callFunc hb (#[.func (.yield (w.heap.size + 1)) #[] #[]] ++ lb) (rangeW w fn a.tmps t assign body)
    simp [invoke, go_sem] at this ⊢
    exact this
  · refine CallsIn.mono (callsIn_wide.2 (h a fn ha)) ?_
    rintro e w3 ⟨v, rfl, rec, hl, hs, hq⟩
    refine ⟨rec.pending, _, run_endLoop hl hs, ?_⟩
    have : ({ a with defers := [{ target := .collected w.heap.size, args := #[] }] ++ a.defers } : Act) = ⟨a.tmps, [{ target := .collected w.heap.size, args := #[] }]⟩ := by rw [ha.def0]; rfl
    rw [this]
    revert hq
    cases rec.pending with
    | none => exact fun h => h
    | some c => exact fun h => h

/-- a round, by the walk of its code -/
theorem yield_of_round {fn : FuncId} {tmps : Array Value} {t D l : Nat} {assign body : Code} {v : Value} {R : Ending → World → Prop}
    (hl : w.heap[l]? = some (.loop (recd fn tmps t assign body D .ready none)))
    (h : assign.wpIn (FR (some l)) m P (Exit.then (fun a1 w1 => w1 = w ∧ body.wpIn (FR (some l)) m P (fun e _ w2 => w2.heap[l]? = some (.loop (recd fn tmps t assign body D .busy none)) ∧
        ((e = .normal ∧ R (.returned (.bool true)) (w2.putObj l (.loop (recd fn tmps t assign body D .ready none)))) ∨ (e = .ret ∧ R (.returned (.bool false)) (w2.putObj l (.loop (recd fn tmps t assign body D .done (some .ret))))))) a1
        (w.putObj l (.loop (recd fn tmps t assign body D .busy none)))) (fun _ _ _ => False)) ⟨tmps.setIfInBounds t v, []⟩ w) :
    YieldAt Fence.wide m P l #[v] w R := by
  have hy := run_yield (P := P) (args := #[v]) hl (by simp [recd])
  have hz : ((recd fn tmps t assign body D .ready none).params.zip #[v]).foldl (fun tmps (t, a) => tmps.setIfInBounds t a) (recd fn tmps t assign body D .ready none).tmps = tmps.setIfInBounds t v := by
    show (#[t].zip #[v]).foldl (fun tmps (t, a) => tmps.setIfInBounds t a) tmps = tmps.setIfInBounds t v
    rw [show #[t].zip #[v] = #[(t, v)] by simp]
    simp
  rw [hz] at hy
  refine ⟨fn, _, assign, body, hy, roundIn_of_wpIn trivial ?_⟩
  refine wpIn_mono (Q := Exit.then (fun a1 w1 => w1 = w ∧ body.wpIn (FR (some l)) m P (fun e _ w2 => w2.heap[l]? = some (.loop (recd fn tmps t assign body D .busy none)) ∧
        ((e = .normal ∧ R (.returned (.bool true)) (w2.putObj l (.loop (recd fn tmps t assign body D .ready none)))) ∨ (e = .ret ∧ R (.returned (.bool false)) (w2.putObj l (.loop (recd fn tmps t assign body D .done (some .ret))))))) a1
        (w.putObj l (.loop (recd fn tmps t assign body D .busy none)))) (fun _ _ _ => False)) h ?_
  rintro e a1 w1 hq
  cases e with
  | normal =>
    obtain ⟨rfl, hq⟩ := hq
    refine ⟨_, run_beginRound hl rfl, wpIn_mono hq ?_⟩
    rintro e2 a2 w2 ⟨hl2, ⟨rfl, hR⟩ | ⟨rfl, hR⟩⟩
    · exact ⟨_, _, run_endRound none hl2, hR⟩
    · exact ⟨_, _, run_endRound (some .ret) hl2, hR⟩
  | exit i => exact hq
  | goto l => exact hq
  | ret => exact hq
  | panic c => exact hq
  | outgrown => exact hq
end
end Go.Proofs.Ytnaebllojkodbaa.V
