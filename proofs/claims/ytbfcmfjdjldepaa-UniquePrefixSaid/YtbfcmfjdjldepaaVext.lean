/-
  Calls of functions that the machine itself carries out: the first place of a byte, the comparison of two slices of bytes, whether two slices overlap.
-/
import Derived.Test.YtbfcmfjdjldepaaVgrow
import Derived.Test.YtbfcmfjdjldepaaVbase
import Derived.Lib.BytesEntry
import Derived.Lib.Overlaps
namespace Go.Proofs.Ytbfcmfjdjldepaa.V
open Go Go.RowKit

section
variable {P : Program} {L : Loc} {n : Nat} {K : Loc → World → Prop} {w : World} {o : Oper}

/-- the function has no body; this is what is carried out for it -/
structure Ext (P : Program) (f : FuncId) (e : Array Value → Sem Value) : Prop where
  out : ∃ fn, P.funcs[f]? = some fn ∧ (fn.name == "runtime.NumGoroutine") = false ∧ fn.body.isNone = true ∧ Extern.findNext fn = none ∧ Extern.find fn = some e

theorem Step.callExt {f : FuncId} {e : Array Value → Sem Value} {args : List Operand} {tys : Array TypeId} {vs : List Value} {v : Value} {d : Nat} (hE : Ext P f e)
    (hop : o.op = .call { callee := .value (.func f), args := args.toArray, argTypes := tys }) (hd : o.dst = some d) (hlt : d < n) (ha : argsV L args = some vs)
    (hr : (e vs.toArray).run P w = .ok v w) (h : K ((d, v) :: L) w) : Step P n o L w K := by
  intro a hk Q
  unfold Oper.wp
  have hargs : args.toArray.map a.eval = vs.toArray := by
    have := argsV_spec (fun e => hk.ev e) args vs ha
    simp [this]
  have hrun : (execOp a.eval o).run P w = .ok (.value v) w := by
    simp only [execOp, hop, resolve, hargs]
    have : a.eval (.func f) = .func (.func f) #[] #[] := rfl
    simp only [this, Deferred.ofValue]
    obtain ⟨fn, hf, hn, hb, h1, h2⟩ := hE.out
    have h3 := run_callFunc_extern (P := P) hf hn hb h1 h2 vs.toArray w
    simp only [hr, Result.andThen] at h3
    simp [go_sem, invoke, h3]
  rw [hrun, Oper.upon_value, hd]
  exact ⟨_, hk.put hlt v, h⟩

theorem cells_of_rd {p : Option Addr} {l : List Nat} {m : Nat} (hr : Rd w p (yv l)) (hm : l.length = m) (h0 : 0 < m) : ∃ b off, p = some ⟨b, off, none⟩ ∧ ∀ i, i < m → w.cell? ⟨b, off + i, none⟩ = some (.int .u8 ((l.map fun x : Nat => (x : Int)).getD i 0)) := by
  have h1 : 0 < l.length := by omega
  obtain ⟨b, off, rfl, _⟩ := hr 0 (.int .u8 (gn l 0 : Int)) (yv_at h1)
  refine ⟨b, off, rfl, fun i hi => ?_⟩
  obtain ⟨b', off', e, hc⟩ := hr i (.int .u8 (gn l i : Int)) (yv_at (by omega))
  cases e
  rw [hc]
  simp [gn, show i < l.length by omega]

theorem indexByte_first : ∀ (l : List Nat) (c : Nat), (∀ x ∈ l, x < 256) → c < 256 →
    (Lib.indexByte (Lib.bytesOf (l.map fun x : Nat => (x : Int))) (c : Int).toNat.toUInt8 = -1 ∧ ∀ j, j < l.length → gn l j ≠ c) ∨
    ∃ k, k < l.length ∧ gn l k = c ∧ (∀ j, j < k → gn l j ≠ c) ∧ Lib.indexByte (Lib.bytesOf (l.map fun x : Nat => (x : Int))) (c : Int).toNat.toUInt8 = (k : Int)
  | [], c, _, _ => .inl ⟨rfl, by simp⟩
  | x :: l, c, hl, hc => by
    have hx := hl x (List.mem_cons_self ..)
    have ih := indexByte_first l c (fun y hy => hl y (List.mem_cons_of_mem _ hy)) hc
    have hd : Lib.bytesOf ((x :: l).map fun x : Nat => (x : Int)) = x.toUInt8 :: Lib.bytesOf (l.map fun x : Nat => (x : Int)) := by simp [Lib.bytesOf]
    rw [hd]
    have hb : (x.toUInt8 == (c : Int).toNat.toUInt8) = decide (x = c) := by
      rw [Int.toNat_natCast]
      by_cases e : x = c
      · subst e; simp
      · rw [decide_eq_false e]
        have : x.toUInt8 ≠ c.toUInt8 := fun h => e (by
          have := congrArg UInt8.toNat h
          simp only [Nat.toUInt8, UInt8.toNat_ofNat'] at this
          omega)
        simpa using this
    unfold Lib.indexByte
    rw [hb]
    by_cases e : x = c
    · right
      refine ⟨0, by simp, by simp [gn, e], fun j hj => by omega, ?_⟩
      rw [decide_eq_true e]; rfl
    · rw [decide_eq_false e]
      rcases ih with ⟨h1, h2⟩ | ⟨k, h1, h2, h3, h4⟩
      · left
        refine ⟨by rw [h1]; rfl, fun j hj => ?_⟩
        cases j with
        | zero => simpa [gn] using e
        | succ j => have := h2 j (by simpa using hj); simpa [gn] using this
      · right
        refine ⟨k + 1, by simpa using h1, by simpa [gn] using h2, fun j hj => ?_, ?_⟩
        · cases j with
          | zero => simpa [gn] using e
          | succ j => have := h3 j (by omega); simpa [gn] using this
        · rw [h4]
          have : ((k : Int) == -1) = false := by simp
          rw [this]; simp

/-- the first place of a byte -/
theorem run_indexByte {p : Option Addr} {l : List Nat} {m c kc : Nat} (hr : Rd w p (yv l)) (hm : l.length = m) (hl : ∀ x ∈ l, x < 256) (hc : c < 256) :
    ∃ z : Int, (Extern.BytealgIndexByte.indexByte #[.slice p m kc, .int .u8 (c : Int)]).run P w = .ok (.int .i64 z) w ∧
      ((z = -1 ∧ ∀ j, j < m → gn l j ≠ c) ∨ ∃ k : Nat, z = (k : Int) ∧ k < m ∧ gn l k = c ∧ ∀ j, j < k → gn l j ≠ c) := by
  subst hm
  rcases Nat.eq_zero_or_pos l.length with h0 | h0
  · refine ⟨-1, ?_, .inl ⟨rfl, by omega⟩⟩
    cases p with
    | none => rw [h0]; exact Lib.run_indexByteNil (P := P) w 0 kc c
    | some a =>
      obtain ⟨b, off, s⟩ := a
      rw [h0]
      have hs := Lib.run_indexByteNil (P := P) w 0 kc c
      exact hs
  · obtain ⟨b, off, rfl, hcell⟩ := cells_of_rd hr rfl h0
    have h1 := Lib.run_indexByteSlice (P := P) w b off l.length kc (l.map fun x : Nat => (x : Int)) (by simp) hcell (c : Int)
    rcases indexByte_first l c hl hc with ⟨h2, h3⟩ | ⟨k, h2, h3, h4, h5⟩
    · exact ⟨-1, by rw [h1, h2], .inl ⟨rfl, h3⟩⟩
    · exact ⟨k, by rw [h1, h5], .inr ⟨k, rfl, h2, h3, h4⟩⟩
end
end Go.Proofs.Ytbfcmfjdjldepaa.V
