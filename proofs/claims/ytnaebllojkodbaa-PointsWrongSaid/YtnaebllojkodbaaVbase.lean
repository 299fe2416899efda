/-
  Plain words that the walks' statements use: elements of lists, an iteration, all of it plain.
-/
import Derived.Test.YtnaebllojkodbaaVmem2
namespace Go.Proofs.Ytnaebllojkodbaa.V
open Go Go.RowKit

def gb (l : List Bool) (k : Nat) : Bool := l.getD k false
def gn (l : List Nat) (k : Nat) : Nat := l.getD k 0
def gz (l : List Int) (k : Nat) : Int := l.getD k 0

theorem gb_lt {l : List Bool} {k : Nat} (h : k < l.length) : gb l k = l[k] := by simp [gb, h]
theorem gn_lt {l : List Nat} {k : Nat} (h : k < l.length) : gn l k = l[k] := by simp [gn, h]
theorem gz_lt {l : List Int} {k : Nat} (h : k < l.length) : gz l k = l[k] := by simp [gz, h]

/-- f 0, f 1, .., one behind the other -/
def iter {σ : Type} (f : Nat → σ → σ) (s : σ) : Nat → σ
  | 0 => s
  | k + 1 => f k (iter f s k)
theorem iter_succ {σ : Type} (f : Nat → σ → σ) (s : σ) (k : Nat) : iter f s (k + 1) = f k (iter f s k) := rfl

abbrev bv (l : List Bool) : List Value := l.map Value.bool
abbrev iv (l : List Int) : List Value := l.map (Value.int .i64)
abbrev nv (l : List Nat) : List Value := l.map fun x : Nat => Value.int .i64 (x : Int)
abbrev uv (l : List Nat) : List Value := l.map fun x : Nat => Value.int .u32 (x : Int)
abbrev yv (l : List Nat) : List Value := l.map fun x : Nat => Value.int .u8 (x : Int)

theorem bv_at {l : List Bool} {k : Nat} (h : k < l.length) : (bv l)[k]? = some (.bool (gb l k)) := by simp [bv, gb, h]
theorem iv_at {l : List Int} {k : Nat} (h : k < l.length) : (iv l)[k]? = some (.int .i64 (gz l k)) := by simp [iv, gz, h]
theorem nv_at {l : List Nat} {k : Nat} (h : k < l.length) : (nv l)[k]? = some (.int .i64 (gn l k : Int)) := by simp [nv, gn, h]
theorem uv_at {l : List Nat} {k : Nat} (h : k < l.length) : (uv l)[k]? = some (.int .u32 (gn l k : Int)) := by simp [uv, gn, h]
theorem yv_at {l : List Nat} {k : Nat} (h : k < l.length) : (yv l)[k]? = some (.int .u8 (gn l k : Int)) := by simp [yv, gn, h]
theorem bv_lt {l : List Bool} {k : Nat} (h : k < l.length) : k < (bv l).length := by simpa [bv] using h
theorem iv_lt {l : List Int} {k : Nat} (h : k < l.length) : k < (iv l).length := by simpa [iv] using h
theorem nv_lt {l : List Nat} {k : Nat} (h : k < l.length) : k < (nv l).length := by simpa [nv] using h
theorem uv_lt {l : List Nat} {k : Nat} (h : k < l.length) : k < (uv l).length := by simpa [uv] using h
theorem yv_lt {l : List Nat} {k : Nat} (h : k < l.length) : k < (yv l).length := by simpa [yv] using h

theorem one_map {α : Type} (f : α → Value) (hf : ∀ a, (f a).oneCell' = true) (l : List α) : ∀ u ∈ l.map f, u.oneCell' = true := by
  intro u hu
  obtain ⟨a, _, rfl⟩ := List.mem_map.1 hu
  exact hf a
theorem one_bools (l : List Bool) : ∀ u ∈ bv l, u.oneCell' = true := one_map _ (fun _ => rfl) l

theorem gb_eq_of {a b : List Bool} (hl : a.length = b.length) (h : ∀ k, k < a.length → gb a k = gb b k) : a = b :=
  List.ext_getElem hl fun k h1 h2 => by rw [← gb_lt h1, ← gb_lt h2]; exact h k h1
theorem gn_eq_of {a b : List Nat} (hl : a.length = b.length) (h : ∀ k, k < a.length → gn a k = gn b k) : a = b :=
  List.ext_getElem hl fun k h1 h2 => by rw [← gn_lt h1, ← gn_lt h2]; exact h k h1
theorem gz_eq_of {a b : List Int} (hl : a.length = b.length) (h : ∀ k, k < a.length → gz a k = gz b k) : a = b :=
  List.ext_getElem hl fun k h1 h2 => by rw [← gz_lt h1, ← gz_lt h2]; exact h k h1

/-- the first index of n that passes; -1: none -/
def fI (pr : Nat → Bool) (n : Nat) : Int := match (List.range n).find? pr with | some i => (i : Int) | none => -1
theorem fI_none {pr : Nat → Bool} {n : Nat} (h : ∀ j, j < n → pr j = false) : fI pr n = -1 := by
  have : (List.range n).find? pr = none := List.find?_eq_none.2 fun x hx => by rw [h x (List.mem_range.1 hx)]; simp
  unfold fI; rw [this]
theorem fI_some {pr : Nat → Bool} {n i : Nat} (hi : i < n) (hp : pr i = true) (h : ∀ j, j < i → pr j = false) : fI pr n = (i : Int) := by
  have : (List.range n).find? pr = some i := by
    rw [List.find?_range_eq_some]
    exact ⟨hp, List.mem_range.2 hi, fun j hj => by rw [h j hj]; rfl⟩
  unfold fI; rw [this]
theorem fI_cases (pr : Nat → Bool) (n : Nat) : (fI pr n = -1 ∧ ∀ j, j < n → pr j = false) ∨ ∃ i, i < n ∧ pr i = true ∧ (∀ j, j < i → pr j = false) ∧ fI pr n = (i : Int) := by
  cases hf : (List.range n).find? pr with
  | none =>
    left
    refine ⟨by unfold fI; rw [hf], fun j hj => ?_⟩
    have := List.find?_eq_none.1 hf j (List.mem_range.2 hj)
    simpa using this
  | some i =>
    right
    rw [List.find?_range_eq_some] at hf
    exact ⟨i, List.mem_range.1 hf.2.1, hf.1, fun j hj => by simpa using hf.2.2 j hj, by
      unfold fI
      rw [show (List.range n).find? pr = some i from by rw [List.find?_range_eq_some]; exact hf]⟩
theorem fI_any (pr : Nat → Bool) (n : Nat) : decide (0 ≤ fI pr n) = (List.range n).any pr := by
  rcases fI_cases pr n with ⟨h1, h2⟩ | ⟨i, hi, hp, _, h4⟩
  · rw [h1]
    symm
    rw [show decide ((0 : Int) ≤ -1) = false from rfl, List.any_eq_false]
    intro x hx
    rw [h2 x (List.mem_range.1 hx)]; simp
  · rw [h4]
    symm
    rw [show decide ((0 : Int) ≤ (i : Int)) = true from by simp, List.any_eq_true]
    exact ⟨i, List.mem_range.2 hi, hp⟩
end Go.Proofs.Ytnaebllojkodbaa.V
