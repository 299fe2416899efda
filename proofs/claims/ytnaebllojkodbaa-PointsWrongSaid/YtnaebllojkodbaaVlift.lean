/-
  From the reading of the arguments to what the walks ask: slices as lists.
-/
import Derived.Test.YtnaebllojkodbaaVbase
import Derived.WalkKit
import Derived.ProofKit
import Derived.OpenShut
import Derived.ChangeOld
import Derived.Below
import Derived.Deep.Grids
import Derived.JoinedCond
import Derived.SizedLaws
namespace Go.Proofs.Ytnaebllojkodbaa.V
open Go Go.RowKit Go.ChangeShapes Go.WideShapes

theorem rd_of_cells {w : World} {a : Addr} {cs : List Value} (h : ∀ i u, cs[i]? = some u → w.cell? (a.add i) = some u) : Rd w (some a) cs := by
  cases cs with
  | nil => exact Rd.nil _ _
  | cons x r =>
    have h0 := h 0 x rfl
    obtain ⟨b, off, spot⟩ := a
    have hs : spot = none := by simpa [Addr.add] using World.cell?_spot h0
    subst hs
    refine Rd.of fun j u hj => ?_
    have := h j u hj
    rwa [Addr.add_lit] at this

section
variable {H : Type} {enc : TypeId × Value → H} {P : Program} {W : World} {t e : TypeId} {a : Option Addr} {len cap : Nat} {d : DataW H} {ps : List MemPlace}

theorem arg_bools (ht : P.underlying t = some (.slice e)) (he : P.underlying e = some .bool) (hc : P.cellsOf e = 1) (h : DataW.Trod enc P W 0 (fun _ => true) true t (.slice a len cap) d ps) :
    ∃ bs : List Bool, len = bs.length ∧ bs.length ≤ cap ∧ cap ≤ maxLen ∧ Rd W a (bv bs) := by
  obtain ⟨fuel, hf⟩ := h
  rcases Go.Deep.open_bools ht he hc hf with ⟨hcs, _⟩ | ⟨x, l, c, B, hcs, _, hl, hm, _, hcell⟩
  · simp [Value.cells] at hcs
    obtain ⟨rfl, rfl, rfl⟩ := hcs
    exact ⟨[], rfl, Nat.le_refl _, by simp, Rd.nil _ _⟩
  · simp [Value.cells] at hcs
    obtain ⟨rfl, rfl, rfl⟩ := hcs
    refine ⟨(List.range len).map B, by simp, by simpa using hl, hm, rd_of_cells fun i u hu => ?_⟩
    have hi : i < len := by simpa [bv] using (List.getElem?_eq_some_iff.1 hu).1
    simp [bv, hi] at hu
    rw [← hu]
    exact hcell i (by omega)

theorem arg_ints_raw {k : IntKind} (ht : P.underlying t = some (.slice e)) (he : P.underlying e = some (.int k)) (hc : P.cellsOf e = 1) (h : DataW.Trod enc P W 0 (fun _ => true) true t (.slice a len cap) d ps) :
    ∃ zs : List Int, len = zs.length ∧ zs.length ≤ cap ∧ cap ≤ maxLen ∧ Rd W a (zs.map (Value.int k)) ∧ ∀ n ∈ zs, (Lit.int k n).wf = true := by
  obtain ⟨fuel, hf⟩ := h
  rcases open_ints ht he hc hf with ⟨hcs, _⟩ | ⟨x, l, c, zs, hcs, _, hl, hm, hz, _, hcell, hwz⟩
  · simp [Value.cells] at hcs
    obtain ⟨rfl, rfl, rfl⟩ := hcs
    exact ⟨[], rfl, Nat.le_refl _, by simp, Rd.nil _ _, by simp⟩
  · simp [Value.cells] at hcs
    obtain ⟨rfl, rfl, rfl⟩ := hcs
    have hz' : zs.length = cap := by simpa using hz
    refine ⟨zs.take len, by simp; omega, by simp; omega, hm, rd_of_cells fun i u hu => ?_, fun n hn => hwz n (List.mem_of_mem_take hn)⟩
    have hi : i < len ∧ i < zs.length := by
      have := (List.getElem?_eq_some_iff.1 hu).1
      simp at this
      omega
    rw [hcell i hi.2]
    simp [hi.1, hi.2] at hu
    simp [List.getD, hi.2, hu]

theorem arg_ints (ht : P.underlying t = some (.slice e)) (he : P.underlying e = some (.int .i64)) (hc : P.cellsOf e = 1) (h : DataW.Trod enc P W 0 (fun _ => true) true t (.slice a len cap) d ps) :
    ∃ zs : List Int, len = zs.length ∧ zs.length ≤ cap ∧ cap ≤ maxLen ∧ Rd W a (iv zs) ∧ ∀ n ∈ zs, -9223372036854775808 ≤ n ∧ n ≤ 9223372036854775807 := by
  obtain ⟨zs, h1, h2, h3, h4, h5⟩ := arg_ints_raw ht he hc h
  exact ⟨zs, h1, h2, h3, h4, fun n hn => by simpa [Lit.wf, IntKind.min, IntKind.max, IntKind.signed, IntKind.bits] using h5 n hn⟩

theorem map_toNat (k : IntKind) (zs : List Int) (h : ∀ n ∈ zs, 0 ≤ n) : zs.map (Value.int k) = (zs.map Int.toNat).map fun x : Nat => Value.int k (x : Int) := by
  rw [List.map_map]
  refine List.map_congr_left fun n hn => ?_
  have := h n hn
  simp [Int.toNat_of_nonneg this]

theorem arg_bytes (ht : P.underlying t = some (.slice e)) (he : P.underlying e = some (.int .u8)) (hc : P.cellsOf e = 1) (h : DataW.Trod enc P W 0 (fun _ => true) true t (.slice a len cap) d ps) :
    ∃ zs : List Nat, len = zs.length ∧ zs.length ≤ cap ∧ cap ≤ maxLen ∧ Rd W a (yv zs) ∧ ∀ n ∈ zs, n < 256 := by
  obtain ⟨zs, h1, h2, h3, h4, h5⟩ := arg_ints_raw ht he hc h
  have hb : ∀ n ∈ zs, 0 ≤ n ∧ n ≤ 255 := fun n hn => by simpa [Lit.wf, IntKind.min, IntKind.max, IntKind.signed, IntKind.bits] using h5 n hn
  refine ⟨zs.map Int.toNat, by simpa using h1, by simpa using h2, h3, ?_, fun n hn => ?_⟩
  · rw [map_toNat .u8 zs (fun n hn => (hb n hn).1)] at h4; exact h4
  · obtain ⟨z, hz, rfl⟩ := List.mem_map.1 hn
    have := hb z hz; omega

theorem arg_words (ht : P.underlying t = some (.slice e)) (he : P.underlying e = some (.int .u32)) (hc : P.cellsOf e = 1) (h : DataW.Trod enc P W 0 (fun _ => true) true t (.slice a len cap) d ps) :
    ∃ zs : List Nat, len = zs.length ∧ zs.length ≤ cap ∧ cap ≤ maxLen ∧ Rd W a (uv zs) ∧ ∀ n ∈ zs, n < 4294967296 := by
  obtain ⟨zs, h1, h2, h3, h4, h5⟩ := arg_ints_raw ht he hc h
  have hb : ∀ n ∈ zs, 0 ≤ n ∧ n ≤ 4294967295 := fun n hn => by simpa [Lit.wf, IntKind.min, IntKind.max, IntKind.signed, IntKind.bits] using h5 n hn
  refine ⟨zs.map Int.toNat, by simpa using h1, by simpa using h2, h3, ?_, fun n hn => ?_⟩
  · rw [map_toNat .u32 zs (fun n hn => (hb n hn).1)] at h4; exact h4
  · obtain ⟨z, hz, rfl⟩ := List.mem_map.1 hn
    have := hb z hz; omega

theorem arg_cap (ht : P.underlying t = some (.slice e)) (h : DataW.Trod enc P W 0 (fun _ => true) true t (.slice a len cap) d ps) : (cap = 0 ∧ d = .nil) ∨ ∃ el sp, d = .slice el sp ∧ el.length + sp.length = cap := by
  obtain ⟨fuel, hf⟩ := h
  rcases DataW.trod_slice ht hf with ⟨hcs, hx⟩ | ⟨a', len', cap', elems, rest, n, rfl, hcs, hx, hb, hl, hm, hel, _, hsp, _⟩
  · left
    simp [Value.cells] at hcs
    exact ⟨hcs.2.2, (Prod.mk.inj hx).1⟩
  · right
    simp [Value.cells] at hcs
    obtain ⟨rfl, rfl, rfl⟩ := hcs
    have := (hsp rfl).1
    exact ⟨_, _, (Prod.mk.inj hx).1, by simp; omega⟩
/-- the form's own reach: what a slice's room takes -/
theorem arg_reach {ts : List TypeId} {ds : List (DataW H)} {j : Nat} (hs : (DataW.weightsEach P ts ds).all (· ≤ reachBytes) = true) (hj : ts[j]? = some t) (hd : ds[j]? = some d) (ht : P.underlying t = some (.slice e))
    (h : DataW.Trod enc P W 0 (fun _ => true) true t (.slice a len cap) d ps) : cap * P.bytesOf e ≤ 140737488351232 := by
  rcases arg_cap ht h with ⟨h1, _⟩ | ⟨el, sp, h1, h2⟩
  · rw [h1]; simp
  · subst h1
    have := sized_slice hs hj hd ht
    rw [h2] at this
    exact Nat.le_trans this (by decide)
theorem wf_i64 {n : Int} (h : (Lit.int .i64 n).wf = true) : -9223372036854775808 ≤ n ∧ n ≤ 9223372036854775807 := by
  simpa [Lit.wf, IntKind.min, IntKind.max, IntKind.signed, IntKind.bits] using h
theorem wf_u8 {n : Int} (h : (Lit.int .u8 n).wf = true) : ∃ m : Nat, n = (m : Int) ∧ m < 256 := by
  have : 0 ≤ n ∧ n ≤ 255 := by simpa [Lit.wf, IntKind.min, IntKind.max, IntKind.signed, IntKind.bits] using h
  exact ⟨n.toNat, by omega, by omega⟩
theorem wf_u16 {n : Int} (h : (Lit.int .u16 n).wf = true) : ∃ m : Nat, n = (m : Int) ∧ m < 65536 := by
  have : 0 ≤ n ∧ n ≤ 65535 := by simpa [Lit.wf, IntKind.min, IntKind.max, IntKind.signed, IntKind.bits] using h
  exact ⟨n.toNat, by omega, by omega⟩
theorem wf_u32 {n : Int} (h : (Lit.int .u32 n).wf = true) : ∃ m : Nat, n = (m : Int) ∧ m < 4294967296 := by
  have : 0 ≤ n ∧ n ≤ 4294967295 := by simpa [Lit.wf, IntKind.min, IntKind.max, IntKind.signed, IntKind.bits] using h
  exact ⟨n.toNat, by omega, by omega⟩
end
end Go.Proofs.Ytnaebllojkodbaa.V
