/-
  Memory of structs and of slices of structs: own blocks whose elements take several cells, all together, no two in one block.
-/
import Derived.Test.YtbfcmfjdjldepaaVfin
import Derived.Laws.CopyRow
import Derived.Laws.Cells
namespace Go.Proofs.Ytbfcmfjdjldepaa.V
open Go Go.RowKit

/-- the call's own slice of elements of z cells; xs: all cells -/
def OwnZ (w : World) (B : Nat) (e : TypeId) (z : Nat) (p : Option Addr) (m c : Nat) (xs : List Value) : Prop := w.ownsRow B e z (.slice p m c) m xs

section
variable {w w' : World} {B : Nat} {e : TypeId} {z : Nat} {p : Option Addr} {m c : Nat} {xs : List Value}
theorem OwnZ.length (h : OwnZ w B e z p m c xs) : xs.length = m * z := h.1
theorem OwnZ.own (h : OwnZ w B e 1 p m c xs) : Own w B e p m c xs := h
theorem Own.toZ (h : Own w B e p m c xs) : OwnZ w B e 1 p m c xs := h
theorem OwnZ.nil (w : World) (B : Nat) (e : TypeId) (z : Nat) : OwnZ w B e z none 0 0 [] := World.ownsRow_nil w B e z
theorem OwnZ.rd (h : OwnZ w B e z p m c xs) : Rd w p xs := by
  intro j u hj
  rcases h.2 with ⟨hv, hm⟩ | ⟨g, cap, cur, hv, _, hg, _, _, _, ht⟩
  · have := h.length
    rw [hm, Nat.zero_mul] at this
    have := (List.getElem?_eq_some_iff.1 hj).1
    omega
  · cases hv
    refine ⟨g, 0, rfl, ?_⟩
    rw [Nat.zero_add, cell_of_row w g j cur e (0, 0) hg]
    rw [← ht, List.getElem?_take] at hj
    split at hj
    · simpa using hj
    · cases hj
theorem OwnZ.le_cap (h : OwnZ w B e z p m c xs) : m ≤ c := by
  rcases h.2 with ⟨hv, _⟩ | ⟨g, cap, cur, hv, _, _, hl, _⟩
  · cases hv; exact Nat.le_refl _
  · cases hv; exact hl
theorem OwnZ.cap_max (h : OwnZ w B e z p m c xs) : c ≤ maxLen := by
  rcases h.2 with ⟨hv, _⟩ | ⟨g, cap, cur, hv, _, _, _, hl, _⟩
  · cases hv; simp
  · cases hv; exact hl
theorem OwnZ.base {B' : Nat} (h : OwnZ w B e z p m c xs) (hB : B' ≤ B) : OwnZ w B' e z p m c xs := by
  refine ⟨h.1, ?_⟩
  rcases h.2 with h' | ⟨g, cap, cur, hv, hb, rest⟩
  · exact .inl h'
  · exact .inr ⟨g, cap, cur, hv, by omega, rest⟩
theorem OwnZ.block (h : OwnZ w B e z p m c xs) {b off : Nat} {s : Option Nat} (hp : p = some ⟨b, off, s⟩) : B ≤ b ∧ b < w.heap.size := by
  rcases h.2 with ⟨hv, _⟩ | ⟨g, cap, cur, hv, hb, hg, _⟩
  · cases hv; cases hp
  · cases hv; cases hp
    exact ⟨hb, (Array.getElem?_eq_some_iff.1 hg).1⟩
theorem OwnZ.grown {row : Option Nat} (h : OwnZ w B e z p m c xs) (hg : w.grownBy w' row) (hne : ∀ b off, p = some ⟨b, off, none⟩ → some b ≠ row) : OwnZ w' B e z p m c xs := by
  refine h.kept hg ?_
  cases p with
  | none => exact .inl rfl
  | some a =>
    right
    rcases h.2 with ⟨hv, _⟩ | ⟨g, cap, cur, hv, _⟩
    · cases hv
    · cases hv; exact hne g 0 rfl
theorem OwnZ.below (h : OwnZ w B e z p m c xs) (hb : Below w.heap.size w w') : OwnZ w' B e z p m c xs :=
  h.grown (row := none) ⟨hb.os, hb.tape, hb.output, hb.size, fun k hk _ => hb.block k hk⟩ (by simp)
theorem OwnZ.drew (h : OwnZ w B e z p m c xs) : OwnZ w.drew B e z p m c xs := h
theorem below_of_ownz (h : OwnZ w B e z p m c xs) (hg : w.grownBy w' (Value.ownBlock (.slice p m c))) (hB : B ≤ w.heap.size) : Below B w w' :=
  (Below.refl B w).grown hg hB fun k hk => (World.ownsRow.lt h k hk).1
theorem OwnZ.head (h : OwnZ w B e z p m c xs) (hm : 0 < m) : ∃ g, p = some ⟨g, 0, none⟩ := by
  rcases h.2 with ⟨hv, h0⟩ | ⟨g, cap, cur, hv, _⟩
  · omega
  · cases hv; exact ⟨g, rfl⟩
theorem OwnZ.headc {j : Nat} (h : OwnZ w B e z p m c xs) (hj : j < xs.length) : ∃ g, p = some ⟨g, 0, none⟩ := by
  refine h.head ?_
  have := h.length
  rcases Nat.eq_zero_or_pos m with h0 | h0
  · rw [h0, Nat.zero_mul] at this; omega
  · exact h0
theorem OwnZ.apart {B' m' c' z' : Nat} {e' : TypeId} {q : Option Addr} {ys : List Value} (h : OwnZ w B e z p m c xs) (hg : w.grownBy w' (Value.ownBlock (.slice q m' c'))) (hne : ∀ b b', p = some ⟨b, 0, none⟩ → q = some ⟨b', 0, none⟩ → b ≠ b')
    (hq : OwnZ w B' e' z' q m' c' ys) : OwnZ w' B e z p m c xs := by
  refine h.grown hg ?_
  intro b off hp
  have hp0 : off = 0 := by
    rcases h.2 with ⟨hv, _⟩ | ⟨g, cap, cur, hv, _⟩
    · cases hv; cases hp
    · cases hv; cases hp; rfl
  subst hp0
  rcases hq.2 with ⟨hv, _⟩ | ⟨g, cap, cur, hv, _⟩
  · cases hv; simp [Value.ownBlock]
  · cases hv
    have := hne b g hp rfl
    simp [Value.ownBlock, this]
/-- a shorter part of it, from its head on -/
theorem OwnZ.short {k : Nat} (h : OwnZ w B e z p m c xs) (hk : k ≤ m) : OwnZ w B e z p k c (xs.take (k * z)) := by
  have hkz : k * z ≤ m * z := Nat.mul_le_mul_right z hk
  refine ⟨by rw [List.length_take, h.length]; omega, ?_⟩
  rcases h.2 with ⟨hv, h0⟩ | ⟨g, cap, cur, hv, hb, hg, hl, hm, hs, ht⟩
  · cases hv
    obtain rfl : k = 0 := by omega
    exact .inl ⟨rfl, rfl⟩
  · cases hv
    refine .inr ⟨g, c, cur, rfl, hb, hg, by omega, hm, hs, ?_⟩
    rw [← ht, List.take_take, Nat.min_eq_left hkz]
end

structure Oz where
  e : TypeId
  z : Nat
  p : Option Addr
  m : Nat
  c : Nat
  xs : List Value
def Oz.off (a b : Oz) : Prop := ∀ x y, a.p = some ⟨x, 0, none⟩ → b.p = some ⟨y, 0, none⟩ → x ≠ y
theorem Oz.off.symm {a b : Oz} (h : a.off b) : b.off a := fun x y h1 h2 e => h y x h2 h1 e.symm
structure Mz (w : World) (B : Nat) (S : List Oz) : Prop where
  all : ∀ o ∈ S, OwnZ w B o.e o.z o.p o.m o.c o.xs
  apart : S.Pairwise Oz.off

section
variable {w w' : World} {B : Nat} {S : List Oz} {e : TypeId} {z : Nat} {p : Option Addr} {m c : Nat} {xs : List Value} {a0 a1 a2 a3 a4 a5 a6 : Oz}
theorem Mz.nil (w : World) (B : Nat) : Mz w B [] := ⟨fun _ h => (by cases h), List.Pairwise.nil⟩
theorem Mz.at (h : Mz w B S) {o : Oz} (ho : o ∈ S) : OwnZ w B o.e o.z o.p o.m o.c o.xs := h.all o ho
theorem Mz.o0 (h : Mz w B (⟨e, z, p, m, c, xs⟩ :: S)) : OwnZ w B e z p m c xs := h.all ⟨e, z, p, m, c, xs⟩ (by simp)
theorem Mz.o1 (h : Mz w B (a0 :: ⟨e, z, p, m, c, xs⟩ :: S)) : OwnZ w B e z p m c xs := h.all ⟨e, z, p, m, c, xs⟩ (by simp)
theorem Mz.o2 (h : Mz w B (a0 :: a1 :: ⟨e, z, p, m, c, xs⟩ :: S)) : OwnZ w B e z p m c xs := h.all ⟨e, z, p, m, c, xs⟩ (by simp)
theorem Mz.o3 (h : Mz w B (a0 :: a1 :: a2 :: ⟨e, z, p, m, c, xs⟩ :: S)) : OwnZ w B e z p m c xs := h.all ⟨e, z, p, m, c, xs⟩ (by simp)
theorem Mz.o4 (h : Mz w B (a0 :: a1 :: a2 :: a3 :: ⟨e, z, p, m, c, xs⟩ :: S)) : OwnZ w B e z p m c xs := h.all ⟨e, z, p, m, c, xs⟩ (by simp)
theorem Mz.o5 (h : Mz w B (a0 :: a1 :: a2 :: a3 :: a4 :: ⟨e, z, p, m, c, xs⟩ :: S)) : OwnZ w B e z p m c xs := h.all ⟨e, z, p, m, c, xs⟩ (by simp)
theorem Mz.o6 (h : Mz w B (a0 :: a1 :: a2 :: a3 :: a4 :: a5 :: ⟨e, z, p, m, c, xs⟩ :: S)) : OwnZ w B e z p m c xs := h.all ⟨e, z, p, m, c, xs⟩ (by simp)
theorem Mz.o7 (h : Mz w B (a0 :: a1 :: a2 :: a3 :: a4 :: a5 :: a6 :: ⟨e, z, p, m, c, xs⟩ :: S)) : OwnZ w B e z p m c xs := h.all ⟨e, z, p, m, c, xs⟩ (by simp)
theorem Mz.below (h : Mz w B S) (hb : Below w.heap.size w w') : Mz w' B S := ⟨fun o ho => (h.all o ho).below hb, h.apart⟩
theorem Mz.drew (h : Mz w B S) : Mz w.drew B S := ⟨fun o ho => (h.all o ho).drew, h.apart⟩
theorem Mz.base {B' : Nat} (h : Mz w B S) (hb : B' ≤ B) : Mz w B' S := ⟨fun o ho => (h.all o ho).base hb, h.apart⟩
theorem Mz.add (h : Mz w B S) (hB : B ≤ w.heap.size) (hb : Below w.heap.size w w') (ho : OwnZ w' w.heap.size e z p m c xs) : Mz w' B (⟨e, z, p, m, c, xs⟩ :: S) := by
  refine ⟨fun o hm => ?_, List.pairwise_cons.2 ⟨fun o hm x y hx hy => ?_, h.apart⟩⟩
  · rcases List.mem_cons.1 hm with rfl | hm
    · exact ho.base hB
    · exact (h.all o hm).below hb
  · have h1 := (ho.block hx).1
    have h2 := ((h.all o hm).block hy).2
    omega
theorem Mz.addNil (h : Mz w B S) (e : TypeId) (z : Nat) : Mz w B (⟨e, z, none, 0, 0, []⟩ :: S) :=
  ⟨fun o hm => (List.mem_cons.1 hm).elim (fun h => h ▸ OwnZ.nil w B e z) (h.all o), List.pairwise_cons.2 ⟨fun _ _ _ _ hx => (by cases hx), h.apart⟩⟩
theorem Mz.adds {S' : List Oz} (h : Mz w B S) (hB : B ≤ w.heap.size) (hb : Below w.heap.size w w') (ho : Mz w' w.heap.size S') : Mz w' B (S' ++ S) := by
  refine ⟨fun o hm => ?_, List.pairwise_append.2 ⟨ho.apart, h.apart, fun o1 h1 o2 h2 x y hx hy => ?_⟩⟩
  · rcases List.mem_append.1 hm with hm | hm
    · exact (ho.all o hm).base hB
    · exact (h.all o hm).below hb
  · have h3 := ((ho.all o1 h1).block hx).1
    have h4 := ((h.all o2 h2).block hy).2
    omega
theorem Mz.turn {S1 S2 : List Oz} {o : Oz} {p' : Option Addr} {m' c' z' : Nat} {xs' : List Value} (h : Mz w B (S1 ++ o :: S2)) (hg : w.grownBy w' (Value.ownBlock (.slice o.p o.m o.c)))
    (ho : OwnZ w' B e z' p' m' c' xs') (hk : ∀ b, p' = some ⟨b, 0, none⟩ → o.p = some ⟨b, 0, none⟩ ∨ w.heap.size ≤ b) : Mz w' B (S1 ++ ⟨e, z', p', m', c', xs'⟩ :: S2) := by
  have hoo := h.all o (by simp)
  have hap := List.pairwise_append.1 h.apart
  have hap2 := List.pairwise_cons.1 hap.2.1
  have off1 : ∀ q ∈ S1, q.off o := fun q hq => hap.2.2 q hq o (by simp)
  have off2 : ∀ q ∈ S2, o.off q := hap2.1
  have kept : ∀ q, q ∈ S1 ++ o :: S2 → q.off o → OwnZ w' B q.e q.z q.p q.m q.c q.xs := fun q hq hoff => (h.all q hq).apart hg hoff hoo
  have new : ∀ q, q ∈ S1 ++ o :: S2 → q.off o → ∀ x y, q.p = some ⟨x, 0, none⟩ → p' = some ⟨y, 0, none⟩ → x ≠ y := fun q hq hoff x y hx hy e => by
    subst e
    rcases hk x hy with h1 | h1
    · exact hoff x x hx h1 rfl
    · have := ((h.all q hq).block hx).2; omega
  refine ⟨fun q hq => ?_, List.pairwise_append.2 ⟨hap.1, List.pairwise_cons.2 ⟨fun q hq => ?_, hap2.2⟩, fun q hq r hr => ?_⟩⟩
  · rcases List.mem_append.1 hq with hq | hq
    · exact kept q (by simp [hq]) (off1 q hq)
    · rcases List.mem_cons.1 hq with rfl | hq
      · exact ho
      · exact kept q (by simp [hq]) (off2 q hq).symm
  · exact fun x y hx hy e => new q (by simp [hq]) (off2 q hq).symm y x hy hx e.symm
  · rcases List.mem_cons.1 hr with rfl | hr
    · exact fun x y hx hy => new q (by simp [hq]) (off1 q hq) x y hx hy
    · exact hap.2.2 q hq r (by simp [hr])
variable {p' : Option Addr} {m' c' z' : Nat} {xs' : List Value} {e' : TypeId}
theorem Mz.s0 (h : Mz w B (⟨e', z, p, m, c, xs⟩ :: S)) (hg : w.grownBy w' (Value.ownBlock (.slice p m c))) (ho : OwnZ w' B e z' p' m' c' xs') (hk : ∀ b, p' = some ⟨b, 0, none⟩ → p = some ⟨b, 0, none⟩ ∨ w.heap.size ≤ b) : Mz w' B (⟨e, z', p', m', c', xs'⟩ :: S) :=
  Mz.turn (S1 := []) (o := ⟨e', z, p, m, c, xs⟩) h hg ho hk
theorem Mz.s1 (h : Mz w B (a0 :: ⟨e', z, p, m, c, xs⟩ :: S)) (hg : w.grownBy w' (Value.ownBlock (.slice p m c))) (ho : OwnZ w' B e z' p' m' c' xs') (hk : ∀ b, p' = some ⟨b, 0, none⟩ → p = some ⟨b, 0, none⟩ ∨ w.heap.size ≤ b) : Mz w' B (a0 :: ⟨e, z', p', m', c', xs'⟩ :: S) :=
  Mz.turn (S1 := [a0]) (o := ⟨e', z, p, m, c, xs⟩) h hg ho hk
theorem Mz.s2 (h : Mz w B (a0 :: a1 :: ⟨e', z, p, m, c, xs⟩ :: S)) (hg : w.grownBy w' (Value.ownBlock (.slice p m c))) (ho : OwnZ w' B e z' p' m' c' xs') (hk : ∀ b, p' = some ⟨b, 0, none⟩ → p = some ⟨b, 0, none⟩ ∨ w.heap.size ≤ b) : Mz w' B (a0 :: a1 :: ⟨e, z', p', m', c', xs'⟩ :: S) :=
  Mz.turn (S1 := [a0, a1]) (o := ⟨e', z, p, m, c, xs⟩) h hg ho hk
theorem Mz.s3 (h : Mz w B (a0 :: a1 :: a2 :: ⟨e', z, p, m, c, xs⟩ :: S)) (hg : w.grownBy w' (Value.ownBlock (.slice p m c))) (ho : OwnZ w' B e z' p' m' c' xs') (hk : ∀ b, p' = some ⟨b, 0, none⟩ → p = some ⟨b, 0, none⟩ ∨ w.heap.size ≤ b) : Mz w' B (a0 :: a1 :: a2 :: ⟨e, z', p', m', c', xs'⟩ :: S) :=
  Mz.turn (S1 := [a0, a1, a2]) (o := ⟨e', z, p, m, c, xs⟩) h hg ho hk
theorem Mz.s4 (h : Mz w B (a0 :: a1 :: a2 :: a3 :: ⟨e', z, p, m, c, xs⟩ :: S)) (hg : w.grownBy w' (Value.ownBlock (.slice p m c))) (ho : OwnZ w' B e z' p' m' c' xs') (hk : ∀ b, p' = some ⟨b, 0, none⟩ → p = some ⟨b, 0, none⟩ ∨ w.heap.size ≤ b) : Mz w' B (a0 :: a1 :: a2 :: a3 :: ⟨e, z', p', m', c', xs'⟩ :: S) :=
  Mz.turn (S1 := [a0, a1, a2, a3]) (o := ⟨e', z, p, m, c, xs⟩) h hg ho hk
theorem Mz.s5 (h : Mz w B (a0 :: a1 :: a2 :: a3 :: a4 :: ⟨e', z, p, m, c, xs⟩ :: S)) (hg : w.grownBy w' (Value.ownBlock (.slice p m c))) (ho : OwnZ w' B e z' p' m' c' xs') (hk : ∀ b, p' = some ⟨b, 0, none⟩ → p = some ⟨b, 0, none⟩ ∨ w.heap.size ≤ b) : Mz w' B (a0 :: a1 :: a2 :: a3 :: a4 :: ⟨e, z', p', m', c', xs'⟩ :: S) :=
  Mz.turn (S1 := [a0, a1, a2, a3, a4]) (o := ⟨e', z, p, m, c, xs⟩) h hg ho hk
theorem Mz.s6 (h : Mz w B (a0 :: a1 :: a2 :: a3 :: a4 :: a5 :: ⟨e', z, p, m, c, xs⟩ :: S)) (hg : w.grownBy w' (Value.ownBlock (.slice p m c))) (ho : OwnZ w' B e z' p' m' c' xs') (hk : ∀ b, p' = some ⟨b, 0, none⟩ → p = some ⟨b, 0, none⟩ ∨ w.heap.size ≤ b) : Mz w' B (a0 :: a1 :: a2 :: a3 :: a4 :: a5 :: ⟨e, z', p', m', c', xs'⟩ :: S) :=
  Mz.turn (S1 := [a0, a1, a2, a3, a4, a5]) (o := ⟨e', z, p, m, c, xs⟩) h hg ho hk
theorem Mz.sub {S' : List Oz} (h : Mz w B S) (hs : S'.Sublist S) : Mz w B S' := ⟨fun o ho => h.all o (hs.subset ho), h.apart.sublist hs⟩
theorem Mz.perm {S' : List Oz} (h : Mz w B S) (hs : S'.Perm S) : Mz w B S' := ⟨fun o ho => h.all o (hs.mem_iff.1 ho), (List.Perm.pairwise_iff (fun h => Oz.off.symm h) hs).2 h.apart⟩
theorem Mz.tail (h : Mz w B (a0 :: S)) : Mz w B S := h.sub (List.sublist_cons_self _ _)
theorem Mz.drop1 (h : Mz w B (a0 :: a1 :: S)) : Mz w B (a0 :: S) := h.sub (List.Sublist.cons_cons _ (List.sublist_cons_self _ _))
theorem Mz.swap (h : Mz w B (a0 :: a1 :: S)) : Mz w B (a1 :: a0 :: S) := h.perm (List.Perm.swap _ _ _)
theorem Mz.one (h : OwnZ w B e z p m c xs) : Mz w B [⟨e, z, p, m, c, xs⟩] := ⟨fun o ho => by rw [List.mem_singleton] at ho; subst ho; exact h, List.pairwise_singleton _ _⟩
end

/-! ### Facts of types -/
def aggB (P : Program) (t : TypeId) (k : Nat) : Bool :=
  (match P.underlying t with | some (.struct _) => true | some (.array _ _) => true | _ => false) && ((P.info? t).map (fun i => i.size) == some k)
structure Agg (P : Program) (t : TypeId) (k : Nat) : Prop where
  out : aggB P t k = true
def fldB (P : Program) (s : TypeId) (f off : Nat) : Bool :=
  match P.underlying s with
  | some (.struct fs) => match fs[f]? with
    | some fl => fl.offset == off && ((P.info? fl.type).map (fun i => i.size != 0) == some true)
    | none => false
  | _ => false
structure Fld (P : Program) (s : TypeId) (f off : Nat) : Prop where
  out : fldB P s f off = true
/-- a struct all whose fields take one cell, in order -/
def flatB (P : Program) (s : TypeId) (k : Nat) : Bool :=
  match P.underlying s with
  | some (.struct fs) => fs.size == k && (List.range k).all fun i => match fs[i]? with
    | some fl => fl.offset == i && ((P.info? fl.type).map (fun i => i.size) == some 1) && (match P.underlying fl.type with | some (.struct _) => false | some (.array _ _) => false | some _ => true | none => false)
    | none => false
  | _ => false
structure Str (P : Program) (s : TypeId) (k : Nat) : Prop where
  out : flatB P s k = true

section
variable {P : Program} {t s e : TypeId} {w : World}
theorem Agg.run {k : Nat} (h : Agg P t k) (w : World) : (isAgg t).run P w = .ok true w ∧ (sizeOf t).run P w = .ok k w := by
  have h1 := h.out
  simp only [aggB, Bool.and_eq_true, beq_iff_eq] at h1
  obtain ⟨h1, h2⟩ := h1
  cases hi : P.info? t with
  | none => rw [hi] at h2; cases h2
  | some i =>
    rw [hi] at h2
    have hk : i.size = k := by simpa using h2
    subst hk
    refine ⟨?_, run_sizeOf hi w⟩
    cases hu : P.underlying t with
    | none => rw [hu] at h1; cases h1
    | some d =>
      unfold isAgg
      cases d <;> simp [run_underlying hu, go_sem] <;> (rw [hu] at h1; cases h1)
theorem run_fieldAt {f off : Nat} (h : Fld P s f off) (a : Addr) (w : World) : (Instr.fieldAt s (.pointer (some a)) f).run P w = .ok (.pointer (some (a.add off))) w := by
  have h1 := h.out
  unfold fldB at h1
  cases hu : P.underlying s with
  | none => rw [hu] at h1; cases h1
  | some d =>
    rw [hu] at h1
    cases d <;> try (cases h1; done)
    rename_i fs
    simp only at h1
    cases hf : fs[f]? with
    | none => rw [hf] at h1; cases h1
    | some fl =>
      rw [hf] at h1
      simp only [Bool.and_eq_true, beq_iff_eq] at h1
      obtain ⟨h2, h3⟩ := h1
      cases hi : P.info? fl.type with
      | none => rw [hi] at h3; cases h3
      | some i =>
        rw [hi] at h3
        have hs : i.size ≠ 0 := by simpa using h3
        have hsz := run_sizeOf (P := P) hi w
        subst h2
        simp [Instr.fieldAt, Instr.sureAddr, run_underlying hu, hf, fieldPlace, hsz, hs, go_sem]
end

section
variable {P : Program} {S : World → Prop} {L : Loc} {x y : Operand} {u v : Value} {t t' s e : TypeId} {n : Nat} {K : Loc → World → Prop} {w : World} {o : Oper} {d : Nat}

theorem Val.fieldAddr {p : Option Addr} {f off j : Nat} {cs : List Value} {w0 : World} (hF : Fld P s f off) (h1 : ev L x = some (.pointer (p.map (·.add j)))) (hr : Rd w0 p cs) (hl : j < cs.length) :
    Val P S (.fieldAddr s x f) L (.pointer (p.map (·.add (j + off)))) := by
  intro ρ ha w _ dst ty pos after guard
  have e1 := ha h1
  obtain ⟨b, o, rfl, _⟩ := hr j _ (List.getElem?_eq_getElem hl)
  have := run_fieldAt hF (⟨b, o + j, none⟩ : Addr) w
  show Sem.run P (do pure (Next.value (← Instr.fieldAt s (ρ x) f))) w = _
  rw [e1, Option.map_some, Addr.add_lit]
  refine run_v ?_
  rw [this]
  simp [Addr.add_lit, Nat.add_assoc]
/-- of a box -/
theorem Val.fieldAddr0 {g f off : Nat} (hF : Fld P s f off) (h1 : ev L x = some (.pointer (some ⟨g, 0, none⟩))) : Val P S (.fieldAddr s x f) L (.pointer ((some (⟨g, 0, none⟩ : Addr)).map (·.add off))) := by
  intro ρ ha w _ dst ty pos after guard
  have e1 := ha h1
  show Sem.run P (do pure (Next.value (← Instr.fieldAt s (ρ x) f))) w = _
  rw [e1]
  exact run_v (run_fieldAt hF _ w)
theorem Val.nilCheck {g : Nat} (h1 : ev L x = some (.pointer (some ⟨g, 0, none⟩))) : Val P S (.nilCheck x) L (.pointer (some ⟨g, 0, none⟩)) := by
  intro ρ ha w _ dst ty pos after guard
  have e1 := ha h1
  simp [execOp, e1, go_sem]

theorem run_loadAgg {k : Nat} (hA : Agg P t k) {p : Option Addr} {cs vs : List Value} {j : Nat} (hr : Rd w p cs) (hv : (cs.drop j).take k = vs) (hk : vs.length = k) (h0 : 0 < k) : (Instr.loadAt t (.pointer (p.map (·.add j)))).run P w = .ok (.agg vs.toArray) w := by
  obtain ⟨h1, h2⟩ := hA.run w
  have hg : ∀ i u, vs[i]? = some u → cs[j + i]? = some u := fun i u hi => by
    rw [← hv, List.getElem?_take] at hi
    split at hi
    · rwa [List.getElem?_drop] at hi
    · cases hi
  obtain ⟨b, off, rfl, _⟩ := hr (j + 0) _ (hg 0 _ (List.getElem?_eq_getElem (show 0 < vs.length by omega)))
  have hl := run_loadCells_list (P := P) w (⟨b, off + j, none⟩ : Addr) vs (fun i u hi => by
    obtain ⟨b', off', e, hc⟩ := hr _ _ (hg i u hi)
    cases e
    rw [Addr.add_lit, Nat.add_assoc]; exact hc)
  rw [hk] at hl
  unfold loadCells at hl
  rw [Option.map_some, Addr.add_lit]
  simp [Instr.loadAt, Instr.sureAddr, loadVar, h1, h2, hl, go_sem]
theorem Step.loadAgg {k : Nat} {p : Option Addr} {cs vs : List Value} {j : Nat} (hop : o.op = .load t x) (hd : o.dst = some d) (hlt : d < n) (hA : Agg P t k)
    (h1 : ev L x = some (.pointer (p.map (·.add j)))) (hr : Rd w p cs) (hv : (cs.drop j).take k = vs) (hk : vs.length = k) (h0 : 0 < k) (h : K ((d, .agg vs.toArray) :: L) w) : Step P n o L w K :=
  Step.ofRun hd hlt (fun ρ ha => by
    have e1 := ha h1
    have h3 := run_loadAgg hA hr hv hk h0 (P := P)
    obtain ⟨_, op, _, _, _, _⟩ := o
    cases hop
    show Sem.run P (do pure (Next.value (← Instr.loadAt t (ρ x)))) w = _
    rw [e1]
    exact run_v h3) h
theorem Val.loadAgg {k : Nat} {p : Option Addr} {cs vs : List Value} {j : Nat} (hA : Agg P t k) (h1 : ev L x = some (.pointer (p.map (·.add j)))) (hr : ∀ w, S w → Rd w p cs) (hv : (cs.drop j).take k = vs) (hk : vs.length = k) (h0 : 0 < k) : Val P S (.load t x) L (.agg vs.toArray) := by
  intro ρ ha w hS dst ty pos after guard
  have e1 := ha h1
  have h3 := run_loadAgg hA (hr w hS) hv hk h0 (P := P)
  show Sem.run P (do pure (Next.value (← Instr.loadAt t (ρ x)))) w = _
  rw [e1]
  exact run_v h3
theorem Step.loadAgg0 {k g : Nat} {cs : List Value} (hop : o.op = .load t x) (hd : o.dst = some d) (hlt : d < n) (hA : Agg P t k)
    (h1 : ev L x = some (.pointer (some ⟨g, 0, none⟩))) (hr : Rd w (some ⟨g, 0, none⟩) cs) (hk : cs.length = k) (h0 : 0 < k) (h : K ((d, .agg cs.toArray) :: L) w) : Step P n o L w K :=
  Step.loadAgg (j := 0) (p := some ⟨g, 0, none⟩) hop hd hlt hA h1 hr (by rw [List.drop_zero, List.take_of_length_le (by omega)]) hk h0 h
theorem Val.loadAgg0 {k g : Nat} {cs : List Value} (hA : Agg P t k) (h1 : ev L x = some (.pointer (some ⟨g, 0, none⟩))) (hr : ∀ w, S w → Rd w (some ⟨g, 0, none⟩) cs) (hk : cs.length = k) (h0 : 0 < k) : Val P S (.load t x) L (.agg cs.toArray) :=
  Val.loadAgg (j := 0) (p := some ⟨g, 0, none⟩) hA h1 hr (by rw [List.drop_zero, List.take_of_length_le (by omega)]) hk h0

/-! ### Blocks made -/
theorem Step.allocZ {size bytes : Nat} {z0 : Value} {xs : List Value} (hop : o.op = .alloc t) (hd : o.dst = some d) (hlt : d < n) (hE : Elem P t size bytes z0) (hz : z0.cells = xs.toArray) (hl : xs.length ≤ 1000000)
    (h : ∀ w', OwnZ w' w.heap.size t xs.length (some ⟨w.heap.size, 0, none⟩) 1 1 xs → w.grownBy w' none → Below w.heap.size w w' → w'.heap.size = w.heap.size + 1 → K ((d, .pointer (some ⟨w.heap.size, 0, none⟩)) :: L) w') : Step P n o L w K := by
  obtain ⟨i, hi, hz0, hs, _⟩ := hE.parts
  refine Step.ofRun (w' := w.alloc (.cells xs.toArray t)) hd hlt (fun ρ ha => ?_) (h _ ?_ (World.grownBy_alloc _ _ _) ((Below.refl _ _).alloc (Nat.le_refl _) _) (by simp))
  · obtain ⟨_, op, _, _, _, _⟩ := o
    cases hop
    show Sem.run P (do pure (Next.value (← Instr.alloc t true (.tuple #[])))) w = _
    refine run_v ?_
    have hzv : (zeroValue t).run P w = .ok z0 w := by simp [zeroValue, typeInfo, hi, hz0, go_sem]
    simp [Instr.alloc, hzv, newVar, newRow, go_sem]
    rw [← hz]; rfl
  · have := World.ownsRow_lit (e := t) (size := xs.length) w xs.toArray 1 (Nat.le_refl _) (by unfold maxLen; omega) (by simp)
    show World.ownsRow _ _ _ _ _ _ _
    simpa using this
theorem Step.boxZ {xs : List Value} (hop : o.op = .box t x) (hd : o.dst = some d) (hlt : d < n) (h1 : ev L x = some v) (hz : v.cells = xs.toArray)
    (h : ∀ w', OwnZ w' w.heap.size t xs.length (some ⟨w.heap.size, 0, none⟩) 1 1 xs → w.grownBy w' none → Below w.heap.size w w' → w'.heap.size = w.heap.size + 1 → K ((d, .pointer (some ⟨w.heap.size, 0, none⟩)) :: L) w') : Step P n o L w K := by
  refine Step.ofRun (w' := w.alloc (.cells xs.toArray t)) hd hlt (fun ρ ha => ?_) (h _ ?_ (World.grownBy_alloc _ _ _) ((Below.refl _ _).alloc (Nat.le_refl _) _) (by simp))
  · have e1 := ha h1
    obtain ⟨_, op, _, _, _, _⟩ := o
    cases hop
    show Sem.run P (do pure (Next.value (← Instr.box t (ρ x)))) w = _
    rw [e1]
    refine run_v ?_
    simp only [Instr.box, newVar, newRow, hz]
    simp [go_sem]
  · have := World.ownsRow_lit (e := t) (size := xs.length) w xs.toArray 1 (Nat.le_refl _) (by unfold maxLen; omega) (by simp)
    show World.ownsRow _ _ _ _ _ _ _
    simpa using this
end
end Go.Proofs.Ytbfcmfjdjldepaa.V
