/-
  The call's own slices, all together: a list of them, no two in one block.
-/
import Derived.Test.YtnaebllojkodbaaVmem5
namespace Go.Proofs.Ytnaebllojkodbaa.V
open Go Go.RowKit

/-- one own slice: its elements' type, where it lies, length, capacity, elements -/
structure Ob where
  e : TypeId
  p : Option Addr
  m : Nat
  c : Nat
  xs : List Value

def Ob.off (a b : Ob) : Prop := ∀ x y, a.p = some ⟨x, 0, none⟩ → b.p = some ⟨y, 0, none⟩ → x ≠ y
theorem Ob.off.symm {a b : Ob} (h : a.off b) : b.off a := fun x y h1 h2 e => h y x h2 h1 e.symm

structure Mem (w : World) (B : Nat) (S : List Ob) : Prop where
  all : ∀ o ∈ S, Own w B o.e o.p o.m o.c o.xs
  apart : S.Pairwise Ob.off

section
variable {w w' : World} {B : Nat} {S : List Ob} {e : TypeId} {p : Option Addr} {m c : Nat} {xs : List Value} {a0 a1 a2 a3 a4 a5 : Ob}

theorem Mem.nil (w : World) (B : Nat) : Mem w B [] := ⟨fun _ h => (by cases h), List.Pairwise.nil⟩
theorem Mem.at (h : Mem w B S) {o : Ob} (ho : o ∈ S) : Own w B o.e o.p o.m o.c o.xs := h.all o ho
theorem Mem.o0 (h : Mem w B (⟨e, p, m, c, xs⟩ :: S)) : Own w B e p m c xs := h.all ⟨e, p, m, c, xs⟩ (by simp)
theorem Mem.o1 (h : Mem w B (a0 :: ⟨e, p, m, c, xs⟩ :: S)) : Own w B e p m c xs := h.all ⟨e, p, m, c, xs⟩ (by simp)
theorem Mem.o2 (h : Mem w B (a0 :: a1 :: ⟨e, p, m, c, xs⟩ :: S)) : Own w B e p m c xs := h.all ⟨e, p, m, c, xs⟩ (by simp)
theorem Mem.o3 (h : Mem w B (a0 :: a1 :: a2 :: ⟨e, p, m, c, xs⟩ :: S)) : Own w B e p m c xs := h.all ⟨e, p, m, c, xs⟩ (by simp)
theorem Mem.o4 (h : Mem w B (a0 :: a1 :: a2 :: a3 :: ⟨e, p, m, c, xs⟩ :: S)) : Own w B e p m c xs := h.all ⟨e, p, m, c, xs⟩ (by simp)
theorem Mem.o5 (h : Mem w B (a0 :: a1 :: a2 :: a3 :: a4 :: ⟨e, p, m, c, xs⟩ :: S)) : Own w B e p m c xs := h.all ⟨e, p, m, c, xs⟩ (by simp)

theorem Mem.below (h : Mem w B S) (hb : Below w.heap.size w w') : Mem w' B S := ⟨fun o ho => (h.all o ho).below hb, h.apart⟩
theorem Mem.drew (h : Mem w B S) : Mem w.drew B S := ⟨fun o ho => (h.all o ho).drew, h.apart⟩
theorem Mem.base {B' : Nat} (h : Mem w B S) (hb : B' ≤ B) : Mem w B' S := ⟨fun o ho => (h.all o ho).base hb, h.apart⟩
/-- a slice that is new: its block lies behind all that was there -/
theorem Mem.add (h : Mem w B S) (hB : B ≤ w.heap.size) (hb : Below w.heap.size w w') (ho : Own w' w.heap.size e p m c xs) : Mem w' B (⟨e, p, m, c, xs⟩ :: S) := by
  refine ⟨fun o hm => ?_, List.pairwise_cons.2 ⟨fun o hm x y hx hy => ?_, h.apart⟩⟩
  · rcases List.mem_cons.1 hm with rfl | hm
    · exact ho.base hB
    · exact (h.all o hm).below hb
  · have h1 := (ho.block hx).1
    have h2 := ((h.all o hm).block hy).2
    omega
theorem Mem.addNil (h : Mem w B S) (e : TypeId) : Mem w B (⟨e, none, 0, 0, []⟩ :: S) :=
  ⟨fun o hm => (List.mem_cons.1 hm).elim (fun h => h ▸ Own.nil w B e) (h.all o), List.pairwise_cons.2 ⟨fun _ _ _ _ hx => (by cases hx), h.apart⟩⟩
/-- more than one new slice at once -/
theorem Mem.adds {S' : List Ob} (h : Mem w B S) (hB : B ≤ w.heap.size) (hb : Below w.heap.size w w') (ho : Mem w' w.heap.size S') : Mem w' B (S' ++ S) := by
  refine ⟨fun o hm => ?_, List.pairwise_append.2 ⟨ho.apart, h.apart, fun o1 h1 o2 h2 x y hx hy => ?_⟩⟩
  · rcases List.mem_append.1 hm with hm | hm
    · exact (ho.all o hm).base hB
    · exact (h.all o hm).below hb
  · have h3 := ((ho.all o1 h1).block hx).1
    have h4 := ((h.all o2 h2).block hy).2
    omega
/-- the slice in the middle has turned, the others not -/
theorem Mem.turn {S1 S2 : List Ob} {o : Ob} {p' : Option Addr} {m' c' : Nat} {xs' : List Value} (h : Mem w B (S1 ++ o :: S2)) (hg : w.grownBy w' (Value.ownBlock (.slice o.p o.m o.c)))
    (ho : Own w' B e p' m' c' xs') (hk : ∀ b, p' = some ⟨b, 0, none⟩ → o.p = some ⟨b, 0, none⟩ ∨ w.heap.size ≤ b) : Mem w' B (S1 ++ ⟨e, p', m', c', xs'⟩ :: S2) := by
  have hoo := h.all o (by simp)
  have hap := List.pairwise_append.1 h.apart
  have hap2 := List.pairwise_cons.1 hap.2.1
  have off1 : ∀ q ∈ S1, q.off o := fun q hq => hap.2.2 q hq o (by simp)
  have off2 : ∀ q ∈ S2, o.off q := hap2.1
  have kept : ∀ q, q ∈ S1 ++ o :: S2 → q.off o → Own w' B q.e q.p q.m q.c q.xs := fun q hq hoff => (h.all q hq).apart hg hoff hoo
  have new : ∀ q, q ∈ S1 ++ o :: S2 → q.off o → ∀ x y, q.p = some ⟨x, 0, none⟩ → p' = some ⟨y, 0, none⟩ → x ≠ y := fun q hq hoff x y hx hy e => by
    subst e
    rcases hk x hy with h1 | h1
    · exact hoff x x hx h1 rfl
    · have := ((h.all q hq).block hx).2; omega
  refine ⟨fun q hq => ?_, List.pairwise_append.2 ⟨hap.1, List.pairwise_cons.2 ⟨fun q hq => ?_, hap2.2⟩, fun q hq r hr => ?_⟩⟩
  · rcases List.mem_append.1 hq with hq | hq
    · exact kept q (by simp [hq]) (off1 q hq)
    · rcases List.mem_cons.1 hq with rfl | hq
      · exact ho
      · exact kept q (by simp [hq]) (off2 q hq).symm
  · exact fun x y hx hy e => new q (by simp [hq]) (off2 q hq).symm y x hy hx e.symm
  · rcases List.mem_cons.1 hr with rfl | hr
    · exact fun x y hx hy => new q (by simp [hq]) (off1 q hq) x y hx hy
    · exact hap.2.2 q hq r (by simp [hr])

variable {p' : Option Addr} {m' c' : Nat} {xs' : List Value} {e' : TypeId}
theorem Mem.s0 (h : Mem w B (⟨e', p, m, c, xs⟩ :: S)) (hg : w.grownBy w' (Value.ownBlock (.slice p m c))) (ho : Own w' B e p' m' c' xs') (hk : ∀ b, p' = some ⟨b, 0, none⟩ → p = some ⟨b, 0, none⟩ ∨ w.heap.size ≤ b) : Mem w' B (⟨e, p', m', c', xs'⟩ :: S) :=
  Mem.turn (S1 := []) (o := ⟨e', p, m, c, xs⟩) h hg ho hk
theorem Mem.s1 (h : Mem w B (a0 :: ⟨e', p, m, c, xs⟩ :: S)) (hg : w.grownBy w' (Value.ownBlock (.slice p m c))) (ho : Own w' B e p' m' c' xs') (hk : ∀ b, p' = some ⟨b, 0, none⟩ → p = some ⟨b, 0, none⟩ ∨ w.heap.size ≤ b) : Mem w' B (a0 :: ⟨e, p', m', c', xs'⟩ :: S) :=
  Mem.turn (S1 := [a0]) (o := ⟨e', p, m, c, xs⟩) h hg ho hk
theorem Mem.s2 (h : Mem w B (a0 :: a1 :: ⟨e', p, m, c, xs⟩ :: S)) (hg : w.grownBy w' (Value.ownBlock (.slice p m c))) (ho : Own w' B e p' m' c' xs') (hk : ∀ b, p' = some ⟨b, 0, none⟩ → p = some ⟨b, 0, none⟩ ∨ w.heap.size ≤ b) : Mem w' B (a0 :: a1 :: ⟨e, p', m', c', xs'⟩ :: S) :=
  Mem.turn (S1 := [a0, a1]) (o := ⟨e', p, m, c, xs⟩) h hg ho hk
theorem Mem.s3 (h : Mem w B (a0 :: a1 :: a2 :: ⟨e', p, m, c, xs⟩ :: S)) (hg : w.grownBy w' (Value.ownBlock (.slice p m c))) (ho : Own w' B e p' m' c' xs') (hk : ∀ b, p' = some ⟨b, 0, none⟩ → p = some ⟨b, 0, none⟩ ∨ w.heap.size ≤ b) : Mem w' B (a0 :: a1 :: a2 :: ⟨e, p', m', c', xs'⟩ :: S) :=
  Mem.turn (S1 := [a0, a1, a2]) (o := ⟨e', p, m, c, xs⟩) h hg ho hk
theorem Mem.s4 (h : Mem w B (a0 :: a1 :: a2 :: a3 :: ⟨e', p, m, c, xs⟩ :: S)) (hg : w.grownBy w' (Value.ownBlock (.slice p m c))) (ho : Own w' B e p' m' c' xs') (hk : ∀ b, p' = some ⟨b, 0, none⟩ → p = some ⟨b, 0, none⟩ ∨ w.heap.size ≤ b) : Mem w' B (a0 :: a1 :: a2 :: a3 :: ⟨e, p', m', c', xs'⟩ :: S) :=
  Mem.turn (S1 := [a0, a1, a2, a3]) (o := ⟨e', p, m, c, xs⟩) h hg ho hk

/-- some of them, in any order -/
theorem Mem.sub {S' : List Ob} (h : Mem w B S) (hs : S'.Sublist S) : Mem w B S' := ⟨fun o ho => h.all o (hs.subset ho), h.apart.sublist hs⟩
theorem Mem.perm {S' : List Ob} (h : Mem w B S) (hs : S'.Perm S) : Mem w B S' := ⟨fun o ho => h.all o (hs.mem_iff.1 ho), (List.Perm.pairwise_iff (fun h => Ob.off.symm h) hs).2 h.apart⟩
theorem Mem.tail (h : Mem w B (a0 :: S)) : Mem w B S := h.sub (List.sublist_cons_self _ _)
theorem Mem.head (h : Mem w B (a0 :: S)) : Mem w B [a0] := h.sub (List.singleton_sublist.2 (by simp))
theorem Mem.drop1 (h : Mem w B (a0 :: a1 :: S)) : Mem w B (a0 :: S) := h.sub (List.Sublist.cons_cons _ (List.sublist_cons_self _ _))
theorem Mem.swap (h : Mem w B (a0 :: a1 :: S)) : Mem w B (a1 :: a0 :: S) := h.perm (List.Perm.swap _ _ _)
theorem Mem.one (h : Own w B e p m c xs) : Mem w B [⟨e, p, m, c, xs⟩] := ⟨fun o ho => by rw [List.mem_singleton] at ho; subst ho; exact h, List.pairwise_singleton _ _⟩
/-- the elements as another word says them -/
theorem Mem.as {xs' : List Value} (h : Mem w B (⟨e, p, m, c, xs⟩ :: S)) (hx : xs = xs') : Mem w B (⟨e, p, m, c, xs'⟩ :: S) := hx ▸ h
end
theorem inl_block {w : World} {p : Option Addr} : ∀ b, p = some ⟨b, 0, none⟩ → p = some ⟨b, 0, none⟩ ∨ w.heap.size ≤ b := fun _ h => .inl h

section
variable {a b : List Bool} {i j : List Int} {m n : List Nat}
theorem bv_app1 {x : Bool} : bv a ++ [Value.bool x] = bv (a ++ [x]) := by simp [bv]
theorem bv_app : bv a ++ bv b = bv (a ++ b) := by simp [bv]
theorem bv_set {x : Bool} {k : Nat} : (bv a).set k (Value.bool x) = bv (a.set k x) := by simp [bv, List.map_set]
theorem bv_rep {x : Bool} {k : Nat} : List.replicate k (Value.bool x) = bv (List.replicate k x) := by simp [bv]
theorem bv_one {x : Bool} : [Value.bool x] = bv [x] := rfl
theorem bv_cons {x : Bool} : Value.bool x :: bv a = bv (x :: a) := rfl
theorem bv_take {k : Nat} : (bv a).take k = bv (a.take k) := by simp [bv, List.map_take]
theorem bv_drop {k : Nat} : (bv a).drop k = bv (a.drop k) := by simp [bv, List.map_drop]
theorem iv_app1 {x : Int} : iv i ++ [Value.int .i64 x] = iv (i ++ [x]) := by simp [iv]
theorem iv_app : iv i ++ iv j = iv (i ++ j) := by simp [iv]
theorem iv_set {x : Int} {k : Nat} : (iv i).set k (Value.int .i64 x) = iv (i.set k x) := by simp [iv, List.map_set]
theorem iv_rep {x : Int} {k : Nat} : List.replicate k (Value.int .i64 x) = iv (List.replicate k x) := by simp [iv]
theorem iv_one {x : Int} : [Value.int .i64 x] = iv [x] := rfl
theorem iv_cons {x : Int} : Value.int .i64 x :: iv i = iv (x :: i) := rfl
theorem iv_take {k : Nat} : (iv i).take k = iv (i.take k) := by simp [iv, List.map_take]
theorem iv_drop {k : Nat} : (iv i).drop k = iv (i.drop k) := by simp [iv, List.map_drop]
theorem nv_app1 {x : Nat} : nv m ++ [Value.int .i64 (x : Int)] = nv (m ++ [x]) := by simp [nv]
theorem nv_app : nv m ++ nv n = nv (m ++ n) := by simp [nv]
theorem nv_set {x k : Nat} : (nv m).set k (Value.int .i64 (x : Int)) = nv (m.set k x) := by simp [nv, List.map_set]
theorem nv_rep {k : Nat} : List.replicate k (Value.int .i64 0) = nv (List.replicate k 0) := by simp [nv]
theorem nv_one {x : Nat} : [Value.int .i64 (x : Int)] = nv [x] := rfl
theorem nv_cons {x : Nat} : Value.int .i64 (x : Int) :: nv m = nv (x :: m) := rfl
theorem nv_take {k : Nat} : (nv m).take k = nv (m.take k) := by simp [nv, List.map_take]
theorem nv_drop {k : Nat} : (nv m).drop k = nv (m.drop k) := by simp [nv, List.map_drop]
theorem uv_app1 {x : Nat} : uv m ++ [Value.int .u32 (x : Int)] = uv (m ++ [x]) := by simp [uv]
theorem uv_app : uv m ++ uv n = uv (m ++ n) := by simp [uv]
theorem uv_set {x k : Nat} : (uv m).set k (Value.int .u32 (x : Int)) = uv (m.set k x) := by simp [uv, List.map_set]
theorem uv_rep {k : Nat} : List.replicate k (Value.int .u32 0) = uv (List.replicate k 0) := by simp [uv]
theorem uv_one {x : Nat} : [Value.int .u32 (x : Int)] = uv [x] := rfl
theorem uv_cons {x : Nat} : Value.int .u32 (x : Int) :: uv m = uv (x :: m) := rfl
theorem uv_take {k : Nat} : (uv m).take k = uv (m.take k) := by simp [uv, List.map_take]
theorem uv_drop {k : Nat} : (uv m).drop k = uv (m.drop k) := by simp [uv, List.map_drop]
theorem yv_app1 {x : Nat} : yv m ++ [Value.int .u8 (x : Int)] = yv (m ++ [x]) := by simp [yv]
theorem yv_app : yv m ++ yv n = yv (m ++ n) := by simp [yv]
theorem yv_set {x k : Nat} : (yv m).set k (Value.int .u8 (x : Int)) = yv (m.set k x) := by simp [yv, List.map_set]
theorem yv_rep {k : Nat} : List.replicate k (Value.int .u8 0) = yv (List.replicate k 0) := by simp [yv]
theorem yv_one {x : Nat} : [Value.int .u8 (x : Int)] = yv [x] := rfl
theorem yv_cons {x : Nat} : Value.int .u8 (x : Int) :: yv m = yv (x :: m) := rfl
theorem yv_take {k : Nat} : (yv m).take k = yv (m.take k) := by simp [yv, List.map_take]
theorem yv_drop {k : Nat} : (yv m).drop k = yv (m.drop k) := by simp [yv, List.map_drop]
theorem one_v {f : Type} {g : f → Value} {l : List f} (h : ∀ x, (g x).oneCell' = true) : ∀ u ∈ l.map g, u.oneCell' = true := one_map g h l
end
section
variable {w : World} {p : Option Addr} {c k : Nat}
theorem Rd.take_bv {l : List Bool} (h : Rd w p (bv l)) : Rd w p (bv (l.take k)) := by rw [← bv_take]; exact h.take k
theorem Rd.cut_bv {l : List Bool} (h : Rd w p (bv l)) (hc : l.length ≤ c) : Rd w (cutAt p c k) (bv (l.drop k)) := by rw [← bv_drop]; exact h.cut (by simpa [bv] using hc)
theorem Rd.take_iv {l : List Int} (h : Rd w p (iv l)) : Rd w p (iv (l.take k)) := by rw [← iv_take]; exact h.take k
theorem Rd.cut_iv {l : List Int} (h : Rd w p (iv l)) (hc : l.length ≤ c) : Rd w (cutAt p c k) (iv (l.drop k)) := by rw [← iv_drop]; exact h.cut (by simpa [iv] using hc)
theorem Rd.take_nv {l : List Nat} (h : Rd w p (nv l)) : Rd w p (nv (l.take k)) := by rw [← nv_take]; exact h.take k
theorem Rd.cut_nv {l : List Nat} (h : Rd w p (nv l)) (hc : l.length ≤ c) : Rd w (cutAt p c k) (nv (l.drop k)) := by rw [← nv_drop]; exact h.cut (by simpa [nv] using hc)
theorem Rd.take_uv {l : List Nat} (h : Rd w p (uv l)) : Rd w p (uv (l.take k)) := by rw [← uv_take]; exact h.take k
theorem Rd.cut_uv {l : List Nat} (h : Rd w p (uv l)) (hc : l.length ≤ c) : Rd w (cutAt p c k) (uv (l.drop k)) := by rw [← uv_drop]; exact h.cut (by simpa [uv] using hc)
theorem Rd.take_yv {l : List Nat} (h : Rd w p (yv l)) : Rd w p (yv (l.take k)) := by rw [← yv_take]; exact h.take k
theorem Rd.cut_yv {l : List Nat} (h : Rd w p (yv l)) (hc : l.length ≤ c) : Rd w (cutAt p c k) (yv (l.drop k)) := by rw [← yv_drop]; exact h.cut (by simpa [yv] using hc)
end
end Go.Proofs.Ytnaebllojkodbaa.V
