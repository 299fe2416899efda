/-
  The comparison of two slices of bytes that the machine itself carries out, by the numbers that the bytes write.
-/
import Derived.Test.YtcoplafphgpmpaaVext
namespace Go.Proofs.Ytcoplafphgpmpaa.V
open Go Go.RowKit

/-- bytes as a number -/
def vb : List Nat → Nat
  | [] => 0
  | x :: l => x * 256 ^ l.length + vb l
theorem vb_lt : ∀ {l : List Nat}, (∀ x ∈ l, x < 256) → vb l < 256 ^ l.length
  | [], _ => by simp [vb]
  | x :: l, h => by
    have h1 := vb_lt (l := l) fun y hy => h y (List.mem_cons_of_mem _ hy)
    have h2 := h x (List.mem_cons_self ..)
    have h3 := Nat.mul_le_mul_right (256 ^ l.length) (show x + 1 ≤ 256 by omega)
    rw [vb, List.length_cons, Nat.pow_succ, Nat.mul_comm (256 ^ l.length) 256]
    rw [Nat.add_mul] at h3; omega
theorem u8_lt {x y : Nat} (hx : x < 256) (hy : y < 256) : ((x : Int).toNat.toUInt8 < (y : Int).toNat.toUInt8) ↔ x < y := by
  rw [Int.toNat_natCast, Int.toNat_natCast, UInt8.lt_iff_toNat_lt]
  simp only [Nat.toUInt8, UInt8.toNat_ofNat']
  omega
theorem cmp_vb : ∀ (a b : List Nat), a.length = b.length → (∀ x ∈ a, x < 256) → (∀ x ∈ b, x < 256) →
    (Lib.compareBytes (Lib.bytesOf (a.map fun x : Nat => (x : Int))) (Lib.bytesOf (b.map fun x : Nat => (x : Int))) < 0 ↔ vb a < vb b)
  | [], [], _, _, _ => by simp [Lib.bytesOf, Lib.compareBytes, vb]
  | x :: a, y :: b, h, ha, hb => by
    have ih := cmp_vb a b (by simpa using h) (fun z hz => ha z (List.mem_cons_of_mem _ hz)) (fun z hz => hb z (List.mem_cons_of_mem _ hz))
    have hx := ha x (List.mem_cons_self ..)
    have hy := hb y (List.mem_cons_self ..)
    have la := vb_lt (l := a) fun z hz => ha z (List.mem_cons_of_mem _ hz)
    have lb := vb_lt (l := b) fun z hz => hb z (List.mem_cons_of_mem _ hz)
    have hl : a.length = b.length := by simpa using h
    have e : ∀ (z : Nat) (l : List Nat), Lib.bytesOf ((z :: l).map fun x : Nat => (x : Int)) = (z : Int).toNat.toUInt8 :: Lib.bytesOf (l.map fun x : Nat => (x : Int)) := fun z l => by simp [Lib.bytesOf]
    rw [e, e, Lib.compareBytes, vb, vb, hl]
    rw [hl] at la
    by_cases h1 : x < y
    · have h3 := Nat.mul_le_mul_right (256 ^ b.length) (show x + 1 ≤ y by omega)
      rw [Nat.add_mul] at h3
      rw [if_pos ((u8_lt hx hy).2 h1)]
      constructor <;> intro _ <;> omega
    · rw [if_neg (fun h9 => h1 ((u8_lt hx hy).1 h9))]
      by_cases h2 : y < x
      · have h3 := Nat.mul_le_mul_right (256 ^ b.length) (show y + 1 ≤ x by omega)
        rw [Nat.add_mul] at h3
        rw [if_pos ((u8_lt hy hx).2 h2)]
        constructor <;> intro _ <;> omega
      · rw [if_neg (fun h9 => h2 ((u8_lt hy hx).1 h9)), ih]
        have : x = y := by omega
        subst this; omega

section
variable {P : Program} {w : World}
theorem run_bytesOf {p : Option Addr} {l : List Nat} {m c : Nat} (hr : Rd w p (yv l)) (hm : l.length = m) :
    (Extern.Bytes.bytesOf (.slice p m c)).run P w = .ok ⟨(Lib.bytesOf (l.map fun x : Nat => (x : Int))).toArray⟩ w := by
  subst hm
  rcases Nat.eq_zero_or_pos l.length with h0 | h0
  · have hl : l = [] := List.length_eq_zero_iff.1 h0
    subst hl
    cases p with
    | none => rfl
    | some a => rfl
  · obtain ⟨b, off, rfl, hcell⟩ := cells_of_rd hr rfl h0
    have hl := Lib.run_loadBytesX (P := P) w (l.map fun x : Nat => (x : Int)) ⟨b, off, none⟩ .empty (fun j x hj => by
      have hjl : j < l.length := by have := (List.getElem?_eq_some_iff.1 hj).1; simpa using this
      have e : (⟨b, off, none⟩ : Addr).add j = ⟨b, off + j, none⟩ := by unfold Addr.add; split <;> simp_all
      rw [e, hcell j hjl, List.getD_eq_getElem?_getD, hj]
      rfl)
    rw [List.length_map] at hl
    have he : (⟨ByteArray.empty.data ++ (Lib.bytesOf (l.map fun x : Nat => (x : Int))).toArray⟩ : ByteArray) = ⟨(Lib.bytesOf (l.map fun x : Nat => (x : Int))).toArray⟩ := by
      apply ByteArray.ext
      show (#[] : Array UInt8) ++ (Lib.bytesOf (l.map fun x : Nat => (x : Int))).toArray = (Lib.bytesOf (l.map fun x : Nat => (x : Int))).toArray
      simp
    rw [he] at hl
    exact hl
/-- two slices of bytes -/
theorem run_compare {p q : Option Addr} {a b : List Nat} {m n c d : Nat} (ha : Rd w p (yv a)) (hb : Rd w q (yv b)) (hm : a.length = m) (hn : b.length = n) (hmn : m = n) (h1 : ∀ x ∈ a, x < 256) (h2 : ∀ x ∈ b, x < 256) :
    ∃ z : Int, (Extern.BytealgCompare.compare #[.slice p m c, .slice q n d]).run P w = .ok (.int .i64 z) w ∧ (z < 0 ↔ vb a < vb b) := by
  refine ⟨_, ?_, cmp_vb a b (by omega) h1 h2⟩
  have ra := run_bytesOf (P := P) (c := c) ha hm
  have rb := run_bytesOf (P := P) (c := d) hb hn
  change Sem.run P (do pure (goInt (Extern.BytealgCompare.cmp (← Extern.Bytes.bytesOf (.slice p m c)) (← Extern.Bytes.bytesOf (.slice q n d))))) w = _
  simp only [Sem.run_bind, Sem.run_pure, ra, rb, Result.andThen]
  rw [Lib.cmp_eq]
  rfl
end
end Go.Proofs.Ytcoplafphgpmpaa.V
