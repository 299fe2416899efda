/-
  The exclusive or of two bytes; clear on a whole own slice.
-/
import Derived.Test.YtldcpihjoakigaaVops
import Derived.Test.YtldcpihjoakigaaVmem6
import Derived.Test.YtldcpihjoakigaaVz
namespace Go.Proofs.Ytldcpihjoakigaa.V
open Go

section
variable {P : Program} {S : World → Prop} {L : Loc} {x y : Operand} {t t' : TypeId}
theorem bv8 {i : Nat} (h : i < 2 ^ 8) : (BitVec.ofInt 8 (i : Int)).toNat = i := by
  simp [Nat.mod_eq_of_lt h]
theorem u8_in {z : Int} (h : 0 ≤ z ∧ z < 256) : IntKind.u8.wrap z = z := by
  simp [IntKind.wrap, IntKind.signed, IntKind.bits]; omega
theorem Val.xorU8 {i j : Nat} (h1 : ev L x = some (.int .u8 i)) (h2 : ev L y = some (.int .u8 j)) (hi : i < 2 ^ 8) (hj : j < 2 ^ 8) :
    Val P S (.binOp .xor t x y t') L (.int .u8 ((i ^^^ j : Nat) : Int)) := by
  intro ρ ha w _ dst ty pos after guard
  have e1 := ha h1; have e2 := ha h2
  have hlt : i ^^^ j < 2 ^ 8 := Nat.xor_lt_two_pow hi hj
  have hw : IntKind.u8.wrap ((i ^^^ j : Nat) : Int) = ((i ^^^ j : Nat) : Int) := u8_in ⟨by omega, by omega⟩
  have hb : (BitVec.ofInt 8 (i : Int) ^^^ BitVec.ofInt 8 (j : Int)).toNat = i ^^^ j := by rw [BitVec.toNat_xor, bv8 hi, bv8 hj]
  have : (Op.intBits .xor .u8 (i : Int) (j : Int)) = pure (.int .u8 ((i ^^^ j : Nat) : Int)) := by
    show pure (Value.int .u8 (IntKind.u8.wrap (((BitVec.ofInt 8 (i : Int) ^^^ BitVec.ofInt 8 (j : Int)).toNat : Nat) : Int))) = _
    rw [hb, hw]
  simp only [execOp, e1, e2, eqGuard, binOp, this]
  simp [go_sem]
open Go.RowKit
theorem Step.clear0 {n : Nat} {K : Loc → World → Prop} {w : World} {o : Oper} {e : TypeId} {B bytes m c : Nat} {z0 : Value} {p : Option Addr} {xs : List Value} (hop : o.op = .call { callee := .builtin .clear, args := #[x], argTypes := #[t] }) (hd : o.dst = none)
    (ht : P.underlying t = some (.slice e)) (hE : Elem P e 1 bytes z0) (hz : z0.cells = #[z0]) (h1c : z0.oneCell' = true)
    (h1 : ev L x = some (.slice p m c)) (hO : OwnZ w B e 1 p m c xs) (hB : B ≤ w.heap.size)
    (h : ∀ w', OwnZ w' B e 1 p m c (List.replicate m z0) → w.grownBy w' (Value.ownBlock (.slice p m c)) → Below B w w' → w'.heap.size = w.heap.size → K L w') : Step P n o L w K :=
  Step.clear (l := 0) hop hd ht hE hz h1c (by rw [cutAt_zero]; exact h1) (Nat.zero_le _) hO.own hB fun w' hO' => h w' (by rw [List.take_zero, List.nil_append] at hO'; exact hO'.toZ)
end
end Go.Proofs.Ytldcpihjoakigaa.V
