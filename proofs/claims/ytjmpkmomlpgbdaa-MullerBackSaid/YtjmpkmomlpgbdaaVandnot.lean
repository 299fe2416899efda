/-
  Numbers less the bits of others.
-/
import Derived.Test.YtjmpkmomlpgbdaaVops
namespace Go.Proofs.Ytjmpkmomlpgbdaa.V
open Go

section
variable {P : Program} {S : World → Prop} {L : Loc} {x y : Operand} {t t' : TypeId}
theorem bv_andNot (a b : BitVec 64) : a &&& ~~~b = a ^^^ (a &&& b) := by
  apply BitVec.eq_of_getLsbD_eq
  intro i hi
  simp only [BitVec.getLsbD_and, BitVec.getLsbD_not, BitVec.getLsbD_xor, hi, decide_true, Bool.true_and]
  cases a.getLsbD i <;> cases b.getLsbD i <;> rfl
theorem Val.andNot64 {i j : Nat} (h1 : ev L x = some (.int .i64 i)) (h2 : ev L y = some (.int .i64 j)) (hi : i < 2 ^ 63) (hj : j < 2 ^ 63) :
    Val P S (.binOp .andNot t x y t') L (.int .i64 ((i ^^^ (i &&& j) : Nat) : Int)) := by
  intro ρ ha w _ dst ty pos after guard
  have e1 := ha h1; have e2 := ha h2
  have hlt : i ^^^ (i &&& j) < 2 ^ 63 := Nat.xor_lt_two_pow hi (Nat.and_lt_two_pow _ hj)
  have hw : IntKind.i64.wrap ((i ^^^ (i &&& j) : Nat) : Int) = ((i ^^^ (i &&& j) : Nat) : Int) := IntWalk.i64_in _ ⟨by omega, by omega⟩
  have hb : (BitVec.ofInt 64 (i : Int) &&& ~~~BitVec.ofInt 64 (j : Int)).toNat = i ^^^ (i &&& j) := by rw [bv_andNot, BitVec.toNat_xor, BitVec.toNat_and, bv64 (by omega), bv64 (by omega)]
  have : (Op.intBits .andNot .i64 (i : Int) (j : Int)) = pure (.int .i64 ((i ^^^ (i &&& j) : Nat) : Int)) := by
    show pure (Value.int .i64 (IntKind.i64.wrap (((BitVec.ofInt 64 (i : Int) &&& ~~~BitVec.ofInt 64 (j : Int)).toNat : Nat) : Int))) = _
    rw [hb, hw]
  simp only [execOp, e1, e2, eqGuard, binOp, this]
  simp [go_sem]
end
end Go.Proofs.Ytjmpkmomlpgbdaa.V
