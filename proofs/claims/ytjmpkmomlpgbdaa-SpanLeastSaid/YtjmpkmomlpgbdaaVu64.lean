/-
  Words of 64 bits: and, sums without overflow; numbers less the bits of others.
-/
import Derived.Test.YtjmpkmomlpgbdaaVmore
namespace Go.Proofs.Ytjmpkmomlpgbdaa.V
open Go

section
variable {P : Program} {S : World → Prop} {L : Loc} {x y : Operand} {t t' : TypeId}
theorem Val.andU64 {i j : Nat} (h1 : ev L x = some (.int .u64 i)) (h2 : ev L y = some (.int .u64 j)) (hi : i < 2 ^ 64) (hj : j < 2 ^ 64) :
    Val P S (.binOp .and t x y t') L (.int .u64 ((i &&& j : Nat) : Int)) := by
  intro ρ ha w _ dst ty pos after guard
  have e1 := ha h1; have e2 := ha h2
  have hlt : i &&& j < 2 ^ 64 := Nat.and_lt_two_pow _ hj
  have hw : IntKind.u64.wrap ((i &&& j : Nat) : Int) = ((i &&& j : Nat) : Int) := IntWalk.u64_in _ ⟨by omega, by omega⟩
  have hb : (BitVec.ofInt 64 (i : Int) &&& BitVec.ofInt 64 (j : Int)).toNat = i &&& j := by rw [BitVec.toNat_and, bv64 hi, bv64 hj]
  have : (Op.intBits .and .u64 (i : Int) (j : Int)) = pure (.int .u64 ((i &&& j : Nat) : Int)) := by
    show pure (Value.int .u64 (IntKind.u64.wrap (((BitVec.ofInt 64 (i : Int) &&& BitVec.ofInt 64 (j : Int)).toNat : Nat) : Int))) = _
    rw [hb, hw]
  simp only [execOp, e1, e2, eqGuard, binOp, this]
  simp [go_sem]
theorem Val.addNU64 {i j : Nat} (h1 : ev L x = some (.int .u64 i)) (h2 : ev L y = some (.int .u64 j)) (hr : i + j ≤ 18446744073709551615) :
    Val P S (.binOp .add t x y t') L (.int .u64 ((i + j : Nat) : Int)) :=
  Val.cast (Val.arith h1 h2 (.inl ⟨rfl, rfl⟩) (IntWalk.u64_in _ (by omega))) (by rw [Int.natCast_add])
end
end Go.Proofs.Ytjmpkmomlpgbdaa.V
