/-
  Words of 64 bits: exclusive or, differences, shifts to the left that let bits fall.
-/
import Derived.Test.YtjmpkmomlpgbdaaVu64
import Derived.Test.YtjmpkmomlpgbdaaVmem
namespace Go.Proofs.Ytjmpkmomlpgbdaa.V
open Go

section
variable {P : Program} {S : World → Prop} {L : Loc} {x y : Operand} {t t' : TypeId}
theorem Val.xorU64 {i j : Nat} (h1 : ev L x = some (.int .u64 i)) (h2 : ev L y = some (.int .u64 j)) (hi : i < 2 ^ 64) (hj : j < 2 ^ 64) :
    Val P S (.binOp .xor t x y t') L (.int .u64 ((i ^^^ j : Nat) : Int)) := by
  intro ρ ha w _ dst ty pos after guard
  have e1 := ha h1; have e2 := ha h2
  have hlt : i ^^^ j < 2 ^ 64 := Nat.xor_lt_two_pow hi hj
  have hw : IntKind.u64.wrap ((i ^^^ j : Nat) : Int) = ((i ^^^ j : Nat) : Int) := IntWalk.u64_in _ ⟨by omega, by omega⟩
  have hb : (BitVec.ofInt 64 (i : Int) ^^^ BitVec.ofInt 64 (j : Int)).toNat = i ^^^ j := by rw [BitVec.toNat_xor, bv64 hi, bv64 hj]
  have : (Op.intBits .xor .u64 (i : Int) (j : Int)) = pure (.int .u64 ((i ^^^ j : Nat) : Int)) := by
    show pure (Value.int .u64 (IntKind.u64.wrap (((BitVec.ofInt 64 (i : Int) ^^^ BitVec.ofInt 64 (j : Int)).toNat : Nat) : Int))) = _
    rw [hb, hw]
  simp only [execOp, e1, e2, eqGuard, binOp, this]
  simp [go_sem]
theorem Val.subNU64 {i j : Nat} (h1 : ev L x = some (.int .u64 i)) (h2 : ev L y = some (.int .u64 j)) (hji : j ≤ i) (hr : i ≤ 18446744073709551615) :
    Val P S (.binOp .sub t x y t') L (.int .u64 ((i - j : Nat) : Int)) :=
  Val.cast (Val.arith h1 h2 (.inr (.inl ⟨rfl, rfl⟩)) (IntWalk.u64_in _ (by omega))) (by rw [Int.ofNat_sub hji])
theorem Val.shlW {kk : IntKind} {i j : Nat} (h1 : ev L x = some (.int .u64 (i : Int))) (h2 : ev L y = some (.int kk (j : Int))) (hj : j ≤ 64) :
    Val P S (.binOp .shl t x y t') L (.int .u64 (((i <<< j) % 2 ^ 64 : Nat) : Int)) := by
  intro ρ ha w _ dst ty pos after guard
  have e1 := ha h1; have e2 := ha h2
  have hm : Min.min j IntKind.u64.bits = j := Nat.min_eq_left hj
  have hw : IntKind.u64.wrap ((i : Int) * 2 ^ j) = (((i <<< j) % 2 ^ 64 : Nat) : Int) := by
    rw [Nat.shiftLeft_eq]
    simp [IntKind.wrap, IntKind.signed, IntKind.bits]
  have : (Op.shift .shl .u64 (i : Int) kk (j : Int)) = pure (.int .u64 (((i <<< j) % 2 ^ 64 : Nat) : Int)) := by
    unfold Op.shift
    rw [if_neg (by omega)]
    simp only [Int.toNat_natCast, hm]
    rw [hw]
  simp only [execOp, e1, e2, eqGuard, binOp, this]
  simp [go_sem]
end
end Go.Proofs.Ytjmpkmomlpgbdaa.V
