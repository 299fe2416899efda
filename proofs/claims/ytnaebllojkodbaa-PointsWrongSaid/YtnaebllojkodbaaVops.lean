/-
  One operation at a time: what it yields, said of what the slots are known to hold.
-/
import Derived.Test.YtnaebllojkodbaaVcore
import Derived.WalkLawsBesides
namespace Go.Proofs.Ytnaebllojkodbaa.V
open Go

section
variable {P : Program} {S : World → Prop} {L : Loc} {x y z : Operand} {u v : Value} {t t' : TypeId}

theorem Val.move (h : ev L x = some v) : Val P S (.move x) L v := by
  intro ρ ha w _ dst ty pos after guard
  have e := ha h
  show Sem.run P (pure (Next.value (ρ x))) w = _
  rw [e]; rfl
theorem Val.assign (h : ev L x = some v) : Val P S (.assign x) L v := by
  intro ρ ha w _ dst ty pos after guard
  have e := ha h
  show Sem.run P (pure (Next.value (ρ x))) w = _
  rw [e]; rfl

theorem Val.pickT {b : Bool} (hc : ev L z = some (.bool b)) (hb : b = true) (h : ev L x = some v) : Val P S (.pick z x y) L v := by
  intro ρ ha w _ dst ty pos after guard
  subst hb
  have e := ha h; have e2 := ha hc
  simp [execOp, e, e2, asBool, go_sem]
theorem Val.pickF {b : Bool} (hc : ev L z = some (.bool b)) (hb : b = false) (h : ev L y = some v) : Val P S (.pick z x y) L v := by
  intro ρ ha w _ dst ty pos after guard
  subst hb
  have e := ha h; have e2 := ha hc
  simp [execOp, e, e2, asBool, go_sem]

theorem Val.not {b : Bool} (h : ev L x = some (.bool b)) : Val P S (.unOp .not t x) L (.bool (!b)) := by
  intro ρ ha w _ dst ty pos after guard
  have e := ha h
  simp [execOp, e, Op.unary, go_sem]

/-! ### Integers -/

theorem Val.arith {k : IntKind} {i j r : Int} {op : BinOp} (h1 : ev L x = some (.int k i)) (h2 : ev L y = some (.int k j))
    (hop : op = .add ∧ r = i + j ∨ op = .sub ∧ r = i - j ∨ op = .mul ∧ r = i * j) (hw : k.wrap r = r) : Val P S (.binOp op t x y t') L (.int k r) := by
  intro ρ ha w _ dst ty pos after guard
  have e1 := ha h1; have e2 := ha h2
  rcases hop with ⟨rfl, rfl⟩ | ⟨rfl, rfl⟩ | ⟨rfl, rfl⟩ <;> simp [execOp, e1, e2, eqGuard, binOp, Op.intArith, hw, go_sem]

theorem Val.add64 {i j : Int} (h1 : ev L x = some (.int .i64 i)) (h2 : ev L y = some (.int .i64 j)) (hr : -9223372036854775808 ≤ i + j ∧ i + j ≤ 9223372036854775807) :
    Val P S (.binOp .add t x y t') L (.int .i64 (i + j)) := Val.arith h1 h2 (.inl ⟨rfl, rfl⟩) (IntWalk.i64_in _ hr)
theorem Val.sub64 {i j : Int} (h1 : ev L x = some (.int .i64 i)) (h2 : ev L y = some (.int .i64 j)) (hr : -9223372036854775808 ≤ i - j ∧ i - j ≤ 9223372036854775807) :
    Val P S (.binOp .sub t x y t') L (.int .i64 (i - j)) := Val.arith h1 h2 (.inr (.inl ⟨rfl, rfl⟩)) (IntWalk.i64_in _ hr)
theorem Val.mul64 {i j : Int} (h1 : ev L x = some (.int .i64 i)) (h2 : ev L y = some (.int .i64 j)) (hr : -9223372036854775808 ≤ i * j ∧ i * j ≤ 9223372036854775807) :
    Val P S (.binOp .mul t x y t') L (.int .i64 (i * j)) := Val.arith h1 h2 (.inr (.inr ⟨rfl, rfl⟩)) (IntWalk.i64_in _ hr)
theorem Val.addU32 {i j : Int} (h1 : ev L x = some (.int .u32 i)) (h2 : ev L y = some (.int .u32 j)) (hr : 0 ≤ i + j ∧ i + j ≤ 4294967295) :
    Val P S (.binOp .add t x y t') L (.int .u32 (i + j)) := Val.arith h1 h2 (.inl ⟨rfl, rfl⟩) (IntWalk.u32_in _ hr)
theorem Val.subU32 {i j : Int} (h1 : ev L x = some (.int .u32 i)) (h2 : ev L y = some (.int .u32 j)) (hr : 0 ≤ i - j ∧ i - j ≤ 4294967295) :
    Val P S (.binOp .sub t x y t') L (.int .u32 (i - j)) := Val.arith h1 h2 (.inr (.inl ⟨rfl, rfl⟩)) (IntWalk.u32_in _ hr)

theorem Val.quo64 {i j : Int} (h1 : ev L x = some (.int .i64 i)) (h2 : ev L y = some (.int .i64 j)) (hi : 0 ≤ i ∧ i ≤ 9223372036854775807) (hj : 1 ≤ j) :
    Val P S (.binOp .quo t x y t') L (.int .i64 (i / j)) := by
  intro ρ ha w _ dst ty pos after guard
  have e1 := ha h1; have e2 := ha h2
  have hle : i / j ≤ i := Int.ediv_le_self _ hi.1
  have hge : 0 ≤ i / j := Int.ediv_nonneg hi.1 (by omega)
  have ht : i.tdiv j = i / j := Int.tdiv_eq_ediv_of_nonneg hi.1
  have hw : IntKind.i64.wrap (i / j) = i / j := IntWalk.i64_in _ ⟨by omega, by omega⟩
  have hj0 : ¬ j = 0 := by omega
  simp [execOp, e1, e2, eqGuard, binOp, Op.intDiv, ht, hw, hj0, go_sem]
theorem Val.rem {k : IntKind} {i j : Int} (h1 : ev L x = some (.int k i)) (h2 : ev L y = some (.int k j)) (hi : 0 ≤ i) (hj : 1 ≤ j) :
    Val P S (.binOp .rem t x y t') L (.int k (i % j)) := by
  intro ρ ha w _ dst ty pos after guard
  have e1 := ha h1; have e2 := ha h2
  have ht : i.tmod j = i % j := Int.tmod_eq_emod_of_nonneg hi
  have hj0 : ¬ j = 0 := by omega
  simp [execOp, e1, e2, eqGuard, binOp, Op.intDiv, ht, hj0, go_sem]
theorem Val.remT {k : IntKind} {i j : Int} (h1 : ev L x = some (.int k i)) (h2 : ev L y = some (.int k j)) (hj : 1 ≤ j) :
    Val P S (.binOp .rem t x y t') L (.int k (i.tmod j)) := by
  intro ρ ha w _ dst ty pos after guard
  have e1 := ha h1; have e2 := ha h2
  have hj0 : ¬ j = 0 := by omega
  simp [execOp, e1, e2, eqGuard, binOp, Op.intDiv, hj0, go_sem]

theorem Val.eql {k : IntKind} {i j : Int} (h1 : ev L x = some (.int k i)) (h2 : ev L y = some (.int k j)) : Val P S (.binOp .eql t x y t') L (.bool (decide (i = j))) := by
  intro ρ ha w _ dst ty pos after guard
  have e1 := ha h1; have e2 := ha h2
  have hd : (i == j) = decide (i = j) := by by_cases h : i = j <;> simp [h]
  simp [execOp, e1, e2, eqGuard, binOp, Op.intCmp, hd, go_sem]
theorem Val.neq {k : IntKind} {i j : Int} (h1 : ev L x = some (.int k i)) (h2 : ev L y = some (.int k j)) : Val P S (.binOp .neq t x y t') L (.bool (decide (i ≠ j))) := by
  intro ρ ha w _ dst ty pos after guard
  have e1 := ha h1; have e2 := ha h2
  have hd : (i != j) = decide (i ≠ j) := by by_cases h : i = j <;> simp [h]
  simp only [execOp, e1, e2, eqGuard, binOp, Op.intCmp, hd]
  simp [go_sem]
theorem Val.lss {k : IntKind} {i j : Int} (h1 : ev L x = some (.int k i)) (h2 : ev L y = some (.int k j)) : Val P S (.binOp .lss t x y t') L (.bool (decide (i < j))) := by
  intro ρ ha w _ dst ty pos after guard
  have e1 := ha h1; have e2 := ha h2
  simp [execOp, e1, e2, eqGuard, binOp, Op.intCmp, go_sem]
theorem Val.leq {k : IntKind} {i j : Int} (h1 : ev L x = some (.int k i)) (h2 : ev L y = some (.int k j)) : Val P S (.binOp .leq t x y t') L (.bool (decide (i ≤ j))) := by
  intro ρ ha w _ dst ty pos after guard
  have e1 := ha h1; have e2 := ha h2
  simp [execOp, e1, e2, eqGuard, binOp, Op.intCmp, go_sem]
theorem Val.gtr {k : IntKind} {i j : Int} (h1 : ev L x = some (.int k i)) (h2 : ev L y = some (.int k j)) : Val P S (.binOp .gtr t x y t') L (.bool (decide (j < i))) := by
  intro ρ ha w _ dst ty pos after guard
  have e1 := ha h1; have e2 := ha h2
  simp [execOp, e1, e2, eqGuard, binOp, Op.intCmp, go_sem]
theorem Val.geq {k : IntKind} {i j : Int} (h1 : ev L x = some (.int k i)) (h2 : ev L y = some (.int k j)) : Val P S (.binOp .geq t x y t') L (.bool (decide (j ≤ i))) := by
  intro ρ ha w _ dst ty pos after guard
  have e1 := ha h1; have e2 := ha h2
  simp [execOp, e1, e2, eqGuard, binOp, Op.intCmp, go_sem]

theorem bv32 {i : Nat} (h : i < 2 ^ 32) : (BitVec.ofInt 32 (i : Int)).toNat = i := by
  simp [Nat.mod_eq_of_lt h]
theorem bv64 {i : Nat} (h : i < 2 ^ 64) : (BitVec.ofInt 64 (i : Int)).toNat = i := by
  simp [Nat.mod_eq_of_lt h]

theorem Val.xorU32 {i j : Nat} (h1 : ev L x = some (.int .u32 i)) (h2 : ev L y = some (.int .u32 j)) (hi : i < 2 ^ 32) (hj : j < 2 ^ 32) :
    Val P S (.binOp .xor t x y t') L (.int .u32 ((i ^^^ j : Nat) : Int)) := by
  intro ρ ha w _ dst ty pos after guard
  have e1 := ha h1; have e2 := ha h2
  have hlt : i ^^^ j < 2 ^ 32 := Nat.xor_lt_two_pow hi hj
  have hw : IntKind.u32.wrap ((i ^^^ j : Nat) : Int) = ((i ^^^ j : Nat) : Int) := IntWalk.u32_in _ ⟨by omega, by omega⟩
  have hb : (BitVec.ofInt 32 (i : Int) ^^^ BitVec.ofInt 32 (j : Int)).toNat = i ^^^ j := by rw [BitVec.toNat_xor, bv32 hi, bv32 hj]
  have : (Op.intBits .xor .u32 (i : Int) (j : Int)) = pure (.int .u32 ((i ^^^ j : Nat) : Int)) := by
    show pure (Value.int .u32 (IntKind.u32.wrap (((BitVec.ofInt 32 (i : Int) ^^^ BitVec.ofInt 32 (j : Int)).toNat : Nat) : Int))) = _
    rw [hb, hw]
  simp only [execOp, e1, e2, eqGuard, binOp, this]
  simp [go_sem]
theorem Val.andU32 {i j : Nat} (h1 : ev L x = some (.int .u32 i)) (h2 : ev L y = some (.int .u32 j)) (hi : i < 2 ^ 32) (hj : j < 2 ^ 32) :
    Val P S (.binOp .and t x y t') L (.int .u32 ((i &&& j : Nat) : Int)) := by
  intro ρ ha w _ dst ty pos after guard
  have e1 := ha h1; have e2 := ha h2
  have hlt : i &&& j < 2 ^ 32 := Nat.and_lt_two_pow _ hj
  have hw : IntKind.u32.wrap ((i &&& j : Nat) : Int) = ((i &&& j : Nat) : Int) := IntWalk.u32_in _ ⟨by omega, by omega⟩
  have hb : (BitVec.ofInt 32 (i : Int) &&& BitVec.ofInt 32 (j : Int)).toNat = i &&& j := by rw [BitVec.toNat_and, bv32 hi, bv32 hj]
  have : (Op.intBits .and .u32 (i : Int) (j : Int)) = pure (.int .u32 ((i &&& j : Nat) : Int)) := by
    show pure (Value.int .u32 (IntKind.u32.wrap (((BitVec.ofInt 32 (i : Int) &&& BitVec.ofInt 32 (j : Int)).toNat : Nat) : Int))) = _
    rw [hb, hw]
  simp only [execOp, e1, e2, eqGuard, binOp, this]
  simp [go_sem]
theorem Val.orU32 {i j : Nat} (h1 : ev L x = some (.int .u32 i)) (h2 : ev L y = some (.int .u32 j)) (hi : i < 2 ^ 32) (hj : j < 2 ^ 32) :
    Val P S (.binOp .or t x y t') L (.int .u32 ((i ||| j : Nat) : Int)) := by
  intro ρ ha w _ dst ty pos after guard
  have e1 := ha h1; have e2 := ha h2
  have hlt : i ||| j < 2 ^ 32 := Nat.or_lt_two_pow hi hj
  have hw : IntKind.u32.wrap ((i ||| j : Nat) : Int) = ((i ||| j : Nat) : Int) := IntWalk.u32_in _ ⟨by omega, by omega⟩
  have hb : (BitVec.ofInt 32 (i : Int) ||| BitVec.ofInt 32 (j : Int)).toNat = i ||| j := by rw [BitVec.toNat_or, bv32 hi, bv32 hj]
  have : (Op.intBits .or .u32 (i : Int) (j : Int)) = pure (.int .u32 ((i ||| j : Nat) : Int)) := by
    show pure (Value.int .u32 (IntKind.u32.wrap (((BitVec.ofInt 32 (i : Int) ||| BitVec.ofInt 32 (j : Int)).toNat : Nat) : Int))) = _
    rw [hb, hw]
  simp only [execOp, e1, e2, eqGuard, binOp, this]
  simp [go_sem]
theorem Val.xor64 {i j : Nat} (h1 : ev L x = some (.int .i64 i)) (h2 : ev L y = some (.int .i64 j)) (hi : i < 2 ^ 63) (hj : j < 2 ^ 63) :
    Val P S (.binOp .xor t x y t') L (.int .i64 ((i ^^^ j : Nat) : Int)) := by
  intro ρ ha w _ dst ty pos after guard
  have e1 := ha h1; have e2 := ha h2
  have hlt : i ^^^ j < 2 ^ 63 := Nat.xor_lt_two_pow hi hj
  have hw : IntKind.i64.wrap ((i ^^^ j : Nat) : Int) = ((i ^^^ j : Nat) : Int) := IntWalk.i64_in _ ⟨by omega, by omega⟩
  have hb : (BitVec.ofInt 64 (i : Int) ^^^ BitVec.ofInt 64 (j : Int)).toNat = i ^^^ j := by rw [BitVec.toNat_xor, bv64 (by omega), bv64 (by omega)]
  have : (Op.intBits .xor .i64 (i : Int) (j : Int)) = pure (.int .i64 ((i ^^^ j : Nat) : Int)) := by
    show pure (Value.int .i64 (IntKind.i64.wrap (((BitVec.ofInt 64 (i : Int) ^^^ BitVec.ofInt 64 (j : Int)).toNat : Nat) : Int))) = _
    rw [hb, hw]
  simp only [execOp, e1, e2, eqGuard, binOp, this]
  simp [go_sem]
theorem Val.and64 {i j : Nat} (h1 : ev L x = some (.int .i64 i)) (h2 : ev L y = some (.int .i64 j)) (hi : i < 2 ^ 63) (hj : j < 2 ^ 63) :
    Val P S (.binOp .and t x y t') L (.int .i64 ((i &&& j : Nat) : Int)) := by
  intro ρ ha w _ dst ty pos after guard
  have e1 := ha h1; have e2 := ha h2
  have hlt : i &&& j < 2 ^ 63 := Nat.and_lt_two_pow _ hj
  have hw : IntKind.i64.wrap ((i &&& j : Nat) : Int) = ((i &&& j : Nat) : Int) := IntWalk.i64_in _ ⟨by omega, by omega⟩
  have hb : (BitVec.ofInt 64 (i : Int) &&& BitVec.ofInt 64 (j : Int)).toNat = i &&& j := by rw [BitVec.toNat_and, bv64 (by omega), bv64 (by omega)]
  have : (Op.intBits .and .i64 (i : Int) (j : Int)) = pure (.int .i64 ((i &&& j : Nat) : Int)) := by
    show pure (Value.int .i64 (IntKind.i64.wrap (((BitVec.ofInt 64 (i : Int) &&& BitVec.ofInt 64 (j : Int)).toNat : Nat) : Int))) = _
    rw [hb, hw]
  simp only [execOp, e1, e2, eqGuard, binOp, this]
  simp [go_sem]

theorem Val.shr {k kk : IntKind} {i j : Nat} (h1 : ev L x = some (.int k (i : Int))) (h2 : ev L y = some (.int kk (j : Int))) (hj : j ≤ k.bits) :
    Val P S (.binOp .shr t x y t') L (.int k ((i >>> j : Nat) : Int)) := by
  intro ρ ha w _ dst ty pos after guard
  have e1 := ha h1; have e2 := ha h2
  have hm : min j k.bits = j := Nat.min_eq_left hj
  have hd : Int.fdiv (i : Int) (2 ^ j) = ((i >>> j : Nat) : Int) := by
    rw [Nat.shiftRight_eq_div_pow, Int.fdiv_eq_ediv_of_nonneg _ (by exact Int.le_of_lt (Int.pow_pos (by decide)))]
    simp
  have : (Op.shift .shr k (i : Int) kk (j : Int)) = pure (.int k ((i >>> j : Nat) : Int)) := by
    unfold Op.shift
    rw [if_neg (by omega)]
    simp only [Int.toNat_natCast, hm, hd]
  simp only [execOp, e1, e2, eqGuard, binOp, this]
  simp [go_sem]
theorem Val.shl {k kk : IntKind} {i j : Nat} (h1 : ev L x = some (.int k (i : Int))) (h2 : ev L y = some (.int kk (j : Int))) (hj : j ≤ k.bits) (hw : k.wrap ((i <<< j : Nat) : Int) = ((i <<< j : Nat) : Int)) :
    Val P S (.binOp .shl t x y t') L (.int k ((i <<< j : Nat) : Int)) := by
  intro ρ ha w _ dst ty pos after guard
  have e1 := ha h1; have e2 := ha h2
  have hm : min j k.bits = j := Nat.min_eq_left hj
  have hd : (i : Int) * 2 ^ j = ((i <<< j : Nat) : Int) := by
    rw [Nat.shiftLeft_eq]; simp
  have : (Op.shift .shl k (i : Int) kk (j : Int)) = pure (.int k ((i <<< j : Nat) : Int)) := by
    unfold Op.shift
    rw [if_neg (by omega)]
    simp only [Int.toNat_natCast, hm, hd, hw]
  simp only [execOp, e1, e2, eqGuard, binOp, this]
  simp [go_sem]

theorem Val.conv {k k' : IntKind} {i : Int} (h1 : ev L x = some (.int k i)) (ht : P.underlying t = some (.int k)) (ht' : P.underlying t' = some (.int k')) (hw : k'.wrap i = i) :
    Val P S (.convert t t' x) L (.int k' i) := by
  intro ρ ha w _ dst ty pos after guard
  have e1 := ha h1
  simp [execOp, e1, convert, run_underlying ht, run_underlying ht', Conv.intToInt, hw, go_sem]

/-! ### Bools -/

theorem Val.eqlB {b c : Bool} (ht : P.underlying t = some .bool) (h1 : ev L x = some (.bool b)) (h2 : ev L y = some (.bool c)) : Val P S (.binOp .eql t x y t') L (.bool (decide (b = c))) := by
  intro ρ ha w _ dst ty pos after guard
  have e1 := ha h1; have e2 := ha h2
  have hb : (b == c) = decide (b = c) := by cases b <;> cases c <;> rfl
  have hq := run_equal_bool (P := P) w t b c ht
  simp only [execOp, e1, e2, eqGuard]
  simp only [binOp]
  simp [go_sem, hq, hb]
theorem Val.neqB {b c : Bool} (ht : P.underlying t = some .bool) (h1 : ev L x = some (.bool b)) (h2 : ev L y = some (.bool c)) : Val P S (.binOp .neq t x y t') L (.bool (decide (b ≠ c))) := by
  intro ρ ha w _ dst ty pos after guard
  have e1 := ha h1; have e2 := ha h2
  have hb : (!(b == c)) = decide (b ≠ c) := by cases b <;> cases c <;> rfl
  have hq := run_equal_bool (P := P) w t b c ht
  simp only [execOp, e1, e2, eqGuard]
  simp only [binOp]
  simp [go_sem, hq, ← hb]

/-! ### Tuples, structs, slices' heads -/

def nth : List Value → Nat → Option Value
  | [], _ => none
  | v :: _, 0 => some v
  | _ :: r, i + 1 => nth r i
theorem nth_eq : ∀ (l : List Value) (i : Nat), nth l i = l[i]?
  | [], _ => rfl
  | _ :: _, 0 => rfl
  | _ :: r, i + 1 => nth_eq r i
theorem Val.extract {l : List Value} {i : Nat} (h : ev L x = some (.tuple l.toArray)) (hn : nth l i = some v) : Val P S (.extract x i) L v := by
  intro ρ ha w _ dst ty pos after guard
  have e := ha h
  have hi : l.toArray[i]? = some v := by rw [List.getElem?_toArray, ← nth_eq, hn]
  simp [execOp, e, Instr.extract, hi, go_sem]

theorem Val.len {e : TypeId} {p : Option Addr} {m c : Nat} (ht : P.underlying t = some (.slice e)) (h : ev L x = some (.slice p m c)) :
    Val P S (.call { callee := .builtin .len, args := #[x], argTypes := #[t] }) L (.int .i64 m) := by
  intro ρ ha w _ dst ty pos after guard
  have e1 := ha h
  simp [Builtin.len_, e1, run_underlying ht, goInt, go_sem]
theorem Val.cap {e : TypeId} {p : Option Addr} {m c : Nat} (ht : P.underlying t = some (.slice e)) (h : ev L x = some (.slice p m c)) :
    Val P S (.call { callee := .builtin .cap, args := #[x], argTypes := #[t] }) L (.int .i64 c) := by
  intro ρ ha w _ dst ty pos after guard
  have e1 := ha h
  simp [Builtin.cap_, e1, run_underlying ht, goInt, go_sem]

end
end Go.Proofs.Ytnaebllojkodbaa.V
