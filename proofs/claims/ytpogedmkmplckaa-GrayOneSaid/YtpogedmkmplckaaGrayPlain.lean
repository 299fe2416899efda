/-
  Plain: the Gray code of a number, and back.
-/
import Derived.Test.YtpogedmkmplckaaWordsPlain
namespace Go.Proofs.Ytpogedmkmplckaa
open Go V

def gcode (i : Nat) : Nat := i ^^^ i >>> 1
def plTo (w : Nat) : Nat → Nat := iter (fun j s => s ^^^ (w >>> j)) 0
theorem plTo_succ (w k : Nat) : plTo w (k + 1) = plTo w k ^^^ (w >>> k) := rfl
theorem plTo_lt (w k : Nat) (h : w < 4294967296) : plTo w k < 4294967296 := by
  induction k with
  | zero => simp [plTo, iter]
  | succ k ih =>
    rw [plTo_succ]
    have h2 : w >>> k < 2 ^ 32 := by
      rw [Nat.shiftRight_eq_div_pow]
      exact Nat.lt_of_le_of_lt (Nat.div_le_self _ _) (by omega)
    have := Nat.xor_lt_two_pow (n := 32) (x := plTo w k) (by omega) h2
    omega
theorem shr_zero_of_le {w k m : Nat} (h : w >>> k = 0) (hkm : k ≤ m) : w >>> m = 0 := by
  obtain ⟨d, rfl⟩ := Nat.exists_eq_add_of_le hkm
  rw [Nat.shiftRight_add, h, Nat.zero_shiftRight]
theorem plTo_stable {w k m : Nat} (h : w >>> k = 0) (hkm : k ≤ m) : plTo w m = plTo w k := by
  induction m with
  | zero => obtain rfl : k = 0 := by omega
            rfl
  | succ m ih =>
    by_cases e : k = m + 1
    · rw [e]
    · rw [plTo_succ, shr_zero_of_le h (by omega : k ≤ m), Nat.xor_zero]
      exact ih (by omega)
theorem shr_succ_lt {w k : Nat} (h : 0 < w >>> k) : w >>> (k + 1) < w >>> k := by
  rw [Nat.shiftRight_succ]; omega
theorem popTo_stable {w k m : Nat} (h : w < 2 ^ k) (hkm : k ≤ m) : popTo w m = popTo w k := by
  induction m with
  | zero => obtain rfl : k = 0 := by omega
            rfl
  | succ m ih =>
    by_cases e : k = m + 1
    · rw [e]
    · have hb : w.testBit m = false := Nat.testBit_lt_two_pow (Nat.lt_of_lt_of_le h (Nat.pow_le_pow_right (by omega) (by omega)))
      rw [popTo_succ, hb]
      exact ih (by omega)

theorem gcode_lt {i n : Nat} (h : i < 2 ^ n) : gcode i < 2 ^ n := by
  refine Nat.xor_lt_two_pow h ?_
  rw [Nat.shiftRight_eq_div_pow]
  exact Nat.lt_of_le_of_lt (Nat.div_le_self _ _) h

theorem back_all : (List.range 4096).all (fun i => plTo (gcode i) 12 == i) = true := by decide +kernel
theorem gray_back {i n : Nat} (hn : n ≤ 12) (h : i < 2 ^ n) : plTo (gcode i) 32 = i := by
  have h12 : 2 ^ n ≤ 2 ^ 12 := Nat.pow_le_pow_right (by omega) hn
  have h1 := List.all_eq_true.1 back_all i (List.mem_range.2 (by omega))
  have hz : gcode i >>> 12 = 0 := shr_zero.2 (gcode_lt (n := 12) (by omega))
  rw [plTo_stable hz (by omega)]
  simpa using h1

def oneOk (n : Nat) : Bool := (List.range (2 ^ n)).all fun i => popTo (gcode i ^^^ gcode ((i + 1) % 2 ^ n)) 12 == 1
theorem one_all : (List.range 12).all (fun n => oneOk (n + 1)) = true := by decide +kernel
theorem gray_one {i n : Nat} (hn : n ≤ 12) (h0 : n ≠ 0) (h : i < 2 ^ n) : popc (gcode i ^^^ gcode ((i + 1) % 2 ^ n)) = 1 := by
  have h1 := List.all_eq_true.1 one_all (n - 1) (List.mem_range.2 (by omega))
  rw [show n - 1 + 1 = n from by omega] at h1
  have h2 := List.all_eq_true.1 h1 i (List.mem_range.2 h)
  have hp : (i + 1) % 2 ^ n < 2 ^ n := Nat.mod_lt _ (Nat.two_pow_pos n)
  have h12 : 2 ^ n ≤ 2 ^ 12 := Nat.pow_le_pow_right (by omega) hn
  have hlt : gcode i ^^^ gcode ((i + 1) % 2 ^ n) < 2 ^ 12 := Nat.lt_of_lt_of_le (Nat.xor_lt_two_pow (gcode_lt h) (gcode_lt hp)) h12
  unfold popc
  rw [popTo_stable hlt (by omega)]
  simpa using h2
end Go.Proofs.Ytpogedmkmplckaa
