/-
  A slice of bytes is made a text; two texts are compared.
-/
import Derived.Test.YtbfcmfjdjldepaaVext
import Derived.Laws.BytesArg
namespace Go.Proofs.Ytbfcmfjdjldepaa.V
open Go Go.RowKit
section
variable {P : Program} {L : Loc} {n : Nat} {t t' e : TypeId} {x y : Operand} {S : World → Prop}
theorem run_bytesStr {w : World} {p : Option Addr} {l : List Nat} {m c : Nat} (ht : P.underlying t = some (.slice e)) (he : P.underlying e = some (.int .u8)) (ht' : P.underlying t' = some .string) (hr : Rd w p (yv l)) (hm : l.length = m) :
    (convert t t' (.slice p m c)).run P w = .ok (.string (strOfNums (l.map fun x : Nat => (x : Int)))) w := by
  subst hm
  rcases Nat.eq_zero_or_pos l.length with h0 | h0
  · have hl : l = [] := List.length_eq_zero_iff.1 h0
    subst hl
    rw [show ([] : List Nat).length = 0 from rfl, run_convert_bytes_string w t t' e _ 0 c ht he ht']
    cases p <;> simp [Conv.bytesToString, loadCells]
    all_goals rfl
  · obtain ⟨b, off, rfl, hcell⟩ := cells_of_rd hr rfl h0
    exact run_convert_bytes_arg w t e ht he b off l.length c _ (by simp) hcell t' ht'
theorem Step.bytesStr {o : Oper} {p : Option Addr} {w : World} {l : List Nat} {m c d : Nat} {K : Loc → World → Prop} (hop : o.op = .convert t t' x) (hd : o.dst = some d) (hlt : d < n) (ht : P.underlying t = some (.slice e)) (he : P.underlying e = some (.int .u8)) (ht' : P.underlying t' = some .string)
    (h1 : ev L x = some (.slice p m c)) (hr : Rd w p (yv l)) (hm : l.length = m) (h : K ((d, .string (strOfNums (l.map fun x : Nat => (x : Int)))) :: L) w) : Step P n o L w K :=
  Step.ofRun hd hlt (fun ρ ha => by
    have e1 := ha h1
    have h3 := run_bytesStr (P := P) (c := c) ht he ht' hr hm
    obtain ⟨_, op, _, _, _, _⟩ := o
    cases hop
    show Sem.run P (do pure (Next.value (← convert t t' (ρ x)))) w = _
    rw [e1]
    exact run_v h3) h
theorem Val.eqlS {a b : ByteArray} (h1 : ev L x = some (.string a)) (h2 : ev L y = some (.string b)) : Val P S (.binOp .eql t x y t') L (.bool (a.toList == b.toList)) := by
  intro ρ ha w _ dst ty pos after guard
  have e1 := ha h1; have e2 := ha h2
  simp only [execOp, e1, e2, eqGuard]
  simp only [binOp]
  simp [go_sem, Op.stringOp]
end
end Go.Proofs.Ytbfcmfjdjldepaa.V
