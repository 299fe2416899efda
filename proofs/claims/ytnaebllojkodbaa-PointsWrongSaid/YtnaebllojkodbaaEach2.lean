/-
  points.each: the recursion.
-/
import Derived.Test.YtnaebllojkodbaaEach
import Derived.Test.YtnaebllojkodbaaVtree
import Derived.Test.YtnaebllojkodbaaVfin
import Derived.Test.YtnaebllojkodbaaVheap2
namespace Go.Proofs.Ytnaebllojkodbaa
open Go Go.RowKit V
set_option linter.unusedVariables false
set_option linter.unusedSimpArgs false

theorem rd_block {w w' : World} {g : Nat} {xs : List Value} (h : Rd w (some ⟨g, 0, none⟩) xs) (hk : w'.heap[g]? = w.heap[g]?) : Rd w' (some ⟨g, 0, none⟩) xs := fun j u hj => by
  obtain ⟨b, off, e, hc⟩ := h j u hj
  cases e
  exact ⟨g, 0, rfl, (World.cell?_of_block hk).trans hc⟩
theorem Mem.three {w : World} {B : Nat} {a b c d : Ob} {S S2 : List Ob} (h : Mem w B (a :: b :: c :: (S ++ S2))) : Mem w B (a :: ((b :: c :: S) ++ S2)) := h
def OnOk (D B n k gk gy gn go : Nat) (J : List (List Nat) → World → Prop) (Jx : World → Prop) (N : Nat) : Prop :=
  ∀ (l : List Nat) (p : Option Addr) (m c fr : Nat) (pre : List (List Nat)) (S : List Ob) (w0 : World), k - m ≤ N → Mem w0 B (⟨3, p, m, c, nv l⟩ :: ⟨29, some ⟨gy, 0, none⟩, 1, 1, [.func (.yield (D + 1)) #[] #[]]⟩ :: ⟨81, some ⟨go, 0, none⟩, 1, 1, [.func (.func 53) #[] #[.pointer (some ⟨gk, 0, none⟩), .pointer (some ⟨gy, 0, none⟩), .pointer (some ⟨gn, 0, none⟩), .pointer (some ⟨go, 0, none⟩)]]⟩ :: S) → B ≤ w0.heap.size → JW D B J pre w0 → l.length = m → m ≤ k → l.Pairwise (· < ·) → (∀ x ∈ l, x < fr) → fr ≤ n → CallsV Try.prog 53 #[.slice p m c, .int .i64 (fr : Int), .pointer (some ⟨gk, 0, none⟩), .pointer (some ⟨gy, 0, none⟩), .pointer (some ⟨gn, 0, none⟩), .pointer (some ⟨go, 0, none⟩)] w0 (fun v w => ∃ b : Bool, v = .bool b ∧ (b = true → ∃ ys, JW D B J (pre ++ ys) w ∧ Mem w B (⟨3, p, m, c, nv l⟩ :: ⟨29, some ⟨gy, 0, none⟩, 1, 1, [.func (.yield (D + 1)) #[] #[]]⟩ :: ⟨81, some ⟨go, 0, none⟩, 1, 1, [.func (.func 53) #[] #[.pointer (some ⟨gk, 0, none⟩), .pointer (some ⟨gy, 0, none⟩), .pointer (some ⟨gn, 0, none⟩), .pointer (some ⟨go, 0, none⟩)]]⟩ :: S) ∧ Cov n k l fr (pre ++ ys) ∧ Below D w0 w) ∧ (b = false → Jx w ∧ Rd w (some ⟨go, 0, none⟩) [.func (.func 53) #[] #[.pointer (some ⟨gk, 0, none⟩), .pointer (some ⟨gy, 0, none⟩), .pointer (some ⟨gn, 0, none⟩), .pointer (some ⟨go, 0, none⟩)]]))

theorem on_step (D B n k gk gy gn go : Nat) (J : List (List Nat) → World → Prop) (Jx : World → Prop) (hDB2 : D + 2 ≤ B) (hJk : ∀ pre W, J pre W → Rd W (some ⟨gk, 0, none⟩) [.int .i64 (k : Int)] ∧ Rd W (some ⟨gn, 0, none⟩) [.int .i64 (n : Int)]) (hY : YOk D B n k J Jx) (hn9 : n ≤ 9) (hk9 : k ≤ 9) (l : List Nat) (p : Option Addr) (m c fr : Nat) (pre : List (List Nat)) (S : List Ob) (w0 : World) (hM0 : Mem w0 B (⟨3, p, m, c, nv l⟩ :: ⟨29, some ⟨gy, 0, none⟩, 1, 1, [.func (.yield (D + 1)) #[] #[]]⟩ :: ⟨81, some ⟨go, 0, none⟩, 1, 1, [.func (.func 53) #[] #[.pointer (some ⟨gk, 0, none⟩), .pointer (some ⟨gy, 0, none⟩), .pointer (some ⟨gn, 0, none⟩), .pointer (some ⟨go, 0, none⟩)]]⟩ :: S)) (hB0 : B ≤ w0.heap.size) (hJ0 : JW D B J pre w0) (hm : l.length = m) (hmk : m ≤ k) (hinc : l.Pairwise (· < ·)) (hlt : (∀ x ∈ l, x < fr)) (hfr : fr ≤ n) (N : Nat) (hN : k - m ≤ N) (ih : ∀ N2, N2 < N → OnOk D B n k gk gy gn go J Jx N2) :
    CallsV Try.prog 53 #[.slice p m c, .int .i64 (fr : Int), .pointer (some ⟨gk, 0, none⟩), .pointer (some ⟨gy, 0, none⟩), .pointer (some ⟨gn, 0, none⟩), .pointer (some ⟨go, 0, none⟩)] w0 (fun v w => ∃ b : Bool, v = .bool b ∧ (b = true → ∃ ys, JW D B J (pre ++ ys) w ∧ Mem w B (⟨3, p, m, c, nv l⟩ :: ⟨29, some ⟨gy, 0, none⟩, 1, 1, [.func (.yield (D + 1)) #[] #[]]⟩ :: ⟨81, some ⟨go, 0, none⟩, 1, 1, [.func (.func 53) #[] #[.pointer (some ⟨gk, 0, none⟩), .pointer (some ⟨gy, 0, none⟩), .pointer (some ⟨gn, 0, none⟩), .pointer (some ⟨go, 0, none⟩)]]⟩ :: S) ∧ Cov n k l fr (pre ++ ys) ∧ Below D w0 w) ∧ (b = false → Jx w ∧ Rd w (some ⟨go, 0, none⟩) [.func (.func 53) #[] #[.pointer (some ⟨gk, 0, none⟩), .pointer (some ⟨gy, 0, none⟩), .pointer (some ⟨gn, 0, none⟩), .pointer (some ⟨go, 0, none⟩)]])) := by
  refine enter1 Try.func53 rfl Try.ntmps53 (by simp) rfl ?_
  have hB := Below.refl D w0
  have hDB : D ≤ B := by omega
  simp only [argLoc, Nat.zero_add]
  have hM := hM0
  have hJ := hJ0
  refine W.seqR ?_
  refine LS.vv rfl rfl (by decide) (Val.assign rfl) ?_
  refine LS.nil ?_
  refine W.seq ?_
  refine W.seqR ?_
  refine LS.vv rfl rfl (by decide) (Val.move rfl) ?_
  refine LS.vv rfl rfl (by decide) (Val.len Try.underlying27 rfl) ?_
  refine LS.m rfl (Step.loadBox rfl rfl (by decide) flat3 rfl (((hJk _ _ hJ.j).1)) ?_)
  refine LS.vv rfl rfl (by decide) (Val.eql rfl rfl) ?_
  refine LS.nil ?_
  first | refine W.condD rfl (fun hc1 => ?_) (fun hc1 => ?_) | refine W.cond rfl (fun hc1 => ?_) (fun hc1 => ?_)
  ·
    refine W.seqI (m := 1) ?_
    refine LSI.l rfl rfl (by decide) (Val.loadBox (S := fun w' => w' = w0) flat29 rfl (fun _ h => by subst h; exact hM.o1.rd)) rfl ?_
    refine LSI.v rfl rfl (by decide) (Val.move rfl) ?_
    refine LSI.yield rfl rfl rfl (by decide) rfl rfl (yield_mono (hY pre l p m c _ hJ.j hJ.sz hM.o0.rd hm ⟨hinc, by omega, fun x hx => by have := hlt x hx; omega⟩) ?_)
    rintro _ w1 h9
    obtain ⟨b, rfl, hbt, hbf⟩ := y_bool h9
    refine ⟨.bool b, rfl, ?_⟩
    refine LSI.v rfl rfl (by decide) (Val.assign rfl) ?_
    refine LSI.nil ?_
    refine W.ret ?_
    refine thenP_ret ?_
    refine ret1 (by first | exact .inl rfl | exact .inr rfl) rfl ?_
    obtain ⟨r9, hr9⟩ := hJ.lp _ _ hJ.j
    exact ⟨b, rfl, fun h => ⟨[l], ⟨(hbt h).1, hJ.st, Nat.le_trans hJ.sz (hbt h).2.1.size, hJ.lp⟩, hM.kept hr9 (hbt h).2.1, Cov.full (by omega) (by simp), hB.trans (hbt h).2.2⟩, fun h => ⟨(hbf h).1, rd_block hM.o2.rd ((hbf h).2 go (by have := (hM.o2.block rfl).1; omega) (hM.o2.block rfl).2)⟩⟩
  ·
    refine W.skip ?_
    refine thenP_normal ?_
    refine W.seq ?_
    refine W.seqR ?_
    refine LS.vv rfl rfl (by decide) (Val.move rfl) ?_
    refine LS.vv rfl rfl (by decide) (Val.assign rfl) ?_
    refine LS.nil ?_
    refine W.block ?_
    refine W.loop (α := Nat × List (List Nat)) (fun g => [(9, .int .i64 (g.1 : Int))]) [(0, _), (4, _), (5, _)] (fun g w => (fr ≤ g.1 ∧ g.1 ≤ n ∧ JW D B J (pre ++ g.2) w ∧ CovTo n k l fr g.1 (pre ++ g.2)) ∧ Mem w B (⟨3, p, m, c, nv l⟩ :: ⟨29, some ⟨gy, 0, none⟩, 1, 1, [.func (.yield (D + 1)) #[] #[]]⟩ :: ⟨81, some ⟨go, 0, none⟩, 1, 1, [.func (.func 53) #[] #[.pointer (some ⟨gk, 0, none⟩), .pointer (some ⟨gy, 0, none⟩), .pointer (some ⟨gn, 0, none⟩), .pointer (some ⟨go, 0, none⟩)]]⟩ :: S) ∧ Below D w0 w) (fun g => n - g.1) ((fr, [])) (Sub.cons rfl (Sub.nil _)) (Sub.cons rfl (Sub.cons rfl (Sub.cons rfl (Sub.nil _)))) ?_ ?_
    · exact ⟨⟨Nat.le_refl _, hfr, by rw [List.append_nil]; exact hJ, CovTo.zero⟩, hM, hB⟩
    rintro ⟨i, ys⟩ w2 ⟨⟨hi1, hi2, hJ, hC⟩, hM, hB⟩
    try simp only at hM
    simp only [List.cons_append, List.nil_append]
    simp only at hi1 hi2 hJ hC
    refine W.seq ?_
    refine W.seqR ?_
    refine LS.vv rfl rfl (by decide) (Val.move rfl) ?_
    refine LS.m rfl (Step.loadBox rfl rfl (by decide) flat3 rfl (((hJk _ _ hJ.j).2)) ?_)
    refine LS.vv rfl rfl (by decide) (Val.lss rfl rfl) ?_
    refine LS.nil ?_
    first | refine W.condD rfl (fun hc2 => ?_) (fun hc2 => ?_) | refine W.cond rfl (fun hc2 => ?_) (fun hc2 => ?_)
    ·
      refine W.skip ?_
      refine thenP_normal ?_
      refine W.seq ?_
      refine W.block ?_
      refine W.seqT (S := fun w => Rd w (some ⟨go, 0, none⟩) [.func (.func 53) #[] #[.pointer (some ⟨gk, 0, none⟩), .pointer (some ⟨gy, 0, none⟩), .pointer (some ⟨gn, 0, none⟩), .pointer (some ⟨go, 0, none⟩)]]) (.val 0 (.val 1 (.val 2 (.val 5 (.val 6 (.mem 3 (.mem 4 (.mem 7 (.val 8 (.done)))))))))) mixed (by kernel_rfl) hM.drew.o2.rd ?_
      replace hB := hB.drew
      replace hM := hM.drew
      replace hJ := hJ.drew
      refine DT.vv rfl rfl rfl (by decide) (Val.loadBox flat81 rfl (fun _ h => h)) ?_
      refine DT.vv rfl rfl rfl (by decide) (Val.move rfl) ?_
      refine DT.vv rfl rfl rfl (by decide) (Val.move rfl) ?_
      refine DT.vv rfl rfl rfl (by decide) (Val.move rfl) ?_
      refine DT.vv rfl rfl rfl (by decide) (Val.addN (j := 1) rfl rfl (by omega)) ?_
      refine DT.m rfl rfl (Step.lit rfl rfl (by decide) Try.underlying27 elem3 rfl rfl (by omega) (by simp [Value.oneCell']) (Nat.le_refl _) ?_)
      rintro w3 hO3 hg3 hbl3 hsz3
      replace hJ := hJ.below hbl3
      replace hM := hM.add (Nat.le_trans hB0 hB.size) hbl3 hO3
      replace hB := hB.trans (hbl3.mono (Nat.le_trans hDB (Nat.le_trans hB0 hB.size)))
      generalize w2.drew.heap.size = gg3 at *
      refine ⟨hM.o3.rd, ?_⟩
      have hR3 := hM.o0.rd
      replace hM := hM.tail
      have hBs3 := hJ.sz
      refine DT.m rfl rfl (Step.append5 rfl rfl (by decide) Try.underlying27 elem3 rfl rfl rfl rfl hM.o0 hR3 rfl (by simp [Value.oneCell']) (by omega) (by omega) hBs3 ?_)
      rintro p4 c4 w4 hO4 hg4 hbl4 hbk4 h24
      obtain ⟨S2, hM2, hback⟩ := hM.two hO4 hg4 hbk4 h24 (by simp [nv, hm])
      replace hJ := hJ.off hbl4
      replace hB := hB.trans (hbl4.mono hDB)
      rw [show ([Value.int .i64 ((i : Nat) : Int)] : List Value) = nv [i] from rfl, nv_app] at hM2 hback
      refine ⟨hM2.o2.rd, ?_⟩
      refine DT.m rfl rfl (Step.callV body53 rfl rfl rfl (by decide) rfl (CallsV.mono (ih (k - (m + 1)) (by omega) (l ++ [i]) p4 (m + 1) c4 (i + 1) (pre ++ ys) (S ++ S2) w4 (Nat.le_refl _) hM2 hJ.sz hJ (by simp [hm]) (by omega) ?_ ?_ (by omega)) ?_))
      · exact List.pairwise_append.2 ⟨hinc, List.pairwise_singleton _ _, fun x hx y hy => by rw [List.mem_singleton.1 hy]; have := hlt x hx; omega⟩
      · intro x hx
        rcases List.mem_append.1 hx with hx | hx
        · have := hlt x hx; omega
        · rw [List.mem_singleton.1 hx]; omega
      rintro _ w5 ⟨b, rfl, hbt, hbf⟩
      refine ⟨?_, ?_⟩
      · cases b with
        | true => obtain ⟨zs, _, hM5, _⟩ := hbt rfl; exact hM5.o2.rd
        | false => exact (hbf rfl).2
      refine DT.vv rfl rfl rfl (by decide) (Val.not rfl) ?_
      refine DT.nil ?_
      cases b with
      | false =>
        refine W.condT rfl ?_
        refine W.seqR ?_
        refine LS.vv rfl rfl (by decide) (Val.assign rfl) ?_
        refine LS.nil ?_
        refine W.ret ?_
        refine inBlk_ret ?_
        refine thenP_ret ?_
        refine thenP_ret ?_
        refine inBlk_ret ?_
        refine thenP_ret ?_
        refine ret1 (by first | exact .inl rfl | exact .inr rfl) rfl ?_
        exact ⟨false, rfl, (fun h => by cases h), hbf⟩
      | true =>
        refine W.condF rfl ?_
        obtain ⟨zs, hJ5, hM5, hC5, hB5⟩ := hbt rfl
        refine W.skip ?_
        refine inBlk_normal ?_
        refine thenP_normal ?_
        refine W.reg ?_
        refine LS.vv rfl rfl (by decide) (Val.move rfl) ?_
        refine LS.vv rfl rfl (by decide) (Val.addN (j := 1) rfl rfl (by omega)) ?_
        refine LS.vv rfl rfl (by decide) (Val.assign rfl) ?_
        refine LS.nil ?_
        refine thenP_normal ?_
        rw [List.append_assoc] at hJ5 hC5
        refine ⟨(i + 1, ys ++ zs), ?_, ?_, ⟨⟨by omega, by omega, hJ5, hC.step hC5 fun y hy => ?_⟩, hback _ hM5, hB.trans hB5⟩, by omega⟩
        · exact (Sub.cons rfl (Sub.nil _))
        · repeat (first | exact Sub.nil _ | refine Sub.cons rfl ?_)
        · rcases List.mem_append.1 hy with h | h <;> simp [h]
    ·
      refine W.exit ?_
      refine thenP_exit ?_
      refine thenP_exit ?_
      refine inBlk_exit ?_
      refine thenP_normal ?_
      refine W.seqR ?_
      refine LS.vv rfl rfl (by decide) (Val.assign rfl) ?_
      refine LS.nil ?_
      refine W.ret ?_
      refine ret1 (by first | exact .inl rfl | exact .inr rfl) rfl ?_
      exact ⟨true, rfl, fun _ => ⟨ys, hJ, hM, hC.all (by omega) (by omega), hB⟩, (fun h => by cases h)⟩

end Go.Proofs.Ytnaebllojkodbaa
