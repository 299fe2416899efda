/-
  points.each: the recursion closed; the function that is ranged over; the call that makes it.
-/
import Derived.Test.YtnaebllojkodbaaEach2
namespace Go.Proofs.Ytnaebllojkodbaa
open Go Go.RowKit V
set_option linter.unusedVariables false
set_option linter.unusedSimpArgs false

theorem elem81 : Elem Try.prog 81 1 8 Value.nilFunc := ⟨by kernel_rfl⟩

theorem on_any (D B n k gk gy gn go : Nat) (J : List (List Nat) → World → Prop) (Jx : World → Prop) (hDB2 : D + 2 ≤ B) (hJk : ∀ pre W, J pre W → Rd W (some ⟨gk, 0, none⟩) [.int .i64 (k : Int)] ∧ Rd W (some ⟨gn, 0, none⟩) [.int .i64 (n : Int)]) (hY : YOk D B n k J Jx) (hn9 : n ≤ 9) (hk9 : k ≤ 9) :
    ∀ N, OnOk D B n k gk gy gn go J Jx N := by
  intro N
  induction N using Nat.strongRecOn with
  | _ N ih =>
    intro l p m c fr pre S w0 hN hM0 hB0 hJ0 hm hmk hinc hlt hfr
    exact on_step D B n k gk gy gn go J Jx hDB2 hJk hY hn9 hk9 l p m c fr pre S w0 hM0 hB0 hJ0 hm hmk hinc hlt hfr N hN ih

theorem each1_any (D n k gk gn : Nat) (J : List (List Nat) → World → Prop) (Jx : World → Prop) (w0 : World) (hD : D + 2 ≤ w0.heap.size) (hJk : ∀ pre W, J pre W → Rd W (some ⟨gk, 0, none⟩) [.int .i64 (k : Int)] ∧ Rd W (some ⟨gn, 0, none⟩) [.int .i64 (n : Int)]) (hY : YOk D w0.heap.size n k J Jx) (hn9 : n ≤ 9) (hk9 : k ≤ 9) (hJ0 : JW D w0.heap.size J [] w0) :
    CallsV Try.prog 52 #[.func (.yield (D + 1)) #[] #[], .pointer (some ⟨gk, 0, none⟩), .pointer (some ⟨gn, 0, none⟩)] w0 (fun v w => (∃ ys, J ys w ∧ Cov n k [] 0 ys ∧ Below D w0 w) ∨ Jx w) := by
  refine enter0 Try.func52 rfl Try.ntmps52 (by simp) rfl ?_
  have hB := Below.refl w0.heap.size w0
  simp only [argLoc]
  have hM := Mem.nil w0 w0.heap.size
  refine W.seqR ?_
  refine LS.m rfl (Step.box rfl rfl (by decide) rfl rfl (Nat.le_refl _) ?_)
  rintro w1 hO1 hg1 hbl1 hsz1
  replace hM := hM.add hB.size hbl1 hO1
  replace hB := hB.trans (hbl1.mono hB.size)
  refine LS.nil ?_
  refine W.seqR ?_
  refine LS.m rfl (Step.alloc (xs := [Value.nilFunc]) rfl rfl (by decide) elem81 rfl (by decide) ?_)
  rintro w2 hO2 hg2 hbl2 hsz2
  replace hM := hM.add hB.size hbl2 hO2
  replace hB := hB.trans (hbl2.mono hB.size)
  generalize w1.heap.size = gg2 at *
  refine LS.nil ?_
  refine W.seqR ?_
  refine LS.vv rfl rfl (by decide) (Val.makeFunc rfl) ?_
  refine LS.m rfl (Step.storeBox (B := w0.heap.size) rfl rfl flat81 elem81 rfl rfl rfl (hM.o0) hB.size ?_)
  rintro w3 hO3 hg3 hbl3 hsz3
  replace hM := hM.s0 hg3 hO3 inl_block
  replace hB := hB.trans hbl3
  refine LS.nil ?_
  refine W.reg ?_
  refine LS.m rfl (Step.loadBox rfl rfl (by decide) flat81 rfl (hM.o0.rd) ?_)
  refine LS.m rfl (Step.callV body53 rfl rfl rfl (by decide) rfl (CallsV.mono (on_any D w0.heap.size n k gk w0.heap.size gn gg2 J Jx hD hJk hY hn9 hk9 k [] none 0 0 0 [] [] w3 (by omega) (hM.swap.addNil 3) hB.size (hJ0.off hB) rfl (Nat.zero_le _) List.Pairwise.nil (fun x hx => by cases hx) (Nat.zero_le _)) ?_))
  rintro _ w4 ⟨b, rfl, hbt, hbf⟩
  refine LS.nil ?_
  refine ret0 (by first | exact .inl rfl | exact .inr rfl) ?_
  cases b with
  | true =>
    obtain ⟨ys, hJ, _, hC, hB4⟩ := hbt rfl
    exact .inl ⟨_, hJ.j, hC, (hB.mono (by omega)).trans hB4⟩
  | false => exact .inr (hbf rfl).1

theorem each_any (n k : Nat) (w0 : World) : CallsV Try.prog 41 #[.int .i64 (n : Int), .int .i64 (k : Int)] w0 (fun v w => ∃ gk gn, v = .func (.func 52) #[] #[.pointer (some ⟨gk, 0, none⟩), .pointer (some ⟨gn, 0, none⟩)] ∧ (w0.heap.size ≤ gk ∧ gk < w.heap.size) ∧ (w0.heap.size ≤ gn ∧ gn < w.heap.size) ∧ Rd w (some ⟨gk, 0, none⟩) [.int .i64 (k : Int)] ∧ Rd w (some ⟨gn, 0, none⟩) [.int .i64 (n : Int)] ∧ Below w0.heap.size w0 w) := by
  refine enter1 Try.func41 rfl Try.ntmps41 (by simp) rfl ?_
  have hB := Below.refl w0.heap.size w0
  simp only [argLoc, Nat.zero_add]
  have hM := Mem.nil w0 w0.heap.size
  refine W.seqR ?_
  refine LS.m rfl (Step.box rfl rfl (by decide) rfl rfl (Nat.le_refl _) ?_)
  rintro w1 hO1 hg1 hbl1 hsz1
  replace hM := hM.add hB.size hbl1 hO1
  replace hB := hB.trans (hbl1.mono hB.size)
  refine LS.m rfl (Step.box rfl rfl (by decide) rfl rfl (Nat.le_refl _) ?_)
  rintro w2 hO2 hg2 hbl2 hsz2
  replace hM := hM.add hB.size hbl2 hO2
  replace hB := hB.trans (hbl2.mono hB.size)
  generalize w1.heap.size = gg2 at *
  refine LS.vv rfl rfl (by decide) (Val.assign rfl) ?_
  refine LS.nil ?_
  refine W.seqR ?_
  refine LS.vv rfl rfl (by decide) (Val.makeFunc rfl) ?_
  refine LS.vv rfl rfl (by decide) (Val.assign rfl) ?_
  refine LS.nil ?_
  refine W.ret ?_
  refine ret1 (by first | exact .inl rfl | exact .inr rfl) rfl ?_
  exact ⟨_, _, rfl, hM.o0.block rfl, hM.o1.block rfl, hM.o0.rd, hM.o1.rd, hB⟩
end Go.Proofs.Ytnaebllojkodbaa
