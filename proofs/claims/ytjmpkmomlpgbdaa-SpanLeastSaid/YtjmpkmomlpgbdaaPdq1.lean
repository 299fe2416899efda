/-
  Sorting numbers: insertion, heap, reversal.
-/
import Derived.Sort.AssemblyPlain
import Derived.Test.YtjmpkmomlpgbdaaVheap
import Derived.Test.YtjmpkmomlpgbdaaVheap2
import Derived.Test.YtjmpkmomlpgbdaaVfin
import Derived.Test.YtjmpkmomlpgbdaaVtree
import Derived.Test.YtjmpkmomlpgbdaaVfacts2
import Derived.Test.YtjmpkmomlpgbdaaVmem4
namespace Go.Proofs.Ytjmpkmomlpgbdaa
open Go Go.RowKit V
set_option linter.unusedVariables false
set_option linter.unusedSimpArgs false



def ltN (x y : Nat) : Bool := decide (x < y)
theorem swo : Go.Sort.SWO ltN := ⟨fun x => by simp [ltN], fun x y z h1 h2 => by simp only [ltN, decide_eq_true_iff] at *; omega, fun x y z h1 h2 => by simp only [ltN, decide_eq_false_iff_not] at *; omega⟩
theorem gnA (d : Array Nat) (j : Nat) : gn d.toList j = d[j]! := by
  unfold gn
  by_cases h : j < d.size
  · simp [h]
  · simp [h]
theorem swpA (d : Array Nat) (i j : Nat) : (d.toList.set i (gn d.toList j)).set j (gn d.toList i) = (Go.Sort.swp d i j).toList := by
  rw [gnA, gnA]; simp [Go.Sort.swp]
theorem swp_comm (d : Array Nat) (i j : Nat) : Go.Sort.swp d i j = Go.Sort.swp d j i := by
  apply Array.ext'
  rw [← swpA, ← swpA]
  by_cases e : i = j
  · subst e; rfl
  · exact List.set_comm _ _ e
theorem swp_size (d : Array Nat) (i j : Nat) : (Go.Sort.swp d i j).size = d.size := by simp [Go.Sort.swp]
theorem ltN_yes {x y : Nat} (h : x < y) : ltN x y = true := decide_eq_true h
theorem ltN_no {x y : Nat} (h : ¬ x < y) : ltN x y = false := decide_eq_false h
theorem ins_yes {E : Array Nat} {a j : Nat} (h1 : a < j) (h2 : gn E.toList j < gn E.toList (j - 1)) : Go.Sort.insInner ltN a j E = Go.Sort.insInner ltN a (j - 1) (Go.Sort.swp E j (j - 1)) := by
  replace h2 := ltN_yes h2
  obtain ⟨k, rfl⟩ : ∃ k, j = k + 1 := ⟨j - 1, by omega⟩
  rw [gnA, gnA] at h2
  rw [Nat.add_sub_cancel] at *
  rw [Go.Sort.insInner, if_pos (by simp [h2]; omega)]
theorem ins_no {E : Array Nat} {a j : Nat} (h : a < j → ¬ gn E.toList j < gn E.toList (j - 1)) : Go.Sort.insInner ltN a j E = E := by
  replace h := fun h1 => ltN_no (h h1)
  cases j with
  | zero => rfl
  | succ k =>
    rw [gnA, gnA, Nat.add_sub_cancel] at h
    rw [Go.Sort.insInner, if_neg]
    intro h2
    simp only [gt_iff_lt, Bool.and_eq_true, decide_eq_true_iff] at h2
    rw [h h2.1] at h2; cases h2.2
theorem insO_yes {a b i : Nat} {d : Array Nat} (h : i < b) : Go.Sort.insOuter ltN a b i d = Go.Sort.insOuter ltN a b (i + 1) (Go.Sort.insInner ltN a i d) := by
  conv => lhs; rw [Go.Sort.insOuter]
  rw [if_pos h]
theorem insO_no {a b i : Nat} {d : Array Nat} (h : b ≤ i) : Go.Sort.insOuter ltN a b i d = d := by rw [Go.Sort.insOuter, if_neg (by omega)]
theorem sd_end {hi first root : Nat} {d : Array Nat} (h : hi ≤ 2 * root + 1) : Go.Sort.siftDown ltN hi first root d = d := by rw [Go.Sort.siftDown, dif_pos h]
def Child (hi first root ch : Nat) (d : Array Nat) : Prop := ch = 2 * root + 1 ∧ (2 * root + 1 + 1 < hi → ¬ gn d.toList (first + (2 * root + 1)) < gn d.toList (first + (2 * root + 1) + 1)) ∨ ch = 2 * root + 1 + 1 ∧ 2 * root + 1 + 1 < hi ∧ gn d.toList (first + (2 * root + 1)) < gn d.toList (first + (2 * root + 1) + 1)
theorem sd_step {hi first root ch : Nat} {d : Array Nat} (h : 2 * root + 1 < hi) (hc : Child hi first root ch d) : Go.Sort.siftDown ltN hi first root d = if gn d.toList (first + root) < gn d.toList (first + ch) then Go.Sort.siftDown ltN hi first ch (Go.Sort.swp d (first + root) (first + ch)) else d := by
  rw [Go.Sort.siftDown, dif_neg (by omega)]
  replace hc : ch = 2 * root + 1 ∧ (2 * root + 1 + 1 < hi → ltN d[first + (2 * root + 1)]! d[first + (2 * root + 1) + 1]! = false) ∨ ch = 2 * root + 1 + 1 ∧ 2 * root + 1 + 1 < hi ∧ ltN d[first + (2 * root + 1)]! d[first + (2 * root + 1) + 1]! = true := by
    rw [← gnA, ← gnA]
    rcases hc with ⟨e, h2⟩ | ⟨e, h2, h3⟩
    · exact .inl ⟨e, fun h1 => ltN_no (h2 h1)⟩
    · exact .inr ⟨e, h2, ltN_yes h3⟩
  have hif : (if gn d.toList (first + root) < gn d.toList (first + ch) then Go.Sort.siftDown ltN hi first ch (Go.Sort.swp d (first + root) (first + ch)) else d) = if ltN d[first + root]! d[first + ch]! = true then Go.Sort.siftDown ltN hi first ch (Go.Sort.swp d (first + root) (first + ch)) else d := by
    rw [← gnA, ← gnA]; unfold ltN; simp only [decide_eq_true_iff]
  rw [hif]
  rcases hc with ⟨rfl, hc⟩ | ⟨rfl, h2, hc⟩
  · rw [if_neg (fun h3 => by simp only [Bool.and_eq_true, decide_eq_true_iff] at h3; rw [hc h3.1] at h3; cases h3.2)]
    cases ltN d[first + root]! d[first + (2 * root + 1)]! <;> simp
  · rw [if_pos (by simp only [Bool.and_eq_true, decide_eq_true_iff]; exact ⟨h2, hc⟩), dif_pos (by omega)]
    cases ltN d[first + root]! d[first + (2 * root + 1 + 1)]! <;> simp
theorem up_yes {p : Nat → Bool} {d : Array Nat} {j i : Nat} (h : i ≤ j) (hp : p (gn d.toList i) = true) : Go.Sort.scanUp p d j i = Go.Sort.scanUp p d j (i + 1) := by
  rw [gnA] at hp
  conv => lhs; rw [Go.Sort.scanUp]
  rw [if_pos (by simp [h, hp])]
theorem up_no {p : Nat → Bool} {d : Array Nat} {j i : Nat} (h : i ≤ j → p (gn d.toList i) = false) : Go.Sort.scanUp p d j i = i := by
  rw [gnA] at h
  rw [Go.Sort.scanUp, if_neg]
  intro h2
  simp only [Bool.and_eq_true, decide_eq_true_iff] at h2
  rw [h h2.1] at h2; cases h2.2
theorem down_yes {p : Nat → Bool} {d : Array Nat} {j i : Nat} (h : i ≤ j) (h1 : 1 ≤ j) (hp : p (gn d.toList j) = true) : Go.Sort.scanDown p d i j = Go.Sort.scanDown p d i (j - 1) := by
  obtain ⟨k, rfl⟩ : ∃ k, j = k + 1 := ⟨j - 1, by omega⟩
  rw [gnA] at hp
  rw [Nat.add_sub_cancel, Go.Sort.scanDown, if_pos (by simp [h, hp])]
theorem down_no {p : Nat → Bool} {d : Array Nat} {j i : Nat} (h : i ≤ j → p (gn d.toList j) = false) : Go.Sort.scanDown p d i j = j := by
  cases j with
  | zero => rfl
  | succ k =>
    rw [gnA] at h
    rw [Go.Sort.scanDown, if_neg]
    intro h2
    simp only [Bool.and_eq_true, decide_eq_true_iff] at h2
    rw [h h2.1] at h2; cases h2.2
theorem pl_end {a i j i2 j2 : Nat} {d : Array Nat} (h1 : Go.Sort.scanUp (fun x => ltN x d[a]!) d j i = i2) (h2 : Go.Sort.scanDown (fun x => !ltN x d[a]!) d i2 j = j2) (h : j2 < i2) : Go.Sort.partLoop ltN a i j d = (j2, d) := by
  rw [Go.Sort.partLoop, h1, h2, if_pos h]
theorem pl_step {a i j i2 j2 : Nat} {d : Array Nat} (h1 : Go.Sort.scanUp (fun x => ltN x d[a]!) d j i = i2) (h2 : Go.Sort.scanDown (fun x => !ltN x d[a]!) d i2 j = j2) (h : i2 ≤ j2) (hi : i ≤ i2) (hj : j2 ≤ j) (hp : 1 ≤ j2) : Go.Sort.partLoop ltN a i j d = Go.Sort.partLoop ltN a (i2 + 1) (j2 - 1) (Go.Sort.swp d i2 j2) := by
  conv => lhs; rw [Go.Sort.partLoop]
  rw [h1, h2, if_neg (by omega), dif_pos (by omega)]
theorem pe_end {a i j i2 j2 : Nat} {d : Array Nat} (h1 : Go.Sort.scanUp (fun x => !ltN d[a]! x) d j i = i2) (h2 : Go.Sort.scanDown (fun x => ltN d[a]! x) d i2 j = j2) (h : j2 < i2) : Go.Sort.partEqLoop ltN a i j d = (i2, d) := by
  rw [Go.Sort.partEqLoop, h1, h2, if_pos h]
theorem pe_step {a i j i2 j2 : Nat} {d : Array Nat} (h1 : Go.Sort.scanUp (fun x => !ltN d[a]! x) d j i = i2) (h2 : Go.Sort.scanDown (fun x => ltN d[a]! x) d i2 j = j2) (h : i2 ≤ j2) (hi : i ≤ i2) (hj : j2 ≤ j) (hp : 1 ≤ j2) : Go.Sort.partEqLoop ltN a i j d = Go.Sort.partEqLoop ltN a (i2 + 1) (j2 - 1) (Go.Sort.swp d i2 j2) := by
  conv => lhs; rw [Go.Sort.partEqLoop]
  rw [h1, h2, if_neg (by omega), dif_pos (by omega)]
theorem part_yes {d d1 : Array Nat} {a b pivot i j : Nat} (h0 : Go.Sort.swp d a pivot = d1) (h1 : Go.Sort.scanUp (fun x => ltN x d1[a]!) d1 (b - 1) (a + 1) = i) (h2 : Go.Sort.scanDown (fun x => !ltN x d1[a]!) d1 i (b - 1) = j) (h : j < i) : Go.Sort.partition ltN d a b pivot = (j, true, Go.Sort.swp d1 j a) := by
  unfold Go.Sort.partition
  simp only [h0, h1, h2]
  rw [if_pos h]
theorem part_no {d d1 : Array Nat} {a b pivot i j : Nat} (h0 : Go.Sort.swp d a pivot = d1) (h1 : Go.Sort.scanUp (fun x => ltN x d1[a]!) d1 (b - 1) (a + 1) = i) (h2 : Go.Sort.scanDown (fun x => !ltN x d1[a]!) d1 i (b - 1) = j) (h : i ≤ j) : Go.Sort.partition ltN d a b pivot = ((Go.Sort.partLoop ltN a (i + 1) (j - 1) (Go.Sort.swp d1 i j)).1, false, Go.Sort.swp (Go.Sort.partLoop ltN a (i + 1) (j - 1) (Go.Sort.swp d1 i j)).2 (Go.Sort.partLoop ltN a (i + 1) (j - 1) (Go.Sort.swp d1 i j)).1 a) := by
  unfold Go.Sort.partition
  simp only [h0, h1, h2]
  rw [if_neg (by omega)]
theorem ss_yes {d : Array Nat} {b i : Nat} (h : i < b) (hl : ¬ gn d.toList i < gn d.toList (i - 1)) : Go.Sort.scanSorted ltN d b i = Go.Sort.scanSorted ltN d b (i + 1) := by
  replace hl := ltN_no hl
  rw [gnA, gnA] at hl
  conv => lhs; rw [Go.Sort.scanSorted]
  rw [if_pos (by simp [h, hl])]
theorem ss_no {d : Array Nat} {b i : Nat} (h : i < b → gn d.toList i < gn d.toList (i - 1)) : Go.Sort.scanSorted ltN d b i = i := by
  replace h := fun h1 => ltN_yes (h h1)
  rw [gnA, gnA] at h
  rw [Go.Sort.scanSorted, if_neg]
  intro h2
  simp only [Bool.and_eq_true, decide_eq_true_iff] at h2
  rw [h h2.1] at h2; simp at h2
theorem shd_yes {j : Nat} {d : Array Nat} (h1 : 1 ≤ j) (h : gn d.toList j < gn d.toList (j - 1)) : Go.Sort.shiftDown ltN j d = Go.Sort.shiftDown ltN (j - 1) (Go.Sort.swp d j (j - 1)) := by
  replace h := ltN_yes h
  obtain ⟨k, rfl⟩ : ∃ k, j = k + 1 := ⟨j - 1, by omega⟩
  rw [gnA, gnA, Nat.add_sub_cancel] at h
  rw [Nat.add_sub_cancel, Go.Sort.shiftDown, if_neg (by simp [h])]
theorem shd_no {j : Nat} {d : Array Nat} (h : 1 ≤ j → ¬ gn d.toList j < gn d.toList (j - 1)) : Go.Sort.shiftDown ltN j d = d := by
  replace h := fun h1 => ltN_no (h h1)
  cases j with
  | zero => rfl
  | succ k =>
    rw [gnA, gnA, Nat.add_sub_cancel] at h
    rw [Go.Sort.shiftDown, if_pos (by simp [h (by omega)])]
theorem shu_yes {b j : Nat} {d : Array Nat} (h1 : j < b) (h : gn d.toList j < gn d.toList (j - 1)) : Go.Sort.shiftUp ltN b j d = Go.Sort.shiftUp ltN b (j + 1) (Go.Sort.swp d j (j - 1)) := by
  replace h := ltN_yes h
  rw [gnA, gnA] at h
  conv => lhs; rw [Go.Sort.shiftUp]
  rw [if_pos h1, if_neg (by simp [h])]
theorem shu_no {b j : Nat} {d : Array Nat} (h : j < b → ¬ gn d.toList j < gn d.toList (j - 1)) : Go.Sort.shiftUp ltN b j d = d := by
  replace h := fun h1 => ltN_no (h h1)
  rw [gnA, gnA] at h
  rw [Go.Sort.shiftUp]
  by_cases hj : j < b
  · rw [if_pos hj, if_pos (by simp [h hj])]
  · rw [if_neg hj]
theorem pi_eq {a b s i i2 : Nat} {d : Array Nat} (h : Go.Sort.scanSorted ltN d b i = i2) : Go.Sort.partialIns ltN a b (s + 1) i d = if i2 = b then (d, true) else if b - a < 50 then (d, false) else Go.Sort.partialIns ltN a b s i2 (if b - i2 ≥ 2 then Go.Sort.shiftUp ltN b (i2 + 1) (if i2 - a ≥ 2 then Go.Sort.shiftDown ltN (i2 - 1) (Go.Sort.swp d i2 (i2 - 1)) else Go.Sort.swp d i2 (i2 - 1)) else (if i2 - a ≥ 2 then Go.Sort.shiftDown ltN (i2 - 1) (Go.Sort.swp d i2 (i2 - 1)) else Go.Sort.swp d i2 (i2 - 1))) := by
  rw [Go.Sort.partialIns]
  simp only [h]
theorem rev_yes {i j : Nat} {d : Array Nat} (h : i < j) : Go.Sort.reverseLoop i j d = Go.Sort.reverseLoop (i + 1) (j - 1) (Go.Sort.swp d i j) := by
  conv => lhs; rw [Go.Sort.reverseLoop]
  rw [if_pos h]
theorem rev_no {i j : Nat} {d : Array Nat} (h : j ≤ i) : Go.Sort.reverseLoop i j d = d := by rw [Go.Sort.reverseLoop, if_neg (by omega)]

theorem isNaN_u32 (x : Nat) (w0 : World) :
    CallsV Try.prog 75 #[.int .u32 (x : Int)] w0 (fun v w => v = .bool false ∧ Below w0.heap.size w0 w) := by
  refine enter1 Try.func75 rfl Try.ntmps75 (by simp) rfl ?_
  have hB := Below.refl w0.heap.size w0
  simp only [argLoc]
  refine W.seqR ?_
  refine LS.vv rfl rfl (by decide) (Val.assign rfl) ?_
  refine LS.nil ?_
  refine W.seqR ?_
  refine LS.vv rfl rfl (by decide) (Val.move rfl) ?_
  refine LS.vv rfl rfl (by decide) (Val.move rfl) ?_
  refine LS.vv rfl rfl (by decide) (Val.cast (v := .bool false) (Val.neq rfl rfl) (by simp)) ?_
  refine LS.vv rfl rfl (by decide) (Val.assign rfl) ?_
  refine LS.nil ?_
  refine W.ret ?_
  refine ret1 (by first | exact .inl rfl | exact .inr rfl) rfl ?_
  exact ⟨rfl, hB⟩

theorem less_u32 (x y : Nat) (w0 : World) :
    CallsV Try.prog 66 #[.int .u32 (x : Int), .int .u32 (y : Int)] w0 (fun v w => v = .bool (decide (x < y)) ∧ Below w0.heap.size w0 w) := by
  refine enter1 Try.func66 rfl Try.ntmps66 (by simp) rfl ?_
  have hB := Below.refl w0.heap.size w0
  simp only [argLoc, Nat.zero_add]
  refine W.seqR ?_
  refine LS.vv rfl rfl (by decide) (Val.assign rfl) ?_
  refine LS.nil ?_
  refine W.seqR ?_
  refine LS.vv rfl rfl (by decide) (Val.move rfl) ?_
  refine LS.m rfl (Step.call body75 rfl rfl (by decide) rfl (CallsV.mono (isNaN_u32 x _) ?_))
  rintro _ w1 ⟨rfl, hb1⟩
  replace hB := hB.trans (hb1.mono hB.size)
  refine LS.vv rfl rfl (by decide) (Val.move rfl) ?_
  refine LS.s rfl rfl rfl rfl (by decide) ?_
  refine LS.s rfl rfl rfl rfl (by decide) ?_
  refine LS.s rfl rfl rfl rfl (by decide) ?_
  refine LS.vv rfl rfl (by decide) (Val.pickF rfl rfl rfl) ?_
  refine LS.vv rfl rfl (by decide) (Val.move rfl) ?_
  refine LS.vg rfl rfl rfl rfl (by decide) (Val.move rfl) ?_
  refine LS.vg rfl rfl rfl rfl (by decide) (Val.move rfl) ?_
  refine LS.vg rfl rfl rfl rfl (by decide) (Val.lss rfl rfl) ?_
  refine LS.vv rfl rfl (by decide) (Val.pickF rfl rfl rfl) ?_
  refine LS.vv rfl rfl (by decide) (Val.assign rfl) ?_
  refine LS.nil ?_
  refine W.ret ?_
  refine ret1 (by first | exact .inl rfl | exact .inr rfl) rfl ?_
  refine ⟨congrArg Value.bool ?_, hB⟩
  rw [decide_eq_decide]
  omega

theorem insertion_u32 (d : Array Nat) (p : Option Addr) (n c B : Nat) (S : List Ob) (a b : Nat) (w0 : World) (hM0 : Mem w0 B (⟨37, p, n, c, uv d.toList⟩ :: S)) (hB0 : B ≤ w0.heap.size) (hn : d.size = n) (hn2 : n ≤ 1000000) (hab : a ≤ b) (hb : b ≤ n) :
    CallsV Try.prog 60 #[.slice p n c, .int .i64 (a : Int), .int .i64 (b : Int)] w0 (fun v w => v = .tuple #[] ∧ Mem w B (⟨37, p, n, c, uv (Go.Sort.insertionSort ltN d a b).toList⟩ :: S) ∧ Below B w0 w) := by
  refine enter0 Try.func60 rfl Try.ntmps60 (by simp) rfl ?_
  have hB := Below.refl B w0
  simp only [argLoc, Nat.zero_add, Nat.reduceAdd]
  have hM := hM0
  refine W.seqR ?_
  refine LS.vv rfl rfl (by decide) (Val.move rfl) ?_
  first | refine LS.vv rfl rfl (by decide) (Val.addN (j := 1) rfl rfl (by first | omega | (simp only [List.length_set]; omega))) ?_ | refine LS.vv rfl rfl (by decide) (Val.add64 rfl rfl (by first | omega | (simp only [List.length_set]; omega))) ?_
  refine LS.vv rfl rfl (by decide) (Val.assign rfl) ?_
  refine LS.nil ?_
  refine W.block ?_
  refine W.loop (α := Array Nat × Nat) (fun g => [(6, .int .i64 (g.2 : Int))]) [(0, _), (1, _), (2, _)] (fun g w => (Go.Sort.insOuter ltN a b g.2 g.1 = Go.Sort.insertionSort ltN d a b ∧ a + 1 ≤ g.2 ∧ g.1.size = n) ∧ Mem w B (⟨37, p, n, c, uv g.1.toList⟩ :: S) ∧ Below B w0 w) (fun g => b - g.2) ((d, a + 1)) (Sub.cons rfl (Sub.nil _)) (Sub.cons rfl (Sub.cons rfl (Sub.cons rfl (Sub.nil _)))) ?_ ?_
  · exact ⟨⟨rfl, Nat.le_refl _, hn⟩, hM, hB⟩
  rintro ⟨D, i⟩ w1 ⟨⟨hD, hi, hDn⟩, hM, hB⟩
  try simp only at hM
  simp only [List.cons_append, List.nil_append]
  simp only at hD hi hDn
  refine W.seq ?_
  refine W.seqR ?_
  refine LS.vv rfl rfl (by decide) (Val.move rfl) ?_
  refine LS.vv rfl rfl (by decide) (Val.move rfl) ?_
  refine LS.vv rfl rfl (by decide) (Val.lss rfl rfl) ?_
  refine LS.nil ?_
  first | refine W.condD rfl (fun hc1 => ?_) (fun hc1 => ?_) | refine W.cond rfl (fun hc1 => ?_) (fun hc1 => ?_)
  ·
    refine W.skip ?_
    refine thenP_normal ?_
    refine W.seq ?_
    refine W.block ?_
    refine W.seqR ?_
    refine LS.vv rfl rfl (by decide) (Val.move rfl) ?_
    refine LS.vv rfl rfl (by decide) (Val.assign rfl) ?_
    refine LS.nil ?_
    refine W.block ?_
    refine W.loop (α := Array Nat × Nat) (fun g => [(7, .int .i64 (g.2 : Int))]) [(0, _), (1, _), (2, _), (6, _)] (fun g w => (Go.Sort.insInner ltN a g.2 g.1 = Go.Sort.insInner ltN a i D ∧ g.2 ≤ i ∧ g.1.size = n) ∧ Mem w B (⟨37, p, n, c, uv g.1.toList⟩ :: S) ∧ Below B w0 w) (fun g => g.2) ((D, i)) (Sub.cons rfl (Sub.nil _)) (Sub.cons rfl (Sub.cons rfl (Sub.cons rfl (Sub.cons rfl (Sub.nil _))))) ?_ ?_
    · exact ⟨⟨rfl, Nat.le_refl _, hDn⟩, hM, hB⟩
    rintro ⟨E, j⟩ w2 ⟨⟨hE, hj, hEn⟩, hM, hB⟩
    try simp only at hM
    simp only [List.cons_append, List.nil_append]
    simp only at hE hj hEn
    have hlE : E.toList.length = n := by rw [Array.length_toList]; first | assumption | omega
    refine W.seq ?_
    refine W.seqF 15 [(0, true), (1, true), (2, true), (3, true), (4, true), (5, true), (6, true), (7, true), (8, true), (9, true), (10, true), (11, true), (12, true), (13, false), (14, true)] mixed (by kernel_rfl) hB hM ?_
    replace hB := hB.drew
    replace hM := hM.drew
    refine DF.vv rfl rfl rfl (by decide) (Val.move rfl) ?_
    refine DF.vv rfl rfl rfl (by decide) (Val.move rfl) ?_
    refine DF.vv rfl rfl rfl (by decide) (Val.gtr rfl rfl) ?_
    refine DF.vv rfl rfl rfl (by decide) (Val.move rfl) ?_
    refine DF.split 3 rfl (fun hg2 => ?_) (fun hg2 => ?_)
    ·
      first | (have hg2p := of_decide_eq_true hg2) | skip
      refine DF.vg rfl rfl rfl rfl hg2 (by decide) (Val.move rfl) ?_
      refine DF.vg rfl rfl rfl rfl hg2 (by decide) (Val.move rfl) ?_
      refine DF.vg rfl rfl rfl rfl hg2 (by decide) (Val.index1 Try.underlying32 elem37 rfl rfl (by first | omega | (simp only [List.length_set]; omega)) (hM.o0.rd) (uv_lt (by first | omega | (simp only [List.length_set]; omega)))) ?_
      refine DF.vg rfl rfl rfl rfl hg2 (by decide) (Val.load flat37 rfl (fun _ h => h.2.o0.rd) (uv_at (by first | omega | (simp only [List.length_set]; omega)))) ?_
      refine DF.vg rfl rfl rfl rfl hg2 (by decide) (Val.move rfl) ?_
      refine DF.vg rfl rfl rfl rfl hg2 (by decide) (Val.move rfl) ?_
      first | refine DF.vg rfl rfl rfl rfl hg2 (by decide) (Val.subN (j := 1) rfl rfl (by first | omega | (simp only [List.length_set]; omega)) (by first | omega | (simp only [List.length_set]; omega))) ?_ | refine DF.vg rfl rfl rfl rfl hg2 (by decide) (Val.sub64 rfl rfl (by first | omega | (simp only [List.length_set]; omega))) ?_
      refine DF.vg rfl rfl rfl rfl hg2 (by decide) (Val.index1 Try.underlying32 elem37 rfl rfl (by first | omega | (simp only [List.length_set]; omega)) (hM.o0.rd) (uv_lt (by first | omega | (simp only [List.length_set]; omega)))) ?_
      refine DF.vg rfl rfl rfl rfl hg2 (by decide) (Val.load flat37 rfl (fun _ h => h.2.o0.rd) (uv_at (by first | omega | (simp only [List.length_set]; omega)))) ?_
      refine DF.mg rfl rfl rfl hg2 (Step.call body66 rfl rfl (by decide) rfl (CallsV.mono (less_u32 (gn E.toList j) (gn E.toList (j - 1)) _) ?_))
      rintro _ w3 ⟨rfl, hb3⟩
      replace hM := hM.below hb3
      replace hB := hB.trans (hb3.mono (Nat.le_trans hB0 hB.size))
      refine ⟨fun _ => ⟨hB, hM⟩, ?_⟩
      refine DF.vv rfl rfl rfl (by decide) (Val.pickT rfl hg2 rfl) ?_
      refine DF.nil ?_
      first | refine W.condD rfl (fun hc3 => ?_) (fun hc3 => ?_) | refine W.cond rfl (fun hc3 => ?_) (fun hc3 => ?_)
      ·
        refine W.skip ?_
        refine thenP_normal ?_
        refine W.seq ?_
        refine W.block ?_
        refine W.regT (S := fun w => Below B w0 w) (.val 0 (.val 1 (.val 2 (.val 3 (.val 4 (.val 5 (.val 6 (.val 7 (.val 8 (.val 10 (.val 11 (.val 12 (.two (.mem 9 (.mem 13 (.val 14 (.mem 15 (.val 16 (.mem 17 (.done))))))) (.mem 13 (.mem 9 (.val 14 (.mem 15 (.val 16 (.mem 17 (.done)))))))))))))))))))) mixed (by kernel_rfl) hB.drew ?_
        replace hB := hB.drew
        replace hM := hM.drew
        refine DT.vv rfl rfl rfl (by decide) (Val.move rfl) ?_
        refine DT.vv rfl rfl rfl (by decide) (Val.move rfl) ?_
        refine DT.vv rfl rfl rfl (by decide) (Val.move rfl) ?_
        refine DT.vv rfl rfl rfl (by decide) (Val.move rfl) ?_
        first | refine DT.vv rfl rfl rfl (by decide) (Val.subN (j := 1) rfl rfl (by first | omega | (simp only [List.length_set]; omega)) (by first | omega | (simp only [List.length_set]; omega))) ?_ | refine DT.vv rfl rfl rfl (by decide) (Val.sub64 rfl rfl (by first | omega | (simp only [List.length_set]; omega))) ?_
        refine DT.vv rfl rfl rfl (by decide) (Val.move rfl) ?_
        refine DT.vv rfl rfl rfl (by decide) (Val.move rfl) ?_
        first | refine DT.vv rfl rfl rfl (by decide) (Val.subN (j := 1) rfl rfl (by first | omega | (simp only [List.length_set]; omega)) (by first | omega | (simp only [List.length_set]; omega))) ?_ | refine DT.vv rfl rfl rfl (by decide) (Val.sub64 rfl rfl (by first | omega | (simp only [List.length_set]; omega))) ?_
        refine DT.vv rfl rfl rfl (by decide) (Val.index1 Try.underlying32 elem37 rfl rfl (by first | omega | (simp only [List.length_set]; omega)) (hM.o0.rd) (uv_lt (by first | omega | (simp only [List.length_set]; omega)))) ?_
        refine DT.vv rfl rfl rfl (by decide) (Val.move rfl) ?_
        refine DT.vv rfl rfl rfl (by decide) (Val.move rfl) ?_
        refine DT.vv rfl rfl rfl (by decide) (Val.index1 Try.underlying32 elem37 rfl rfl (by first | omega | (simp only [List.length_set]; omega)) (hM.o0.rd) (uv_lt (by first | omega | (simp only [List.length_set]; omega)))) ?_
        refine DT.two ?_ ?_
        ·
          refine DT.m rfl rfl (Step.load rfl rfl (by decide) flat37 rfl (hM.o0.rd) (uv_at (by first | omega | (simp only [List.length_set]; omega))) ?_)
          refine ⟨hB, ?_⟩
          refine DT.m rfl rfl (Step.load rfl rfl (by decide) flat37 rfl (hM.o0.rd) (uv_at (by first | omega | (simp only [List.length_set]; omega))) ?_)
          refine ⟨hB, ?_⟩
          refine DT.vv rfl rfl rfl (by decide) (Val.index1 Try.underlying32 elem37 rfl rfl (by first | omega | (simp only [List.length_set]; omega)) (hM.o0.rd) (uv_lt (by first | omega | (simp only [List.length_set]; omega)))) ?_
          refine DT.m rfl rfl (Step.store (B := B) rfl rfl flat37 elem37 rfl rfl rfl (hM.o0) (by first | omega | (simp only [List.length_set]; omega)) (Nat.le_trans hB0 hB.size) ?_)
          rintro w4 hO4 hg4 hbl4 hsz4
          replace hM := hM.s0 hg4 hO4 inl_block
          try simp only [uv_app1, uv_app, uv_set, uv_rep, uv_one, uv_cons, uv_take, uv_drop, List.nil_append] at hM
          replace hB := hB.trans hbl4
          refine ⟨hB, ?_⟩
          refine DT.vv rfl rfl rfl (by decide) (Val.index1 Try.underlying32 elem37 rfl rfl (by first | omega | (simp only [List.length_set]; omega)) (hM.o0.rd) (uv_lt (by first | omega | (simp only [List.length_set]; omega)))) ?_
          refine DT.m rfl rfl (Step.store (B := B) rfl rfl flat37 elem37 rfl rfl rfl (hM.o0) (by first | omega | (simp only [List.length_set]; omega)) (Nat.le_trans hB0 hB.size) ?_)
          rintro w5 hO5 hg5 hbl5 hsz5
          replace hM := hM.s0 hg5 hO5 inl_block
          try simp only [uv_app1, uv_app, uv_set, uv_rep, uv_one, uv_cons, uv_take, uv_drop, List.nil_append] at hM
          replace hB := hB.trans hbl5
          refine ⟨hB, ?_⟩
          refine DT.nil ?_
          refine inBlk_normal ?_
          refine thenP_normal ?_
          refine W.reg ?_
          refine LS.vv rfl rfl (by decide) (Val.move rfl) ?_
          first | refine LS.vv rfl rfl (by decide) (Val.subN (j := 1) rfl rfl (by first | omega | (simp only [List.length_set]; omega)) (by first | omega | (simp only [List.length_set]; omega))) ?_ | refine LS.vv rfl rfl (by decide) (Val.sub64 rfl rfl (by first | omega | (simp only [List.length_set]; omega))) ?_
          refine LS.vv rfl rfl (by decide) (Val.assign rfl) ?_
          refine LS.nil ?_
          refine thenP_normal ?_
          simp only [swpA] at hM
          try rw [swp_comm E (j - 1) j] at hM
          have hyes := ins_yes (E := E) (a := a) (j := j) (by omega) (by omega)
          refine ⟨(Go.Sort.swp E j (j - 1), j - 1), ?_, ?_, ⟨⟨by rw [← hyes]; exact hE, by simp only; omega, by rw [swp_size]; exact hEn⟩, hM, hB⟩, by simp only; omega⟩
          · exact (Sub.cons rfl (Sub.nil _))
          · repeat (first | exact Sub.nil _ | refine Sub.cons rfl ?_)
        ·
          refine DT.m rfl rfl (Step.load rfl rfl (by decide) flat37 rfl (hM.o0.rd) (uv_at (by first | omega | (simp only [List.length_set]; omega))) ?_)
          refine ⟨hB, ?_⟩
          refine DT.m rfl rfl (Step.load rfl rfl (by decide) flat37 rfl (hM.o0.rd) (uv_at (by first | omega | (simp only [List.length_set]; omega))) ?_)
          refine ⟨hB, ?_⟩
          refine DT.vv rfl rfl rfl (by decide) (Val.index1 Try.underlying32 elem37 rfl rfl (by first | omega | (simp only [List.length_set]; omega)) (hM.o0.rd) (uv_lt (by first | omega | (simp only [List.length_set]; omega)))) ?_
          refine DT.m rfl rfl (Step.store (B := B) rfl rfl flat37 elem37 rfl rfl rfl (hM.o0) (by first | omega | (simp only [List.length_set]; omega)) (Nat.le_trans hB0 hB.size) ?_)
          rintro w6 hO6 hg6 hbl6 hsz6
          replace hM := hM.s0 hg6 hO6 inl_block
          try simp only [uv_app1, uv_app, uv_set, uv_rep, uv_one, uv_cons, uv_take, uv_drop, List.nil_append] at hM
          replace hB := hB.trans hbl6
          refine ⟨hB, ?_⟩
          refine DT.vv rfl rfl rfl (by decide) (Val.index1 Try.underlying32 elem37 rfl rfl (by first | omega | (simp only [List.length_set]; omega)) (hM.o0.rd) (uv_lt (by first | omega | (simp only [List.length_set]; omega)))) ?_
          refine DT.m rfl rfl (Step.store (B := B) rfl rfl flat37 elem37 rfl rfl rfl (hM.o0) (by first | omega | (simp only [List.length_set]; omega)) (Nat.le_trans hB0 hB.size) ?_)
          rintro w7 hO7 hg7 hbl7 hsz7
          replace hM := hM.s0 hg7 hO7 inl_block
          try simp only [uv_app1, uv_app, uv_set, uv_rep, uv_one, uv_cons, uv_take, uv_drop, List.nil_append] at hM
          replace hB := hB.trans hbl7
          refine ⟨hB, ?_⟩
          refine DT.nil ?_
          refine inBlk_normal ?_
          refine thenP_normal ?_
          refine W.reg ?_
          refine LS.vv rfl rfl (by decide) (Val.move rfl) ?_
          first | refine LS.vv rfl rfl (by decide) (Val.subN (j := 1) rfl rfl (by first | omega | (simp only [List.length_set]; omega)) (by first | omega | (simp only [List.length_set]; omega))) ?_ | refine LS.vv rfl rfl (by decide) (Val.sub64 rfl rfl (by first | omega | (simp only [List.length_set]; omega))) ?_
          refine LS.vv rfl rfl (by decide) (Val.assign rfl) ?_
          refine LS.nil ?_
          refine thenP_normal ?_
          simp only [swpA] at hM
          try rw [swp_comm E (j - 1) j] at hM
          have hyes := ins_yes (E := E) (a := a) (j := j) (by omega) (by omega)
          refine ⟨(Go.Sort.swp E j (j - 1), j - 1), ?_, ?_, ⟨⟨by rw [← hyes]; exact hE, by simp only; omega, by rw [swp_size]; exact hEn⟩, hM, hB⟩, by simp only; omega⟩
          · exact (Sub.cons rfl (Sub.nil _))
          · repeat (first | exact Sub.nil _ | refine Sub.cons rfl ?_)
      ·
        refine W.exit ?_
        refine thenP_exit ?_
        refine thenP_exit ?_
        refine inBlk_exit ?_
        refine inBlk_normal ?_
        refine thenP_normal ?_
        refine W.reg ?_
        refine LS.vv rfl rfl (by decide) (Val.move rfl) ?_
        first | refine LS.vv rfl rfl (by decide) (Val.addN (j := 1) rfl rfl (by first | omega | (simp only [List.length_set]; omega))) ?_ | refine LS.vv rfl rfl (by decide) (Val.add64 rfl rfl (by first | omega | (simp only [List.length_set]; omega))) ?_
        refine LS.vv rfl rfl (by decide) (Val.assign rfl) ?_
        refine LS.nil ?_
        refine thenP_normal ?_
        have hfin : Go.Sort.insInner ltN a i D = E := by rw [← hE]; exact ins_no (fun h1 => by omega)
        refine ⟨(E, i + 1), ?_, ?_, ⟨⟨by rw [← hfin, ← insO_yes (by omega)]; exact hD, by simp only; omega, hEn⟩, hM, hB⟩, by simp only; omega⟩
        · exact (Sub.cons rfl (Sub.nil _))
        · repeat (first | exact Sub.nil _ | refine Sub.cons rfl ?_)
    ·
      first | (have hg2p := of_decide_eq_false hg2) | skip
      refine DF.s rfl rfl rfl rfl hg2 (by decide) ?_
      refine DF.s rfl rfl rfl rfl hg2 (by decide) ?_
      refine DF.s rfl rfl rfl rfl hg2 (by decide) ?_
      refine DF.s rfl rfl rfl rfl hg2 (by decide) ?_
      refine DF.s rfl rfl rfl rfl hg2 (by decide) ?_
      refine DF.s rfl rfl rfl rfl hg2 (by decide) ?_
      refine DF.s rfl rfl rfl rfl hg2 (by decide) ?_
      refine DF.s rfl rfl rfl rfl hg2 (by decide) ?_
      refine DF.s rfl rfl rfl rfl hg2 (by decide) ?_
      refine DF.s rfl rfl rfl rfl hg2 (by decide) ?_
      refine DF.vv rfl rfl rfl (by decide) (Val.pickF rfl hg2 rfl) ?_
      refine DF.nil ?_
      refine W.condF rfl ?_
      refine W.exit ?_
      refine thenP_exit ?_
      refine thenP_exit ?_
      refine inBlk_exit ?_
      refine inBlk_normal ?_
      refine thenP_normal ?_
      refine W.reg ?_
      refine LS.vv rfl rfl (by decide) (Val.move rfl) ?_
      first | refine LS.vv rfl rfl (by decide) (Val.addN (j := 1) rfl rfl (by first | omega | (simp only [List.length_set]; omega))) ?_ | refine LS.vv rfl rfl (by decide) (Val.add64 rfl rfl (by first | omega | (simp only [List.length_set]; omega))) ?_
      refine LS.vv rfl rfl (by decide) (Val.assign rfl) ?_
      refine LS.nil ?_
      refine thenP_normal ?_
      have hfin : Go.Sort.insInner ltN a i D = E := by rw [← hE]; exact ins_no (fun h1 => by omega)
      refine ⟨(E, i + 1), ?_, ?_, ⟨⟨by rw [← hfin, ← insO_yes (by omega)]; exact hD, by simp only; omega, hEn⟩, hM, hB⟩, by simp only; omega⟩
      · exact (Sub.cons rfl (Sub.nil _))
      · repeat (first | exact Sub.nil _ | refine Sub.cons rfl ?_)
  ·
    refine W.exit ?_
    refine thenP_exit ?_
    refine thenP_exit ?_
    refine inBlk_exit ?_
    refine ret0 (by first | exact .inl rfl | exact .inr rfl) ?_
    rw [insO_no (by omega)] at hD
    rw [hD] at hM
    exact ⟨rfl, hM, hB⟩

theorem siftDown_u32 (d : Array Nat) (p : Option Addr) (n c B : Nat) (S : List Ob) (lo hi first : Nat) (w0 : World) (hM0 : Mem w0 B (⟨37, p, n, c, uv d.toList⟩ :: S)) (hB0 : B ≤ w0.heap.size) (hn : d.size = n) (hn2 : n ≤ 1000000) (hfh : first + hi ≤ n) (hlo : lo ≤ n) :
    CallsV Try.prog 70 #[.slice p n c, .int .i64 (lo : Int), .int .i64 (hi : Int), .int .i64 (first : Int)] w0 (fun v w => v = .tuple #[] ∧ Mem w B (⟨37, p, n, c, uv (Go.Sort.siftDown ltN hi first lo d).toList⟩ :: S) ∧ (Go.Sort.siftDown ltN hi first lo d).size = n ∧ Below B w0 w) := by
  refine enter0 Try.func70 rfl Try.ntmps70 (by simp) rfl ?_
  have hB := Below.refl B w0
  simp only [argLoc, Nat.zero_add, Nat.reduceAdd]
  have hM := hM0
  refine W.seqR ?_
  refine LS.vv rfl rfl (by decide) (Val.move rfl) ?_
  refine LS.vv rfl rfl (by decide) (Val.assign rfl) ?_
  refine LS.nil ?_
  refine W.block ?_
  refine W.loop (α := Array Nat × Nat) (fun g => [(8, .int .i64 (g.2 : Int))]) [(0, _), (2, _), (3, _)] (fun g w => (Go.Sort.siftDown ltN hi first g.2 g.1 = Go.Sort.siftDown ltN hi first lo d ∧ g.2 ≤ n ∧ g.1.size = n) ∧ Mem w B (⟨37, p, n, c, uv g.1.toList⟩ :: S) ∧ Below B w0 w) (fun g => n + 1 - g.2) ((d, lo)) (Sub.cons rfl (Sub.nil _)) (Sub.cons rfl (Sub.cons rfl (Sub.cons rfl (Sub.nil _)))) ?_ ?_
  · exact ⟨⟨rfl, hlo, hn⟩, hM, hB⟩
  rintro ⟨D, root⟩ w1 ⟨⟨hD, hr, hDn⟩, hM, hB⟩
  try simp only at hM
  simp only [List.cons_append, List.nil_append]
  simp only at hD hr hDn
  have hlD : D.toList.length = n := by rw [Array.length_toList]; first | assumption | omega
  refine W.block ?_
  refine W.seqR ?_
  refine LS.vv rfl rfl (by decide) (Val.move rfl) ?_
  first | refine LS.vv rfl rfl (by decide) (Val.mulN (i := 2) rfl rfl (by first | omega | (simp only [List.length_set]; omega))) ?_ | refine LS.vv rfl rfl (by decide) (Val.mul64 rfl rfl (by first | omega | (simp only [List.length_set]; omega))) ?_
  first | refine LS.vv rfl rfl (by decide) (Val.addN (j := 1) rfl rfl (by first | omega | (simp only [List.length_set]; omega))) ?_ | refine LS.vv rfl rfl (by decide) (Val.add64 rfl rfl (by first | omega | (simp only [List.length_set]; omega))) ?_
  refine LS.vv rfl rfl (by decide) (Val.assign rfl) ?_
  refine LS.nil ?_
  refine W.seq ?_
  refine W.seqR ?_
  refine LS.vv rfl rfl (by decide) (Val.move rfl) ?_
  refine LS.vv rfl rfl (by decide) (Val.move rfl) ?_
  refine LS.vv rfl rfl (by decide) (Val.geq rfl rfl) ?_
  refine LS.nil ?_
  first | refine W.condD rfl (fun hc1 => ?_) (fun hc1 => ?_) | refine W.cond rfl (fun hc1 => ?_) (fun hc1 => ?_)
  ·
    refine W.exit ?_
    refine thenP_exit ?_
    refine inBlk_ne (by decide) ?_
    refine thenP_exit ?_
    refine inBlk_exit ?_
    refine ret0 (by first | exact .inl rfl | exact .inr rfl) ?_
    first
      | (rw [sd_end (by omega)] at hD
         rw [hD] at hM hDn
         exact ⟨rfl, hM, hDn, hB⟩)
      | (rw [sd_step (by omega) hch, if_neg (by simpa using (by assumption : (!decide (gn D.toList (first + root) < gn D.toList (first + ch))) = true))] at hD
         rw [hD] at hM hDn
         exact ⟨rfl, hM, hDn, hB⟩)
  ·
    refine W.skip ?_
    refine thenP_normal ?_
    refine W.mid (α := Nat) (fun ch => [(9, .int .i64 (ch : Int))]) [(0, _), (2, _), (3, _), (8, _)] (fun ch w => (Child hi first root ch D ∧ ch < hi ∧ root < ch) ∧ Mem w B (⟨37, p, n, c, uv D.toList⟩ :: S) ∧ Below B w0 w) (Sub.cons rfl (Sub.cons rfl (Sub.cons rfl (Sub.cons rfl (Sub.nil _))))) ?_ ?_
    ·
      refine W.seqF 20 [(0, true), (1, true), (2, true), (3, true), (4, true), (5, true), (6, true), (7, true), (8, true), (9, true), (10, true), (11, true), (12, true), (13, true), (14, true), (15, true), (16, true), (17, true), (18, false), (19, true)] mixed (by kernel_rfl) hB hM ?_
      replace hB := hB.drew
      replace hM := hM.drew
      refine DF.vv rfl rfl rfl (by decide) (Val.move rfl) ?_
      first | refine DF.vv rfl rfl rfl (by decide) (Val.addN (j := 1) rfl rfl (by first | omega | (simp only [List.length_set]; omega))) ?_ | refine DF.vv rfl rfl rfl (by decide) (Val.add64 rfl rfl (by first | omega | (simp only [List.length_set]; omega))) ?_
      refine DF.vv rfl rfl rfl (by decide) (Val.move rfl) ?_
      refine DF.vv rfl rfl rfl (by decide) (Val.lss rfl rfl) ?_
      refine DF.vv rfl rfl rfl (by decide) (Val.move rfl) ?_
      refine DF.split 4 rfl (fun hg2 => ?_) (fun hg2 => ?_)
      ·
        first | (have hg2p := of_decide_eq_true hg2) | skip
        refine DF.vg rfl rfl rfl rfl hg2 (by decide) (Val.move rfl) ?_
        refine DF.vg rfl rfl rfl rfl hg2 (by decide) (Val.move rfl) ?_
        refine DF.vg rfl rfl rfl rfl hg2 (by decide) (Val.move rfl) ?_
        first | refine DF.vg rfl rfl rfl rfl hg2 (by decide) (Val.addN rfl rfl (by first | omega | (simp only [List.length_set]; omega))) ?_ | refine DF.vg rfl rfl rfl rfl hg2 (by decide) (Val.add64 rfl rfl (by first | omega | (simp only [List.length_set]; omega))) ?_
        refine DF.vg rfl rfl rfl rfl hg2 (by decide) (Val.index1 Try.underlying32 elem37 rfl rfl (by first | omega | (simp only [List.length_set]; omega)) (hM.o0.rd) (uv_lt (by first | omega | (simp only [List.length_set]; omega)))) ?_
        refine DF.vg rfl rfl rfl rfl hg2 (by decide) (Val.load flat37 rfl (fun _ h => h.2.o0.rd) (uv_at (by first | omega | (simp only [List.length_set]; omega)))) ?_
        refine DF.vg rfl rfl rfl rfl hg2 (by decide) (Val.move rfl) ?_
        refine DF.vg rfl rfl rfl rfl hg2 (by decide) (Val.move rfl) ?_
        refine DF.vg rfl rfl rfl rfl hg2 (by decide) (Val.move rfl) ?_
        first | refine DF.vg rfl rfl rfl rfl hg2 (by decide) (Val.addN rfl rfl (by first | omega | (simp only [List.length_set]; omega))) ?_ | refine DF.vg rfl rfl rfl rfl hg2 (by decide) (Val.add64 rfl rfl (by first | omega | (simp only [List.length_set]; omega))) ?_
        first | refine DF.vg rfl rfl rfl rfl hg2 (by decide) (Val.addN (j := 1) rfl rfl (by first | omega | (simp only [List.length_set]; omega))) ?_ | refine DF.vg rfl rfl rfl rfl hg2 (by decide) (Val.add64 rfl rfl (by first | omega | (simp only [List.length_set]; omega))) ?_
        refine DF.vg rfl rfl rfl rfl hg2 (by decide) (Val.index1 Try.underlying32 elem37 rfl rfl (by first | omega | (simp only [List.length_set]; omega)) (hM.o0.rd) (uv_lt (by first | omega | (simp only [List.length_set]; omega)))) ?_
        refine DF.vg rfl rfl rfl rfl hg2 (by decide) (Val.load flat37 rfl (fun _ h => h.2.o0.rd) (uv_at (by first | omega | (simp only [List.length_set]; omega)))) ?_
        refine DF.mg rfl rfl rfl hg2 (Step.call body66 rfl rfl (by decide) rfl (CallsV.mono (less_u32 (gn D.toList (first + (2 * root + 1))) (gn D.toList (first + (2 * root + 1) + 1)) _) ?_))
        rintro _ w2 ⟨rfl, hb2⟩
        replace hM := hM.below hb2
        replace hB := hB.trans (hb2.mono (Nat.le_trans hB0 hB.size))
        refine ⟨fun _ => ⟨hB, hM⟩, ?_⟩
        refine DF.vv rfl rfl rfl (by decide) (Val.pickT rfl hg2 rfl) ?_
        refine DF.nil ?_
        first | refine W.condD rfl (fun hc3 => ?_) (fun hc3 => ?_) | refine W.cond rfl (fun hc3 => ?_) (fun hc3 => ?_)
        ·
          refine W.reg ?_
          refine LS.vv rfl rfl (by decide) (Val.move rfl) ?_
          first | refine LS.vv rfl rfl (by decide) (Val.addN (j := 1) rfl rfl (by first | omega | (simp only [List.length_set]; omega))) ?_ | refine LS.vv rfl rfl (by decide) (Val.add64 rfl rfl (by first | omega | (simp only [List.length_set]; omega))) ?_
          refine LS.vv rfl rfl (by decide) (Val.assign rfl) ?_
          refine LS.nil ?_
          refine thenP_normal ?_
          first
            | (refine ⟨2 * root + 1 + 1, (Sub.cons rfl (Sub.nil _)), (by repeat (first | exact Sub.nil _ | refine Sub.cons rfl ?_)), ⟨⟨.inr ⟨rfl, by omega, by omega⟩, by omega, by omega⟩, hM, hB⟩⟩)
            | (refine ⟨2 * root + 1, (Sub.cons rfl (Sub.nil _)), (by repeat (first | exact Sub.nil _ | refine Sub.cons rfl ?_)), ⟨⟨.inl ⟨rfl, fun h1 => by omega⟩, by omega, by omega⟩, hM, hB⟩⟩)
        ·
          refine W.skip ?_
          refine thenP_normal ?_
          first
            | (refine ⟨2 * root + 1 + 1, (Sub.cons rfl (Sub.nil _)), (by repeat (first | exact Sub.nil _ | refine Sub.cons rfl ?_)), ⟨⟨.inr ⟨rfl, by omega, by omega⟩, by omega, by omega⟩, hM, hB⟩⟩)
            | (refine ⟨2 * root + 1, (Sub.cons rfl (Sub.nil _)), (by repeat (first | exact Sub.nil _ | refine Sub.cons rfl ?_)), ⟨⟨.inl ⟨rfl, fun h1 => by omega⟩, by omega, by omega⟩, hM, hB⟩⟩)
      ·
        first | (have hg2p := of_decide_eq_false hg2) | skip
        refine DF.s rfl rfl rfl rfl hg2 (by decide) ?_
        refine DF.s rfl rfl rfl rfl hg2 (by decide) ?_
        refine DF.s rfl rfl rfl rfl hg2 (by decide) ?_
        refine DF.s rfl rfl rfl rfl hg2 (by decide) ?_
        refine DF.s rfl rfl rfl rfl hg2 (by decide) ?_
        refine DF.s rfl rfl rfl rfl hg2 (by decide) ?_
        refine DF.s rfl rfl rfl rfl hg2 (by decide) ?_
        refine DF.s rfl rfl rfl rfl hg2 (by decide) ?_
        refine DF.s rfl rfl rfl rfl hg2 (by decide) ?_
        refine DF.s rfl rfl rfl rfl hg2 (by decide) ?_
        refine DF.s rfl rfl rfl rfl hg2 (by decide) ?_
        refine DF.s rfl rfl rfl rfl hg2 (by decide) ?_
        refine DF.s rfl rfl rfl rfl hg2 (by decide) ?_
        refine DF.s rfl rfl rfl rfl hg2 (by decide) ?_
        refine DF.vv rfl rfl rfl (by decide) (Val.pickF rfl hg2 rfl) ?_
        refine DF.nil ?_
        refine W.condF rfl ?_
        refine W.skip ?_
        refine thenP_normal ?_
        first
          | (refine ⟨2 * root + 1 + 1, (Sub.cons rfl (Sub.nil _)), (by repeat (first | exact Sub.nil _ | refine Sub.cons rfl ?_)), ⟨⟨.inr ⟨rfl, by omega, by omega⟩, by omega, by omega⟩, hM, hB⟩⟩)
          | (refine ⟨2 * root + 1, (Sub.cons rfl (Sub.nil _)), (by repeat (first | exact Sub.nil _ | refine Sub.cons rfl ?_)), ⟨⟨.inl ⟨rfl, fun h1 => by omega⟩, by omega, by omega⟩, hM, hB⟩⟩)
    ·
      rintro ch w3 ⟨⟨hch, hchi, hrc⟩, hM, hB⟩
      simp only [List.cons_append, List.nil_append]
      try simp only at hM
      refine W.seq ?_
      refine W.seqF 14 [(0, true), (1, true), (2, true), (3, true), (4, true), (5, true), (6, true), (7, true), (8, true), (9, true), (10, true), (11, true), (12, false), (13, true)] mixed (by kernel_rfl) hB hM ?_
      replace hB := hB.drew
      replace hM := hM.drew
      refine DF.vv rfl rfl rfl (by decide) (Val.move rfl) ?_
      refine DF.vv rfl rfl rfl (by decide) (Val.move rfl) ?_
      refine DF.vv rfl rfl rfl (by decide) (Val.move rfl) ?_
      first | refine DF.vv rfl rfl rfl (by decide) (Val.addN rfl rfl (by first | omega | (simp only [List.length_set]; omega))) ?_ | refine DF.vv rfl rfl rfl (by decide) (Val.add64 rfl rfl (by first | omega | (simp only [List.length_set]; omega))) ?_
      refine DF.vv rfl rfl rfl (by decide) (Val.index1 Try.underlying32 elem37 rfl rfl (by first | omega | (simp only [List.length_set]; omega)) (hM.o0.rd) (uv_lt (by first | omega | (simp only [List.length_set]; omega)))) ?_
      refine DF.vv rfl rfl rfl (by decide) (Val.load flat37 rfl (fun _ h => h.2.o0.rd) (uv_at (by first | omega | (simp only [List.length_set]; omega)))) ?_
      refine DF.vv rfl rfl rfl (by decide) (Val.move rfl) ?_
      refine DF.vv rfl rfl rfl (by decide) (Val.move rfl) ?_
      refine DF.vv rfl rfl rfl (by decide) (Val.move rfl) ?_
      first | refine DF.vv rfl rfl rfl (by decide) (Val.addN rfl rfl (by first | omega | (simp only [List.length_set]; omega))) ?_ | refine DF.vv rfl rfl rfl (by decide) (Val.add64 rfl rfl (by first | omega | (simp only [List.length_set]; omega))) ?_
      refine DF.vv rfl rfl rfl (by decide) (Val.index1 Try.underlying32 elem37 rfl rfl (by first | omega | (simp only [List.length_set]; omega)) (hM.o0.rd) (uv_lt (by first | omega | (simp only [List.length_set]; omega)))) ?_
      refine DF.vv rfl rfl rfl (by decide) (Val.load flat37 rfl (fun _ h => h.2.o0.rd) (uv_at (by first | omega | (simp only [List.length_set]; omega)))) ?_
      refine DF.m rfl rfl (Step.call body66 rfl rfl (by decide) rfl (CallsV.mono (less_u32 (gn D.toList (first + root)) (gn D.toList (first + ch)) _) ?_))
      rintro _ w4 ⟨rfl, hb4⟩
      replace hM := hM.below hb4
      replace hB := hB.trans (hb4.mono (Nat.le_trans hB0 hB.size))
      refine ⟨fun _ => ⟨hB, hM⟩, ?_⟩
      refine DF.vv rfl rfl rfl (by decide) (Val.not rfl) ?_
      refine DF.nil ?_
      first | refine W.condD rfl (fun hc4 => ?_) (fun hc4 => ?_) | refine W.cond rfl (fun hc4 => ?_) (fun hc4 => ?_)
      ·
        refine W.ret ?_
        refine thenP_ret ?_
        refine inBlk_ret ?_
        refine thenP_ret ?_
        refine inBlk_ret ?_
        refine ret0 (by first | exact .inl rfl | exact .inr rfl) ?_
        first
          | (rw [sd_end (by omega)] at hD
             rw [hD] at hM hDn
             exact ⟨rfl, hM, hDn, hB⟩)
          | (rw [sd_step (by omega) hch, if_neg (by simpa using (by assumption : (!decide (gn D.toList (first + root) < gn D.toList (first + ch))) = true))] at hD
             rw [hD] at hM hDn
             exact ⟨rfl, hM, hDn, hB⟩)
      ·
        refine W.skip ?_
        refine thenP_normal ?_
        refine W.seqT (S := fun w => Below B w0 w) (.val 0 (.val 1 (.val 2 (.val 3 (.val 4 (.val 5 (.val 6 (.val 7 (.val 8 (.val 9 (.val 10 (.val 11 (.val 12 (.val 14 (.val 15 (.val 16 (.val 17 (.val 18 (.two (.mem 13 (.mem 19 (.val 20 (.mem 21 (.val 22 (.mem 23 (.done))))))) (.mem 19 (.mem 13 (.val 20 (.mem 21 (.val 22 (.mem 23 (.done)))))))))))))))))))))))))) mixed (by kernel_rfl) hB.drew ?_
        replace hB := hB.drew
        replace hM := hM.drew
        refine DT.vv rfl rfl rfl (by decide) (Val.move rfl) ?_
        refine DT.vv rfl rfl rfl (by decide) (Val.move rfl) ?_
        refine DT.vv rfl rfl rfl (by decide) (Val.move rfl) ?_
        first | refine DT.vv rfl rfl rfl (by decide) (Val.addN rfl rfl (by first | omega | (simp only [List.length_set]; omega))) ?_ | refine DT.vv rfl rfl rfl (by decide) (Val.add64 rfl rfl (by first | omega | (simp only [List.length_set]; omega))) ?_
        refine DT.vv rfl rfl rfl (by decide) (Val.move rfl) ?_
        refine DT.vv rfl rfl rfl (by decide) (Val.move rfl) ?_
        refine DT.vv rfl rfl rfl (by decide) (Val.move rfl) ?_
        first | refine DT.vv rfl rfl rfl (by decide) (Val.addN rfl rfl (by first | omega | (simp only [List.length_set]; omega))) ?_ | refine DT.vv rfl rfl rfl (by decide) (Val.add64 rfl rfl (by first | omega | (simp only [List.length_set]; omega))) ?_
        refine DT.vv rfl rfl rfl (by decide) (Val.move rfl) ?_
        refine DT.vv rfl rfl rfl (by decide) (Val.move rfl) ?_
        refine DT.vv rfl rfl rfl (by decide) (Val.move rfl) ?_
        first | refine DT.vv rfl rfl rfl (by decide) (Val.addN rfl rfl (by first | omega | (simp only [List.length_set]; omega))) ?_ | refine DT.vv rfl rfl rfl (by decide) (Val.add64 rfl rfl (by first | omega | (simp only [List.length_set]; omega))) ?_
        refine DT.vv rfl rfl rfl (by decide) (Val.index1 Try.underlying32 elem37 rfl rfl (by first | omega | (simp only [List.length_set]; omega)) (hM.o0.rd) (uv_lt (by first | omega | (simp only [List.length_set]; omega)))) ?_
        refine DT.vv rfl rfl rfl (by decide) (Val.move rfl) ?_
        refine DT.vv rfl rfl rfl (by decide) (Val.move rfl) ?_
        refine DT.vv rfl rfl rfl (by decide) (Val.move rfl) ?_
        first | refine DT.vv rfl rfl rfl (by decide) (Val.addN rfl rfl (by first | omega | (simp only [List.length_set]; omega))) ?_ | refine DT.vv rfl rfl rfl (by decide) (Val.add64 rfl rfl (by first | omega | (simp only [List.length_set]; omega))) ?_
        refine DT.vv rfl rfl rfl (by decide) (Val.index1 Try.underlying32 elem37 rfl rfl (by first | omega | (simp only [List.length_set]; omega)) (hM.o0.rd) (uv_lt (by first | omega | (simp only [List.length_set]; omega)))) ?_
        refine DT.two ?_ ?_
        ·
          refine DT.m rfl rfl (Step.load rfl rfl (by decide) flat37 rfl (hM.o0.rd) (uv_at (by first | omega | (simp only [List.length_set]; omega))) ?_)
          refine ⟨hB, ?_⟩
          refine DT.m rfl rfl (Step.load rfl rfl (by decide) flat37 rfl (hM.o0.rd) (uv_at (by first | omega | (simp only [List.length_set]; omega))) ?_)
          refine ⟨hB, ?_⟩
          refine DT.vv rfl rfl rfl (by decide) (Val.index1 Try.underlying32 elem37 rfl rfl (by first | omega | (simp only [List.length_set]; omega)) (hM.o0.rd) (uv_lt (by first | omega | (simp only [List.length_set]; omega)))) ?_
          refine DT.m rfl rfl (Step.store (B := B) rfl rfl flat37 elem37 rfl rfl rfl (hM.o0) (by first | omega | (simp only [List.length_set]; omega)) (Nat.le_trans hB0 hB.size) ?_)
          rintro w5 hO5 hg5 hbl5 hsz5
          replace hM := hM.s0 hg5 hO5 inl_block
          try simp only [uv_app1, uv_app, uv_set, uv_rep, uv_one, uv_cons, uv_take, uv_drop, List.nil_append] at hM
          replace hB := hB.trans hbl5
          refine ⟨hB, ?_⟩
          refine DT.vv rfl rfl rfl (by decide) (Val.index1 Try.underlying32 elem37 rfl rfl (by first | omega | (simp only [List.length_set]; omega)) (hM.o0.rd) (uv_lt (by first | omega | (simp only [List.length_set]; omega)))) ?_
          refine DT.m rfl rfl (Step.store (B := B) rfl rfl flat37 elem37 rfl rfl rfl (hM.o0) (by first | omega | (simp only [List.length_set]; omega)) (Nat.le_trans hB0 hB.size) ?_)
          rintro w6 hO6 hg6 hbl6 hsz6
          replace hM := hM.s0 hg6 hO6 inl_block
          try simp only [uv_app1, uv_app, uv_set, uv_rep, uv_one, uv_cons, uv_take, uv_drop, List.nil_append] at hM
          replace hB := hB.trans hbl6
          refine ⟨hB, ?_⟩
          refine DT.nil ?_
          refine W.reg ?_
          refine LS.vv rfl rfl (by decide) (Val.move rfl) ?_
          refine LS.vv rfl rfl (by decide) (Val.assign rfl) ?_
          refine LS.nil ?_
          refine inBlk_normal ?_
          refine thenP_normal ?_
          simp only [swpA] at hM
          try rw [swp_comm D (first + ch) (first + root)] at hM
          rw [sd_step (by omega) hch, if_pos (by simpa using (by assumption : (!decide (gn D.toList (first + root) < gn D.toList (first + ch))) = false))] at hD
          refine ⟨(Go.Sort.swp D (first + root) (first + ch), ch), ?_, ?_, ⟨⟨hD, by simp only; omega, by rw [swp_size]; exact hDn⟩, hM, hB⟩, by simp only; omega⟩
          · exact (Sub.cons rfl (Sub.nil _))
          · repeat (first | exact Sub.nil _ | refine Sub.cons rfl ?_)
        ·
          refine DT.m rfl rfl (Step.load rfl rfl (by decide) flat37 rfl (hM.o0.rd) (uv_at (by first | omega | (simp only [List.length_set]; omega))) ?_)
          refine ⟨hB, ?_⟩
          refine DT.m rfl rfl (Step.load rfl rfl (by decide) flat37 rfl (hM.o0.rd) (uv_at (by first | omega | (simp only [List.length_set]; omega))) ?_)
          refine ⟨hB, ?_⟩
          refine DT.vv rfl rfl rfl (by decide) (Val.index1 Try.underlying32 elem37 rfl rfl (by first | omega | (simp only [List.length_set]; omega)) (hM.o0.rd) (uv_lt (by first | omega | (simp only [List.length_set]; omega)))) ?_
          refine DT.m rfl rfl (Step.store (B := B) rfl rfl flat37 elem37 rfl rfl rfl (hM.o0) (by first | omega | (simp only [List.length_set]; omega)) (Nat.le_trans hB0 hB.size) ?_)
          rintro w7 hO7 hg7 hbl7 hsz7
          replace hM := hM.s0 hg7 hO7 inl_block
          try simp only [uv_app1, uv_app, uv_set, uv_rep, uv_one, uv_cons, uv_take, uv_drop, List.nil_append] at hM
          replace hB := hB.trans hbl7
          refine ⟨hB, ?_⟩
          refine DT.vv rfl rfl rfl (by decide) (Val.index1 Try.underlying32 elem37 rfl rfl (by first | omega | (simp only [List.length_set]; omega)) (hM.o0.rd) (uv_lt (by first | omega | (simp only [List.length_set]; omega)))) ?_
          refine DT.m rfl rfl (Step.store (B := B) rfl rfl flat37 elem37 rfl rfl rfl (hM.o0) (by first | omega | (simp only [List.length_set]; omega)) (Nat.le_trans hB0 hB.size) ?_)
          rintro w8 hO8 hg8 hbl8 hsz8
          replace hM := hM.s0 hg8 hO8 inl_block
          try simp only [uv_app1, uv_app, uv_set, uv_rep, uv_one, uv_cons, uv_take, uv_drop, List.nil_append] at hM
          replace hB := hB.trans hbl8
          refine ⟨hB, ?_⟩
          refine DT.nil ?_
          refine W.reg ?_
          refine LS.vv rfl rfl (by decide) (Val.move rfl) ?_
          refine LS.vv rfl rfl (by decide) (Val.assign rfl) ?_
          refine LS.nil ?_
          refine inBlk_normal ?_
          refine thenP_normal ?_
          simp only [swpA] at hM
          try rw [swp_comm D (first + ch) (first + root)] at hM
          rw [sd_step (by omega) hch, if_pos (by simpa using (by assumption : (!decide (gn D.toList (first + root) < gn D.toList (first + ch))) = false))] at hD
          refine ⟨(Go.Sort.swp D (first + root) (first + ch), ch), ?_, ?_, ⟨⟨hD, by simp only; omega, by rw [swp_size]; exact hDn⟩, hM, hB⟩, by simp only; omega⟩
          · exact (Sub.cons rfl (Sub.nil _))
          · repeat (first | exact Sub.nil _ | refine Sub.cons rfl ?_)

theorem heapSort_u32 (d : Array Nat) (p : Option Addr) (n c B : Nat) (S : List Ob) (a b : Nat) (w0 : World) (hM0 : Mem w0 B (⟨37, p, n, c, uv d.toList⟩ :: S)) (hB0 : B ≤ w0.heap.size) (hn : d.size = n) (hn2 : n ≤ 1000000) (hab : a < b) (hb : b ≤ n) :
    CallsV Try.prog 61 #[.slice p n c, .int .i64 (a : Int), .int .i64 (b : Int)] w0 (fun v w => v = .tuple #[] ∧ Mem w B (⟨37, p, n, c, uv (Go.Sort.heapSort ltN d a b).toList⟩ :: S) ∧ Below B w0 w) := by
  refine enter0 Try.func61 rfl Try.ntmps61 (by simp) rfl ?_
  have hB := Below.refl B w0
  simp only [argLoc, Nat.zero_add, Nat.reduceAdd]
  have hM := hM0
  refine W.seqR ?_
  refine LS.vv rfl rfl (by decide) (Val.move rfl) ?_
  refine LS.vv rfl rfl (by decide) (Val.assign rfl) ?_
  refine LS.nil ?_
  refine W.seqR ?_
  refine LS.vv rfl rfl (by decide) (Val.cast (v := .int .i64 ((0 : Nat) : Int)) (Val.assign rfl) rfl) ?_
  refine LS.nil ?_
  refine W.seqR ?_
  refine LS.vv rfl rfl (by decide) (Val.move rfl) ?_
  refine LS.vv rfl rfl (by decide) (Val.move rfl) ?_
  first | refine LS.vv rfl rfl (by decide) (Val.subN rfl rfl (by first | omega | (simp only [List.length_set]; omega)) (by first | omega | (simp only [List.length_set]; omega))) ?_ | refine LS.vv rfl rfl (by decide) (Val.sub64 rfl rfl (by first | omega | (simp only [List.length_set]; omega))) ?_
  refine LS.vv rfl rfl (by decide) (Val.assign rfl) ?_
  refine LS.nil ?_
  refine W.seq ?_
  refine W.seqR ?_
  refine LS.vv rfl rfl (by decide) (Val.move rfl) ?_
  first | refine LS.vv rfl rfl (by decide) (Val.subN (j := 1) rfl rfl (by first | omega | (simp only [List.length_set]; omega)) (by first | omega | (simp only [List.length_set]; omega))) ?_ | refine LS.vv rfl rfl (by decide) (Val.sub64 rfl rfl (by first | omega | (simp only [List.length_set]; omega))) ?_
  first | refine LS.vv rfl rfl (by decide) (Val.quoN (j := 2) rfl rfl (by first | omega | (simp only [List.length_set]; omega)) (by first | omega | (simp only [List.length_set]; omega))) ?_ | refine LS.vv rfl rfl (by decide) (Val.quo64 rfl rfl (by first | omega | (simp only [List.length_set]; omega)) (by first | omega | (simp only [List.length_set]; omega))) ?_
  refine LS.vv rfl rfl (by decide) (Val.assign rfl) ?_
  refine LS.nil ?_
  refine W.block ?_
  refine W.loop (α := Array Nat × Nat) (fun g => [(9, .int .i64 ((g.2 : Int) - 1))]) [(0, _), (6, _), (7, _), (8, _)] (fun g w => (Go.Sort.heapBuild ltN (b - a) a g.2 g.1 = Go.Sort.heapBuild ltN (b - a) a ((b - a - 1) / 2 + 1) d ∧ g.2 ≤ (b - a - 1) / 2 + 1 ∧ g.1.size = n) ∧ Mem w B (⟨37, p, n, c, uv g.1.toList⟩ :: S) ∧ Below B w0 w) (fun g => g.2) ((d, (b - a - 1) / 2 + 1)) (Sub.cons' rfl (by congr 1; simp only; omega) (Sub.nil _)) (Sub.cons rfl (Sub.cons rfl (Sub.cons rfl (Sub.cons rfl (Sub.nil _))))) ?_ ?_
  · exact ⟨⟨rfl, Nat.le_refl _, hn⟩, hM, hB⟩
  rintro ⟨D, k⟩ w1 ⟨⟨hD, hk, hDn⟩, hM, hB⟩
  try simp only at hM
  simp only [List.cons_append, List.nil_append]
  simp only at hD hk hDn
  have hlD : D.toList.length = n := by rw [Array.length_toList]; first | assumption | omega
  refine W.seq ?_
  refine W.seqR ?_
  refine LS.vv rfl rfl (by decide) (Val.move rfl) ?_
  refine LS.vv rfl rfl (by decide) (Val.geq rfl rfl) ?_
  refine LS.nil ?_
  first | refine W.condD rfl (fun hc1 => ?_) (fun hc1 => ?_) | refine W.cond rfl (fun hc1 => ?_) (fun hc1 => ?_)
  ·
    refine W.skip ?_
    refine thenP_normal ?_
    refine W.seq ?_
    refine W.block ?_
    refine W.reg ?_
    refine LS.vv rfl rfl (by decide) (Val.move rfl) ?_
    refine LS.vv rfl rfl (by decide) (Val.cast (v := .int .i64 (((k - 1 : Nat)) : Int)) (Val.move rfl) (by congr 1; omega)) ?_
    refine LS.vv rfl rfl (by decide) (Val.move rfl) ?_
    refine LS.vv rfl rfl (by decide) (Val.move rfl) ?_
    refine LS.m rfl (Step.call body70 rfl rfl (by decide) rfl (CallsV.mono (siftDown_u32 D p n c B S (k - 1) (b - a) a _ hM (Nat.le_trans hB0 hB.size) (by first | assumption | (rw [swp_size]; assumption)) hn2 (by omega) (by omega)) ?_))
    rintro _ w2 ⟨rfl, hM2, hsz2, hb2⟩
    replace hM := hM2
    replace hB := hB.trans hb2
    refine LS.nil ?_
    refine inBlk_normal ?_
    refine thenP_normal ?_
    refine W.reg ?_
    refine LS.vv rfl rfl (by decide) (Val.move rfl) ?_
    first | refine LS.vv rfl rfl (by decide) (Val.subN (j := 1) rfl rfl (by first | omega | (simp only [List.length_set]; omega)) (by first | omega | (simp only [List.length_set]; omega))) ?_ | refine LS.vv rfl rfl (by decide) (Val.sub64 rfl rfl (by first | omega | (simp only [List.length_set]; omega))) ?_
    refine LS.vv rfl rfl (by decide) (Val.assign rfl) ?_
    refine LS.nil ?_
    refine thenP_normal ?_
    obtain ⟨q, rfl⟩ : ∃ q, k = q + 1 := ⟨k - 1, by omega⟩
    rw [Nat.add_sub_cancel] at *
    refine ⟨(Go.Sort.siftDown ltN (b - a) a q D, q), ?_, ?_, ⟨⟨hD, by simp only; omega, by assumption⟩, hM, hB⟩, by simp only; omega⟩
    · exact Sub.cons' rfl (by congr 1; simp only; omega) (Sub.nil _)
    · repeat (first | exact Sub.nil _ | refine Sub.cons rfl ?_)
  ·
    refine W.exit ?_
    refine thenP_exit ?_
    refine thenP_exit ?_
    refine inBlk_exit ?_
    refine thenP_normal ?_
    refine W.seqR ?_
    refine LS.vv rfl rfl (by decide) (Val.move rfl) ?_
    first | refine LS.vv rfl rfl (by decide) (Val.subN (j := 1) rfl rfl (by first | omega | (simp only [List.length_set]; omega)) (by first | omega | (simp only [List.length_set]; omega))) ?_ | refine LS.vv rfl rfl (by decide) (Val.sub64 rfl rfl (by first | omega | (simp only [List.length_set]; omega))) ?_
    refine LS.vv rfl rfl (by decide) (Val.assign rfl) ?_
    refine LS.nil ?_
    refine W.block ?_
    obtain rfl : k = 0 := by omega
    rw [Go.Sort.heapBuild] at hD
    refine W.loop (α := Array Nat × Nat) (fun g => [(10, .int .i64 ((g.2 : Int) - 1))]) [(0, _), (6, _), (7, _)] (fun g w => (Go.Sort.heapPop ltN a g.2 g.1 = Go.Sort.heapSort ltN d a b ∧ g.2 ≤ b - a ∧ g.1.size = n) ∧ Mem w B (⟨37, p, n, c, uv g.1.toList⟩ :: S) ∧ Below B w0 w) (fun g => g.2) ((D, b - a)) (Sub.cons' rfl (by congr 1; simp only; omega) (Sub.nil _)) (Sub.cons rfl (Sub.cons rfl (Sub.cons rfl (Sub.nil _)))) ?_ ?_
    · exact ⟨⟨by rw [hD]; rfl, Nat.le_refl _, hDn⟩, hM, hB⟩
    rintro ⟨D, k⟩ w3 ⟨⟨hD2, hk, hDn2⟩, hM, hB⟩
    try simp only at hM
    simp only [List.cons_append, List.nil_append]
    simp only at hD2 hk hDn2
    have hlD : D.toList.length = n := by rw [Array.length_toList]; first | assumption | omega
    refine W.seq ?_
    refine W.seqR ?_
    refine LS.vv rfl rfl (by decide) (Val.move rfl) ?_
    refine LS.vv rfl rfl (by decide) (Val.geq rfl rfl) ?_
    refine LS.nil ?_
    first | refine W.condD rfl (fun hc2 => ?_) (fun hc2 => ?_) | refine W.cond rfl (fun hc2 => ?_) (fun hc2 => ?_)
    ·
      refine W.skip ?_
      refine thenP_normal ?_
      refine W.seq ?_
      refine W.block ?_
      refine W.mid (α := Unit) (fun _ => []) [(0, _), (6, _), (7, _), (10, _)] (fun _ w => (True) ∧ Mem w B (⟨37, p, n, c, uv (Go.Sort.swp D a (a + (k - 1))).toList⟩ :: S) ∧ Below B w0 w) (Sub.cons rfl (Sub.cons rfl (Sub.cons rfl (Sub.cons rfl (Sub.nil _))))) ?_ ?_
      ·
        refine W.regT (S := fun w => Below B w0 w) (.val 0 (.val 1 (.val 2 (.val 3 (.val 4 (.val 5 (.val 6 (.val 7 (.val 8 (.val 9 (.val 10 (.val 12 (.val 13 (.val 14 (.two (.mem 11 (.mem 15 (.val 16 (.mem 17 (.val 18 (.mem 19 (.done))))))) (.mem 15 (.mem 11 (.val 16 (.mem 17 (.val 18 (.mem 19 (.done)))))))))))))))))))))) mixed (by kernel_rfl) hB.drew ?_
        replace hB := hB.drew
        replace hM := hM.drew
        refine DT.vv rfl rfl rfl (by decide) (Val.move rfl) ?_
        refine DT.vv rfl rfl rfl (by decide) (Val.move rfl) ?_
        refine DT.vv rfl rfl rfl (by decide) (Val.move rfl) ?_
        refine DT.vv rfl rfl rfl (by decide) (Val.move rfl) ?_
        refine DT.vv rfl rfl rfl (by decide) (Val.cast (v := .int .i64 (((k - 1 : Nat)) : Int)) (Val.move rfl) (by congr 1; omega)) ?_
        first | refine DT.vv rfl rfl rfl (by decide) (Val.addN rfl rfl (by first | omega | (simp only [List.length_set]; omega))) ?_ | refine DT.vv rfl rfl rfl (by decide) (Val.add64 rfl rfl (by first | omega | (simp only [List.length_set]; omega))) ?_
        refine DT.vv rfl rfl rfl (by decide) (Val.move rfl) ?_
        refine DT.vv rfl rfl rfl (by decide) (Val.move rfl) ?_
        refine DT.vv rfl rfl rfl (by decide) (Val.cast (v := .int .i64 (((k - 1 : Nat)) : Int)) (Val.move rfl) (by congr 1; omega)) ?_
        first | refine DT.vv rfl rfl rfl (by decide) (Val.addN rfl rfl (by first | omega | (simp only [List.length_set]; omega))) ?_ | refine DT.vv rfl rfl rfl (by decide) (Val.add64 rfl rfl (by first | omega | (simp only [List.length_set]; omega))) ?_
        refine DT.vv rfl rfl rfl (by decide) (Val.index1 Try.underlying32 elem37 rfl rfl (by first | omega | (simp only [List.length_set]; omega)) (hM.o0.rd) (uv_lt (by first | omega | (simp only [List.length_set]; omega)))) ?_
        refine DT.vv rfl rfl rfl (by decide) (Val.move rfl) ?_
        refine DT.vv rfl rfl rfl (by decide) (Val.move rfl) ?_
        refine DT.vv rfl rfl rfl (by decide) (Val.index1 Try.underlying32 elem37 rfl rfl (by first | omega | (simp only [List.length_set]; omega)) (hM.o0.rd) (uv_lt (by first | omega | (simp only [List.length_set]; omega)))) ?_
        refine DT.two ?_ ?_
        ·
          refine DT.m rfl rfl (Step.load rfl rfl (by decide) flat37 rfl (hM.o0.rd) (uv_at (by first | omega | (simp only [List.length_set]; omega))) ?_)
          refine ⟨hB, ?_⟩
          refine DT.m rfl rfl (Step.load rfl rfl (by decide) flat37 rfl (hM.o0.rd) (uv_at (by first | omega | (simp only [List.length_set]; omega))) ?_)
          refine ⟨hB, ?_⟩
          refine DT.vv rfl rfl rfl (by decide) (Val.index1 Try.underlying32 elem37 rfl rfl (by first | omega | (simp only [List.length_set]; omega)) (hM.o0.rd) (uv_lt (by first | omega | (simp only [List.length_set]; omega)))) ?_
          refine DT.m rfl rfl (Step.store (B := B) rfl rfl flat37 elem37 rfl rfl rfl (hM.o0) (by first | omega | (simp only [List.length_set]; omega)) (Nat.le_trans hB0 hB.size) ?_)
          rintro w4 hO4 hg4 hbl4 hsz4
          replace hM := hM.s0 hg4 hO4 inl_block
          try simp only [uv_app1, uv_app, uv_set, uv_rep, uv_one, uv_cons, uv_take, uv_drop, List.nil_append] at hM
          replace hB := hB.trans hbl4
          refine ⟨hB, ?_⟩
          refine DT.vv rfl rfl rfl (by decide) (Val.index1 Try.underlying32 elem37 rfl rfl (by first | omega | (simp only [List.length_set]; omega)) (hM.o0.rd) (uv_lt (by first | omega | (simp only [List.length_set]; omega)))) ?_
          refine DT.m rfl rfl (Step.store (B := B) rfl rfl flat37 elem37 rfl rfl rfl (hM.o0) (by first | omega | (simp only [List.length_set]; omega)) (Nat.le_trans hB0 hB.size) ?_)
          rintro w5 hO5 hg5 hbl5 hsz5
          replace hM := hM.s0 hg5 hO5 inl_block
          try simp only [uv_app1, uv_app, uv_set, uv_rep, uv_one, uv_cons, uv_take, uv_drop, List.nil_append] at hM
          replace hB := hB.trans hbl5
          refine ⟨hB, ?_⟩
          refine DT.nil ?_
          refine thenP_normal ?_
          simp only [swpA] at hM
          try rw [swp_comm D (a + (k - 1)) a] at hM
          refine ⟨(), ?_, ?_, ⟨trivial, hM, hB⟩⟩
          · exact Sub.nil _
          · repeat (first | exact Sub.nil _ | refine Sub.cons rfl ?_)
        ·
          refine DT.m rfl rfl (Step.load rfl rfl (by decide) flat37 rfl (hM.o0.rd) (uv_at (by first | omega | (simp only [List.length_set]; omega))) ?_)
          refine ⟨hB, ?_⟩
          refine DT.m rfl rfl (Step.load rfl rfl (by decide) flat37 rfl (hM.o0.rd) (uv_at (by first | omega | (simp only [List.length_set]; omega))) ?_)
          refine ⟨hB, ?_⟩
          refine DT.vv rfl rfl rfl (by decide) (Val.index1 Try.underlying32 elem37 rfl rfl (by first | omega | (simp only [List.length_set]; omega)) (hM.o0.rd) (uv_lt (by first | omega | (simp only [List.length_set]; omega)))) ?_
          refine DT.m rfl rfl (Step.store (B := B) rfl rfl flat37 elem37 rfl rfl rfl (hM.o0) (by first | omega | (simp only [List.length_set]; omega)) (Nat.le_trans hB0 hB.size) ?_)
          rintro w6 hO6 hg6 hbl6 hsz6
          replace hM := hM.s0 hg6 hO6 inl_block
          try simp only [uv_app1, uv_app, uv_set, uv_rep, uv_one, uv_cons, uv_take, uv_drop, List.nil_append] at hM
          replace hB := hB.trans hbl6
          refine ⟨hB, ?_⟩
          refine DT.vv rfl rfl rfl (by decide) (Val.index1 Try.underlying32 elem37 rfl rfl (by first | omega | (simp only [List.length_set]; omega)) (hM.o0.rd) (uv_lt (by first | omega | (simp only [List.length_set]; omega)))) ?_
          refine DT.m rfl rfl (Step.store (B := B) rfl rfl flat37 elem37 rfl rfl rfl (hM.o0) (by first | omega | (simp only [List.length_set]; omega)) (Nat.le_trans hB0 hB.size) ?_)
          rintro w7 hO7 hg7 hbl7 hsz7
          replace hM := hM.s0 hg7 hO7 inl_block
          try simp only [uv_app1, uv_app, uv_set, uv_rep, uv_one, uv_cons, uv_take, uv_drop, List.nil_append] at hM
          replace hB := hB.trans hbl7
          refine ⟨hB, ?_⟩
          refine DT.nil ?_
          refine thenP_normal ?_
          simp only [swpA] at hM
          try rw [swp_comm D (a + (k - 1)) a] at hM
          refine ⟨(), ?_, ?_, ⟨trivial, hM, hB⟩⟩
          · exact Sub.nil _
          · repeat (first | exact Sub.nil _ | refine Sub.cons rfl ?_)
      ·
        rintro _ w8 ⟨_, hM, hB⟩
        simp only [List.cons_append, List.nil_append]
        try simp only at hM
        refine W.reg ?_
        refine LS.vv rfl rfl (by decide) (Val.move rfl) ?_
        refine LS.vv rfl rfl (by decide) (Val.move rfl) ?_
        refine LS.vv rfl rfl (by decide) (Val.cast (v := .int .i64 (((k - 1 : Nat)) : Int)) (Val.move rfl) (by congr 1; omega)) ?_
        refine LS.vv rfl rfl (by decide) (Val.move rfl) ?_
        refine LS.m rfl (Step.call body70 rfl rfl (by decide) rfl (CallsV.mono (siftDown_u32 (Go.Sort.swp D a (a + (k - 1))) p n c B S 0 (k - 1) a _ hM (Nat.le_trans hB0 hB.size) (by first | assumption | (rw [swp_size]; assumption)) hn2 (by omega) (by omega)) ?_))
        rintro _ w9 ⟨rfl, hM9, hsz9, hb9⟩
        replace hM := hM9
        replace hB := hB.trans hb9
        refine LS.nil ?_
        refine inBlk_normal ?_
        refine thenP_normal ?_
        refine W.reg ?_
        refine LS.vv rfl rfl (by decide) (Val.move rfl) ?_
        first | refine LS.vv rfl rfl (by decide) (Val.subN (j := 1) rfl rfl (by first | omega | (simp only [List.length_set]; omega)) (by first | omega | (simp only [List.length_set]; omega))) ?_ | refine LS.vv rfl rfl (by decide) (Val.sub64 rfl rfl (by first | omega | (simp only [List.length_set]; omega))) ?_
        refine LS.vv rfl rfl (by decide) (Val.assign rfl) ?_
        refine LS.nil ?_
        refine thenP_normal ?_
        obtain ⟨q, rfl⟩ : ∃ q, k = q + 1 := ⟨k - 1, by omega⟩
        rw [Nat.add_sub_cancel] at *
        refine ⟨(Go.Sort.siftDown ltN q a 0 (Go.Sort.swp D a (a + q)), q), ?_, ?_, ⟨⟨hD2, by simp only; omega, by assumption⟩, hM, hB⟩, by simp only; omega⟩
        · exact Sub.cons' rfl (by congr 1; simp only; omega) (Sub.nil _)
        · repeat (first | exact Sub.nil _ | refine Sub.cons rfl ?_)
    ·
      refine W.exit ?_
      refine thenP_exit ?_
      refine thenP_exit ?_
      refine inBlk_exit ?_
      refine ret0 (by first | exact .inl rfl | exact .inr rfl) ?_
      obtain rfl : k = 0 := by omega
      rw [Go.Sort.heapPop] at hD2
      rw [hD2] at hM
      exact ⟨rfl, hM, hB⟩

theorem reverse_u32 (d : Array Nat) (p : Option Addr) (n c B : Nat) (S : List Ob) (a b : Nat) (w0 : World) (hM0 : Mem w0 B (⟨37, p, n, c, uv d.toList⟩ :: S)) (hB0 : B ≤ w0.heap.size) (hn : d.size = n) (hn2 : n ≤ 1000000) (hab : a < b) (hb : b ≤ n) :
    CallsV Try.prog 64 #[.slice p n c, .int .i64 (a : Int), .int .i64 (b : Int)] w0 (fun v w => v = .tuple #[] ∧ Mem w B (⟨37, p, n, c, uv (Go.Sort.reverseRange d a b).toList⟩ :: S) ∧ Below B w0 w) := by
  refine enter0 Try.func64 rfl Try.ntmps64 (by simp) rfl ?_
  have hB := Below.refl B w0
  simp only [argLoc, Nat.zero_add, Nat.reduceAdd]
  have hM := hM0
  refine W.seqR ?_
  refine LS.vv rfl rfl (by decide) (Val.move rfl) ?_
  refine LS.vv rfl rfl (by decide) (Val.assign rfl) ?_
  refine LS.nil ?_
  refine W.seqR ?_
  refine LS.vv rfl rfl (by decide) (Val.move rfl) ?_
  refine LS.vv rfl rfl (by decide) (Val.subN (j := 1) rfl rfl (by omega) (by omega)) ?_
  refine LS.vv rfl rfl (by decide) (Val.assign rfl) ?_
  refine LS.nil ?_
  refine W.block ?_
  refine W.loop (α := Array Nat × Nat × Nat) (fun g => [(6, .int .i64 (g.2.1 : Int)), (7, .int .i64 (g.2.2 : Int))]) [(0, _)] (fun g w => (Go.Sort.reverseLoop g.2.1 g.2.2 g.1 = Go.Sort.reverseRange d a b ∧ g.2.2 < b ∧ g.1.size = n) ∧ Mem w B (⟨37, p, n, c, uv g.1.toList⟩ :: S) ∧ Below B w0 w) (fun g => g.2.2 - g.2.1) ((d, a, b - 1)) (Sub.cons rfl (Sub.cons rfl (Sub.nil _))) (Sub.cons rfl (Sub.nil _)) ?_ ?_
  · exact ⟨⟨rfl, by simp only; omega, hn⟩, hM, hB⟩
  rintro ⟨D, i, j⟩ w1 ⟨⟨hD, hj, hDn⟩, hM, hB⟩
  try simp only at hM
  simp only [List.cons_append, List.nil_append]
  simp only at hD hj hDn
  have hlD : D.toList.length = n := by rw [Array.length_toList]; first | assumption | omega
  refine W.seq ?_
  refine W.seqR ?_
  refine LS.vv rfl rfl (by decide) (Val.move rfl) ?_
  refine LS.vv rfl rfl (by decide) (Val.move rfl) ?_
  refine LS.vv rfl rfl (by decide) (Val.lss rfl rfl) ?_
  refine LS.nil ?_
  first | refine W.condD rfl (fun hc1 => ?_) (fun hc1 => ?_) | refine W.cond rfl (fun hc1 => ?_) (fun hc1 => ?_)
  ·
    refine W.skip ?_
    refine thenP_normal ?_
    refine W.block ?_
    refine W.seqT (S := fun w => Below B w0 w) (.val 0 (.val 1 (.val 2 (.val 3 (.val 4 (.val 5 (.val 6 (.val 8 (.val 9 (.val 10 (.two (.mem 7 (.mem 11 (.val 12 (.mem 13 (.val 14 (.mem 15 (.done))))))) (.mem 11 (.mem 7 (.val 12 (.mem 13 (.val 14 (.mem 15 (.done)))))))))))))))))) mixed (by kernel_rfl) hB.drew ?_
    replace hB := hB.drew
    replace hM := hM.drew
    refine DT.vv rfl rfl rfl (by decide) (Val.move rfl) ?_
    refine DT.vv rfl rfl rfl (by decide) (Val.move rfl) ?_
    refine DT.vv rfl rfl rfl (by decide) (Val.move rfl) ?_
    refine DT.vv rfl rfl rfl (by decide) (Val.move rfl) ?_
    refine DT.vv rfl rfl rfl (by decide) (Val.move rfl) ?_
    refine DT.vv rfl rfl rfl (by decide) (Val.move rfl) ?_
    refine DT.vv rfl rfl rfl (by decide) (Val.index1 Try.underlying32 elem37 rfl rfl (by first | omega | (simp only [List.length_set]; omega)) (hM.o0.rd) (uv_lt (by first | omega | (simp only [List.length_set]; omega)))) ?_
    refine DT.vv rfl rfl rfl (by decide) (Val.move rfl) ?_
    refine DT.vv rfl rfl rfl (by decide) (Val.move rfl) ?_
    refine DT.vv rfl rfl rfl (by decide) (Val.index1 Try.underlying32 elem37 rfl rfl (by first | omega | (simp only [List.length_set]; omega)) (hM.o0.rd) (uv_lt (by first | omega | (simp only [List.length_set]; omega)))) ?_
    refine DT.two ?_ ?_
    ·
      refine DT.m rfl rfl (Step.load rfl rfl (by decide) flat37 rfl (hM.o0.rd) (uv_at (by first | omega | (simp only [List.length_set]; omega))) ?_)
      refine ⟨hB, ?_⟩
      refine DT.m rfl rfl (Step.load rfl rfl (by decide) flat37 rfl (hM.o0.rd) (uv_at (by first | omega | (simp only [List.length_set]; omega))) ?_)
      refine ⟨hB, ?_⟩
      refine DT.vv rfl rfl rfl (by decide) (Val.index1 Try.underlying32 elem37 rfl rfl (by first | omega | (simp only [List.length_set]; omega)) (hM.o0.rd) (uv_lt (by first | omega | (simp only [List.length_set]; omega)))) ?_
      refine DT.m rfl rfl (Step.store (B := B) rfl rfl flat37 elem37 rfl rfl rfl (hM.o0) (by first | omega | (simp only [List.length_set]; omega)) (Nat.le_trans hB0 hB.size) ?_)
      rintro w2 hO2 hg2 hbl2 hsz2
      replace hM := hM.s0 hg2 hO2 inl_block
      try simp only [uv_app1, uv_app, uv_set, uv_rep, uv_one, uv_cons, uv_take, uv_drop, List.nil_append] at hM
      replace hB := hB.trans hbl2
      refine ⟨hB, ?_⟩
      refine DT.vv rfl rfl rfl (by decide) (Val.index1 Try.underlying32 elem37 rfl rfl (by first | omega | (simp only [List.length_set]; omega)) (hM.o0.rd) (uv_lt (by first | omega | (simp only [List.length_set]; omega)))) ?_
      refine DT.m rfl rfl (Step.store (B := B) rfl rfl flat37 elem37 rfl rfl rfl (hM.o0) (by first | omega | (simp only [List.length_set]; omega)) (Nat.le_trans hB0 hB.size) ?_)
      rintro w3 hO3 hg3 hbl3 hsz3
      replace hM := hM.s0 hg3 hO3 inl_block
      try simp only [uv_app1, uv_app, uv_set, uv_rep, uv_one, uv_cons, uv_take, uv_drop, List.nil_append] at hM
      replace hB := hB.trans hbl3
      refine ⟨hB, ?_⟩
      refine DT.nil ?_
      refine W.seqR ?_
      refine LS.vv rfl rfl (by decide) (Val.move rfl) ?_
      first | refine LS.vv rfl rfl (by decide) (Val.addN (j := 1) rfl rfl (by first | omega | (simp only [List.length_set]; omega))) ?_ | refine LS.vv rfl rfl (by decide) (Val.add64 rfl rfl (by first | omega | (simp only [List.length_set]; omega))) ?_
      refine LS.vv rfl rfl (by decide) (Val.assign rfl) ?_
      refine LS.nil ?_
      refine W.reg ?_
      refine LS.vv rfl rfl (by decide) (Val.move rfl) ?_
      first | refine LS.vv rfl rfl (by decide) (Val.subN (j := 1) rfl rfl (by first | omega | (simp only [List.length_set]; omega)) (by first | omega | (simp only [List.length_set]; omega))) ?_ | refine LS.vv rfl rfl (by decide) (Val.sub64 rfl rfl (by first | omega | (simp only [List.length_set]; omega))) ?_
      refine LS.vv rfl rfl (by decide) (Val.assign rfl) ?_
      refine LS.nil ?_
      refine inBlk_normal ?_
      refine thenP_normal ?_
      simp only [swpA] at hM
      try rw [swp_comm D j i] at hM
      rw [rev_yes (by omega)] at hD
      refine ⟨(Go.Sort.swp D i j, i + 1, j - 1), ?_, ?_, ⟨⟨hD, by simp only; omega, by rw [swp_size]; exact hDn⟩, hM, hB⟩, by simp only; omega⟩
      · exact (Sub.cons rfl (Sub.cons rfl (Sub.nil _)))
      · repeat (first | exact Sub.nil _ | refine Sub.cons rfl ?_)
    ·
      refine DT.m rfl rfl (Step.load rfl rfl (by decide) flat37 rfl (hM.o0.rd) (uv_at (by first | omega | (simp only [List.length_set]; omega))) ?_)
      refine ⟨hB, ?_⟩
      refine DT.m rfl rfl (Step.load rfl rfl (by decide) flat37 rfl (hM.o0.rd) (uv_at (by first | omega | (simp only [List.length_set]; omega))) ?_)
      refine ⟨hB, ?_⟩
      refine DT.vv rfl rfl rfl (by decide) (Val.index1 Try.underlying32 elem37 rfl rfl (by first | omega | (simp only [List.length_set]; omega)) (hM.o0.rd) (uv_lt (by first | omega | (simp only [List.length_set]; omega)))) ?_
      refine DT.m rfl rfl (Step.store (B := B) rfl rfl flat37 elem37 rfl rfl rfl (hM.o0) (by first | omega | (simp only [List.length_set]; omega)) (Nat.le_trans hB0 hB.size) ?_)
      rintro w4 hO4 hg4 hbl4 hsz4
      replace hM := hM.s0 hg4 hO4 inl_block
      try simp only [uv_app1, uv_app, uv_set, uv_rep, uv_one, uv_cons, uv_take, uv_drop, List.nil_append] at hM
      replace hB := hB.trans hbl4
      refine ⟨hB, ?_⟩
      refine DT.vv rfl rfl rfl (by decide) (Val.index1 Try.underlying32 elem37 rfl rfl (by first | omega | (simp only [List.length_set]; omega)) (hM.o0.rd) (uv_lt (by first | omega | (simp only [List.length_set]; omega)))) ?_
      refine DT.m rfl rfl (Step.store (B := B) rfl rfl flat37 elem37 rfl rfl rfl (hM.o0) (by first | omega | (simp only [List.length_set]; omega)) (Nat.le_trans hB0 hB.size) ?_)
      rintro w5 hO5 hg5 hbl5 hsz5
      replace hM := hM.s0 hg5 hO5 inl_block
      try simp only [uv_app1, uv_app, uv_set, uv_rep, uv_one, uv_cons, uv_take, uv_drop, List.nil_append] at hM
      replace hB := hB.trans hbl5
      refine ⟨hB, ?_⟩
      refine DT.nil ?_
      refine W.seqR ?_
      refine LS.vv rfl rfl (by decide) (Val.move rfl) ?_
      first | refine LS.vv rfl rfl (by decide) (Val.addN (j := 1) rfl rfl (by first | omega | (simp only [List.length_set]; omega))) ?_ | refine LS.vv rfl rfl (by decide) (Val.add64 rfl rfl (by first | omega | (simp only [List.length_set]; omega))) ?_
      refine LS.vv rfl rfl (by decide) (Val.assign rfl) ?_
      refine LS.nil ?_
      refine W.reg ?_
      refine LS.vv rfl rfl (by decide) (Val.move rfl) ?_
      first | refine LS.vv rfl rfl (by decide) (Val.subN (j := 1) rfl rfl (by first | omega | (simp only [List.length_set]; omega)) (by first | omega | (simp only [List.length_set]; omega))) ?_ | refine LS.vv rfl rfl (by decide) (Val.sub64 rfl rfl (by first | omega | (simp only [List.length_set]; omega))) ?_
      refine LS.vv rfl rfl (by decide) (Val.assign rfl) ?_
      refine LS.nil ?_
      refine inBlk_normal ?_
      refine thenP_normal ?_
      simp only [swpA] at hM
      try rw [swp_comm D j i] at hM
      rw [rev_yes (by omega)] at hD
      refine ⟨(Go.Sort.swp D i j, i + 1, j - 1), ?_, ?_, ⟨⟨hD, by simp only; omega, by rw [swp_size]; exact hDn⟩, hM, hB⟩, by simp only; omega⟩
      · exact (Sub.cons rfl (Sub.cons rfl (Sub.nil _)))
      · repeat (first | exact Sub.nil _ | refine Sub.cons rfl ?_)
  ·
    refine W.exit ?_
    refine thenP_exit ?_
    refine thenP_exit ?_
    refine inBlk_exit ?_
    refine ret0 (by first | exact .inl rfl | exact .inr rfl) ?_
    rw [rev_no (by omega)] at hD
    rw [hD] at hM
    exact ⟨rfl, hM, hB⟩

end Go.Proofs.Ytjmpkmomlpgbdaa
