/-
  slices.Backward over a slice of numbers, and field.Value, which ranges over it.
-/
import Derived.RangeFuncBox
import Derived.RangeFuncWrites
import Derived.RangeFuncCalls
import Derived.RangeFuncLeaves
import Derived.Shelf.Abstract
import Derived.WalkKit
import Derived.OwnWalkIn
import Derived.TacticsInMore
import Derived.LoopNIn
import Derived.LoopIn
import Derived.Test.YtnaebllojkodbaaRootsPlain
import Derived.Test.YtnaebllojkodbaaField
namespace Go.Proofs.Ytnaebllojkodbaa
open Go Go.RowKit Go.Shelf V
set_option linter.unusedVariables false
set_option linter.unusedSimpArgs false

attribute [local go_sem] Oper.semAt_some

def comes (len : Nat) (zs : Nat → Fin 16) (k : Nat) : List (Nat × Fin 16) := (List.range k).map fun j => (len - 1 - j, zs (len - 1 - j))
theorem comes_succ (len : Nat) (zs : Nat → Fin 16) (k : Nat) : comes len zs (k + 1) = comes len zs k ++ [(len - 1 - k, zs (len - 1 - k))] := by simp [comes, List.range_succ]
theorem comes_length (len : Nat) (zs : Nat → Fin 16) (k : Nat) : (comes len zs k).length = k := by simp [comes]
/-- what a round keeps: what lay ahead, and the block of the slice's own variable -/
structure BK (n₀ Bs : Nat) (A B : World) : Prop where
  low : Below n₀ A B
  box : B.heap[Bs]? = A.heap[Bs]?
theorem BK.refl (n₀ Bs : Nat) (A : World) : BK n₀ Bs A A := ⟨Below.refl _ _, rfl⟩
theorem BK.trans {n₀ Bs : Nat} {A B C : World} (h : BK n₀ Bs A B) (k : BK n₀ Bs B C) : BK n₀ Bs A C := ⟨h.low.trans k.low, k.box.trans h.box⟩
theorem BK.b {n₀ Bs : Nat} {w : World} (hn : n₀ ≤ w.heap.size) (hs : Bs < w.heap.size) (W : World) (l : Nat) (o o' : Obj) (hl : w.heap.size ≤ l) (h : W.heap[l]? = some o) (hc : o.isCells = false) (hw : o.isWalk = false) : BK n₀ Bs W (W.putObj l o') :=
  ⟨belowK_b hn W l o o' hl h hc hw, (belowK_b (n₀ := Bs + 1) (w := w) hs W l o o' hl h hc hw).block Bs (Nat.lt_succ_self _)⟩

set_option maxRecDepth 100000 in
set_option maxHeartbeats 2000000 in
theorem back1_in (F : Fence) (n : Nat) (h8 : F.fn 60) (hro : F.round = none) (hn : 1 ≤ n) (l Bs n₀ b off len cap : Nat) (zs : Nat → Fin 16) (hreach : len * 8 ≤ 140737488351232) (hb : b < n₀) (J Jx : List (Nat × Fin 16) → World → Prop)
    (hY : ∀ pre x W, J pre W → pre.length < len → YieldAt F (n - 1) Try.prog l #[.int .i64 (x.1 : Int), .int .i64 (x.2.val : Int)] W fun e W' =>
      (e = .returned (.bool true) ∧ J (pre ++ [x]) W' ∧ BK n₀ Bs W W') ∨ (e = .returned (.bool false) ∧ Jx (pre ++ [x]) W'))
    (W : World) (hBs : W.cell? ⟨Bs, 0, none⟩ = some (.slice (some ⟨b, off, none⟩) len cap)) (hc : ∀ j, j < len → W.cell? ⟨b, off + j, none⟩ = some (.int .i64 ((zs j).val : Int))) (h0 : J [] W) :
    CallsIn F n Try.prog 60 #[.func (.yield l) #[] #[], .pointer (some ⟨Bs, 0, none⟩)] W fun e W' => (∃ v, e = .returned v) ∧
      ((∃ ys, ys = comes len zs len ∧ J ys W') ∨ (∃ pre, (∃ k, k ≤ len ∧ pre = comes len zs k) ∧ Jx pre W')) := by
  refine callsIn_of_wp Try.func60 rfl h8 ?_ hro
  simp only [Try.ntmps60, List.size_toArray, List.length_cons, List.length_nil, Nat.reduceAdd, Nat.reduceSub, Array.replicate_succ, Array.replicate_zero, List.push_toArray, List.append_toArray, List.nil_append, List.cons_append]
  gi_wp2
  gi_loopw [3] (fun i wr => ∃ k : Nat, k ≤ len ∧ i = .int .i64 ((len : Int) - 1 - k) ∧ J (comes len zs k) wr ∧ BK n₀ Bs W wr)
    (fun i _ => (intOf i + 1).toNat)
  case atStart => exact ⟨0, Nat.zero_le _, by simp, h0, BK.refl _ _ _⟩
  case round =>
    obtain ⟨k, hk, rfl, hJs, hnx⟩ := hrel
    have hBw : wr.cell? ⟨Bs, 0, none⟩ = some (.slice (some ⟨b, off, none⟩) len cap) := (World.cell?_of_block (w := W) (a := ⟨Bs, 0, none⟩) hnx.box).trans hBs
    by_cases hlt : k < len
    · obtain ⟨fn, tmps, assign, body, hy, hR⟩ := hY _ (len - 1 - k, zs (len - 1 - k)) wr hJs (by rw [comes_length]; exact hlt)
      dsimp only at hy
      have hcx' : wr.cell? ⟨b, off + (len - 1 - k), none⟩ = some (.int .i64 ((zs (len - 1 - k)).val : Int)) := (hnx.low.cell (p := ⟨b, off + (len - 1 - k), none⟩) hb).trans (hc _ (by omega))
      have e : (len : Int) - 1 - k = ((len - 1 - k : Nat) : Int) := by omega
      have hil : len - 1 - k < len := by omega
      have hid : k + (len - 1 - k) + 1 = len := by omega
      rw [e]
      generalize len - 1 - k = q at *
      gi_wp2
      refine hR.mono ?_
      rintro e W3 (⟨rfl, hJ3, hk3⟩ | ⟨rfl, hJx3⟩)
      · gi_wp2
        go_roundw
        case rel => exact ⟨k + 1, by omega, by first | (simp; done) | (simp; omega), by rw [comes_succ, show len - 1 - k = q by omega]; exact hJ3, hnx.trans hk3⟩
        case measure => first | (simp [intOf]; done) | (simp [intOf]; omega)
      · gi_wp2
        refine bodyPost_ret (results_none rfl _ _ _) rfl ?_
        exact ⟨⟨_, rfl⟩, .inr ⟨_, ⟨k + 1, by omega, (by rw [comes_succ, show len - 1 - k = q by omega])⟩, hJx3⟩⟩
    · obtain rfl : k = len := by omega
      have e : (k : Int) - 1 - k = -1 := by omega
      rw [e]
      gi_wp2
      go_end0
      exact ⟨⟨_, rfl⟩, .inl ⟨_, rfl, hJs⟩⟩

set_option maxRecDepth 100000 in
set_option maxHeartbeats 1000000 in
theorem back1_nil_in (F : Fence) (n : Nat) (h7 : F.fn 60) (hro : F.round = none) (l Bs : Nat) (J : List (Nat × Fin 16) → World → Prop) (W : World) (a : Option Addr) (cap : Nat) (hBs : W.cell? ⟨Bs, 0, none⟩ = some (.slice a 0 cap)) (h0 : J [] W) :
    CallsIn F n Try.prog 60 #[.func (.yield l) #[] #[], .pointer (some ⟨Bs, 0, none⟩)] W fun e W' => (∃ v, e = .returned v) ∧ J [] W' := by
  refine callsIn_of_wp Try.func60 rfl h7 ?_ hro
  simp only [Try.ntmps60, List.size_toArray, List.length_cons, List.length_nil, Nat.reduceAdd, Nat.reduceSub, Array.replicate_succ, Array.replicate_zero, List.push_toArray, List.append_toArray, List.nil_append, List.cons_append]
  gi_wp2
  gi_loopw [3] (fun i wr => i = .int .i64 (-1) ∧ J [] wr) (fun _ _ => 0)
  case atStart => exact ⟨rfl, h0⟩
  case round =>
    obtain ⟨rfl, hJs⟩ := hrel
    gi_wp2
    go_end0
    exact ⟨⟨_, rfl⟩, hJs⟩

set_option maxHeartbeats 1000000 in
theorem back_in (F : Fence) (n : Nat) (h5 : F.fn 50) (hro : F.round = none) (a : Option Addr) (len cap : Nat) (w : World) :
    CallsIn F n Try.prog 50 #[.slice a len cap] w fun e w' => e = .returned (.func (.func 60) #[] #[.pointer (some ⟨w.heap.size, 0, none⟩)]) ∧ w' = w.alloc (.cells #[.slice a len cap] 27) := by
  refine callsIn_of_wp Try.func50 rfl h5 ?_ hro
  simp only [Try.ntmps50, List.size_toArray, List.length_cons, List.length_nil, Nat.reduceAdd, Nat.reduceSub, Array.replicate_succ, Array.replicate_zero, List.push_toArray, List.append_toArray, List.nil_append, List.cons_append]
  gi_wp2
  go_ret
  exact ⟨rfl, rfl⟩

theorem back_stops (F : Fence) (n : Nat) (h7 : F.fn 60) (hro : F.round = none) (hn : 1 ≤ n) (Bs n₀ len cap : Nat) (a : Option Addr) (zs : Nat → Fin 16) (hreach : len * 8 ≤ 140737488351232) (w : World) (hBs : Bs < w.heap.size) (hn₀ : n₀ ≤ w.heap.size)
    (hc : w.cell? ⟨Bs, 0, none⟩ = some (.slice a len cap)) (hI : len = 0 ∨ ∃ b off, a = some ⟨b, off, none⟩ ∧ b < n₀ ∧ ∀ j, j < len → w.cell? ⟨b, off + j, none⟩ = some (.int .i64 ((zs j).val : Int))) :
    SeqStopsK F n Try.prog 60 #[.pointer (some ⟨Bs, 0, none⟩)] (fun x : Nat × Fin 16 => #[Value.int .i64 (x.1 : Int), Value.int .i64 (x.2.val : Int)]) (BK n₀ Bs) (fun ys => ys = comes len zs len) (fun pre => ∃ k, k ≤ len ∧ pre = comes len zs k) len w := fun l J Jx W hW _ _ hY h0 => by
  have hc' := (hW.cell (p := ⟨Bs, 0, none⟩) hBs).trans hc
  rcases hI with rfl | ⟨b, off, rfl, hb, hcs⟩
  · exact (back1_nil_in F n h7 hro l Bs J W a cap hc' h0).mono fun e W' ⟨he, hj⟩ => ⟨he, .inl ⟨_, rfl, hj⟩⟩
  · exact back1_in F n h7 hro hn l Bs n₀ b off len cap zs hreach hb J Jx hY W hc' (fun j hj => ((hW.mono hn₀).cell (p := ⟨b, off + j, none⟩) hb).trans (hcs j hj)) h0

/-- the value of what has come -/
def fv (x : Nat) (pre : List (Nat × Fin 16)) : Nat := pre.foldl (fun y p => fmul y x ^^^ p.2.val) 0
theorem fv_snoc (x : Nat) (pre : List (Nat × Fin 16)) (p : Nat × Fin 16) : fv x (pre ++ [p]) = fmul (fv x pre) x ^^^ p.2.val := by simp [fv, List.foldl_append]
theorem fv_lt {x : Nat} (hx : x < 16) (pre : List (Nat × Fin 16)) : fv x pre < 16 := by
  have key : ∀ (pre : List (Nat × Fin 16)) (y : Nat), y < 16 → pre.foldl (fun y p => fmul y x ^^^ p.2.val) y < 16 := by
    intro pre
    induction pre with
    | nil => intro y hy; exact hy
    | cons p pre ih => intro y hy; exact ih _ (x16 (fmul_lt hy hx) p.2.isLt)
  exact key pre 0 (by omega)

theorem xor_all : (List.range 16).all (fun a : Nat => (List.range 16).all fun b : Nat => decide (bits BinOp.xor IntKind.i64 (a : Int) (b : Int) = ((a ^^^ b : Nat) : Int))) = true := by decide +kernel
theorem xor_bits (a b : Nat) (ha : a < 16) (hb : b < 16) : bits BinOp.xor IntKind.i64 (a : Int) (b : Int) = ((a ^^^ b : Nat) : Int) := by
  have h := List.all_eq_true.1 (List.all_eq_true.1 xor_all a (List.mem_range.2 ha)) b (List.mem_range.2 hb)
  exact of_decide_eq_true h
set_option maxRecDepth 100000 in
set_option maxHeartbeats 2000000 in
theorem Value_in (F : Fence) (n : Nat) (h0 : F.fn 50) (h1' : F.fn 60) (hV : F.fn 34) (hFT : F.fn 32) (hro : F.round = none) (hn : 3 ≤ n) (hT : ∀ m a b W, a < 16 → b < 16 → CallsIn F m Try.prog 32 #[.int .i64 ((a : Nat) : Int), .int .i64 ((b : Nat) : Int)] W fun e W' => e = .returned (.int .i64 (fmul a b : Int)) ∧ Below W.heap.size W W')
    (a : Option Addr) (len cap x : Nat) (hx : x < 16) (zs : Nat → Fin 16) (hreach : len * 8 ≤ 140737488351232) (w : World)
    (hI : len = 0 ∨ ∃ b off, a = some ⟨b, off, none⟩ ∧ b < w.heap.size ∧ ∀ j, j < len → w.cell? ⟨b, off + j, none⟩ = some (.int .i64 ((zs j).val : Int))) :
    CallsIn F n Try.prog 34 #[.slice a len cap, .int .i64 (x : Int)] w fun e W' => e = .returned (.int .i64 (fv x (comes len zs len) : Int)) ∧ Below w.heap.size w W' := by
  have h1 : 1 ≤ n := by omega
  refine callsIn_of_wp_marks Try.func34 rfl hV ?_ hro
  simp only [Try.ntmps34, List.size_toArray, List.length_cons, List.length_nil, Nat.reduceAdd, Nat.reduceSub, Array.replicate_succ, Array.replicate_zero, List.push_toArray, List.append_toArray, List.nil_append, List.cons_append]
  gi_wp2_with (gi_at_call 50; refine (back_in F (n - 1) h0 hro _ _ _ _).mono ?_; rintro e w' ⟨rfl, rfl⟩)
  have bX := Boxed.new w 3 (.int .i64 (x : Int))
  have bY := Boxed.new (w.alloc (.cells #[.int .i64 (x : Int)] 3)) 3 (.int .i64 0)
  have bN := Boxed.new ((w.alloc (.cells #[.int .i64 (x : Int)] 3)).alloc (.cells #[.int .i64 0] 3)) 27 (.slice a len cap)
  simp only [World.size_alloc] at bY bN
  have hB0 : Below w.heap.size w (((w.alloc (.cells #[.int .i64 (x : Int)] 3)).alloc (.cells #[.int .i64 0] 3)).alloc (.cells #[.slice a len cap] 27)) := (((Below.refl _ w).alloc (Nat.le_refl _) _).alloc (by simp) _).alloc (by simp; omega) _
  have bX2 := (bX.alloc (.cells #[.int .i64 0] 3)).alloc (.cells #[.slice a len cap] 27)
  have bY2 := bY.alloc (.cells #[.slice a len cap] 27)
  have hsz : (((w.alloc (.cells #[.int .i64 (x : Int)] 3)).alloc (.cells #[.int .i64 0] 3)).alloc (.cells #[.slice a len cap] 27)).heap.size = w.heap.size + 3 := by simp
  generalize ((w.alloc (.cells #[.int .i64 (x : Int)] 3)).alloc (.cells #[.int .i64 0] 3)).alloc (.cells #[.slice a len cap] 27) = W0 at *
  refine wpIn_rangeFunc_ownG hro h1 (gf := 60) (lb := #[.pointer (some ⟨w.heap.size + 1 + 1, 0, none⟩)]) rfl h1' (enters_of Try.func60 (by kernel_rfl) rfl)
    (back_stops F (n - 1) h1' hro (by omega) (w.heap.size + 1 + 1) w.heap.size len cap a zs hreach W0 (by omega) (by omega) bN.cell (by
      rcases hI with h | ⟨b, off, rfl, hb, hcs⟩
      · exact .inl h
      · exact .inr ⟨b, off, rfl, hb, fun j hj => (hB0.cell (p := ⟨b, off + j, none⟩) hb).trans (hcs j hj)⟩)) BK.trans (BK.b (by omega) (by omega)) (Below.refl _ _) (fun _ => rfl)
    (fun pre W => (W.cell? ⟨w.heap.size + 1, 0, none⟩ = some (.int .i64 (fv x pre : Int)) ∧ W.frozen? ⟨w.heap.size + 1, 0, none⟩ = false ∧ W.cell? ⟨w.heap.size, 0, none⟩ = some (.int .i64 (x : Int))) ∧ Below w.heap.size w W ∧ w.heap.size + 3 ≤ W.heap.size)
    (fun _ _ _ => False)
    (OwnFrom.and (Own.from (fun s A B row hs hg hr => ⟨cell_kept hs.1 hg hr, (frozen_kept hs.1 hg hr).trans hs.2.1, cell_kept hs.2.2 hg hr⟩) _) (OwnFrom.and (ownFrom_below (Nat.le_refl _) (by omega)) (fun s A B row hs hg hr => Nat.le_trans hs hg.size)))
    (fun _ _ _ _ _ hs _ _ => hs)
    ⟨⟨bY2.cell, bY2.frozen, bX2.cell⟩, hB0, by omega⟩
    (fun p => { tmps := #[.slice a len cap, .int .i64 (x : Int), undef, .pointer (some ⟨w.heap.size, 0, none⟩), .int .i64 0, .pointer (some ⟨w.heap.size + 1, 0, none⟩), undef, .int .i64 (p.2.val : Int), .slice a len cap, .func (.func 60) #[] #[.pointer (some ⟨w.heap.size + 1 + 1, 0, none⟩)], .int .i64 (p.1 : Int), .int .i64 (p.2.val : Int), undef, undef, undef, undef, undef, undef], defers := [] }) ?assign ?body ?done ?stop
  case assign =>
    intro l p W K hK
    gi_wp2
    exact hK
  case body =>
    rintro l pre p W ⟨⟨hc, hf, hxb⟩, hB, hWs⟩ _
    have hn11 : 1 ≤ n - 1 - 1 := by omega
    have hTc := hT (n - 1 - 1 - 1) (fv x pre) x W (fv_lt hx pre) hx
    gi_wp2_with (gi_at_call 32; refine (CallsIn.inRound l hTc).mono ?_; rintro e W2 ⟨rfl, hTB⟩; have hc2 : W2.cell? ⟨w.heap.size + 1, 0, none⟩ = some (.int .i64 (fv x pre : Int)) := (hTB.cell (p := ⟨w.heap.size + 1, 0, none⟩) (by show w.heap.size + 1 < _; omega)).trans hc; have hf2 : W2.frozen? ⟨w.heap.size + 1, 0, none⟩ = false := (hTB.frozen (p := ⟨w.heap.size + 1, 0, none⟩) (by show w.heap.size + 1 < _; omega)).trans hf)
    have hxr : fmul (fv x pre) x ^^^ p.2.val = fv x (pre ++ [p]) := (fv_snoc x pre p).symm
    have hbits : bits BinOp.xor IntKind.i64 (fmul (fv x pre) x : Int) (p.2.val : Int) = (fv x (pre ++ [p]) : Int) := by
      rw [← hxr]; exact xor_bits _ _ (fmul_lt (fv_lt hx pre) hx) p.2.isLt
    rw [hbits]
    have hset : ∀ (v : Value) (k : Nat), k ≠ w.heap.size + 1 → (W2.setCell ⟨w.heap.size + 1, 0, none⟩ v).heap[k]? = W2.heap[k]? := fun v k hk => by
      show (W2.heap.modify (w.heap.size + 1) _)[k]? = _
      rw [Array.getElem?_modify, if_neg (fun e => hk e.symm)]
    have hk1 : KeepsOthers W W2 := ⟨hTB.size, fun k o hk _ => (hTB.block k (Array.getElem?_eq_some_iff.1 hk).1).trans hk⟩
    refine ⟨(hk1.trans (KeepsOthers.setCell _ _ _)).from _, ⟨((hTB.mono (by omega)).trans ((Below.refl w.heap.size W2).setCell (p := ⟨w.heap.size + 1, 0, none⟩) (by show w.heap.size ≤ w.heap.size + 1; omega) _)), ?_⟩, ⟨World.cell?_setCell_same' _ _ _ (by rw [hc2]; rfl), by rw [World.frozen?_setCell]; exact hf2, ?_⟩, ?_, ?_⟩
    · rw [hset _ _ (by omega)]; exact hTB.block _ (by omega)
    · rw [World.cell?_setCell_other _ _ _ _ (by intro e; have := congrArg Addr.block e; simp at this)]; exact (hTB.cell (p := ⟨w.heap.size, 0, none⟩) (by show w.heap.size < _; omega)).trans hxb
    · exact (hB.trans (hTB.mono (by omega))).setCell (p := ⟨w.heap.size + 1, 0, none⟩) (by show w.heap.size ≤ w.heap.size + 1; omega) _
    · rw [World.size_setCell]; have := hTB.size; omega
  case done =>
    rintro D ys W hD rfl ⟨⟨hc, _⟩, hB, _⟩ hK
    gi_wp2
    refine ⟨by simp, .inl ⟨_, _, rfl, run_takeDeferred hK, ?_⟩⟩
    exact ⟨_, results_tmp rfl _ _ _, rfl, hB.trans (belowK_b (w := w) (Nat.le_refl _) W D _ _ (by omega) hK rfl rfl)⟩
  case stop =>
    rintro D c pre W _ _ h _
    exact h.elim

def fvn (x : Nat) (vs : List Nat) : Nat := vs.foldl (fun y c => fmul y x ^^^ c) 0
theorem pval_rev (x : Nat) : ∀ l : List Nat, pval l x = fvn x l.reverse
  | [] => rfl
  | c :: t => by
    rw [List.reverse_cons, fvn, List.foldl_append]
    show fmul (pval t x) x ^^^ c = fmul (fvn x t.reverse) x ^^^ c
    rw [pval_rev x t]
theorem fv_pval {l : List Nat} {x : Nat} {zs : Nat → Fin 16} (hz : ∀ j, j < l.length → (zs j).val = gn l j) : fv x (comes l.length zs l.length) = pval l x := by
  have h1 : (comes l.length zs l.length).map (fun p => p.2.val) = l.reverse := by
    refine List.ext_getElem (by simp [comes]) fun j h1 h2 => ?_
    simp only [comes, List.getElem_map, List.getElem_range, List.getElem_reverse]
    have hj : j < l.length := by simpa using h2
    rw [hz _ (by omega), gn_lt (by omega)]
  rw [pval_rev, ← h1, fvn, List.foldl_map]; rfl
theorem value_any (l : List Nat) (p : Option Addr) (c m x : Nat) (w0 : World) (hr : Rd w0 p (nv l)) (hm : l.length = m) (hs : Small l) (hx : x < 16) (hl : m * 8 ≤ 140737488351232) :
    CallsV Try.prog 34 #[.slice p m c, .int .i64 (x : Int)] w0 (fun v w => v = .int .i64 (pval l x : Int) ∧ Below w0.heap.size w0 w) := by
  subst hm
  have hgs : ∀ j, j < l.length → gn l j < 16 := fun j hj => by rw [gn_lt hj]; exact hs _ (List.getElem_mem hj)
  have h := Value_in Fence.wide 3 trivial trivial trivial trivial rfl (by omega) (fun k a b W ha hb => callsIn_wide.2 (Calls.mono (times_any a b W ha hb) fun e w' ⟨v, he, hv, hB⟩ => ⟨by rw [he, hv], hB⟩)) p l.length c x hx (fun j => if h : gn l j < 16 then ⟨gn l j, h⟩ else 0) hl w0 (by
    rcases Nat.eq_zero_or_pos l.length with h0 | h0
    · exact .inl h0
    · obtain ⟨b, off, e, hc0⟩ := hr 0 _ (nv_at h0)
      subst e
      refine .inr ⟨b, off, rfl, World.block_lt_of_cell? w0 _ hc0, fun j hj => ?_⟩
      obtain ⟨b', off', e, hc⟩ := hr j _ (nv_at hj)
      cases e
      rw [hc, dif_pos (hgs j hj)])
  refine Calls.mono (callsIn_wide.1 h) fun e w' ⟨he, hB⟩ => ⟨_, he, ?_, hB⟩
  rw [fv_pval fun j hj => by rw [dif_pos (hgs j hj)]]
end Go.Proofs.Ytnaebllojkodbaa
