/-
  The array of package stripe.
-/
import Derived.Test.YtldcpihjoakigaaArrayMem
import Derived.Test.YtldcpihjoakigaaStripe
import Derived.Test.YtldcpihjoakigaaVfacts3
import Derived.Test.YtldcpihjoakigaaVz4
import Derived.Test.YtldcpihjoakigaaVu8
namespace Go.Proofs.Ytldcpihjoakigaa
open Go Go.RowKit V
set_option linter.unusedVariables false
set_option linter.unusedSimpArgs false

theorem in2t {a b : Oz} {T : List Tx} {S : List Oz} : ∀ o ∈ tz 5 T, o ∈ a :: b :: (tz 5 T ++ S) := fun _ h => List.mem_cons_of_mem _ (List.mem_cons_of_mem _ (List.mem_append_left _ h))
theorem cel_gT (T : List Tx) (j r : Nat) : gn (gT T j).l r = cel (dT T) j r := by unfold cel; rw [dk_dT]

theorem body36 : Body Try.prog 36 := ⟨_, Try.func36, by kernel_rfl, rfl⟩

theorem body37 : Body Try.prog 37 := ⟨_, Try.func37, by kernel_rfl, rfl⟩

theorem body27 : Body Try.prog 27 := ⟨_, Try.func27, by kernel_rfl, rfl⟩

theorem body30 : Body Try.prog 30 := ⟨_, Try.func30, by kernel_rfl, rfl⟩

theorem body28 : Body Try.prog 28 := ⟨_, Try.func28, by kernel_rfl, rfl⟩

theorem body29 : Body Try.prog 29 := ⟨_, Try.func29, by kernel_rfl, rfl⟩

theorem body21 : Body Try.prog 21 := ⟨_, Try.func21, by kernel_rfl, rfl⟩

theorem others_any (T : List Tx) (lost : Int) (po : Option Addr) (g co d j r : Nat) (w0 : World) (hra : Rd w0 (some ⟨g, 0, none⟩) [.slice po d co, .int .i64 lost]) (hro : Rd w0 po (tv T)) (hrt : ∀ k, k < T.length → Rd w0 (gT T k).p (yv (gT T k).l)) (hd : T.length = d) (hsh : Shape d (dT T)) (hd3 : 3 ≤ d) (hd6 : d ≤ 6) (hr : r < rowsOf d) :
    CallsV Try.prog 36 #[.pointer (some ⟨g, 0, none⟩), .int .i64 (j : Int), .int .i64 (r : Int)] w0 (fun v w => v = .int .u8 (othr (dT T) j r d : Int) ∧ Below w0.heap.size w0 w) := by
  refine enter1 Try.func36 rfl Try.ntmps36 (by simp) rfl ?_
  have hB := Below.refl w0.heap.size w0
  simp only [argLoc, Nat.zero_add, Nat.reduceAdd]
  have hM := Mz.nil w0 w0.heap.size
  have h24 := rowsOf_le hd3 hd6
  refine W.seqR ?_
  refine LS.vv rfl rfl (by decide) (Val.cast (v := .int .u8 ((0 : Nat) : Int)) (Val.assign rfl) rfl) ?_
  refine LS.nil ?_
  refine W.seqR ?_
  refine LS.vv rfl rfl (by decide) (Val.cast (v := .int .u8 ((0 : Nat) : Int)) (Val.assign rfl) rfl) ?_
  refine LS.nil ?_
  refine W.seq ?_
  refine W.seqR ?_
  refine LS.vv rfl rfl (by decide) (Val.move rfl) ?_
  first | refine LS.vv rfl rfl (by decide) (Val.nilCheck rfl) ?_ | refine LS.vv rfl rfl (by decide) (Val.nilCheckP rfl) ?_
  refine LS.vv rfl rfl (by decide) (Val.fieldAddr0 fld64_0 rfl) ?_
  refine LS.m rfl (Step.load rfl rfl (by decide) flat28 rfl ((hra.below hB)) (rfl) ?_)
  refine LS.vv rfl rfl (by decide) (Val.len Try.underlying28 rfl) ?_
  refine LS.vv rfl rfl (by decide) (Val.cast (v := .int .i64 ((0 : Nat) : Int)) (Val.move rfl) rfl) ?_
  refine LS.nil ?_
  refine W.block ?_
  refine W.loop (α := Nat) (fun k => [(7, .int .u8 (othr (dT T) j r k : Int)), (15, .int .i64 (k : Int))]) [(1, _), (2, _), (13, _), (14, _)] (fun k w => (k ≤ d) ∧ Mz w w0.heap.size [] ∧ Below w0.heap.size w0 w) (fun k => d - k) (0) (Sub.cons rfl (Sub.cons rfl (Sub.nil _))) (Sub.cons rfl (Sub.cons rfl (Sub.cons rfl (Sub.cons rfl (Sub.nil _))))) ?_ ?_
  · exact ⟨Nat.zero_le _, hM, hB⟩
  rintro k w1 ⟨hk, hM, hB⟩
  try simp only at hM
  simp only [List.cons_append, List.nil_append]
  have hos := othr_succ (dT T) j r k
  refine W.seqR ?_
  refine LS.vv rfl rfl (by decide) (Val.lss rfl rfl) ?_
  refine LS.nil ?_
  refine W.seq ?_
  first | refine W.condD rfl (fun hc1 => ?_) (fun hc1 => ?_) | refine W.cond rfl (fun hc1 => ?_) (fun hc1 => ?_)
  ·
    have hlk : (gT T k).l.length = rowsOf d := by { have := hsh.rows k (by omega); rwa [dk_dT] at this }
    refine W.skip ?_
    refine thenP_normal ?_
    refine W.seq ?_
    refine W.block ?_
    refine W.seqR ?_
    refine LS.vv rfl rfl (by decide) (Val.move rfl) ?_
    refine LS.vv rfl rfl (by decide) (Val.index1 Try.underlying28 elem31 rfl rfl (by omega) ((hro.below hB)) (by rw [tv_len]; omega)) ?_
    refine LS.m rfl (Step.load rfl rfl (by decide) flat31 rfl ((hro.below hB)) (tv_at (by omega)) ?_)
    refine LS.vv rfl rfl (by decide) (Val.assign rfl) ?_
    refine LS.vv rfl rfl (by decide) (Val.assign rfl) ?_
    refine LS.nil ?_
    refine W.seqR ?_
    refine LS.vv rfl rfl (by decide) (Val.move rfl) ?_
    refine LS.vv rfl rfl (by decide) (Val.move rfl) ?_
    refine LS.vv rfl rfl (by decide) (Val.neq rfl rfl) ?_
    refine LS.nil ?_
    first | refine W.condD rfl (fun hc2 => ?_) (fun hc2 => ?_) | refine W.cond rfl (fun hc2 => ?_) (fun hc2 => ?_)
    ·
      refine W.reg ?_
      refine LS.vv rfl rfl (by decide) (Val.move rfl) ?_
      refine LS.vv rfl rfl (by decide) (Val.move rfl) ?_
      refine LS.vv rfl rfl (by decide) (Val.move rfl) ?_
      refine LS.vv rfl rfl (by decide) (Val.index1 Try.underlying31 elem5 rfl rfl (by omega) (((hrt k (by omega)).below hB)) (yv_lt (by omega))) ?_
      refine LS.m rfl (Step.load rfl rfl (by decide) flat5 rfl (((hrt k (by omega)).below hB)) (yv_at (by omega)) ?_)
      have hc1 := hsh.small k r
      have hc2 := othr_lt hsh j r k
      have hce := cel_gT T k r
      refine LS.vv rfl rfl (by decide) (Val.xorU8 rfl rfl (by omega) (by omega)) ?_
      refine LS.vv rfl rfl (by decide) (Val.assign rfl) ?_
      refine LS.nil ?_
      refine inBlk_normal ?_
      refine thenP_normal ?_
      refine W.reg ?_
      first | refine LS.vv rfl rfl (by decide) (Val.addN (j := 1) rfl rfl (by omega)) ?_ | refine LS.vv rfl rfl (by decide) (Val.add64 rfl rfl (by omega)) ?_
      refine LS.vv rfl rfl (by decide) (Val.move rfl) ?_
      refine LS.nil ?_
      refine thenP_normal ?_
      refine ⟨k + 1, ?_, ?_, ⟨by omega, hM, hB⟩, by omega⟩
      · exact Sub.cons' rfl (by rw [hos]; first | (rw [if_pos (by omega)]; done) | (rw [if_neg (by omega), ← cel_gT]; done)) (Sub.cons rfl (Sub.nil _))
      · repeat (first | exact Sub.nil _ | refine Sub.cons rfl ?_)
    ·
      refine W.skip ?_
      refine inBlk_normal ?_
      refine thenP_normal ?_
      refine W.reg ?_
      first | refine LS.vv rfl rfl (by decide) (Val.addN (j := 1) rfl rfl (by omega)) ?_ | refine LS.vv rfl rfl (by decide) (Val.add64 rfl rfl (by omega)) ?_
      refine LS.vv rfl rfl (by decide) (Val.move rfl) ?_
      refine LS.nil ?_
      refine thenP_normal ?_
      refine ⟨k + 1, ?_, ?_, ⟨by omega, hM, hB⟩, by omega⟩
      · exact Sub.cons' rfl (by rw [hos]; first | (rw [if_pos (by omega)]; done) | (rw [if_neg (by omega), ← cel_gT]; done)) (Sub.cons rfl (Sub.nil _))
      · repeat (first | exact Sub.nil _ | refine Sub.cons rfl ?_)
  ·
    refine W.exit ?_
    refine thenP_exit ?_
    refine thenP_exit ?_
    refine inBlk_exit ?_
    refine thenP_normal ?_
    refine W.seqR ?_
    refine LS.vv rfl rfl (by decide) (Val.move rfl) ?_
    refine LS.vv rfl rfl (by decide) (Val.assign rfl) ?_
    refine LS.nil ?_
    refine W.ret ?_
    refine ret1 (by first | exact .inl rfl | exact .inr rfl) rfl ?_
    obtain rfl : k = d := by omega
    exact ⟨rfl, hB⟩

theorem set_any (T : List Tx) (lost : Int) (po : Option Addr) (g co d B : Nat) (S : List Oz) (w0 : World) (hM0 : AM w0 B g po co T lost S) (hB0 : B ≤ w0.heap.size) (hd : T.length = d) (hsh : Shape d (dT T)) (hd3 : 3 ≤ d) (hd6 : d ≤ 6) (j r x : Nat) (hj : j < d) (hr : r < rowsOf d) (hx : x < 256) :
    CallsV Try.prog 37 #[.pointer (some ⟨g, 0, none⟩), .int .i64 (j : Int), .int .i64 (r : Int), .int .u8 (x : Int)] w0 (fun v w => ∃ T2 : List Tx, AM w B g po co T2 lost S ∧ dT T2 = aSet (dT T) lost j r x ∧ T2.length = d ∧ Below B w0 w) := by
  refine enter0 Try.func37 rfl Try.ntmps37 (by simp) rfl ?_
  have hB := Below.refl B w0
  simp only [argLoc, Nat.zero_add, Nat.reduceAdd]
  have hM := front hM0 (show j < T.length by omega)
  have hlk : (gT T j).l.length = rowsOf d := by { have := hsh.rows j (by omega); rwa [dk_dT] at this }
  refine W.seqR ?_
  refine LS.vv rfl rfl (by decide) (Val.move rfl) ?_
  refine LS.vv rfl rfl (by decide) (Val.move rfl) ?_
  first | refine LS.vv rfl rfl (by decide) (Val.nilCheck rfl) ?_ | refine LS.vv rfl rfl (by decide) (Val.nilCheckP rfl) ?_
  refine LS.vv rfl rfl (by decide) (Val.fieldAddr0 fld64_1 rfl) ?_
  refine LS.m rfl (Step.load rfl rfl (by decide) flat3 rfl (hM.o1.rd) (rfl) ?_)
  refine LS.vv rfl rfl (by decide) (Val.neq rfl rfl) ?_
  refine LS.nil ?_
  first | refine W.condD rfl (fun hc1 => ?_) (fun hc1 => ?_) | refine W.cond rfl (fun hc1 => ?_) (fun hc1 => ?_)
  ·
    refine W.reg ?_
    refine LS.vv rfl rfl (by decide) (Val.move rfl) ?_
    first | refine LS.vv rfl rfl (by decide) (Val.nilCheck rfl) ?_ | refine LS.vv rfl rfl (by decide) (Val.nilCheckP rfl) ?_
    refine LS.vv rfl rfl (by decide) (Val.fieldAddr0 fld64_0 rfl) ?_
    refine LS.m rfl (Step.load rfl rfl (by decide) flat28 rfl (hM.o1.rd) (rfl) ?_)
    refine LS.vv rfl rfl (by decide) (Val.move rfl) ?_
    refine LS.vv rfl rfl (by decide) (Val.index1 Try.underlying28 elem31 rfl rfl (by omega) (hM.o2.rd) (by rw [tv_len]; omega)) ?_
    refine LS.m rfl (Step.load rfl rfl (by decide) flat31 rfl (hM.o2.rd) (tv_at (by omega)) ?_)
    refine LS.vv rfl rfl (by decide) (Val.move rfl) ?_
    refine LS.vv rfl rfl (by decide) (Val.move rfl) ?_
    refine LS.vv rfl rfl (by decide) (Val.index1 Try.underlying31 elem5 rfl rfl (by omega) (hM.o0.rd) (yv_lt (by omega))) ?_
    refine LS.m rfl (Step.storeZ (B := B) rfl rfl flat5 elem5 rfl rfl rfl (hM.o0) (by first | decide | (simp; done) | (simp; omega) | omega) (Nat.le_trans hB0 hB.size) ?_)
    rintro w1 hO1 hg1 hbl1 hsz1
    replace hM := hM.s0 (e := _) hg1 hO1 inl_block
    try simp only [yv_app1, yv_app, yv_set, yv_rep, yv_one, yv_cons, yv_take, yv_drop, List.nil_append] at hM
    try simp only [List.set_cons_zero, List.set_cons_succ] at hM
    replace hB := hB.trans hbl1
    refine LS.nil ?_
    refine ret0 (by first | exact .inl rfl | exact .inr rfl) ?_
    first | exact ⟨_, back (show j < T.length by omega) (by simp) hM, by rw [dT_put]; unfold aSet; rw [if_neg (by omega)]; unfold setc; rw [dk_dT], by rw [putT_len]; exact hd, hB⟩ | exact ⟨T, (by have h9 := back (show j < T.length by omega) rfl hM; rwa [putT_self (by omega)] at h9), by unfold aSet; rw [if_pos (by omega)], hd, hB⟩
  ·
    refine W.skip ?_
    refine ret0 (by first | exact .inl rfl | exact .inr rfl) ?_
    first | exact ⟨_, back (show j < T.length by omega) (by simp) hM, by rw [dT_put]; unfold aSet; rw [if_neg (by omega)]; unfold setc; rw [dk_dT], by rw [putT_len]; exact hd, hB⟩ | exact ⟨T, (by have h9 := back (show j < T.length by omega) rfl hM; rwa [putT_self (by omega)] at h9), by unfold aSet; rw [if_pos (by omega)], hd, hB⟩

theorem Read_any (T : List Tx) (lost : Int) (po : Option Addr) (g co d B : Nat) (S : List Oz) (w0 : World) (hM0 : AM w0 B g po co T lost S) (hB0 : B ≤ w0.heap.size) (hd : T.length = d) (hsh : Shape d (dT T)) (hd3 : 3 ≤ d) (hd6 : d ≤ 6) (b : Nat) (hb : b < 24) :
    CallsV Try.prog 27 #[.pointer (some ⟨g, 0, none⟩), .int .i64 (b : Int)] w0 (fun v w => v = .int .u8 (aRead d (dT T) lost b : Int) ∧ Below w0.heap.size w0 w) := by
  refine enter1 Try.func27 rfl Try.ntmps27 (by simp) rfl ?_
  have hB := Below.refl w0.heap.size w0
  simp only [argLoc, Nat.zero_add]
  have hM := Mz.nil w0 w0.heap.size
  obtain ⟨h1, h2, h3, h4⟩ := place_ok hd3 hd6 hb
  have h24 := rowsOf_le hd3 hd6
  subst hd
  have hlk : (gT T (discOf T.length b)).l.length = rowsOf T.length := by { have := hsh.rows _ h1; rwa [dk_dT] at this }
  have hra := hM0.o0.rd
  have hro := hM0.o1.rd
  have hrt := fun k (hk : k < T.length) => hM0.tx hk in2t
  refine W.seqR ?_
  refine LS.vv rfl rfl (by decide) (Val.cast (v := .int .u8 ((0 : Nat) : Int)) (Val.assign rfl) rfl) ?_
  refine LS.nil ?_
  refine W.seqR ?_
  refine LS.vv rfl rfl (by decide) (Val.move rfl) ?_
  first | refine LS.vv rfl rfl (by decide) (Val.nilCheck rfl) ?_ | refine LS.vv rfl rfl (by decide) (Val.nilCheckP rfl) ?_
  refine LS.vv rfl rfl (by decide) (Val.fieldAddr0 fld64_0 rfl) ?_
  refine LS.m rfl (Step.load rfl rfl (by decide) flat28 rfl ((hra.below hB)) (rfl) ?_)
  refine LS.vv rfl rfl (by decide) (Val.len Try.underlying28 rfl) ?_
  refine LS.vv rfl rfl (by decide) (Val.move rfl) ?_
  refine LS.m rfl (Step.call body19 rfl rfl (by decide) rfl (CallsV.mono (place1_any T.length b _ hd3 hd6 (by omega)) ?_))
  rintro _ w1 ⟨rfl, hb1⟩
  replace hM := hM.below hb1
  replace hB := hB.trans (hb1.mono hB.size)
  refine LS.vv rfl rfl (by decide) (Val.move rfl) ?_
  refine LS.vv rfl rfl (by decide) (Val.extract rfl rfl) ?_
  refine LS.vv rfl rfl (by decide) (Val.extract rfl rfl) ?_
  refine LS.vv rfl rfl (by decide) (Val.assign rfl) ?_
  refine LS.vv rfl rfl (by decide) (Val.assign rfl) ?_
  refine LS.nil ?_
  refine W.seq ?_
  refine W.seqR ?_
  refine LS.vv rfl rfl (by decide) (Val.move rfl) ?_
  refine LS.vv rfl rfl (by decide) (Val.move rfl) ?_
  first | refine LS.vv rfl rfl (by decide) (Val.nilCheck rfl) ?_ | refine LS.vv rfl rfl (by decide) (Val.nilCheckP rfl) ?_
  refine LS.vv rfl rfl (by decide) (Val.fieldAddr0 fld64_1 rfl) ?_
  refine LS.m rfl (Step.load rfl rfl (by decide) flat3 rfl ((hra.below hB)) (rfl) ?_)
  refine LS.vv rfl rfl (by decide) (Val.eql rfl rfl) ?_
  refine LS.nil ?_
  first | refine W.condD rfl (fun hc1 => ?_) (fun hc1 => ?_) | refine W.cond rfl (fun hc1 => ?_) (fun hc1 => ?_)
  ·
    refine W.seqR ?_
    refine LS.vv rfl rfl (by decide) (Val.move rfl) ?_
    refine LS.vv rfl rfl (by decide) (Val.move rfl) ?_
    refine LS.vv rfl rfl (by decide) (Val.move rfl) ?_
    refine LS.m rfl (Step.call body36 rfl rfl (by decide) rfl (CallsV.mono (others_any T lost po g co T.length (discOf T.length b) (rowOf T.length b) _ (hra.below hB) (hro.below hB) (fun k hk => (hrt k hk).below hB) rfl hsh hd3 hd6 h4) ?_))
    rintro _ w2 ⟨rfl, hb2⟩
    replace hM := hM.below hb2
    replace hB := hB.trans (hb2.mono hB.size)
    refine LS.vv rfl rfl (by decide) (Val.assign rfl) ?_
    refine LS.nil ?_
    refine W.ret ?_
    refine thenP_ret ?_
    refine ret1 (by first | exact .inl rfl | exact .inr rfl) rfl ?_
    (refine ⟨congrArg (fun x : Nat => Value.int .u8 (x : Int)) ?_, hB⟩; unfold aRead; first | (rw [if_pos (by omega)]; done) | (rw [if_neg (by omega), cel_gT]; done))
  ·
    refine W.skip ?_
    refine thenP_normal ?_
    refine W.seqR ?_
    refine LS.vv rfl rfl (by decide) (Val.move rfl) ?_
    first | refine LS.vv rfl rfl (by decide) (Val.nilCheck rfl) ?_ | refine LS.vv rfl rfl (by decide) (Val.nilCheckP rfl) ?_
    refine LS.vv rfl rfl (by decide) (Val.fieldAddr0 fld64_0 rfl) ?_
    refine LS.m rfl (Step.load rfl rfl (by decide) flat28 rfl ((hra.below hB)) (rfl) ?_)
    refine LS.vv rfl rfl (by decide) (Val.move rfl) ?_
    refine LS.vv rfl rfl (by decide) (Val.index1 Try.underlying28 elem31 rfl rfl (by omega) ((hro.below hB)) (by rw [tv_len]; omega)) ?_
    refine LS.m rfl (Step.load rfl rfl (by decide) flat31 rfl ((hro.below hB)) (tv_at (by omega)) ?_)
    refine LS.vv rfl rfl (by decide) (Val.move rfl) ?_
    refine LS.vv rfl rfl (by decide) (Val.index1 Try.underlying31 elem5 rfl rfl (by omega) (((hrt (discOf T.length b) (by omega)).below hB)) (yv_lt (by omega))) ?_
    refine LS.m rfl (Step.load rfl rfl (by decide) flat5 rfl (((hrt (discOf T.length b) (by omega)).below hB)) (yv_at (by omega)) ?_)
    refine LS.vv rfl rfl (by decide) (Val.assign rfl) ?_
    refine LS.nil ?_
    refine W.ret ?_
    refine ret1 (by first | exact .inl rfl | exact .inr rfl) rfl ?_
    (refine ⟨congrArg (fun x : Nat => Value.int .u8 (x : Int)) ?_, hB⟩; unfold aRead; first | (rw [if_pos (by omega)]; done) | (rw [if_neg (by omega), cel_gT]; done))

theorem Write_any (T : List Tx) (lost : Int) (po : Option Addr) (g co d B : Nat) (S : List Oz) (w0 : World) (hM0 : AM w0 B g po co T lost S) (hB0 : B ≤ w0.heap.size) (hd : T.length = d) (hsh : Shape d (dT T)) (hd3 : 3 ≤ d) (hd6 : d ≤ 6) (b x : Nat) (hb : b < 24) (hx : x < 256) :
    CallsV Try.prog 30 #[.pointer (some ⟨g, 0, none⟩), .int .i64 (b : Int), .int .u8 (x : Int)] w0 (fun v w => ∃ T2 : List Tx, AM w B g po co T2 lost S ∧ dT T2 = aWrite d (dT T) lost b x ∧ T2.length = d ∧ Below B w0 w) := by
  refine enter0 Try.func30 rfl Try.ntmps30 (by simp) rfl ?_
  have hB := Below.refl B w0
  simp only [argLoc, Nat.zero_add, Nat.reduceAdd]
  have hM := hM0
  obtain ⟨h1, h2, h3, h4⟩ := place_ok hd3 hd6 hb
  have h24 := rowsOf_le hd3 hd6
  subst hd
  have hlk : (gT T (chk T.length (rowOf T.length b))).l.length = rowsOf T.length := by { have := hsh.rows _ h3; rwa [dk_dT] at this }
  have hrl := aRead_lt hsh lost b
  have hcl := hsh.small (chk T.length (rowOf T.length b)) (rowOf T.length b)
  have hce := cel_gT T (chk T.length (rowOf T.length b)) (rowOf T.length b)
  have hxx := x256 (x256 hcl hrl) hx
  have hx1 := x256 hcl hrl
  refine W.seqR ?_
  refine LS.vv rfl rfl (by decide) (Val.move rfl) ?_
  refine LS.vv rfl rfl (by decide) (Val.move rfl) ?_
  refine LS.m rfl (Step.call body27 rfl rfl (by decide) rfl (CallsV.mono (Read_any T lost po g co T.length B S _ hM (Nat.le_trans hB0 hB.size) rfl hsh hd3 hd6 b hb) ?_))
  rintro _ w1 ⟨rfl, hb1⟩
  replace hM := hM.below hb1
  replace hB := hB.trans (hb1.mono (Nat.le_trans hB0 hB.size))
  refine LS.vv rfl rfl (by decide) (Val.assign rfl) ?_
  refine LS.nil ?_
  refine W.seqR ?_
  refine LS.vv rfl rfl (by decide) (Val.move rfl) ?_
  first | refine LS.vv rfl rfl (by decide) (Val.nilCheck rfl) ?_ | refine LS.vv rfl rfl (by decide) (Val.nilCheckP rfl) ?_
  refine LS.vv rfl rfl (by decide) (Val.fieldAddr0 fld64_0 rfl) ?_
  refine LS.m rfl (Step.load rfl rfl (by decide) flat28 rfl (hM.o0.rd) (rfl) ?_)
  refine LS.vv rfl rfl (by decide) (Val.len Try.underlying28 rfl) ?_
  refine LS.vv rfl rfl (by decide) (Val.move rfl) ?_
  refine LS.m rfl (Step.call body19 rfl rfl (by decide) rfl (CallsV.mono (place1_any T.length b _ hd3 hd6 (by omega)) ?_))
  rintro _ w2 ⟨rfl, hb2⟩
  replace hM := hM.below hb2
  replace hB := hB.trans (hb2.mono (Nat.le_trans hB0 hB.size))
  refine LS.vv rfl rfl (by decide) (Val.move rfl) ?_
  refine LS.vv rfl rfl (by decide) (Val.extract rfl rfl) ?_
  refine LS.vv rfl rfl (by decide) (Val.extract rfl rfl) ?_
  refine LS.vv rfl rfl (by decide) (Val.assign rfl) ?_
  refine LS.vv rfl rfl (by decide) (Val.assign rfl) ?_
  refine LS.nil ?_
  refine W.seqR ?_
  refine LS.vv rfl rfl (by decide) (Val.move rfl) ?_
  first | refine LS.vv rfl rfl (by decide) (Val.nilCheck rfl) ?_ | refine LS.vv rfl rfl (by decide) (Val.nilCheckP rfl) ?_
  refine LS.vv rfl rfl (by decide) (Val.fieldAddr0 fld64_0 rfl) ?_
  refine LS.m rfl (Step.load rfl rfl (by decide) flat28 rfl (hM.o0.rd) (rfl) ?_)
  refine LS.vv rfl rfl (by decide) (Val.len Try.underlying28 rfl) ?_
  refine LS.vv rfl rfl (by decide) (Val.move rfl) ?_
  refine LS.m rfl (Step.call body26 rfl rfl (by decide) rfl (CallsV.mono (check_any T.length (rowOf T.length b) _ (by omega) (by omega) (by omega)) ?_))
  rintro _ w3 ⟨rfl, hb3⟩
  replace hM := hM.below hb3
  replace hB := hB.trans (hb3.mono (Nat.le_trans hB0 hB.size))
  rw [show T.length - 1 - rowOf T.length b % T.length = chk T.length (rowOf T.length b) from rfl]
  refine LS.vv rfl rfl (by decide) (Val.assign rfl) ?_
  refine LS.nil ?_
  refine W.seqR ?_
  refine LS.vv rfl rfl (by decide) (Val.move rfl) ?_
  refine LS.vv rfl rfl (by decide) (Val.move rfl) ?_
  refine LS.vv rfl rfl (by decide) (Val.move rfl) ?_
  refine LS.vv rfl rfl (by decide) (Val.move rfl) ?_
  first | refine LS.vv rfl rfl (by decide) (Val.nilCheck rfl) ?_ | refine LS.vv rfl rfl (by decide) (Val.nilCheckP rfl) ?_
  refine LS.vv rfl rfl (by decide) (Val.fieldAddr0 fld64_0 rfl) ?_
  refine LS.m rfl (Step.load rfl rfl (by decide) flat28 rfl (hM.o0.rd) (rfl) ?_)
  refine LS.vv rfl rfl (by decide) (Val.move rfl) ?_
  refine LS.vv rfl rfl (by decide) (Val.index1 Try.underlying28 elem31 rfl rfl (by omega) (hM.o1.rd) (by rw [tv_len]; omega)) ?_
  refine LS.m rfl (Step.load rfl rfl (by decide) flat31 rfl (hM.o1.rd) (tv_at h3) ?_)
  refine LS.vv rfl rfl (by decide) (Val.move rfl) ?_
  refine LS.vv rfl rfl (by decide) (Val.index1 Try.underlying31 elem5 rfl rfl (by omega) ((hM.tx h3 in2t)) (yv_lt (by omega))) ?_
  refine LS.m rfl (Step.load rfl rfl (by decide) flat5 rfl ((hM.tx h3 in2t)) (yv_at (by omega)) ?_)
  rw [hce]
  refine LS.vv rfl rfl (by decide) (Val.move rfl) ?_
  refine LS.vv rfl rfl (by decide) (Val.xorU8 rfl rfl (by omega) (by omega)) ?_
  refine LS.vv rfl rfl (by decide) (Val.move rfl) ?_
  refine LS.vv rfl rfl (by decide) (Val.xorU8 rfl rfl (by omega) (by omega)) ?_
  refine LS.m rfl (Step.call body37 rfl rfl (by decide) rfl (CallsV.mono (set_any T lost po g co T.length B S _ hM (Nat.le_trans hB0 hB.size) rfl hsh hd3 hd6 (chk T.length (rowOf T.length b)) (rowOf T.length b) _ h3 h4 hxx) ?_))
  rintro _ w4 ⟨T2, hM4, hT2, hl2, hb4⟩
  replace hM := hM4
  replace hB := hB.trans hb4
  refine LS.nil ?_
  refine W.reg ?_
  refine LS.vv rfl rfl (by decide) (Val.move rfl) ?_
  refine LS.vv rfl rfl (by decide) (Val.move rfl) ?_
  refine LS.vv rfl rfl (by decide) (Val.move rfl) ?_
  refine LS.vv rfl rfl (by decide) (Val.move rfl) ?_
  refine LS.m rfl (Step.call body37 rfl rfl (by decide) rfl (CallsV.mono (set_any T2 lost po g co T.length B S _ hM (Nat.le_trans hB0 hB.size) hl2 (by rw [hT2]; exact aSet_shape hsh h3 h4 hxx) hd3 hd6 (discOf T.length b) (rowOf T.length b) x h1 h4 hx) ?_))
  rintro _ w5 ⟨T3, hM5, hT3, hl3, hb5⟩
  replace hM := hM5
  replace hB := hB.trans hb5
  refine LS.nil ?_
  refine ret0 (by first | exact .inl rfl | exact .inr rfl) ?_
  exact ⟨T3, hM, by rw [hT3, hT2]; rfl, hl3, hB⟩

theorem Lose_any (T : List Tx) (lost : Int) (po : Option Addr) (g co d B : Nat) (S : List Oz) (w0 : World) (hM0 : AM w0 B g po co T lost S) (hB0 : B ≤ w0.heap.size) (hd : T.length = d) (hsh : Shape d (dT T)) (hd3 : 3 ≤ d) (hd6 : d ≤ 6) (j : Nat) (hj : j < d) :
    CallsV Try.prog 28 #[.pointer (some ⟨g, 0, none⟩), .int .i64 (j : Int)] w0 (fun v w => ∃ (T2 : List Tx) (l2 : Int) (e : Nat), v = .int .i64 (e : Int) ∧ AM w B g po co T2 l2 S ∧ T2.length = d ∧ ((0 ≤ lost ∧ e = 7 ∧ l2 = lost ∧ T2 = T) ∨ (lost < 0 ∧ e = 0 ∧ l2 = (j : Int) ∧ dT T2 = aLost d (dT T) j)) ∧ Below B w0 w) := by
  refine enter1 Try.func28 rfl Try.ntmps28 (by simp) rfl ?_
  have hB := Below.refl B w0
  simp only [argLoc, Nat.zero_add]
  have hM := front hM0 (show j < T.length by omega)
  have hlk : (gT T j).l.length = rowsOf d := by { have := hsh.rows j (by omega); rwa [dk_dT] at this }
  refine W.seqR ?_
  refine LS.vv rfl rfl (by decide) (Val.cast (v := .int .i64 ((0 : Nat) : Int)) (Val.assign rfl) rfl) ?_
  refine LS.nil ?_
  refine W.seq ?_
  refine W.seqR ?_
  refine LS.vv rfl rfl (by decide) (Val.move rfl) ?_
  first | refine LS.vv rfl rfl (by decide) (Val.nilCheck rfl) ?_ | refine LS.vv rfl rfl (by decide) (Val.nilCheckP rfl) ?_
  refine LS.vv rfl rfl (by decide) (Val.fieldAddr0 fld64_1 rfl) ?_
  refine LS.m rfl (Step.load rfl rfl (by decide) flat3 rfl (hM.o1.rd) (rfl) ?_)
  refine LS.vv rfl rfl (by decide) (Val.geq rfl rfl) ?_
  refine LS.nil ?_
  first | refine W.condD rfl (fun hc1 => ?_) (fun hc1 => ?_) | refine W.cond rfl (fun hc1 => ?_) (fun hc1 => ?_)
  ·
    refine W.seqR ?_
    refine LS.vv rfl rfl (by decide) (Val.cast (v := .int .i64 ((7 : Nat) : Int)) (Val.assign rfl) rfl) ?_
    refine LS.nil ?_
    refine W.ret ?_
    refine thenP_ret ?_
    refine ret1 (by first | exact .inl rfl | exact .inr rfl) rfl ?_
    first | exact ⟨T, lost, 7, rfl, (by have h9 := back (show j < T.length by omega) rfl hM; rwa [putT_self (by omega)] at h9), hd, .inl ⟨by omega, rfl, rfl, rfl⟩, hB⟩ | exact ⟨_, _, 0, rfl, back (show j < T.length by omega) (by simp) hM, by rw [putT_len]; exact hd, .inr ⟨by omega, rfl, rfl, by rw [dT_put, hlk]; rfl⟩, hB⟩
  ·
    refine W.skip ?_
    refine thenP_normal ?_
    refine W.seqR ?_
    refine LS.vv rfl rfl (by decide) (Val.move rfl) ?_
    refine LS.vv rfl rfl (by decide) (Val.move rfl) ?_
    first | refine LS.vv rfl rfl (by decide) (Val.nilCheck rfl) ?_ | refine LS.vv rfl rfl (by decide) (Val.nilCheckP rfl) ?_
    refine LS.vv rfl rfl (by decide) (Val.fieldAddr0 fld64_1 rfl) ?_
    refine LS.m rfl (Step.storeZ (B := B) rfl rfl flat3 elem3 rfl rfl rfl (hM.o1) (by simp) (Nat.le_trans hB0 hB.size) ?_)
    rintro w1 hO1 hg1 hbl1 hsz1
    replace hM := hM.s1 (e := _) hg1 hO1 inl_block
    try simp only [List.set_cons_zero, List.set_cons_succ] at hM
    replace hB := hB.trans hbl1
    refine LS.nil ?_
    refine W.seqR ?_
    refine LS.vv rfl rfl (by decide) (Val.move rfl) ?_
    first | refine LS.vv rfl rfl (by decide) (Val.nilCheck rfl) ?_ | refine LS.vv rfl rfl (by decide) (Val.nilCheckP rfl) ?_
    refine LS.vv rfl rfl (by decide) (Val.fieldAddr0 fld64_0 rfl) ?_
    refine LS.m rfl (Step.load rfl rfl (by decide) flat28 rfl (hM.o1.rd) (rfl) ?_)
    refine LS.vv rfl rfl (by decide) (Val.move rfl) ?_
    refine LS.vv rfl rfl (by decide) (Val.index1 Try.underlying28 elem31 rfl rfl (by omega) (hM.o2.rd) (by rw [tv_len]; omega)) ?_
    refine LS.m rfl (Step.load rfl rfl (by decide) flat31 rfl (hM.o2.rd) (tv_at (by omega)) ?_)
    refine LS.m rfl (Step.clear0 rfl rfl Try.underlying31 elem5 rfl rfl rfl (hM.o0) (Nat.le_trans hB0 hB.size) ?_)
    rintro w2 hO2 hg2 hbl2 hsz2
    replace hM := hM.s0 (e := _) hg2 hO2 inl_block
    try simp only [yv_app1, yv_app, yv_set, yv_rep, yv_one, yv_cons, yv_take, yv_drop, List.nil_append] at hM
    replace hB := hB.trans hbl2
    refine LS.nil ?_
    refine W.seqR ?_
    refine LS.vv rfl rfl (by decide) (Val.cast (v := .int .i64 ((0 : Nat) : Int)) (Val.assign rfl) rfl) ?_
    refine LS.nil ?_
    refine W.ret ?_
    refine ret1 (by first | exact .inl rfl | exact .inr rfl) rfl ?_
    first | exact ⟨T, lost, 7, rfl, (by have h9 := back (show j < T.length by omega) rfl hM; rwa [putT_self (by omega)] at h9), hd, .inl ⟨by omega, rfl, rfl, rfl⟩, hB⟩ | exact ⟨_, _, 0, rfl, back (show j < T.length by omega) (by simp) hM, by rw [putT_len]; exact hd, .inr ⟨by omega, rfl, rfl, by rw [dT_put, hlk]; rfl⟩, hB⟩

theorem Renew_any (T : List Tx) (lost : Int) (po : Option Addr) (g co d B : Nat) (S : List Oz) (w0 : World) (hM0 : AM w0 B g po co T lost S) (hB0 : B ≤ w0.heap.size) (hd : T.length = d) (hsh : Shape d (dT T)) (hd3 : 3 ≤ d) (hd6 : d ≤ 6) (j : Nat) (hj : j < d) :
    CallsV Try.prog 29 #[.pointer (some ⟨g, 0, none⟩), .int .i64 (j : Int)] w0 (fun v w => ∃ (T2 : List Tx) (l2 : Int) (e : Nat), v = .int .i64 (e : Int) ∧ AM w B g po co T2 l2 S ∧ T2.length = d ∧ ((lost ≠ (j : Int) ∧ e = 7 ∧ l2 = lost ∧ T2 = T) ∨ (lost = (j : Int) ∧ e = 0 ∧ l2 = -1 ∧ dT T2 = aRenew d (dT T) j)) ∧ Below B w0 w) := by
  refine enter1 Try.func29 rfl Try.ntmps29 (by simp) rfl ?_
  have hB := Below.refl B w0
  simp only [argLoc, Nat.zero_add]
  have hM := front hM0 (show j < T.length by omega)
  have hlk : (gT T j).l.length = rowsOf d := by { have := hsh.rows j (by omega); rwa [dk_dT] at this }
  have h24 := rowsOf_le hd3 hd6
  refine W.seqR ?_
  refine LS.vv rfl rfl (by decide) (Val.cast (v := .int .i64 ((0 : Nat) : Int)) (Val.assign rfl) rfl) ?_
  refine LS.nil ?_
  refine W.seq ?_
  refine W.seqR ?_
  refine LS.vv rfl rfl (by decide) (Val.move rfl) ?_
  first | refine LS.vv rfl rfl (by decide) (Val.nilCheck rfl) ?_ | refine LS.vv rfl rfl (by decide) (Val.nilCheckP rfl) ?_
  refine LS.vv rfl rfl (by decide) (Val.fieldAddr0 fld64_1 rfl) ?_
  refine LS.m rfl (Step.load rfl rfl (by decide) flat3 rfl (hM.o1.rd) (rfl) ?_)
  refine LS.vv rfl rfl (by decide) (Val.move rfl) ?_
  refine LS.vv rfl rfl (by decide) (Val.neq rfl rfl) ?_
  refine LS.nil ?_
  first | refine W.condD rfl (fun hc1 => ?_) (fun hc1 => ?_) | refine W.cond rfl (fun hc1 => ?_) (fun hc1 => ?_)
  ·
    refine W.seqR ?_
    refine LS.vv rfl rfl (by decide) (Val.cast (v := .int .i64 ((7 : Nat) : Int)) (Val.assign rfl) rfl) ?_
    refine LS.nil ?_
    refine W.ret ?_
    refine thenP_ret ?_
    refine ret1 (by first | exact .inl rfl | exact .inr rfl) rfl ?_
    first | exact ⟨T, lost, 7, rfl, (by have h9 := back (show j < T.length by omega) rfl hM; rwa [putT_self (by omega)] at h9), hd, .inl ⟨by omega, rfl, rfl, rfl⟩, hB⟩ | (obtain rfl : k = rowsOf d := (by omega); exact ⟨_, _, 0, rfl, back (show j < T.length by omega) (by rw [rnw_len, hlk]) hM, by rw [putT_len]; exact hd, .inr ⟨by omega, rfl, rfl, by rw [dT_put]; exact rnw_end _ _ _⟩, hB⟩)
  ·
    refine W.skip ?_
    refine thenP_normal ?_
    refine W.seq ?_
    refine W.seqR ?_
    refine LS.vv rfl rfl (by decide) (Val.move rfl) ?_
    first | refine LS.vv rfl rfl (by decide) (Val.nilCheck rfl) ?_ | refine LS.vv rfl rfl (by decide) (Val.nilCheckP rfl) ?_
    refine LS.vv rfl rfl (by decide) (Val.fieldAddr0 fld64_0 rfl) ?_
    refine LS.m rfl (Step.load rfl rfl (by decide) flat28 rfl (hM.o1.rd) (rfl) ?_)
    refine LS.vv rfl rfl (by decide) (Val.move rfl) ?_
    refine LS.vv rfl rfl (by decide) (Val.index1 Try.underlying28 elem31 rfl rfl (by omega) (hM.o2.rd) (by rw [tv_len]; omega)) ?_
    refine LS.m rfl (Step.load rfl rfl (by decide) flat31 rfl (hM.o2.rd) (tv_at (by omega)) ?_)
    refine LS.vv rfl rfl (by decide) (Val.len Try.underlying31 rfl) ?_
    refine LS.vv rfl rfl (by decide) (Val.cast (v := .int .i64 ((0 : Nat) : Int)) (Val.move rfl) rfl) ?_
    refine LS.nil ?_
    refine W.block ?_
    rw [show yv (gT T j).l = yv (rnw (dT T) d j 0) from by rw [rnw_zero hsh hj, dk_dT]] at hM
    refine W.loop (α := Nat) (fun k => [(20, .int .i64 (k : Int))]) [(0, _), (1, _), (19, _)] (fun k w => (k ≤ rowsOf d) ∧ Mz w B (⟨5, 1, (gT T j).p, (gT T j).l.length, (gT T j).c, yv (rnw (dT T) d j k)⟩ :: arrO g po T.length co lost :: outO po co T :: (tz 5 (T.eraseIdx j) ++ S)) ∧ Below B w0 w) (fun k => rowsOf d - k) (0) (Sub.cons rfl (Sub.nil _)) (Sub.cons rfl (Sub.cons rfl (Sub.cons rfl (Sub.nil _)))) ?_ ?_
    · exact ⟨Nat.zero_le _, hM, hB⟩
    rintro k w1 ⟨hk, hM, hB⟩
    try simp only at hM
    simp only [List.cons_append, List.nil_append]
    have hrl := rnw_len (dT T) d j k
    refine W.seqR ?_
    refine LS.vv rfl rfl (by decide) (Val.lss rfl rfl) ?_
    refine LS.nil ?_
    refine W.seq ?_
    first | refine W.condD rfl (fun hc2 => ?_) (fun hc2 => ?_) | refine W.cond rfl (fun hc2 => ?_) (fun hc2 => ?_)
    ·
      refine W.skip ?_
      refine thenP_normal ?_
      refine W.seq ?_
      refine W.block ?_
      refine W.seqR ?_
      refine LS.vv rfl rfl (by decide) (Val.move rfl) ?_
      refine LS.vv rfl rfl (by decide) (Val.assign rfl) ?_
      refine LS.nil ?_
      refine W.regFz 13 [(0, true), (1, true), (2, true), (3, true), (4, true), (5, true), (6, true), (7, true), (8, true), (9, true), (10, true), (11, false), (12, true), (13, false)] mixed (by kernel_rfl) hB hM ?_
      replace hB := hB.drew
      replace hM := hM.drew
      refine DF.vv rfl rfl rfl (by decide) (Val.move rfl) ?_
      first | refine DF.vv rfl rfl rfl (by decide) (Val.nilCheck rfl) ?_ | refine DF.vv rfl rfl rfl (by decide) (Val.nilCheckP rfl) ?_
      refine DF.vv rfl rfl rfl (by decide) (Val.fieldAddr0 fld64_0 rfl) ?_
      refine DF.vv rfl rfl rfl (by decide) (Val.load flat28 rfl (fun _ h => h.2.o1.rd) (rfl)) ?_
      refine DF.vv rfl rfl rfl (by decide) (Val.move rfl) ?_
      refine DF.vv rfl rfl rfl (by decide) (Val.index1 Try.underlying28 elem31 rfl rfl (by omega) (hM.o2.rd) (by rw [tv_len]; omega)) ?_
      refine DF.vv rfl rfl rfl (by decide) (Val.load flat31 rfl (fun _ h => h.2.o2.rd) (tv_at (by omega))) ?_
      refine DF.vv rfl rfl rfl (by decide) (Val.move rfl) ?_
      refine DF.vv rfl rfl rfl (by decide) (Val.move rfl) ?_
      refine DF.vv rfl rfl rfl (by decide) (Val.move rfl) ?_
      refine DF.vv rfl rfl rfl (by decide) (Val.move rfl) ?_
      have hMb := back (show j < T.length by omega) (show (rnw (dT T) d j k).length = (gT T j).l.length by rw [rnw_len, hlk]) hM
      have hsb : Shape d (dT (putT T j (rnw (dT T) d j k))) := by rw [dT_put]; exact shape_put hsh hj (rnw_len _ _ _ _) (rnw_small hsh)
      have hpl := putT_len T j (rnw (dT T) d j k)
      refine DF.m rfl rfl (Step.call body36 rfl rfl (by decide) rfl (CallsV.mono (others_any (putT T j (rnw (dT T) d j k)) lost po g co d j k _ (by rw [← hd, ← hpl]; exact hMb.o0.rd) hMb.o1.rd (fun i hi => hMb.tx hi in2t) (by rw [hpl]; exact hd) hsb hd3 hd6 (by omega)) ?_))
      rintro _ w2 ⟨rfl, hb2⟩
      replace hM := hM.below hb2
      replace hB := hB.trans (hb2.mono (Nat.le_trans hB0 hB.size))
      rw [dT_put, othr_put hsh hj]
      refine ⟨fun _ => ⟨hB, hM⟩, ?_⟩
      refine DF.vv rfl rfl rfl (by decide) (Val.index1 Try.underlying31 elem5 rfl rfl (by omega) (hM.o0.rd) (yv_lt (by omega))) ?_
      refine DF.m rfl rfl (Step.storeZ (B := B) rfl rfl flat5 elem5 rfl rfl rfl (hM.o0) (by first | decide | (simp; done) | (simp; omega) | omega) (Nat.le_trans hB0 hB.size) ?_)
      rintro w3 hO3 hg3 hbl3 hsz3
      replace hM := hM.s0 (e := _) hg3 hO3 inl_block
      try simp only [yv_app1, yv_app, yv_set, yv_rep, yv_one, yv_cons, yv_take, yv_drop, List.nil_append] at hM
      try simp only [List.set_cons_zero, List.set_cons_succ] at hM
      replace hB := hB.trans hbl3
      refine ⟨fun h => absurd rfl h, ?_⟩
      refine DF.nil ?_
      refine inBlk_normal ?_
      refine thenP_normal ?_
      refine W.reg ?_
      first | refine LS.vv rfl rfl (by decide) (Val.addN (j := 1) rfl rfl (by omega)) ?_ | refine LS.vv rfl rfl (by decide) (Val.add64 rfl rfl (by omega)) ?_
      refine LS.vv rfl rfl (by decide) (Val.move rfl) ?_
      refine LS.nil ?_
      refine thenP_normal ?_
      refine ⟨k + 1, ?_, ?_, ⟨by omega, ?_, hB⟩, by omega⟩
      · exact (Sub.cons rfl (Sub.nil _))
      · repeat (first | exact Sub.nil _ | refine Sub.cons rfl ?_)
      · rw [rnw_step] at hM; exact hM
    ·
      refine W.exit ?_
      refine thenP_exit ?_
      refine thenP_exit ?_
      refine inBlk_exit ?_
      refine thenP_normal ?_
      refine W.seqR ?_
      refine LS.vv rfl rfl (by decide) (Val.move rfl) ?_
      first | refine LS.vv rfl rfl (by decide) (Val.nilCheck rfl) ?_ | refine LS.vv rfl rfl (by decide) (Val.nilCheckP rfl) ?_
      refine LS.vv rfl rfl (by decide) (Val.fieldAddr0 fld64_1 rfl) ?_
      refine LS.m rfl (Step.storeZ (B := B) rfl rfl flat3 elem3 rfl rfl rfl (hM.o1) (by simp) (Nat.le_trans hB0 hB.size) ?_)
      rintro w4 hO4 hg4 hbl4 hsz4
      replace hM := hM.s1 (e := _) hg4 hO4 inl_block
      try simp only [List.set_cons_zero, List.set_cons_succ] at hM
      replace hB := hB.trans hbl4
      refine LS.nil ?_
      refine W.seqR ?_
      refine LS.vv rfl rfl (by decide) (Val.cast (v := .int .i64 ((0 : Nat) : Int)) (Val.assign rfl) rfl) ?_
      refine LS.nil ?_
      refine W.ret ?_
      refine ret1 (by first | exact .inl rfl | exact .inr rfl) rfl ?_
      first | exact ⟨T, lost, 7, rfl, (by have h9 := back (show j < T.length by omega) rfl hM; rwa [putT_self (by omega)] at h9), hd, .inl ⟨by omega, rfl, rfl, rfl⟩, hB⟩ | (obtain rfl : k = rowsOf d := (by omega); exact ⟨_, _, 0, rfl, back (show j < T.length by omega) (by rw [rnw_len, hlk]) hM, by rw [putT_len]; exact hd, .inr ⟨by omega, rfl, rfl, by rw [dT_put]; exact rnw_end _ _ _⟩, hB⟩)

end Go.Proofs.Ytldcpihjoakigaa
