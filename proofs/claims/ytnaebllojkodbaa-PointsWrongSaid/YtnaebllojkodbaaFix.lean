/-
  points.Fix: the walk.
-/
import Derived.Test.YtnaebllojkodbaaFixA
import Derived.Test.YtnaebllojkodbaaVgrow
import Derived.Test.YtnaebllojkodbaaVheap2
namespace Go.Proofs.Ytnaebllojkodbaa
open Go Go.RowKit V
set_option linter.unusedVariables false
set_option linter.unusedSimpArgs false

set_option maxHeartbeats 2000000 in
theorem fix_any (x : List Nat) (p : Option Addr) (c n k : Nat) (w0 : World) (hx : Rd w0 p (nv x)) (hxn : x.length = n) (h1 : 1 ≤ k) (hkn : k ≤ n) (hn9 : n ≤ 9) (hs : Small x) :
    CallsV Try.prog 23 #[.int .i64 (k : Int), .slice p n c] w0 (fun v w => ∃ (p2 : Option Addr) (c2 L e : Nat), v = .tuple #[.slice p2 L c2, .int .i64 (e : Int)] ∧
      ((e = 0 ∧ L = k ∧ ∃ ps, Rd w p2 (nv (through x ps)) ∧ Ch n k ps ∧ Fits x n k ps) ∨ (e = 5 ∧ L = 0 ∧ ∀ ps, Ch n k ps → ¬ Fits x n k ps)) ∧ Below w0.heap.size w0 w) := by
  refine enterM (m := 3) Try.func23 rfl Try.ntmps23 (by simp) ?_
  have hB := Below.refl w0.heap.size w0
  simp only [argLoc, Nat.zero_add]
  have hM := Mem.nil w0 w0.heap.size
  refine RW.seqR ?_
  refine LS.m rfl (Step.box rfl rfl (by decide) rfl rfl (Nat.le_refl _) ?_)
  rintro w1 hO1 hg1 hbl1 hsz1
  replace hM := hM.add hB.size hbl1 hO1
  replace hB := hB.trans (hbl1.mono hB.size)
  refine LS.m rfl (Step.box rfl rfl (by decide) rfl rfl (Nat.le_refl _) ?_)
  rintro w2 hO2 hg2 hbl2 hsz2
  replace hM := hM.add hB.size hbl2 hO2
  replace hB := hB.trans (hbl2.mono hB.size)
  generalize w1.heap.size = gg2 at *
  refine LS.m rfl (Step.alloc rfl rfl (by decide) elem27 rfl (by decide) ?_)
  rintro w3 hO3 hg3 hbl3 hsz3
  replace hM := hM.add hB.size hbl3 hO3
  replace hB := hB.trans (hbl3.mono hB.size)
  generalize w2.heap.size = gg3 at *
  refine LS.m rfl (Step.alloc rfl rfl (by decide) elem22 rfl (by decide) ?_)
  rintro w4 hO4 hg4 hbl4 hsz4
  replace hM := hM.add hB.size hbl4 hO4
  replace hB := hB.trans (hbl4.mono hB.size)
  generalize w3.heap.size = gg4 at *
  refine LS.nil ?_
  refine RW.seqR ?_
  refine LS.m rfl (Step.loadBox rfl rfl (by decide) flat27 rfl (hM.o2.rd) ?_)
  refine LS.vv rfl rfl (by decide) (Val.len Try.underlying27 rfl) ?_
  refine LS.m rfl (Step.alloc rfl rfl (by decide) elem3 rfl (by decide) ?_)
  rintro w5 hO5 hg5 hbl5 hsz5
  replace hM := hM.add hB.size hbl5 hO5
  replace hB := hB.trans (hbl5.mono hB.size)
  generalize w4.heap.size = gg5 at *
  refine LS.m rfl (Step.storeBox (B := w0.heap.size) rfl rfl flat3 elem3 rfl rfl rfl (hM.o0) hB.size ?_)
  rintro w6 hO6 hg6 hbl6 hsz6
  replace hM := hM.s0 hg6 hO6 inl_block
  replace hB := hB.trans hbl6
  refine LS.nil ?_
  refine RW.seq ?_
  refine RW.seqR ?_
  refine LS.m rfl (Step.loadBox rfl rfl (by decide) flat3 rfl (hM.o4.rd) ?_)
  refine LS.m rfl (Step.loadBox rfl rfl (by decide) flat3 rfl (hM.o0.rd) ?_)
  refine LS.m rfl (Step.call body37 rfl rfl (by decide) rfl (CallsV.mono (wrong_any k n _ h1 hkn hn9) ?_))
  rintro _ w7 ⟨rfl, hb7⟩
  replace hM := hM.below hb7
  replace hB := hB.trans (hb7.mono hB.size)
  refine LS.vv rfl rfl (by decide) (Val.assign rfl) ?_
  refine LS.nil ?_
  refine RW.seqR ?_
  refine LS.vv rfl rfl (by decide) (Val.move rfl) ?_
  refine LS.vv rfl rfl (by decide) (Val.cast (v := .bool false) (Val.neq rfl rfl) (by rfl)) ?_
  refine LS.nil ?_
  refine RW.condF rfl ?_
  refine RW.skip ?_
  refine RW.seq ?_
  refine RW.seqR ?_
  refine LS.m rfl (Step.loadBox rfl rfl (by decide) flat27 rfl (hM.o3.rd) ?_)
  refine LS.m rfl (Step.call body31 rfl rfl (by decide) rfl (CallsV.mono (fcheckS x _ _ _ _ (hx.below hB) hxn hs (by omega)) ?_))
  rintro _ w8 ⟨rfl, hb8⟩
  replace hM := hM.below hb8
  replace hB := hB.trans (hb8.mono hB.size)
  refine LS.vv rfl rfl (by decide) (Val.assign rfl) ?_
  refine LS.nil ?_
  refine RW.seqR ?_
  refine LS.vv rfl rfl (by decide) (Val.move rfl) ?_
  refine LS.vv rfl rfl (by decide) (Val.cast (v := .bool false) (Val.neq rfl rfl) (by rfl)) ?_
  refine LS.nil ?_
  refine RW.condF rfl ?_
  refine RW.skip ?_
  refine RW.seq ?_
  refine RW.seqR ?_
  refine LS.m rfl (Step.loadBox rfl rfl (by decide) flat3 rfl (hM.o0.rd) ?_)
  refine LS.m rfl (Step.loadBox rfl rfl (by decide) flat3 rfl (hM.o4.rd) ?_)
  refine LS.m rfl (Step.call body41 rfl rfl (by decide) rfl (CallsV.mono (each_any n k _) ?_))
  rintro _ w9 ⟨gk, gn, rfl, hgk, hgn, hrk, hrn, hb9⟩
  replace hM := hM.below hb9
  replace hB := hB.trans (hb9.mono hB.size)
  refine LS.nil ?_
  have hx9 : Rd w9 p (nv x) := hx.below hB
  have hs0 := hB.size
  have hlt3 := (hM.o2.block rfl).2
  have hlt4 := (hM.o1.block rfl).2
  have hge3 := (hM.o2.block rfl).1
  have hge4 := (hM.o1.block rfl).1
  have hsx := fun j => gn_small hs j
  refine RW.block ?_
  refine RW.range body52 rfl ?_
  intro a fn ha
  have ht4 := ha.at_ 4 _ rfl
  have ht5 := ha.at_ 5 _ rfl
  refine CallsV.mono (each1_round (s0 := w0.heap.size) (g1 := gg3) (g2 := gg4) (x := x) hs0 hrk hrn hn9 (by omega) ?_) ?_
  · intro pre ps pp mm cc Wa hJ hWs hps hpm hC
    obtain rfl : k = mm := hC.len.symm.trans hpm
    refine wpIn_of_WI (know30 ha (t := 30) (by omega) (.slice pp k cc)) (Q := fun e L' w' => e = .normal ∧ L' = _ ∧ w' = Wa) (WI.reg (LI.vv rfl rfl rfl (by decide) (Val.assign rfl) (LI.nil ⟨rfl, rfl, rfl⟩))) ?_
    rintro _ _ a1 w1 hk1 ⟨rfl, rfl, hw1⟩
    obtain rfl : Wa = w1 := hw1.symm
    refine ⟨rfl, ?_⟩
    have hloop := hJ.loop
    have hb2 : ∀ o, Below w9.heap.size w9 (Wa.putObj (w9.heap.size + 1) o) := fun o => below_put2 hJ.bel (by omega)
    have hps2 : ∀ o, Rd (Wa.putObj (w9.heap.size + 1) o) pp (nv ps) := fun o => rd_put hps hloop rfl
    have hlen2 : ∀ o, (Wa.putObj (w9.heap.size + 1) o).heap.size = Wa.heap.size := fun o => by simp
    generalize hrec : Obj.loop (recd fn a.tmps 30 _ _ w9.heap.size .busy none) = ro
    replace hb2 := hb2 ro
    replace hps := hps2 ro
    replace hlen2 := hlen2 ro
    clear hps2 hrec
    generalize Wa.putObj (w9.heap.size + 1) ro = W2 at *
    have hk2 := (hM.o4.rd).below hb2
    have hl3 := (hM.o3.rd).below hb2
    have hn6 := (hM.o0.rd).below hb2
    have hx := hx9.below hb2
    have hM4 := (hM.below hb2).er4.er3.er0
    have hs02 : w0.heap.size ≤ W2.heap.size := by omega
    have hlt := hC.lt
    have hnd := hC.nodup
    have hpk := hC.len
    obtain ⟨hths, hthl⟩ := through_small (l := x) (places := ps) (fun j hj => by have := hlt j hj; omega) hnd hsx
    rw [hpk] at hthl
    refine wpIn_of_WI (Q := fun e _ w => RoundPost w0.heap.size w9 x n k gg3 gg4 ps W2 e w) hk1 ?_ (fun e L a w _ h => h)
    clear hM hB
    have hB := Below.refl W2.heap.size W2
    have hM := Mem.nil W2 W2.heap.size
    refine WI.block ?_
    refine WI.seqR ?_
    refine LI.mm rfl rfl (Step.loadBox rfl rfl (by decide) flat27 rfl ((hl3.below hB)) ?_)
    refine LI.vv rfl rfl rfl (by decide) (Val.move rfl) ?_
    refine LI.call body38 rfl rfl rfl (by decide) rfl (CallsV.mono (throughN x ps _ _ _ _ _ _ _ (hx.below hB) (hps.below hB) hxn hpk hn9 (by omega) hlt hnd hsx) ?_)
    rintro _ w1 ⟨p2, c2, rfl, hO2, hb1⟩
    replace hM := hM.add hB.size hb1 hO2
    replace hB := hB.trans (hb1.mono hB.size)
    refine LI.vv rfl rfl rfl (by decide) (Val.assign rfl) ?_
    refine LI.nil ?_
    refine WI.seqR ?_
    refine LI.vv rfl rfl rfl (by decide) (Val.cast (v := .int .i64 ((0 : Nat) : Int)) (Val.assign rfl) rfl) ?_
    refine LI.nil ?_
    refine WI.seq ?_
    refine WI.seqR ?_
    refine LI.mm rfl rfl (Step.loadBox rfl rfl (by decide) flat3 rfl ((hn6.below hB)) ?_)
    refine LI.vv rfl rfl rfl (by decide) (Val.move rfl) ?_
    refine LI.call body36 rfl rfl rfl (by decide) rfl (CallsV.mono (put_any (through x ps) _ _ _ _ hM.o0.rd hthl n hths hn9 (by omega)) ?_)
    rintro _ w2 ⟨p3, c3, rfl, hO3, hb2⟩
    replace hM := hM.add hB.size hb2 hO3
    replace hB := hB.trans (hb2.mono hB.size)
    refine LI.vv rfl rfl rfl (by decide) (Val.len Try.underlying27 rfl) ?_
    refine LI.vv rfl rfl rfl (by decide) (Val.cast (v := .int .i64 ((0 : Nat) : Int)) (Val.move rfl) rfl) ?_
    refine LI.nil ?_
    refine WI.block ?_
    refine WI.loop (α := Nat) (fun i => [(11, .int .i64 (offT (putp n (through x ps)) x i : Int)), (38, .int .i64 (i : Int))]) [(2, _), (3, _), (4, _), (5, _), (6, _), (10, _), (36, _), (37, _)] (fun i w => (i ≤ n) ∧ Mem w W2.heap.size [⟨3, p3, n, c3, nv (putp n (through x ps))⟩, ⟨3, p2, k, c2, nv (through x ps)⟩] ∧ Below W2.heap.size W2 w) (fun i => n - i) (0) (Sub.cons rfl (Sub.cons rfl (Sub.nil _))) (Sub.cons rfl (Sub.cons rfl (Sub.cons rfl (Sub.cons rfl (Sub.cons rfl (Sub.cons rfl (Sub.cons rfl (Sub.cons rfl (Sub.nil _))))))))) ?_ ?_
    · exact ⟨Nat.zero_le _, hM, hB⟩
    rintro i w3 ⟨hi, hM, hB⟩
    try simp only at hM
    simp only [List.cons_append, List.nil_append]
    have hpl := putp_len n (through x ps)
    have hos := offT_succ (putp n (through x ps)) x i
    have hol := offT_le (putp n (through x ps)) x i
    refine WI.seqR ?_
    refine LI.vv rfl rfl rfl (by decide) (Val.lss rfl rfl) ?_
    refine LI.nil ?_
    refine WI.seq ?_
    first | refine WI.condD rfl (fun hc1 => ?_) (fun hc1 => ?_) | refine WI.cond rfl (fun hc1 => ?_) (fun hc1 => ?_)
    ·
      refine WI.skip ?_
      refine thenP_normal ?_
      refine WI.seq ?_
      refine WI.block ?_
      refine WI.seqR ?_
      refine LI.vv rfl rfl rfl (by decide) (Val.move rfl) ?_
      refine LI.vv rfl rfl rfl (by decide) (Val.index1 Try.underlying27 elem3 rfl rfl (by omega) (hM.o0.rd) (nv_lt (by omega))) ?_
      refine LI.mm rfl rfl (Step.load rfl rfl (by decide) flat3 rfl (hM.o0.rd) (nv_at (by omega)) ?_)
      refine LI.vv rfl rfl rfl (by decide) (Val.assign rfl) ?_
      refine LI.vv rfl rfl rfl (by decide) (Val.assign rfl) ?_
      refine LI.nil ?_
      refine WI.seqR ?_
      refine LI.vv rfl rfl rfl (by decide) (Val.move rfl) ?_
      refine LI.mm rfl rfl (Step.loadBox rfl rfl (by decide) flat27 rfl ((hl3.below hB)) ?_)
      refine LI.vv rfl rfl rfl (by decide) (Val.move rfl) ?_
      refine LI.vv rfl rfl rfl (by decide) (Val.index1 Try.underlying27 elem3 rfl rfl (by omega) (hx.below hB) (nv_lt (by omega))) ?_
      refine LI.mm rfl rfl (Step.load rfl rfl (by decide) flat3 rfl (hx.below hB) (nv_at (by omega)) ?_)
      refine LI.vv rfl rfl rfl (by decide) (Val.neq rfl rfl) ?_
      refine LI.nil ?_
      first | refine WI.condD rfl (fun hc2 => ?_) (fun hc2 => ?_) | refine WI.cond rfl (fun hc2 => ?_) (fun hc2 => ?_)
      ·
        refine WI.reg ?_
        refine LI.vv rfl rfl rfl (by decide) (Val.move rfl) ?_
        first | refine LI.vv rfl rfl rfl (by decide) (Val.addN (j := 1) rfl rfl (by omega)) ?_ | refine LI.vv rfl rfl rfl (by decide) (Val.add64 rfl rfl (by omega)) ?_
        refine LI.vv rfl rfl rfl (by decide) (Val.assign rfl) ?_
        refine LI.nil ?_
        refine inBlk_normal ?_
        refine thenP_normal ?_
        refine WI.reg ?_
        first | refine LI.vv rfl rfl rfl (by decide) (Val.addN (j := 1) rfl rfl (by omega)) ?_ | refine LI.vv rfl rfl rfl (by decide) (Val.add64 rfl rfl (by omega)) ?_
        refine LI.vv rfl rfl rfl (by decide) (Val.move rfl) ?_
        refine LI.nil ?_
        refine thenP_normal ?_
        refine ⟨i + 1, ?_, ?_, ⟨by omega, hM, hB⟩, by omega⟩
        · exact Sub.cons' rfl (by rw [hos]; first | rw [if_pos (by omega)] | rw [if_neg (by omega), Nat.add_zero]) (Sub.cons rfl (Sub.nil _))
        · repeat (first | exact Sub.nil _ | refine Sub.cons rfl ?_)
      ·
        refine WI.skip ?_
        refine inBlk_normal ?_
        refine thenP_normal ?_
        refine WI.reg ?_
        first | refine LI.vv rfl rfl rfl (by decide) (Val.addN (j := 1) rfl rfl (by omega)) ?_ | refine LI.vv rfl rfl rfl (by decide) (Val.add64 rfl rfl (by omega)) ?_
        refine LI.vv rfl rfl rfl (by decide) (Val.move rfl) ?_
        refine LI.nil ?_
        refine thenP_normal ?_
        refine ⟨i + 1, ?_, ?_, ⟨by omega, hM, hB⟩, by omega⟩
        · exact Sub.cons' rfl (by rw [hos]; first | rw [if_pos (by omega)] | rw [if_neg (by omega), Nat.add_zero]) (Sub.cons rfl (Sub.nil _))
        · repeat (first | exact Sub.nil _ | refine Sub.cons rfl ?_)
    ·
      refine WI.exit ?_
      refine thenP_exit ?_
      refine thenP_exit ?_
      refine inBlk_exit ?_
      refine thenP_normal ?_
      obtain rfl : n = i := by omega
      refine WI.seqR ?_
      refine LI.vv rfl rfl rfl (by decide) (Val.move rfl) ?_
      first | refine LI.vv rfl rfl rfl (by decide) (Val.mulN (i := 2) rfl rfl (by omega)) ?_ | refine LI.vv rfl rfl rfl (by decide) (Val.mul64 rfl rfl (by omega)) ?_
      refine LI.mm rfl rfl (Step.loadBox rfl rfl (by decide) flat3 rfl ((hn6.below hB)) ?_)
      refine LI.mm rfl rfl (Step.loadBox rfl rfl (by decide) flat3 rfl ((hk2.below hB)) ?_)
      first | refine LI.vv rfl rfl rfl (by decide) (Val.subN rfl rfl (by omega) (by omega)) ?_ | refine LI.vv rfl rfl rfl (by decide) (Val.sub64 rfl rfl (by omega)) ?_
      refine LI.vv rfl rfl rfl (by decide) (Val.leq rfl rfl) ?_
      refine LI.nil ?_
      first | refine WI.condD rfl (fun hc3 => ?_) (fun hc3 => ?_) | refine WI.cond rfl (fun hc3 => ?_) (fun hc3 => ?_)
      ·
        refine WI.seqR ?_
        refine LI.vv rfl rfl rfl (by decide) (Val.move rfl) ?_
        have hM9 := (hM4.adds hs02 hB hM.tail)
        simp only [List.cons_append, List.nil_append] at hM9
        refine LI.mm rfl rfl (Step.storeBox (B := w0.heap.size) rfl rfl flat27 elem27 rfl rfl rfl hM9.o2 (Nat.le_trans hs02 hB.size) ?_)
        rintro w5 hO5 hg5 hbl5 hsz5
        replace hM9 := hM9.s2 hg5 hO5 inl_block
        refine LI.mm rfl rfl (Step.storeBox (B := w0.heap.size) rfl rfl flat22 elem22 rfl rfl rfl hM9.o1 (by rw [hsz5]; exact Nat.le_trans hs02 hB.size) ?_)
        rintro w6 hO6 hg6 hbl6 hsz6
        replace hM9 := hM9.s1 hg6 hO6 inl_block
        refine LI.nil ?_
        refine WI.ret ?_
        refine inBlk_ret ?_
        refine .inr ⟨rfl, ((hB.mono hs02).trans hbl5).trans hbl6, ?_, p2, c2, hM9.o2.rd, hM9.o1.rd, hM9.o0.rd, ?_⟩
        · intro b hb1 hb2
          have := hB.size
          exact (hg6.block b (by omega) (fun e => by cases e; omega)).trans ((hg5.block b (by omega) (fun e => by cases e; omega)).trans (hB.block b hb2))
        · unfold Fits; omega
      ·
        refine WI.skip ?_
        refine inBlk_normal ?_
        exact .inl ⟨rfl, hB, by unfold Fits; omega⟩
  · rintro v w10 (⟨ys, hJ, hC⟩ | hX)
    · refine ⟨_, hJ.loop, by simp [recd], ?_⟩
      show Code.wpIn Fence.wide 3 Try.prog (Code.seq _ _) _ _ _
      have hb10 : ∀ o, Below w9.heap.size w9 (w10.putObj (w9.heap.size + 1) o) := fun o => below_put2 hJ.bel (by omega)
      have hd10 : ∀ o, (w10.putObj (w9.heap.size + 1) o).heap[w9.heap.size]? = some (.deferred (some [])) := fun o => (World.putObj_heap_other (by omega)).trans hJ.dfr
      generalize hro : Obj.loop _ = ro
      replace hb10 := hb10 ro
      replace hd10 := hd10 ro
      generalize w10.putObj (w9.heap.size + 1) ro = w11 at *
      have hM9 := (hM.below hb10).er4.er3.er0
      have hs11 : w0.heap.size ≤ w11.heap.size := Nat.le_trans hs0 hb10.size
      refine wpIn_of_WI (r := none) (ds := [{ target := .collected w9.heap.size, args := #[] }]) (n := 59) (Q := fun e L w => e = .ret ∧ V.look L 4 = some (.pointer (some ⟨gg3, 0, none⟩)) ∧ V.look L 5 = some (.pointer (some ⟨gg4, 0, none⟩)) ∧ Below w0.heap.size w11 w ∧ w.heap[w9.heap.size]? = some (.deferred (some [])) ∧ Rd w (some ⟨gg3, 0, none⟩) [.slice none 0 0] ∧ Rd w (some ⟨gg4, 0, none⟩) [.int .i64 ((5 : Nat) : Int)]) ⟨rfl, rfl, ha.size, ha.at_⟩ ?_ ?_
      · refine WI.seqR ?_
        refine LI.mm rfl rfl (Step.storeBox (B := w0.heap.size) rfl rfl flat27 elem27 rfl rfl rfl hM9.o1 hs11 ?_)
        rintro w12 hO12 hg12 hbl12 hsz12
        replace hM9 := hM9.s1 hg12 hO12 inl_block
        refine LI.mm rfl rfl (Step.storeBox (B := w0.heap.size) rfl rfl flat22 elem22 rfl rfl rfl hM9.o0 (by omega) ?_)
        rintro w13 hO13 hg13 hbl13 hsz13
        replace hM9 := hM9.s0 hg13 hO13 inl_block
        refine LI.nil ?_
        refine WI.ret ?_
        have hlt11 := (Array.getElem?_eq_some_iff.1 hd10).1
        exact ⟨rfl, rfl, rfl, hbl12.trans hbl13, (hg13.block _ (by omega) (fun e => by cases e; omega)).trans ((hg12.block _ (by omega) (fun e => by cases e; omega)).trans hd10), hM9.o1.rd, hM9.o0.rd⟩
      · rintro _ L a2 w14 hk ⟨rfl, hl4, hl5, hb14, hd14, r1, r2⟩
        show LeavesInM Fence.wide 3 Try.prog _ a2.tmps _ a2.defers .returning w14
        rw [hk.ds]
        refine leave_two rfl flat27 flat22 (hk.k.at_ 4 _ hl4) (hk.k.at_ 5 _ hl5) hd14 r1 r2 ⟨none, 0, 0, 5, rfl, .inr ⟨rfl, rfl, fun ps hps => hJ.no ps (hC.ch hps)⟩, ?_⟩
        exact below_put2 ((hB.trans (hb10.mono hs0)).trans hb14) (by omega)
    · refine ⟨_, hX.loop, by simp [recd], ?_⟩
      show Code.wpIn Fence.wide 3 Try.prog Code.ret _ _ _
      obtain ⟨p2, c2, ps, r1, r2, r3, hC, hfit⟩ := hX.out
      refine wpIn_ret ?_
      refine leave_two rfl flat27 flat22 ht4 ht5 ((World.putObj_heap_other (by omega)).trans hX.dfr) (rd_put r1 hX.loop rfl) (rd_put r2 hX.loop rfl) ⟨p2, c2, k, 0, rfl, .inl ⟨rfl, rfl, ps, rd_put (rd_put r3 hX.loop rfl) ((World.putObj_heap_other (by omega)).trans hX.dfr) rfl, hC, hfit⟩, ?_⟩
      exact below_put2 (below_put2 (hB.trans hX.bel) (by omega)) (by omega)
end Go.Proofs.Ytnaebllojkodbaa
