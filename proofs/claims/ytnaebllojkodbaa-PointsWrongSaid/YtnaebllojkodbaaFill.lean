/-
  points.Fill.
-/
import Derived.Test.YtnaebllojkodbaaThrough
import Derived.Test.YtnaebllojkodbaaPoints3Plain
import Derived.Test.YtnaebllojkodbaaWordsPlain
namespace Go.Proofs.Ytnaebllojkodbaa
open Go Go.RowKit V
set_option linter.unusedVariables false
set_option linter.unusedSimpArgs false

theorem bit_any (x i : Nat) (w0 : World) (hx : x < 4294967296) (hi : i < 32) :
    CallsV Try.prog 19 #[.int .u32 (x : Int), .int .i64 (i : Int)] w0 (fun v w => v = .bool (x.testBit i) ∧ Below w0.heap.size w0 w) := by
  refine enter1 Try.func19 rfl Try.ntmps19 (by simp) rfl ?_
  have hB := Below.refl w0.heap.size w0
  simp only [argLoc, Nat.zero_add]
  have hs := shl_one_lt hi
  have h0 : decide (0 ≤ (i : Int)) = true := by simp
  refine W.seqR ?_
  refine LS.vv rfl rfl (by decide) (Val.assign rfl) ?_
  refine LS.nil ?_
  refine W.seqR ?_
  refine LS.vv rfl rfl (by decide) (Val.move rfl) ?_
  refine LS.vv rfl rfl (by decide) (Val.cast (v := .bool true) (Val.geq rfl rfl) (by simp)) ?_
  refine LS.vv rfl rfl (by decide) (Val.move rfl) ?_
  refine LS.vg rfl rfl rfl rfl (by decide) (Val.move rfl) ?_
  refine LS.vg rfl rfl rfl rfl (by decide) (Val.cast (v := .bool true) (Val.lss rfl rfl) (by simp; omega)) ?_
  refine LS.vv rfl rfl (by decide) (Val.pickT rfl rfl rfl) ?_
  refine LS.vv rfl rfl (by decide) (Val.move rfl) ?_
  refine LS.vg rfl rfl rfl rfl (by decide) (Val.move rfl) ?_
  refine LS.vg rfl rfl rfl rfl (by decide) (Val.move rfl) ?_
  refine LS.vg rfl rfl rfl rfl (by decide) (Val.conv rfl Try.underlying3 Try.underlying62 (IntWalk.u64_in _ (by omega))) ?_
  refine LS.vg rfl rfl rfl rfl (by decide) (Val.shlU32 (i := 1) rfl rfl (by omega) (by omega)) ?_
  refine LS.vg rfl rfl rfl rfl (by decide) (Val.andU32 rfl rfl (by omega) (by omega)) ?_
  refine LS.vg rfl rfl rfl rfl (by decide) (Val.cast (v := .bool (x.testBit i)) (Val.neq rfl rfl) (by exact congrArg Value.bool (and_shl_ne x i))) ?_
  refine LS.vv rfl rfl (by decide) (Val.pickT rfl rfl rfl) ?_
  refine LS.vv rfl rfl (by decide) (Val.assign rfl) ?_
  refine LS.nil ?_
  refine W.ret ?_
  refine ret1 (by first | exact .inl rfl | exact .inr rfl) rfl ?_
  exact ⟨rfl, hB⟩

theorem wrong_any (k n : Nat) (w0 : World) (h1 : 1 ≤ k) (h2 : k ≤ n) (h3 : n ≤ 9) :
    CallsV Try.prog 37 #[.int .i64 (k : Int), .int .i64 (n : Int)] w0 (fun v w => v = .int .i64 ((0 : Nat) : Int) ∧ Below w0.heap.size w0 w) := by
  refine enter1 Try.func37 rfl Try.ntmps37 (by simp) rfl ?_
  have hB := Below.refl w0.heap.size w0
  simp only [argLoc, Nat.zero_add]
  refine W.seqR ?_
  refine LS.vv rfl rfl (by decide) (Val.cast (v := .int .i64 ((0 : Nat) : Int)) (Val.assign rfl) rfl) ?_
  refine LS.nil ?_
  refine W.seq ?_
  refine W.seqR ?_
  refine LS.vv rfl rfl (by decide) (Val.move rfl) ?_
  refine LS.vv rfl rfl (by decide) (Val.gtr rfl rfl) ?_
  refine LS.nil ?_
  first | refine W.condD rfl (fun hc1 => ?_) (fun hc1 => ?_) | refine W.cond rfl (fun hc1 => ?_) (fun hc1 => ?_)
  ·
    refine W.seqR ?_
    refine LS.vv rfl rfl (by decide) (Val.cast (v := .int .i64 ((1 : Nat) : Int)) (Val.assign rfl) rfl) ?_
    refine LS.nil ?_
    refine W.ret ?_
    refine thenP_ret ?_
    refine ret1 (by first | exact .inl rfl | exact .inr rfl) rfl ?_
    first | exact ⟨rfl, hB⟩ | (exfalso; omega)
  ·
    refine W.skip ?_
    refine thenP_normal ?_
    refine W.seq ?_
    refine W.seqR ?_
    refine LS.vv rfl rfl (by decide) (Val.move rfl) ?_
    refine LS.vv rfl rfl (by decide) (Val.lss rfl rfl) ?_
    refine LS.vv rfl rfl (by decide) (Val.move rfl) ?_
    refine LS.split 2 rfl (fun hg2 => ?_) (fun hg2 => ?_)
    ·
      first | (have hg2p := of_decide_eq_true hg2) | skip
      refine LS.s rfl rfl rfl hg2 (by decide) ?_
      refine LS.s rfl rfl rfl hg2 (by decide) ?_
      refine LS.s rfl rfl rfl hg2 (by decide) ?_
      refine LS.vv rfl rfl (by decide) (Val.pickT rfl hg2 rfl) ?_
      refine LS.nil ?_
      refine W.condT rfl ?_
      refine W.seqR ?_
      refine LS.vv rfl rfl (by decide) (Val.cast (v := .int .i64 ((3 : Nat) : Int)) (Val.assign rfl) rfl) ?_
      refine LS.nil ?_
      refine W.ret ?_
      refine thenP_ret ?_
      refine ret1 (by first | exact .inl rfl | exact .inr rfl) rfl ?_
      first | exact ⟨rfl, hB⟩ | (exfalso; omega)
    ·
      first | (have hg2p := of_decide_eq_false hg2) | skip
      refine LS.vg rfl rfl rfl hg2 (by decide) (Val.move rfl) ?_
      refine LS.vg rfl rfl rfl hg2 (by decide) (Val.move rfl) ?_
      refine LS.vg rfl rfl rfl hg2 (by decide) (Val.gtr rfl rfl) ?_
      refine LS.vv rfl rfl (by decide) (Val.pickF rfl hg2 rfl) ?_
      refine LS.nil ?_
      first | refine W.condD rfl (fun hc3 => ?_) (fun hc3 => ?_) | refine W.cond rfl (fun hc3 => ?_) (fun hc3 => ?_)
      ·
        refine W.seqR ?_
        refine LS.vv rfl rfl (by decide) (Val.cast (v := .int .i64 ((3 : Nat) : Int)) (Val.assign rfl) rfl) ?_
        refine LS.nil ?_
        refine W.ret ?_
        refine thenP_ret ?_
        refine ret1 (by first | exact .inl rfl | exact .inr rfl) rfl ?_
        first | exact ⟨rfl, hB⟩ | (exfalso; omega)
      ·
        refine W.skip ?_
        refine thenP_normal ?_
        refine W.seqR ?_
        refine LS.vv rfl rfl (by decide) (Val.cast (v := .int .i64 ((0 : Nat) : Int)) (Val.assign rfl) rfl) ?_
        refine LS.nil ?_
        refine W.ret ?_
        refine ret1 (by first | exact .inl rfl | exact .inr rfl) rfl ?_
        first | exact ⟨rfl, hB⟩ | (exfalso; omega)

theorem containsN (l : List Nat) (pr : Nat → Bool) (f : FuncId) (cap : Array Value) (p : Option Addr) (c m : Nat) (w0 : World) (hbody : Body Try.prog f) (hr : Rd w0 p (nv l)) (hm : l.length = m) (hb : m ≤ 100000)
    (hf : ∀ i, i < m → ∀ w, Below w0.heap.size w0 w → CallsV Try.prog f (#[.int .i64 (gn l i : Int)] ++ cap) w (fun v w2 => v = .bool (pr i) ∧ Below w.heap.size w w2)) :
    CallsV Try.prog 39 #[.slice p m c, .func (.func f) #[] cap] w0 (fun v w => v = .bool ((List.range m).any pr) ∧ Below w0.heap.size w0 w) := by
  subst hm
  have hwl : (nv l).length = l.length := by simp [nv]
  have := containsFunc_int (nv l) pr f cap p c w0 hbody hr (by omega) (fun i h w hw => by
    have hi : i < l.length := by omega
    rw [show (nv l)[i] = .int .i64 (gn l i : Int) from by simp [nv, gn, hi]]
    exact hf i hi w hw)
  rw [hwl] at this
  exact this
theorem any_false (m : Nat) : (List.range m).any (fun _ => false) = false := by simp

theorem Fill1_any (all : List Nat) (zs : List Int) (i ga gl : Nat) (pa q : Option Addr) (na ca c : Nat) (w0 : World) (hba : Rd w0 (some ⟨ga, 0, none⟩) [.slice pa na ca]) (hra : Rd w0 pa (nv all)) (hbl : Rd w0 (some ⟨gl, 0, none⟩) [.slice q zs.length c]) (hrl : Rd w0 q (iv zs)) (hna : all.length = na) (hi : i < na) (hil : i < zs.length) (he : (gn all i : Int) = gz zs i) :
    CallsV Try.prog 40 #[.int .i64 (i : Int), .pointer (some ⟨ga, 0, none⟩), .pointer (some ⟨gl, 0, none⟩)] w0 (fun v w => v = .bool false ∧ Below w0.heap.size w0 w) := by
  refine enter1 Try.func40 rfl Try.ntmps40 (by simp) rfl ?_
  have hB := Below.refl w0.heap.size w0
  simp only [argLoc]
  have hM := Mem.nil w0 w0.heap.size
  subst hna
  refine W.seqR ?_
  refine LS.vv rfl rfl (by decide) (Val.assign rfl) ?_
  refine LS.nil ?_
  refine W.seqF 10 [(0, true), (1, true), (2, true), (3, true), (4, true), (5, true), (6, true), (7, true), (8, true), (9, true)] mixed (by kernel_rfl) hB hM ?_
  replace hB := hB.drew
  replace hM := hM.drew
  refine DF.vv rfl rfl rfl (by decide) (Val.loadBox flat27 rfl (fun _ h => hba.below h.1)) ?_
  refine DF.vv rfl rfl rfl (by decide) (Val.move rfl) ?_
  refine DF.vv rfl rfl rfl (by decide) (Val.index1 Try.underlying27 elem3 rfl rfl (by omega) (hra.below hB) (nv_lt (by omega))) ?_
  refine DF.vv rfl rfl rfl (by decide) (Val.load flat3 rfl (fun _ h => hra.below h.1) (nv_at (by omega))) ?_
  refine DF.vv rfl rfl rfl (by decide) (Val.loadBox flat27 rfl (fun _ h => hbl.below h.1)) ?_
  refine DF.vv rfl rfl rfl (by decide) (Val.move rfl) ?_
  refine DF.vv rfl rfl rfl (by decide) (Val.index1 Try.underlying27 elem3 rfl rfl (by omega) (hrl.below hB) (iv_lt (by omega))) ?_
  refine DF.vv rfl rfl rfl (by decide) (Val.load flat3 rfl (fun _ h => hrl.below h.1) (iv_at (by omega))) ?_
  refine DF.vv rfl rfl rfl (by decide) (Val.cast (v := .bool false) (Val.neq rfl rfl) (by refine congrArg Value.bool (decide_eq_false ?_); omega)) ?_
  refine DF.vv rfl rfl rfl (by decide) (Val.assign rfl) ?_
  refine DF.nil ?_
  refine W.ret ?_
  refine ret1 (by first | exact .inl rfl | exact .inr rfl) rfl ?_
  exact ⟨rfl, hB⟩

theorem fill_any (data : List Nat) (zs : List Int) (ls : List Bool) (p q : Option Addr) (c d m n k : Nat) (w0 : World) (hr1 : Rd w0 p (iv zs)) (hr2 : Rd w0 q (bv ls)) (hm : zs.length = m) (hn : ls.length = n) (hmn : n = m) (hk : data.length = k) (hm9 : m ≤ 9) (hd : Small data) (h1 : 1 ≤ k) (hdm : k ≤ m) (hgood : ∀ j, j < m → gb ls j = false → gz zs j = (pval data (j + 1) : Int)) (hs : ∀ k, gz zs k < 16) :
    CallsV Try.prog 20 #[.int .i64 (k : Int), .slice p m c, .slice q n d] w0 (fun v w => ∃ (p2 : Option Addr) (c2 L e : Nat), v = .tuple #[.slice p2 L c2, .int .i64 (e : Int)] ∧ ((there ls m).length < k → e = 5 ∧ L = 0) ∧ (k ≤ (there ls m).length → e = 0 ∧ L = k ∧ Rd w p2 (nv data)) ∧ Below w0.heap.size w0 w) := by
  refine enter2 Try.func20 rfl Try.ntmps20 (by simp) rfl ?_
  have hB := Below.refl w0.heap.size w0
  simp only [argLoc, Nat.zero_add, Nat.reduceAdd]
  have hM := Mem.nil w0 w0.heap.size
  subst hm
  subst hn
  subst hk
  have hzs := gn_zs hs
  have htl := there_len ls zs.length
  refine W.seqR ?_
  refine LS.m rfl (Step.box rfl rfl (by decide) rfl rfl (Nat.le_refl _) ?_)
  rintro w1 hO1 hg1 hbl1 hsz1
  replace hM := hM.add hB.size hbl1 hO1
  replace hB := hB.trans (hbl1.mono hB.size)
  skip
  refine LS.vv rfl rfl (by decide) (Val.assign rfl) ?_
  refine LS.vv rfl rfl (by decide) (Val.cast (v := .int .i64 ((0 : Nat) : Int)) (Val.assign rfl) rfl) ?_
  refine LS.nil ?_
  refine W.seq ?_
  refine W.seqR ?_
  refine LS.vv rfl rfl (by decide) (Val.move rfl) ?_
  refine LS.m rfl (Step.loadBox rfl rfl (by decide) flat27 rfl (hM.o0.rd) ?_)
  refine LS.vv rfl rfl (by decide) (Val.len Try.underlying27 rfl) ?_
  refine LS.m rfl (Step.call body37 rfl rfl (by decide) rfl (CallsV.mono (wrong_any data.length zs.length _ h1 hdm hm9) ?_))
  rintro _ w2 ⟨rfl, hb2⟩
  replace hM := hM.below hb2
  replace hB := hB.trans (hb2.mono hB.size)
  refine LS.vv rfl rfl (by decide) (Val.assign rfl) ?_
  refine LS.nil ?_
  refine W.seqR ?_
  refine LS.vv rfl rfl (by decide) (Val.move rfl) ?_
  refine LS.vv rfl rfl (by decide) (Val.neq rfl rfl) ?_
  refine LS.nil ?_
  first | refine W.condD rfl (fun hc1 => ?_) (fun hc1 => ?_) | refine W.cond rfl (fun hc1 => ?_) (fun hc1 => ?_)
  ·
    refine W.seqR ?_
    refine LS.vv rfl rfl (by decide) (Val.move rfl) ?_
    refine LS.vv rfl rfl (by decide) (Val.assign rfl) ?_
    refine LS.vv rfl rfl (by decide) (Val.assign rfl) ?_
    refine LS.nil ?_
    refine W.ret ?_
    refine thenP_ret ?_
    refine ret2 (by first | exact .inl rfl | exact .inr rfl) rfl rfl ?_
    first | contradiction | (exfalso; omega) | exact ⟨none, 0, 0, 5, rfl, fun _ => ⟨rfl, rfl⟩, fun h => by omega, hB⟩ | exact ⟨p8, c8, data.length, 0, rfl, fun h => by omega, fun _ => ⟨rfl, rfl, hM.o2.rd⟩, hB⟩
  ·
    refine W.skip ?_
    refine thenP_normal ?_
    refine W.seq ?_
    refine W.seqR ?_
    refine LS.vv rfl rfl (by decide) (Val.move rfl) ?_
    refine LS.vv rfl rfl (by decide) (Val.len Try.underlying35 rfl) ?_
    refine LS.m rfl (Step.loadBox rfl rfl (by decide) flat27 rfl (hM.o0.rd) ?_)
    refine LS.vv rfl rfl (by decide) (Val.len Try.underlying27 rfl) ?_
    refine LS.vv rfl rfl (by decide) (Val.neq rfl rfl) ?_
    refine LS.nil ?_
    first | refine W.condD rfl (fun hc2 => ?_) (fun hc2 => ?_) | refine W.cond rfl (fun hc2 => ?_) (fun hc2 => ?_)
    ·
      refine W.seqR ?_
      refine LS.vv rfl rfl (by decide) (Val.assign rfl) ?_
      refine LS.vv rfl rfl (by decide) (Val.cast (v := .int .i64 ((3 : Nat) : Int)) (Val.assign rfl) rfl) ?_
      refine LS.nil ?_
      refine W.ret ?_
      refine thenP_ret ?_
      refine ret2 (by first | exact .inl rfl | exact .inr rfl) rfl rfl ?_
      first | contradiction | (exfalso; omega) | exact ⟨none, 0, 0, 5, rfl, fun _ => ⟨rfl, rfl⟩, fun h => by omega, hB⟩ | exact ⟨p8, c8, data.length, 0, rfl, fun h => by omega, fun _ => ⟨rfl, rfl, hM.o2.rd⟩, hB⟩
    ·
      refine W.skip ?_
      refine thenP_normal ?_
      refine W.seqR ?_
      refine LS.vv rfl rfl (by decide) (Val.assign rfl) ?_
      refine LS.nil ?_
      refine W.seq ?_
      refine W.seqR ?_
      refine LS.m rfl (Step.loadBox rfl rfl (by decide) flat27 rfl (hM.o0.rd) ?_)
      refine LS.vv rfl rfl (by decide) (Val.len Try.underlying27 rfl) ?_
      refine LS.vv rfl rfl (by decide) (Val.cast (v := .int .i64 ((0 : Nat) : Int)) (Val.move rfl) rfl) ?_
      refine LS.nil ?_
      refine W.block ?_
      replace hM := hM.addNil 3
      refine W.loop (α := Nat × Option Addr × Nat) (fun g => [(9, .slice g.2.1 (there ls g.1).length g.2.2), (29, .int .i64 (g.1 : Int))]) [(0, _), (2, _), (4, _), (27, _), (28, _)] (fun g w => (g.1 ≤ zs.length) ∧ Mem w w0.heap.size [⟨3, g.2.1, (there ls g.1).length, g.2.2, nv (there ls g.1)⟩, ⟨27, some ⟨w0.heap.size, 0, none⟩, 1, 1, [.slice p zs.length c]⟩] ∧ Below w0.heap.size w0 w) (fun g => zs.length - g.1) ((0, none, 0)) (Sub.cons rfl (Sub.cons rfl (Sub.nil _))) (Sub.cons rfl (Sub.cons rfl (Sub.cons rfl (Sub.cons rfl (Sub.cons rfl (Sub.nil _)))))) ?_ ?_
      · exact ⟨Nat.zero_le _, hM, hB⟩
      rintro ⟨k, po, co⟩ w3 ⟨hk, hM, hB⟩
      try simp only at hM
      simp only [List.cons_append, List.nil_append]
      simp only at hk
      have hts := there_succ ls k
      have htlk := there_len ls k
      refine W.seqR ?_
      refine LS.vv rfl rfl (by decide) (Val.lss rfl rfl) ?_
      refine LS.nil ?_
      refine W.seq ?_
      first | refine W.condD rfl (fun hc3 => ?_) (fun hc3 => ?_) | refine W.cond rfl (fun hc3 => ?_) (fun hc3 => ?_)
      ·
        refine W.skip ?_
        refine thenP_normal ?_
        refine W.seq ?_
        refine W.block ?_
        refine W.seqR ?_
        refine LS.vv rfl rfl (by decide) (Val.move rfl) ?_
        refine LS.vv rfl rfl (by decide) (Val.index1 Try.underlying27 elem3 rfl rfl (by omega) (hr1.below hB) (iv_lt (by omega))) ?_
        refine LS.m rfl (Step.load rfl rfl (by decide) flat3 rfl (hr1.below hB) (iv_at (by omega)) ?_)
        refine LS.vv rfl rfl (by decide) (Val.assign rfl) ?_
        refine LS.vv rfl rfl (by decide) (Val.assign rfl) ?_
        refine LS.nil ?_
        refine W.seq ?_
        refine W.seqR ?_
        refine LS.vv rfl rfl (by decide) (Val.move rfl) ?_
        refine LS.vv rfl rfl (by decide) (Val.move rfl) ?_
        refine LS.vv rfl rfl (by decide) (Val.index1 Try.underlying35 elem4 rfl rfl (by omega) ((hr2.below hB)) (bv_lt (by omega))) ?_
        refine LS.m rfl (Step.load rfl rfl (by decide) flat4 rfl ((hr2.below hB)) (bv_at (by omega)) ?_)
        refine LS.nil ?_
        first | refine W.condD rfl (fun hc4 => ?_) (fun hc4 => ?_) | refine W.cond rfl (fun hc4 => ?_) (fun hc4 => ?_)
        ·
          refine W.exit ?_
          refine thenP_exit ?_
          refine inBlk_exit ?_
          refine thenP_normal ?_
          refine W.reg ?_
          first | refine LS.vv rfl rfl (by decide) (Val.addN (j := 1) rfl rfl (by omega)) ?_ | refine LS.vv rfl rfl (by decide) (Val.add64 rfl rfl (by omega)) ?_
          refine LS.vv rfl rfl (by decide) (Val.move rfl) ?_
          refine LS.nil ?_
          refine thenP_normal ?_
          have hgk : gb ls k = true := by simp_all
          rw [if_pos hgk] at hts
          refine ⟨(k + 1, po, co), ?_, ?_, ⟨by simp only; omega, ?_, hB⟩, by simp only; omega⟩
          · exact Sub.cons' rfl (by simp only [hts]) (Sub.cons rfl (Sub.nil _))
          · repeat (first | exact Sub.nil _ | refine Sub.cons rfl ?_)
          · simp only [hts]; exact hM
        ·
          refine W.skip ?_
          refine thenP_normal ?_
          refine W.seq ?_
          refine W.seqR ?_
          refine LS.vv rfl rfl (by decide) (Val.move rfl) ?_
          refine LS.m rfl (Step.lit rfl rfl (by decide) Try.underlying27 elem3 rfl rfl (by omega) (by simp [Value.oneCell']) (Nat.le_refl _) ?_)
          rintro w4 hO4 hg4 hbl4 hsz4
          replace hM := hM.add hB.size hbl4 hO4
          try simp only [iv_app1, iv_app, iv_set, iv_rep, iv_one, iv_cons, iv_take, iv_drop, List.nil_append] at hM
          replace hB := hB.trans (hbl4.mono hB.size)
          generalize w3.heap.size = gg4 at *
          have hgk : gb ls k = false := by simp_all
          refine LS.m rfl (Step.call body31 rfl rfl (by decide) rfl (CallsV.mono (fcheckN [gz zs k] _ _ _ _ hM.o0.rd rfl (by omega)) ?_))
          rintro _ w5 ⟨e, rfl, he, he4, hb5⟩
          replace hM := hM.below hb5
          replace hB := hB.trans (hb5.mono hB.size)
          obtain rfl : e = 0 := he.2 (fun z hz => by rw [List.mem_singleton] at hz; subst hz; have h1 := hgood k (by omega) hgk; have h2 := hs k; omega)
          refine LS.vv rfl rfl (by decide) (Val.assign rfl) ?_
          refine LS.nil ?_
          refine W.seqR ?_
          refine LS.vv rfl rfl (by decide) (Val.move rfl) ?_
          refine LS.vv rfl rfl (by decide) (Val.neq rfl rfl) ?_
          refine LS.nil ?_
          first | refine W.condD rfl (fun hc5 => ?_) (fun hc5 => ?_) | refine W.cond rfl (fun hc5 => ?_) (fun hc5 => ?_)
          ·
            refine W.seqR ?_
            refine LS.vv rfl rfl (by decide) (Val.move rfl) ?_
            refine LS.vv rfl rfl (by decide) (Val.assign rfl) ?_
            refine LS.vv rfl rfl (by decide) (Val.assign rfl) ?_
            refine LS.nil ?_
            refine W.ret ?_
            refine thenP_ret ?_
            refine inBlk_ret ?_
            refine thenP_ret ?_
            refine thenP_ret ?_
            refine inBlk_ret ?_
            refine thenP_ret ?_
            refine ret2 (by first | exact .inl rfl | exact .inr rfl) rfl rfl ?_
            first | contradiction | (exfalso; omega) | exact ⟨none, 0, 0, 5, rfl, fun _ => ⟨rfl, rfl⟩, fun h => by omega, hB⟩ | exact ⟨p8, c8, data.length, 0, rfl, fun h => by omega, fun _ => ⟨rfl, rfl, hM.o2.rd⟩, hB⟩
          ·
            refine W.skip ?_
            refine thenP_normal ?_
            refine W.reg ?_
            refine LS.vv rfl rfl (by decide) (Val.move rfl) ?_
            refine LS.vv rfl rfl (by decide) (Val.move rfl) ?_
            refine LS.m rfl (Step.lit rfl rfl (by decide) Try.underlying27 elem3 rfl rfl (by omega) (by simp [Value.oneCell']) (Nat.le_refl _) ?_)
            rintro w6 hO6 hg6 hbl6 hsz6
            replace hM := hM.add hB.size hbl6 hO6
            try simp only [nv_app1, nv_app, nv_set, nv_rep, nv_one, nv_cons, nv_take, nv_drop, List.nil_append] at hM
            replace hB := hB.trans (hbl6.mono hB.size)
            generalize w5.heap.size = gg6 at *
            refine LS.m rfl (Step.append2 (B := w0.heap.size) rfl rfl (by decide) Try.underlying27 elem3 rfl rfl rfl rfl (hM.o2) (hM.o0.rd) (by first | rfl | (simp; done) | (simp; omega)) (by first | exact one_map _ (fun _ => rfl) _ | simp [Value.oneCell']) (by omega) (by omega) hB.size ?_)
            rintro p7 c7 w7 hO7 hg7 hbl7 hbk7
            replace hM := hM.s2 hg7 hO7 hbk7
            replace hM := hM.tail
            try simp only [nv_app1, nv_app, nv_set, nv_rep, nv_one, nv_cons, nv_take, nv_drop, List.nil_append] at hM
            replace hB := hB.trans hbl7
            refine LS.vv rfl rfl (by decide) (Val.assign rfl) ?_
            refine LS.nil ?_
            refine inBlk_normal ?_
            refine thenP_normal ?_
            refine W.reg ?_
            first | refine LS.vv rfl rfl (by decide) (Val.addN (j := 1) rfl rfl (by omega)) ?_ | refine LS.vv rfl rfl (by decide) (Val.add64 rfl rfl (by omega)) ?_
            refine LS.vv rfl rfl (by decide) (Val.move rfl) ?_
            refine LS.nil ?_
            refine thenP_normal ?_
            rw [if_neg (by rw [hgk]; decide)] at hts
            refine ⟨(k + 1, p7, c7), ?_, ?_, ⟨by simp only; omega, ?_, hB⟩, by simp only; omega⟩
            · exact Sub.cons' rfl (by simp only [hts, List.length_append, List.length_cons, List.length_nil]) (Sub.cons rfl (Sub.nil _))
            · repeat (first | exact Sub.nil _ | refine Sub.cons rfl ?_)
            · simp only [hts, List.length_append, List.length_cons, List.length_nil]; exact hM.tail
      ·
        refine W.exit ?_
        refine thenP_exit ?_
        refine thenP_exit ?_
        refine inBlk_exit ?_
        refine thenP_normal ?_
        refine W.seq ?_
        refine W.seqR ?_
        refine LS.vv rfl rfl (by decide) (Val.move rfl) ?_
        refine LS.vv rfl rfl (by decide) (Val.len Try.underlying27 rfl) ?_
        refine LS.vv rfl rfl (by decide) (Val.move rfl) ?_
        refine LS.vv rfl rfl (by decide) (Val.lss rfl rfl) ?_
        refine LS.nil ?_
        first | refine W.condD rfl (fun hc6 => ?_) (fun hc6 => ?_) | refine W.cond rfl (fun hc6 => ?_) (fun hc6 => ?_)
        ·
          obtain rfl : k = zs.length := by omega
          refine W.seqR ?_
          refine LS.vv rfl rfl (by decide) (Val.assign rfl) ?_
          refine LS.vv rfl rfl (by decide) (Val.cast (v := .int .i64 ((5 : Nat) : Int)) (Val.assign rfl) rfl) ?_
          refine LS.nil ?_
          refine W.ret ?_
          refine thenP_ret ?_
          refine ret2 (by first | exact .inl rfl | exact .inr rfl) rfl rfl ?_
          first | contradiction | (exfalso; omega) | exact ⟨none, 0, 0, 5, rfl, fun _ => ⟨rfl, rfl⟩, fun h => by omega, hB⟩ | exact ⟨p8, c8, data.length, 0, rfl, fun h => by omega, fun _ => ⟨rfl, rfl, hM.o2.rd⟩, hB⟩
        ·
          obtain rfl : k = zs.length := by omega
          have htc := hM.o0.le_cap
          refine W.skip ?_
          refine thenP_normal ?_
          refine W.seqF 6 [(0, true), (1, true), (2, true), (3, true), (4, false), (5, true)] mixed (by kernel_rfl) hB hM ?_
          replace hB := hB.drew
          replace hM := hM.drew
          refine DF.vv rfl rfl rfl (by decide) (Val.loadBox flat27 rfl (fun _ h => h.2.o1.rd)) ?_
          refine DF.vv rfl rfl rfl (by decide) (Val.move rfl) ?_
          refine DF.vv rfl rfl rfl (by decide) (Val.move rfl) ?_
          refine DF.vv rfl rfl rfl (by decide) (Val.sliceTo Try.underlying27 elem3 rfl rfl (by omega)) ?_
          have hpl : ((there ls zs.length).take data.length).length = data.length := by rw [List.length_take]; omega
          have hpm : ∀ j ∈ ((there ls zs.length).take data.length), j < zs.length ∧ gb ls j = false := fun j hj => there_mem.1 (List.mem_of_mem_take hj)
          have hpn : ((there ls zs.length).take data.length).Nodup := (there_nodup ls _).sublist (List.take_sublist _ _)
          have hth : through (zs.map Int.toNat) ((there ls zs.length).take data.length) = data := zn_tell (fun j hj => (hpm j hj).1) hm9 hpn hzs hd (by rw [hpl]) (by omega) (fun j hj => hgood j (hpm j hj).1 (hpm j hj).2)
          refine DF.m rfl rfl (Step.call body38 rfl rfl (by decide) rfl (CallsV.mono (through_any zs ((there ls zs.length).take data.length) _ _ _ _ _ _ _ (hr1.below hB) (hM.o0.rd.take_nv (k := data.length)) rfl hpl hm9 (by omega) (fun j hj => (hpm j hj).1) hpn (fun j hj => by rw [hgood j (hpm j hj).1 (hpm j hj).2]; omega) hs) ?_))
          rintro _ w8 ⟨p8, c8, rfl, hO8, hb8⟩
          replace hM := hM.add hB.size hb8 hO8
          replace hB := hB.trans (hb8.mono hB.size)
          refine ⟨fun _ => ⟨hB, hM.tail⟩, ?_⟩
          rw [hth] at hM
          refine DF.vv rfl rfl rfl (by decide) (Val.assign rfl) ?_
          refine DF.nil ?_
          refine W.seqR ?_
          refine LS.m rfl (Step.loadBox rfl rfl (by decide) flat27 rfl (hM.o2.rd) ?_)
          refine LS.vv rfl rfl (by decide) (Val.len Try.underlying27 rfl) ?_
          refine LS.vv rfl rfl (by decide) (Val.move rfl) ?_
          refine LS.m rfl (Step.call body36 rfl rfl (by decide) rfl (CallsV.mono (put_any data _ _ _ _ hM.o0.rd rfl zs.length hd hm9 (by omega)) ?_))
          rintro _ w9 ⟨p9, c9, rfl, hO9, hb9⟩
          replace hM := hM.add hB.size hb9 hO9
          replace hB := hB.trans (hb9.mono hB.size)
          refine LS.m rfl (Step.alloc rfl rfl (by decide) elem27 rfl (by decide) ?_)
          rintro w10 hO10 hg10 hbl10 hsz10
          replace hM := hM.add hB.size hbl10 hO10
          replace hB := hB.trans (hbl10.mono hB.size)
          generalize w9.heap.size = gg10 at *
          refine LS.m rfl (Step.storeBox (B := w0.heap.size) rfl rfl flat27 elem27 rfl rfl rfl (hM.o0) hB.size ?_)
          rintro w11 hO11 hg11 hbl11 hsz11
          replace hM := hM.s0 hg11 hO11 inl_block
          replace hB := hB.trans hbl11
          refine LS.nil ?_
          refine W.seq ?_
          refine W.seqR ?_
          refine LS.vv rfl rfl (by decide) (Val.move rfl) ?_
          refine LS.vv rfl rfl (by decide) (Val.makeFunc rfl) ?_
          have htm : ∀ i, i < (there ls zs.length).length → gn (there ls zs.length) i < zs.length ∧ gb ls (gn (there ls zs.length) i) = false := fun i hi => there_mem.1 (gn_in hi)
          refine LS.m rfl (Step.call body39 rfl rfl (by decide) rfl (CallsV.mono (containsN (there ls zs.length) (fun _ => false) 40 #[.pointer (some ⟨gg10, 0, none⟩), .pointer (some ⟨w0.heap.size, 0, none⟩)] _ _ _ _ body40 hM.o3.rd rfl (by omega) (fun i hi w hw => Fill1_any (putp zs.length data) zs (gn (there ls zs.length) i) _ _ p9 p _ c9 c w (hM.o0.rd.below hw) (hM.o1.rd.below hw) (hM.o4.rd.below hw) (hr1.below (hB.trans (hw.mono hB.size))) (putp_len _ _) (htm i hi).1 (htm i hi).1 (by rw [putp_gn _ (htm i hi).1, hgood _ (htm i hi).1 (htm i hi).2]))) ?_))
          rintro _ w12 ⟨hcf, hb12⟩
          replace hM := hM.below hb12
          replace hB := hB.trans (hb12.mono hB.size)
          rw [any_false] at hcf
          subst hcf
          refine LS.nil ?_
          refine W.condF rfl ?_
          refine W.skip ?_
          refine thenP_normal ?_
          refine W.seqR ?_
          refine LS.vv rfl rfl (by decide) (Val.move rfl) ?_
          refine LS.vv rfl rfl (by decide) (Val.assign rfl) ?_
          refine LS.vv rfl rfl (by decide) (Val.cast (v := .int .i64 ((0 : Nat) : Int)) (Val.assign rfl) rfl) ?_
          refine LS.nil ?_
          refine W.ret ?_
          refine ret2 (by first | exact .inl rfl | exact .inr rfl) rfl rfl ?_
          first | contradiction | (exfalso; omega) | exact ⟨none, 0, 0, 5, rfl, fun _ => ⟨rfl, rfl⟩, fun h => by omega, hB⟩ | exact ⟨p8, c8, data.length, 0, rfl, fun h => by omega, fun _ => ⟨rfl, rfl, hM.o2.rd⟩, hB⟩

end Go.Proofs.Ytnaebllojkodbaa
