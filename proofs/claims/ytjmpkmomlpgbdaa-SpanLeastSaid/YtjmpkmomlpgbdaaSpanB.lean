/-
  Package span: duals, weights; whether a word is a sum.
-/
import Derived.Test.YtjmpkmomlpgbdaaSpanA
namespace Go.Proofs.Ytjmpkmomlpgbdaa
open Go Go.RowKit V
set_option linter.unusedVariables false
set_option linter.unusedSimpArgs false

theorem indexFunc_word (vals : List Value) (pr : Nat → Bool) (f : FuncId) (cap : Array Value) (p : Option Addr) (c : Nat) (w0 : World) (hbody : Body Try.prog f) (hr : Rd w0 p vals) (hb : vals.length ≤ 100000)
    (hf : ∀ i (h : i < vals.length) w, Below w0.heap.size w0 w → CallsV Try.prog f (#[vals[i]] ++ cap) w (fun v w2 => v = .bool (pr i) ∧ Below w.heap.size w w2)) :
    CallsV Try.prog 57 #[.slice p vals.length c, .func (.func f) #[] cap] w0 (fun v w => v = .int .i64 (fI pr vals.length) ∧ Below w0.heap.size w0 w) := by
  refine enter1 Try.func57 rfl Try.ntmps57 (by simp) rfl ?_
  have hB := Below.refl w0.heap.size w0
  simp only [argLoc, Nat.zero_add]
  refine W.seqR ?_
  refine LS.vv rfl rfl (by decide) (Val.cast (v := .int .i64 ((0 : Nat) : Int)) (Val.assign rfl) rfl) ?_
  refine LS.nil ?_
  refine W.seq ?_
  refine W.seqR ?_
  refine LS.vv rfl rfl (by decide) (Val.move rfl) ?_
  refine LS.vv rfl rfl (by decide) (Val.len Try.underlying32 rfl) ?_
  refine LS.vv rfl rfl (by decide) (Val.cast (v := .int .i64 ((0 : Nat) : Int)) (Val.move rfl) rfl) ?_
  refine LS.nil ?_
  refine W.block ?_
  refine W.loop (α := Nat) (fun k => [(8, .int .i64 (k : Int))]) [(0, _), (1, _), (7, _)] (fun k w => (k ≤ vals.length ∧ ∀ j, j < k → pr j = false) ∧ Below w0.heap.size w0 w) (fun k => vals.length - k) (0) (Sub.cons rfl (Sub.nil _)) (Sub.cons rfl (Sub.cons rfl (Sub.cons rfl (Sub.nil _)))) ?_ ?_
  · exact ⟨⟨Nat.zero_le _, by omega⟩, hB⟩
  rintro k w1 ⟨⟨hk, hall⟩, hB⟩
  simp only [List.cons_append, List.nil_append]
  refine W.seqR ?_
  refine LS.vv rfl rfl (by decide) (Val.lss rfl rfl) ?_
  refine LS.nil ?_
  refine W.seq ?_
  first | refine W.condD rfl (fun hc1 => ?_) (fun hc1 => ?_) | refine W.cond rfl (fun hc1 => ?_) (fun hc1 => ?_)
  ·
    refine W.skip ?_
    refine thenP_normal ?_
    refine W.seq ?_
    refine W.block ?_
    refine W.seqR ?_
    refine LS.vv rfl rfl (by decide) (Val.move rfl) ?_
    refine LS.vv rfl rfl (by decide) (Val.assign rfl) ?_
    refine LS.nil ?_
    refine W.seqR ?_
    refine LS.vv rfl rfl (by decide) (Val.move rfl) ?_
    refine LS.vv rfl rfl (by decide) (Val.move rfl) ?_
    refine LS.vv rfl rfl (by decide) (Val.move rfl) ?_
    have hkl : k < vals.length := by omega
    refine LS.vv rfl rfl (by decide) (Val.index1 Try.underlying32 elem37 rfl rfl (by omega) hr (id (by omega))) ?_
    refine LS.m rfl (Step.load rfl rfl (by decide) flat37 rfl (hr.below hB) (List.getElem?_eq_getElem hkl) ?_)
    refine LS.m rfl (Step.callV hbody rfl rfl rfl (by decide) rfl (CallsV.mono (hf k hkl _ hB) ?_))
    rintro _ w2 ⟨rfl, hb2⟩
    replace hB := hB.trans (hb2.mono hB.size)
    refine LS.nil ?_
    first | refine W.condD rfl (fun hc2 => ?_) (fun hc2 => ?_) | refine W.cond rfl (fun hc2 => ?_) (fun hc2 => ?_)
    ·
      refine W.seqR ?_
      refine LS.vv rfl rfl (by decide) (Val.move rfl) ?_
      refine LS.vv rfl rfl (by decide) (Val.assign rfl) ?_
      refine LS.nil ?_
      refine W.ret ?_
      refine inBlk_ret ?_
      refine thenP_ret ?_
      refine thenP_ret ?_
      refine inBlk_ret ?_
      refine thenP_ret ?_
      refine ret1 (by first | exact .inl rfl | exact .inr rfl) rfl ?_
      exact ⟨by rw [fI_some (show k < vals.length by omega) (by assumption) hall], hB⟩
    ·
      refine W.skip ?_
      refine inBlk_normal ?_
      refine thenP_normal ?_
      refine W.reg ?_
      first | refine LS.vv rfl rfl (by decide) (Val.addN (j := 1) rfl rfl (by omega)) ?_ | refine LS.vv rfl rfl (by decide) (Val.add64 rfl rfl (by omega)) ?_
      refine LS.vv rfl rfl (by decide) (Val.move rfl) ?_
      refine LS.nil ?_
      refine thenP_normal ?_
      refine ⟨k + 1, ?_, ?_, ⟨⟨by omega, ?_⟩, hB⟩, by omega⟩
      · exact Sub.cons rfl (Sub.nil _)
      · repeat (first | exact Sub.nil _ | refine Sub.cons rfl ?_)
      · intro j hj
        by_cases e : j = k
        · subst e; assumption
        · exact hall j (by omega)
  ·
    refine W.exit ?_
    refine thenP_exit ?_
    refine thenP_exit ?_
    refine inBlk_exit ?_
    refine thenP_normal ?_
    refine W.seqR ?_
    refine LS.vv rfl rfl (by decide) (Val.assign rfl) ?_
    refine LS.nil ?_
    refine W.ret ?_
    refine ret1 (by first | exact .inl rfl | exact .inr rfl) rfl ?_
    exact ⟨by rw [fI_none (fun j hj => hall j (by omega))], hB⟩

theorem containsFunc_word (vals : List Value) (pr : Nat → Bool) (f : FuncId) (cap : Array Value) (p : Option Addr) (c : Nat) (w0 : World) (hbody : Body Try.prog f) (hr : Rd w0 p vals) (hb : vals.length ≤ 100000)
    (hf : ∀ i (h : i < vals.length) w, Below w0.heap.size w0 w → CallsV Try.prog f (#[vals[i]] ++ cap) w (fun v w2 => v = .bool (pr i) ∧ Below w.heap.size w w2)) :
    CallsV Try.prog 48 #[.slice p vals.length c, .func (.func f) #[] cap] w0 (fun v w => v = .bool ((List.range vals.length).any pr) ∧ Below w0.heap.size w0 w) := by
  refine enter1 Try.func48 rfl Try.ntmps48 (by simp) rfl ?_
  have hB := Below.refl w0.heap.size w0
  simp only [argLoc, Nat.zero_add]
  refine W.seqR ?_
  refine LS.vv rfl rfl (by decide) (Val.assign rfl) ?_
  refine LS.nil ?_
  refine W.seqR ?_
  refine LS.vv rfl rfl (by decide) (Val.move rfl) ?_
  refine LS.vv rfl rfl (by decide) (Val.move rfl) ?_
  refine LS.m rfl (Step.call body57 rfl rfl (by decide) rfl (CallsV.mono (indexFunc_word vals pr f cap _ _ _ hbody (hr.below hB) hb (fun i h w hw => hf i h w (hB.trans (hw.mono hB.size)))) ?_))
  rintro _ w1 ⟨rfl, hb1⟩
  replace hB := hB.trans (hb1.mono hB.size)
  refine LS.vv rfl rfl (by decide) (Val.cast (Val.geq (j := 0) rfl rfl) (congrArg Value.bool (fI_any pr vals.length))) ?_
  refine LS.vv rfl rfl (by decide) (Val.assign rfl) ?_
  refine LS.nil ?_
  refine W.ret ?_
  refine ret1 (by first | exact .inl rfl | exact .inr rfl) rfl ?_
  exact ⟨rfl, hB⟩

theorem even1_any (r g x : Nat) (w0 : World) (hbx : Rd w0 (some ⟨g, 0, none⟩) [.int .u32 (x : Int)]) (hr : r < 4294967296) (hx : x < 4294967296) :
    CallsV Try.prog 49 #[.int .u32 (r : Int), .pointer (some ⟨g, 0, none⟩)] w0 (fun v w => v = .bool (od r x) ∧ Below w0.heap.size w0 w) := by
  refine enter1 Try.func49 rfl Try.ntmps49 (by simp) rfl ?_
  have hB := Below.refl w0.heap.size w0
  simp only [argLoc]
  have hM := Mem.nil w0 w0.heap.size
  have han : r &&& x < 2 ^ 32 := Nat.and_lt_two_pow _ (by omega)
  have hpc : popc (r &&& x) ≤ 32 := popTo_le _ 32
  refine W.seqR ?_
  refine LS.vv rfl rfl (by decide) (Val.assign rfl) ?_
  refine LS.nil ?_
  refine W.seqR ?_
  refine LS.vv rfl rfl (by decide) (Val.move rfl) ?_
  refine LS.m rfl (Step.loadBox rfl rfl (by decide) flat37 rfl ((hbx.below hB)) ?_)
  refine LS.vv rfl rfl (by decide) (Val.andU32 rfl rfl (by omega) (by omega)) ?_
  refine LS.m rfl (Step.call body34 rfl rfl (by decide) rfl (CallsV.mono (ones32_any _ _ (by omega)) ?_))
  rintro _ w1 ⟨rfl, hb1⟩
  replace hM := hM.below hb1
  replace hB := hB.trans (hb1.mono hB.size)
  first | refine LS.vv rfl rfl (by decide) (Val.remN (j := 2) rfl rfl (by omega)) ?_ | refine LS.vv rfl rfl (by decide) (Val.rem rfl rfl (by omega) (by omega)) ?_ | refine LS.vv rfl rfl (by decide) (Val.remT rfl rfl (by omega)) ?_
  refine LS.vv rfl rfl (by decide) (Val.eql rfl rfl) ?_
  refine LS.vv rfl rfl (by decide) (Val.assign rfl) ?_
  refine LS.nil ?_
  refine W.ret ?_
  refine ret1 (by first | exact .inl rfl | exact .inr rfl) rfl ?_
  refine ⟨congrArg Value.bool ?_, hB⟩
  unfold od
  rw [decide_eq_decide]
  omega

theorem any_od (cs : List Nat) (y : Nat) : (!(List.range (uv cs).length).any fun i => od (gn cs i) y) = evn cs cs.length y := by
  unfold evn
  rw [Bool.eq_iff_iff, Bool.not_eq_true', List.any_eq_false, decide_eq_true_iff]
  have hl : (uv cs).length = cs.length := by simp [uv]
  rw [hl]
  constructor
  · intro h j hj
    have := h j (List.mem_range.2 hj)
    rw [od_comm]; simpa using this
  · intro h j hj
    rw [od_comm, h j (List.mem_range.1 hj)]; simp
theorem uv_get {l : List Nat} {i : Nat} (h : i < (uv l).length) : (uv l)[i] = .int .u32 (gn l i : Int) := by
  simp [uv, gn, show i < l.length by simpa [uv] using h]

theorem even_any (cs : List Nat) (p : Option Addr) (c : Nat) (x : Nat) (w0 : World) (hr : Rd w0 p (uv cs)) (hl : cs.length ≤ 9223372036854775807) (hcs : ∀ x ∈ cs, x < 4294967296) (h8 : cs.length ≤ 8) (hx : x < 4294967296) :
    CallsV Try.prog 35 #[.slice p cs.length c, .int .u32 (x : Int)] w0 (fun v w => ∃ b : Bool, v = .bool b ∧ evn cs cs.length x = b ∧ Below w0.heap.size w0 w) := by
  refine enter1 Try.func35 rfl Try.ntmps35 (by simp) rfl ?_
  have hB := Below.refl w0.heap.size w0
  simp only [argLoc, Nat.zero_add]
  have hM := Mem.nil w0 w0.heap.size
  have hlt : ∀ j, j < cs.length → gn cs j < 4294967296 := fun j hj => by rw [gn_lt hj]; exact hcs _ (List.getElem_mem hj)
  have hul : (uv cs).length = cs.length := by simp [uv]
  refine W.seqR ?_
  refine LS.m rfl (Step.box rfl rfl (by decide) rfl rfl (Nat.le_refl _) ?_)
  rintro w1 hO1 hg1 hbl1 hsz1
  replace hM := hM.add hB.size hbl1 hO1
  replace hB := hB.trans (hbl1.mono hB.size)
  skip
  have hbx : Rd _ (some ⟨w0.heap.size, 0, none⟩) [.int .u32 (x : Int)] := hM.o0.rd
  refine LS.vv rfl rfl (by decide) (Val.assign rfl) ?_
  refine LS.nil ?_
  refine W.seqR ?_
  refine LS.vv rfl rfl (by decide) (Val.move rfl) ?_
  refine LS.vv rfl rfl (by decide) (Val.makeFunc rfl) ?_
  rw [← hul]
  refine LS.m rfl (Step.call body48 rfl rfl (by decide) rfl (CallsV.mono (containsFunc_word (uv cs) (fun i => od (gn cs i) x) 49 #[.pointer (some ⟨w0.heap.size, 0, none⟩)] _ _ _ body49 (hr.below hB) (by rw [hul]; omega) (fun i h w hw => by rw [uv_get h]; exact even1_any _ _ _ _ (hbx.below hw) (hlt i (by omega)) hx)) ?_))
  rintro _ w2 ⟨rfl, hb2⟩
  replace hM := hM.below hb2
  replace hB := hB.trans (hb2.mono hB.size)
  refine LS.vv rfl rfl (by decide) (Val.not rfl) ?_
  refine LS.vv rfl rfl (by decide) (Val.assign rfl) ?_
  refine LS.nil ?_
  refine W.ret ?_
  refine ret1 (by first | exact .inl rfl | exact .inr rfl) rfl ?_
  exact ⟨_, rfl, by rw [any_od, hul], hB⟩

theorem dual_any (n : Int) (cs : List Nat) (p : Option Addr) (c : Nat) (w0 : World) (hr : Rd w0 p (uv cs)) (hl : cs.length ≤ 9223372036854775807) (hcs : ∀ x ∈ cs, x < 4294967296) :
    CallsV Try.prog 16 #[.int .i64 n, .slice p cs.length c] w0 (fun v w => ∃ (p2 : Option Addr) (c2 : Nat) (D : List Nat) (e : Nat), v = .tuple #[.slice p2 D.length c2, .int .i64 (e : Int)] ∧ Own w w0.heap.size 37 p2 D.length c2 (uv D) ∧ (e = 0 ↔ OkR n cs) ∧ (e = 0 → D = dl cs n.toNat) ∧ Below w0.heap.size w0 w) := by
  refine enter2 Try.func16 rfl Try.ntmps16 (by simp) rfl ?_
  have hB := Below.refl w0.heap.size w0
  simp only [argLoc, Nat.zero_add]
  have hM := Mem.nil w0 w0.heap.size
  refine W.seqR ?_
  refine LS.vv rfl rfl (by decide) (Val.assign rfl) ?_
  refine LS.vv rfl rfl (by decide) (Val.cast (v := .int .i64 ((0 : Nat) : Int)) (Val.assign rfl) rfl) ?_
  refine LS.nil ?_
  refine W.seq ?_
  refine W.seqR ?_
  refine LS.vv rfl rfl (by decide) (Val.move rfl) ?_
  refine LS.vv rfl rfl (by decide) (Val.move rfl) ?_
  refine LS.m rfl (Step.call body31 rfl rfl (by decide) rfl (CallsV.mono (spanCheck_any n cs _ _ _ (hr.below hB) hl hcs) ?_))
  rintro _ w1 ⟨e, rfl, he, hb1⟩
  replace hM := hM.below hb1
  replace hB := hB.trans (hb1.mono hB.size)
  refine LS.vv rfl rfl (by decide) (Val.assign rfl) ?_
  refine LS.nil ?_
  refine W.seqR ?_
  refine LS.vv rfl rfl (by decide) (Val.move rfl) ?_
  refine LS.vv rfl rfl (by decide) (Val.neq rfl rfl) ?_
  refine LS.nil ?_
  first | refine W.condD rfl (fun hc1 => ?_) (fun hc1 => ?_) | refine W.cond rfl (fun hc1 => ?_) (fun hc1 => ?_)
  ·
    refine W.seqR ?_
    refine LS.vv rfl rfl (by decide) (Val.move rfl) ?_
    refine LS.vv rfl rfl (by decide) (Val.assign rfl) ?_
    refine LS.vv rfl rfl (by decide) (Val.assign rfl) ?_
    refine LS.nil ?_
    refine W.ret ?_
    refine thenP_ret ?_
    refine ret2 (by first | exact .inl rfl | exact .inr rfl) rfl rfl ?_
    first
      | exact ⟨none, 0, [], e, rfl, Own.nil _ _ _, he, fun h => by omega, hB⟩
      | (obtain rfl : k = 1 <<< m := (by omega)
         exact ⟨p1, c1, _, 0, rfl, hM.o0, ⟨fun _ => hok, fun _ => rfl⟩, fun _ => by (unfold dl; rw [Int.toNat_natCast, Nat.one_shiftLeft]), hB⟩)
  ·
    have hok := he.1 (by omega)
    have hn1 := hok.1.1
    have hn2 := hok.1.2.1
    obtain ⟨m, rfl⟩ := Int.eq_ofNat_of_zero_le hn1
    have hp12 : 1 <<< m ≤ 4096 := by { rw [Nat.one_shiftLeft]; exact Nat.pow_le_pow_right (n := 2) (i := m) (j := 12) (by omega) (by omega) }
    refine W.skip ?_
    refine thenP_normal ?_
    refine W.seqR ?_
    refine LS.vv rfl rfl (by decide) (Val.assign rfl) ?_
    refine LS.nil ?_
    refine W.seq ?_
    refine W.seqR ?_
    refine LS.vv rfl rfl (by decide) (Val.move rfl) ?_
    refine LS.vv rfl rfl (by decide) (Val.shlU32 (i := 1) rfl rfl (by omega) (by omega)) ?_
    refine LS.vv rfl rfl (by decide) (Val.cast (v := .int .u32 ((0 : Nat) : Int)) (Val.move rfl) rfl) ?_
    refine LS.nil ?_
    refine W.block ?_
    replace hM := hM.addNil 37
    refine W.loop (α := Nat × Option Addr × Nat) (fun g => [(7, .slice g.2.1 ((List.range g.1).filter (evn cs cs.length)).length g.2.2), (17, .int .u32 (g.1 : Int))]) [(1, _), (16, _)] (fun g w => (g.1 ≤ 1 <<< m) ∧ Mem w w0.heap.size [⟨37, g.2.1, ((List.range g.1).filter (evn cs cs.length)).length, g.2.2, uv ((List.range g.1).filter (evn cs cs.length))⟩] ∧ Below w0.heap.size w0 w) (fun g => (1 <<< m) - g.1) ((0, none, 0)) (Sub.cons rfl (Sub.cons rfl (Sub.nil _))) (Sub.cons rfl (Sub.cons rfl (Sub.nil _))) ?_ ?_
    · exact ⟨Nat.zero_le _, hM, hB⟩
    rintro ⟨k, p1, c1⟩ w2 ⟨hk, hM, hB⟩
    try simp only at hM
    simp only [List.cons_append, List.nil_append]
    simp only at hk
    have hfl : ((List.range k).filter (evn cs cs.length)).length ≤ k := by { have := List.length_filter_le (evn cs cs.length) (List.range k); rwa [List.length_range] at this }
    have hfs : ((List.range (k + 1)).filter (evn cs cs.length)) = ((List.range k).filter (evn cs cs.length)) ++ if evn cs cs.length k = true then [k] else [] := by { rw [List.range_succ, List.filter_append]; cases h9 : evn cs cs.length k <;> simp [h9] }
    refine W.seqR ?_
    refine LS.vv rfl rfl (by decide) (Val.lss rfl rfl) ?_
    refine LS.nil ?_
    refine W.seq ?_
    first | refine W.condD rfl (fun hc2 => ?_) (fun hc2 => ?_) | refine W.cond rfl (fun hc2 => ?_) (fun hc2 => ?_)
    ·
      refine W.skip ?_
      refine thenP_normal ?_
      refine W.seq ?_
      refine W.block ?_
      refine W.seqR ?_
      refine LS.vv rfl rfl (by decide) (Val.move rfl) ?_
      refine LS.vv rfl rfl (by decide) (Val.assign rfl) ?_
      refine LS.nil ?_
      refine W.seqR ?_
      refine LS.vv rfl rfl (by decide) (Val.move rfl) ?_
      refine LS.vv rfl rfl (by decide) (Val.move rfl) ?_
      refine LS.m rfl (Step.call body35 rfl rfl (by decide) rfl (CallsV.mono (even_any cs _ _ k _ (hr.below hB) hl hcs hok.2 (by omega)) ?_))
      rintro _ w3 ⟨be, rfl, hbe, hb3⟩
      replace hM := hM.below hb3
      replace hB := hB.trans (hb3.mono hB.size)
      refine LS.nil ?_
      first | refine W.condD rfl (fun hc3 => ?_) (fun hc3 => ?_) | refine W.cond rfl (fun hc3 => ?_) (fun hc3 => ?_)
      ·
        refine W.reg ?_
        refine LS.vv rfl rfl (by decide) (Val.move rfl) ?_
        refine LS.vv rfl rfl (by decide) (Val.move rfl) ?_
        refine LS.m rfl (Step.lit rfl rfl (by decide) Try.underlying32 elem37 rfl rfl (by omega) (by simp [Value.oneCell']) (Nat.le_refl _) ?_)
        rintro w4 hO4 hg4 hbl4 hsz4
        replace hM := hM.add hB.size hbl4 hO4
        try simp only [uv_app1, uv_app, uv_set, uv_rep, uv_one, uv_cons, uv_take, uv_drop, List.nil_append] at hM
        replace hB := hB.trans (hbl4.mono hB.size)
        generalize w3.heap.size = gg4 at *
        refine LS.m rfl (Step.append2 (B := w0.heap.size) rfl rfl (by decide) Try.underlying32 elem37 rfl rfl rfl rfl (hM.o1) (hM.o0.rd) (by first | rfl | (simp; done) | (simp; omega)) (by first | exact one_map _ (fun _ => rfl) _ | simp [Value.oneCell']) (by omega) (by omega) hB.size ?_)
        rintro p5 c5 w5 hO5 hg5 hbl5 hbk5
        replace hM := hM.s1 hg5 hO5 hbk5
        replace hM := hM.tail
        try simp only [uv_app1, uv_app, uv_set, uv_rep, uv_one, uv_cons, uv_take, uv_drop, List.nil_append] at hM
        replace hB := hB.trans hbl5
        refine LS.vv rfl rfl (by decide) (Val.assign rfl) ?_
        refine LS.nil ?_
        refine inBlk_normal ?_
        refine thenP_normal ?_
        refine W.reg ?_
        first | refine LS.vv rfl rfl (by decide) (Val.addNU32 (j := 1) rfl rfl (by omega)) ?_ | refine LS.vv rfl rfl (by decide) (Val.addU32 rfl rfl (by omega)) ?_
        refine LS.vv rfl rfl (by decide) (Val.move rfl) ?_
        refine LS.nil ?_
        refine thenP_normal ?_
        first
          | (rw [if_pos (by rw [hbe]; assumption)] at hfs
             rw [← hfs] at hM
             have hll := congrArg List.length hfs
             rw [List.length_append] at hll
             refine ⟨(k + 1, p5, c5), ?_, ?_, ⟨by simp only; omega, ?_, hB⟩, by simp only; omega⟩
             · exact Sub.cons' rfl (by simp only [hll, List.length_cons, List.length_nil, Nat.zero_add]) (Sub.cons rfl (Sub.nil _))
             · repeat (first | exact Sub.nil _ | refine Sub.cons rfl ?_)
             · simp only [hll, List.length_cons, List.length_nil, Nat.zero_add]; exact hM)
          | (rw [if_neg (Bool.eq_false_iff.1 (by rw [hbe]; assumption)), List.append_nil] at hfs
             refine ⟨(k + 1, p1, c1), ?_, ?_, ⟨by simp only; omega, ?_, hB⟩, by simp only; omega⟩
             · exact Sub.cons' rfl (by simp only [hfs]) (Sub.cons rfl (Sub.nil _))
             · repeat (first | exact Sub.nil _ | refine Sub.cons rfl ?_)
             · simp only [hfs]; exact hM)
      ·
        refine W.skip ?_
        refine inBlk_normal ?_
        refine thenP_normal ?_
        refine W.reg ?_
        first | refine LS.vv rfl rfl (by decide) (Val.addNU32 (j := 1) rfl rfl (by omega)) ?_ | refine LS.vv rfl rfl (by decide) (Val.addU32 rfl rfl (by omega)) ?_
        refine LS.vv rfl rfl (by decide) (Val.move rfl) ?_
        refine LS.nil ?_
        refine thenP_normal ?_
        first
          | (rw [if_pos (by rw [hbe]; assumption)] at hfs
             rw [← hfs] at hM
             have hll := congrArg List.length hfs
             rw [List.length_append] at hll
             refine ⟨(k + 1, p0, c0), ?_, ?_, ⟨by simp only; omega, ?_, hB⟩, by simp only; omega⟩
             · exact Sub.cons' rfl (by simp only [hll, List.length_cons, List.length_nil, Nat.zero_add]) (Sub.cons rfl (Sub.nil _))
             · repeat (first | exact Sub.nil _ | refine Sub.cons rfl ?_)
             · simp only [hll, List.length_cons, List.length_nil, Nat.zero_add]; exact hM)
          | (rw [if_neg (Bool.eq_false_iff.1 (by rw [hbe]; assumption)), List.append_nil] at hfs
             refine ⟨(k + 1, p1, c1), ?_, ?_, ⟨by simp only; omega, ?_, hB⟩, by simp only; omega⟩
             · exact Sub.cons' rfl (by simp only [hfs]) (Sub.cons rfl (Sub.nil _))
             · repeat (first | exact Sub.nil _ | refine Sub.cons rfl ?_)
             · simp only [hfs]; exact hM)
    ·
      refine W.exit ?_
      refine thenP_exit ?_
      refine thenP_exit ?_
      refine inBlk_exit ?_
      refine thenP_normal ?_
      refine W.seqR ?_
      refine LS.vv rfl rfl (by decide) (Val.move rfl) ?_
      refine LS.vv rfl rfl (by decide) (Val.assign rfl) ?_
      refine LS.vv rfl rfl (by decide) (Val.cast (v := .int .i64 ((0 : Nat) : Int)) (Val.assign rfl) rfl) ?_
      refine LS.nil ?_
      refine W.ret ?_
      refine ret2 (by first | exact .inl rfl | exact .inr rfl) rfl rfl ?_
      first
        | exact ⟨none, 0, [], e, rfl, Own.nil _ _ _, he, fun h => by omega, hB⟩
        | (obtain rfl : k = 1 <<< m := (by omega)
           exact ⟨p1, c1, _, 0, rfl, hM.o0, ⟨fun _ => hok, fun _ => rfl⟩, fun _ => by (unfold dl; rw [Int.toNat_natCast, Nat.one_shiftLeft]), hB⟩)

theorem spanSize_any (n : Int) (cs : List Nat) (p : Option Addr) (c : Nat) (w0 : World) (hr : Rd w0 p (uv cs)) (hl : cs.length ≤ 9223372036854775807) (hcs : ∀ x ∈ cs, x < 4294967296) :
    CallsV Try.prog 19 #[.int .i64 n, .slice p cs.length c] w0 (fun v w => ∃ q e : Nat, v = .tuple #[.int .i64 (q : Int), .int .i64 (e : Int)] ∧ (e = 0 ↔ OkR n cs) ∧ (e = 0 → (spn cs).length = 2 ^ q ∧ q ≤ n.toNat) ∧ Below w0.heap.size w0 w) := by
  refine enter2 Try.func19 rfl Try.ntmps19 (by simp) rfl ?_
  have hB := Below.refl w0.heap.size w0
  simp only [argLoc, Nat.zero_add]
  have hM := Mem.nil w0 w0.heap.size
  refine W.seqR ?_
  refine LS.vv rfl rfl (by decide) (Val.cast (v := .int .i64 ((0 : Nat) : Int)) (Val.assign rfl) rfl) ?_
  refine LS.vv rfl rfl (by decide) (Val.cast (v := .int .i64 ((0 : Nat) : Int)) (Val.assign rfl) rfl) ?_
  refine LS.nil ?_
  refine W.seq ?_
  refine W.seqR ?_
  refine LS.vv rfl rfl (by decide) (Val.move rfl) ?_
  refine LS.vv rfl rfl (by decide) (Val.move rfl) ?_
  refine LS.m rfl (Step.call body31 rfl rfl (by decide) rfl (CallsV.mono (spanCheck_any n cs _ _ _ (hr.below hB) hl hcs) ?_))
  rintro _ w1 ⟨e, rfl, he, hb1⟩
  replace hM := hM.below hb1
  replace hB := hB.trans (hb1.mono hB.size)
  refine LS.vv rfl rfl (by decide) (Val.assign rfl) ?_
  refine LS.nil ?_
  refine W.seqR ?_
  refine LS.vv rfl rfl (by decide) (Val.move rfl) ?_
  refine LS.vv rfl rfl (by decide) (Val.neq rfl rfl) ?_
  refine LS.nil ?_
  first | refine W.condD rfl (fun hc1 => ?_) (fun hc1 => ?_) | refine W.cond rfl (fun hc1 => ?_) (fun hc1 => ?_)
  ·
    refine W.seqR ?_
    refine LS.vv rfl rfl (by decide) (Val.move rfl) ?_
    refine LS.vv rfl rfl (by decide) (Val.cast (v := .int .i64 ((0 : Nat) : Int)) (Val.assign rfl) rfl) ?_
    refine LS.vv rfl rfl (by decide) (Val.assign rfl) ?_
    refine LS.nil ?_
    refine W.ret ?_
    refine thenP_ret ?_
    refine ret2 (by first | exact .inl rfl | exact .inr rfl) rfl rfl ?_
    first | exact ⟨0, e, rfl, he, fun h => by omega, hB⟩ | exact ⟨q, 0, rfl, ⟨fun _ => hok, fun _ => rfl⟩, fun _ => ⟨hq2, by have h1 := dual_count hI (by omega); rw [hq2] at h1; have h2 : 2 ^ q ≤ 2 ^ n.toNat := (by rw [← h1]; exact Nat.le_mul_of_pos_right _ (Nat.pos_of_ne_zero fun h => by rw [h, Nat.mul_zero] at h1; have := Nat.two_pow_pos n.toNat; omega)); exact (Nat.pow_le_pow_iff_right (by omega)).1 h2⟩, hB⟩
  ·
    refine W.skip ?_
    refine thenP_normal ?_
    refine W.seqR ?_
    refine LS.vv rfl rfl (by decide) (Val.move rfl) ?_
    have hok := he.1 (by omega)
    have hn1 := hok.1.2.1
    have hI := spn_inv hok.1.2.2
    have hlen := spk_len hok.1.2.2 (Nat.le_refl _) hok.2
    obtain ⟨q, hq1, hq2⟩ := hI.pow
    have h8 := hok.2
    refine LS.m rfl (Step.call body32 rfl rfl (by decide) rfl (CallsV.mono (all_any cs _ _ n.toNat _ (hr.below hB) hok.2 (by omega) hok.1.2.2) ?_))
    rintro _ w2 ⟨p2, c2, L, rfl, hOL, hL1, hL2, hb2⟩
    replace hM := hM.below hb2
    replace hB := hB.trans (hb2.mono hB.size)
    have hll : L.length = (spk cs cs.length).length := hL1.length_eq
    refine LS.vv rfl rfl (by decide) (Val.len Try.underlying32 rfl) ?_
    refine LS.vv rfl rfl (by decide) (Val.conv rfl Try.underlying3 Try.underlying26 (IntWalk.u64_in _ (by omega))) ?_
    refine LS.m rfl (Step.call body37 rfl rfl (by decide) rfl (CallsV.mono (blen_any L.length _ (by omega)) ?_))
    rintro _ w3 ⟨rfl, hb3⟩
    replace hM := hM.below hb3
    replace hB := hB.trans (hb3.mono hB.size)
    have hbq : bitLen L.length = q + 1 := bitLen_unique ⟨by rw [hll, show (spk cs cs.length).length = 2 ^ q from hq2, Nat.pow_succ]; have := Nat.two_pow_pos q; omega, .inr (by rw [hll, show (spk cs cs.length).length = 2 ^ q from hq2, Nat.add_sub_cancel]; exact Nat.le_refl _)⟩
    rw [hbq]
    refine LS.vv rfl rfl (by decide) (Val.subN (j := 1) rfl rfl (by omega) (by omega)) ?_
    refine LS.vv rfl rfl (by decide) (Val.assign rfl) ?_
    refine LS.vv rfl rfl (by decide) (Val.cast (v := .int .i64 ((0 : Nat) : Int)) (Val.assign rfl) rfl) ?_
    refine LS.nil ?_
    refine W.ret ?_
    refine ret2 (by first | exact .inl rfl | exact .inr rfl) rfl rfl ?_
    first | exact ⟨0, e, rfl, he, fun h => by omega, hB⟩ | exact ⟨q, 0, rfl, ⟨fun _ => hok, fun _ => rfl⟩, fun _ => ⟨hq2, by have h1 := dual_count hI (by omega); rw [hq2] at h1; have h2 : 2 ^ q ≤ 2 ^ n.toNat := (by rw [← h1]; exact Nat.le_mul_of_pos_right _ (Nat.pos_of_ne_zero fun h => by rw [h, Nat.mul_zero] at h1; have := Nat.two_pow_pos n.toNat; omega)); exact (Nat.pow_le_pow_iff_right (by omega)).1 h2⟩, hB⟩

/-- how many of the first k words have each number of bits -/
def wts (L : List Nat) (n k : Nat) : List Nat := (List.range n).map fun j => cntW (L.take k) j
theorem wts_len (L : List Nat) (n k : Nat) : (wts L n k).length = n := by simp [wts]
theorem wts_gn (L : List Nat) {n k j : Nat} (hj : j < n) : gn (wts L n k) j = cntW (L.take k) j := by simp [wts, gn, hj]
theorem wts_succ {L : List Nat} {n k : Nat} (hk : k < L.length) : (wts L n k).set (popc (gn L k)) (gn (wts L n k) (popc (gn L k)) + 1) = wts L n (k + 1) := by
  refine gn_eq_of (by simp [wts]) fun j hj => ?_
  rw [List.length_set, wts_len] at hj
  have hs : cntW (L.take (k + 1)) j = cntW (L.take k) j + if popc (gn L k) = j then 1 else 0 := by
    unfold cntW
    rw [List.take_succ_eq_append_getElem hk, List.filter_append, List.length_append, gn_lt hk]
    by_cases e : popc L[k] = j <;> simp [e]
  rw [wts_gn L hj, hs]
  unfold gn
  rw [List.getD_eq_getElem?_getD, List.getElem?_set]
  by_cases e : popc (L.getD k 0) = j
  · subst e
    rw [if_pos rfl, if_pos (by rw [wts_len]; exact hj), if_pos rfl]
    have := wts_gn L hj (k := k)
    unfold gn at this
    simp only [Option.getD_some]
    rw [this]
  · rw [if_neg e, if_neg e, Nat.add_zero, ← List.getD_eq_getElem?_getD]
    exact wts_gn L hj
theorem wts_zero (L : List Nat) (n : Nat) : wts L n 0 = List.replicate n 0 := by
  refine gn_eq_of (by simp [wts]) fun j hj => ?_
  rw [wts_len] at hj
  rw [wts_gn L hj]; simp [cntW, gn, hj]
theorem cntW_le (L : List Nat) (k j : Nat) : cntW (L.take k) j ≤ k := by
  unfold cntW
  have h1 := List.length_filter_le (fun x => decide (popc x = j)) (L.take k)
  rw [List.length_take] at h1; omega

theorem weights_any (n : Int) (cs : List Nat) (p : Option Addr) (c : Nat) (w0 : World) (hr : Rd w0 p (uv cs)) (hl : cs.length ≤ 9223372036854775807) (hcs : ∀ x ∈ cs, x < 4294967296) :
    CallsV Try.prog 15 #[.int .i64 n, .slice p cs.length c] w0 (fun v w => ∃ (p2 : Option Addr) (c2 : Nat) (A : List Nat) (e : Nat), v = .tuple #[.slice p2 A.length c2, .int .i64 (e : Int)] ∧ Own w w0.heap.size 2 p2 A.length c2 (nv A) ∧ (e = 0 ↔ OkR n cs) ∧ (e = 0 → A.length = n.toNat + 1 ∧ ∀ j, j < n.toNat + 1 → gn A j = cntW (spn cs) j) ∧ Below w0.heap.size w0 w) := by
  refine enter2 Try.func15 rfl Try.ntmps15 (by simp) rfl ?_
  have hB := Below.refl w0.heap.size w0
  simp only [argLoc, Nat.zero_add]
  have hM := Mem.nil w0 w0.heap.size
  refine W.seqR ?_
  refine LS.vv rfl rfl (by decide) (Val.assign rfl) ?_
  refine LS.vv rfl rfl (by decide) (Val.cast (v := .int .i64 ((0 : Nat) : Int)) (Val.assign rfl) rfl) ?_
  refine LS.nil ?_
  refine W.seq ?_
  refine W.seqR ?_
  refine LS.vv rfl rfl (by decide) (Val.move rfl) ?_
  refine LS.vv rfl rfl (by decide) (Val.move rfl) ?_
  refine LS.m rfl (Step.call body31 rfl rfl (by decide) rfl (CallsV.mono (spanCheck_any n cs _ _ _ (hr.below hB) hl hcs) ?_))
  rintro _ w1 ⟨e, rfl, he, hb1⟩
  replace hM := hM.below hb1
  replace hB := hB.trans (hb1.mono hB.size)
  refine LS.vv rfl rfl (by decide) (Val.assign rfl) ?_
  refine LS.nil ?_
  refine W.seqR ?_
  refine LS.vv rfl rfl (by decide) (Val.move rfl) ?_
  refine LS.vv rfl rfl (by decide) (Val.neq rfl rfl) ?_
  refine LS.nil ?_
  first | refine W.condD rfl (fun hc1 => ?_) (fun hc1 => ?_) | refine W.cond rfl (fun hc1 => ?_) (fun hc1 => ?_)
  ·
    refine W.seqR ?_
    refine LS.vv rfl rfl (by decide) (Val.move rfl) ?_
    refine LS.vv rfl rfl (by decide) (Val.assign rfl) ?_
    refine LS.vv rfl rfl (by decide) (Val.assign rfl) ?_
    refine LS.nil ?_
    refine W.ret ?_
    refine thenP_ret ?_
    refine ret2 (by first | exact .inl rfl | exact .inr rfl) rfl rfl ?_
    first
      | exact ⟨none, 0, [], e, rfl, Own.nil _ _ _, he, fun h => by omega, hB⟩
      | (obtain rfl : k = L.length := (by omega)
         exact ⟨_, m + 1, wts L (m + 1) L.length, 0, (by rw [wts_len]), (by rw [wts_len]; exact hM.o0), ⟨fun _ => hok, fun _ => rfl⟩, fun _ => ⟨wts_len _ _ _, fun j hj => by rw [wts_gn L hj, List.take_length]; exact cntW_perm hL1 j⟩, hB⟩)
  ·
    have hok := he.1 (by omega)
    have hn1 := hok.1.1
    have hn2 := hok.1.2.1
    have hI := spn_inv hok.1.2.2
    have hlen := spk_len hok.1.2.2 (Nat.le_refl _) hok.2
    obtain ⟨m, rfl⟩ := Int.eq_ofNat_of_zero_le hn1
    rw [Int.toNat_natCast] at *
    have hp12 : 2 ^ m ≤ 2 ^ 12 := Nat.pow_le_pow_right (by omega) (by omega)
    refine W.skip ?_
    refine thenP_normal ?_
    refine W.seqR ?_
    refine LS.vv rfl rfl (by decide) (Val.move rfl) ?_
    first | refine LS.vv rfl rfl (by decide) (Val.addN (j := 1) rfl rfl (by first | omega | (simp only [wts_len, List.length_set]; omega))) ?_ | refine LS.vv rfl rfl (by decide) (Val.add64 rfl rfl (by first | omega | (simp only [wts_len, List.length_set]; omega))) ?_
    refine LS.m rfl (Step.make rfl rfl (by decide) Try.underlying39 elem2 rfl rfl rfl (by first | omega | (simp only [wts_len, List.length_set]; omega)) (by first | omega | (simp only [wts_len, List.length_set]; omega)) (Nat.le_refl _) ?_)
    rintro w2 hO2 hg2 hbl2
    replace hM := hM.add hB.size hbl2 hO2
    try simp only [nv_app1, nv_app, nv_set, nv_rep, nv_one, nv_cons, nv_take, nv_drop, List.nil_append] at hM
    replace hB := hB.trans (hbl2.mono hB.size)
    generalize w1.heap.size = gg2 at *
    refine LS.vv rfl rfl (by decide) (Val.assign rfl) ?_
    refine LS.nil ?_
    refine W.seq ?_
    refine W.seqR ?_
    refine LS.vv rfl rfl (by decide) (Val.move rfl) ?_
    refine LS.m rfl (Step.call body32 rfl rfl (by decide) rfl (CallsV.mono (all_any cs _ _ m _ (hr.below hB) hok.2 (by omega) (by have := hok.1.2.2; rwa [Int.toNat_natCast] at this)) ?_))
    rintro _ w3 ⟨p2, c2, L, rfl, hOL, hL1, hL2, hb3⟩
    replace hM := hM.add hB.size hb3 hOL
    replace hB := hB.trans (hb3.mono hB.size)
    have hll : L.length = (spk cs cs.length).length := hL1.length_eq
    refine LS.vv rfl rfl (by decide) (Val.len Try.underlying32 rfl) ?_
    refine LS.vv rfl rfl (by decide) (Val.cast (v := .int .i64 ((0 : Nat) : Int)) (Val.move rfl) rfl) ?_
    refine LS.nil ?_
    refine W.block ?_
    replace hM := hM.sw0
    rw [← wts_zero L (m + 1)] at hM
    refine W.loop (α := Nat) (fun k => [(22, .int .i64 (k : Int))]) [(7, _), (20, _), (21, _)] (fun k w => (k ≤ L.length) ∧ Mem w w0.heap.size [⟨2, some ⟨gg2, 0, none⟩, m + 1, m + 1, nv (wts L (m + 1) k)⟩, ⟨37, p2, L.length, c2, uv L⟩] ∧ Below w0.heap.size w0 w) (fun k => L.length - k) (0) (Sub.cons rfl (Sub.nil _)) (Sub.cons rfl (Sub.cons rfl (Sub.cons rfl (Sub.nil _)))) ?_ ?_
    · exact ⟨Nat.zero_le _, hM, hB⟩
    rintro k w4 ⟨hk, hM, hB⟩
    try simp only at hM
    simp only [List.cons_append, List.nil_append]
    refine W.seqR ?_
    refine LS.vv rfl rfl (by decide) (Val.lss rfl rfl) ?_
    refine LS.nil ?_
    refine W.seq ?_
    first | refine W.condD rfl (fun hc2 => ?_) (fun hc2 => ?_) | refine W.cond rfl (fun hc2 => ?_) (fun hc2 => ?_)
    ·
      have hlk : gn L k < 2 ^ m := hI.lt _ (hL1.mem_iff.1 (by rw [gn_lt (show k < L.length by omega)]; exact List.getElem_mem _))
      have hpl := popc_le hlk
      have hwl := wts_len L (m + 1) k
      have hwg := wts_gn L (n := m + 1) (k := k) (j := popc (gn L k)) (by omega)
      have hcl := cntW_le L k (popc (gn L k))
      refine W.skip ?_
      refine thenP_normal ?_
      refine W.seq ?_
      refine W.block ?_
      refine W.seqR ?_
      refine LS.vv rfl rfl (by decide) (Val.index1 Try.underlying32 elem37 rfl rfl (by first | omega | (simp only [wts_len, List.length_set]; omega)) (hM.o1.rd) (uv_lt (by first | omega | (simp only [wts_len, List.length_set]; omega)))) ?_
      refine LS.m rfl (Step.load rfl rfl (by decide) flat37 rfl (hM.o1.rd) (uv_at (by first | omega | (simp only [wts_len, List.length_set]; omega))) ?_)
      refine LS.vv rfl rfl (by decide) (Val.assign rfl) ?_
      refine LS.nil ?_
      refine W.reg ?_
      refine LS.vv rfl rfl (by decide) (Val.move rfl) ?_
      refine LS.vv rfl rfl (by decide) (Val.move rfl) ?_
      refine LS.m rfl (Step.call body34 rfl rfl (by decide) rfl (CallsV.mono (ones32_any (gn L k) _ (by omega)) ?_))
      rintro _ w5 ⟨rfl, hb5⟩
      replace hM := hM.below hb5
      replace hB := hB.trans (hb5.mono hB.size)
      refine LS.vv rfl rfl (by decide) (Val.index1 Try.underlying39 elem2 rfl rfl (by first | omega | (simp only [wts_len, List.length_set]; omega)) (hM.o0.rd) (nv_lt (by first | omega | (simp only [wts_len, List.length_set]; omega)))) ?_
      refine LS.m rfl (Step.load rfl rfl (by decide) flat2 rfl (hM.o0.rd) (nv_at (by first | omega | (simp only [wts_len, List.length_set]; omega))) ?_)
      first | refine LS.vv rfl rfl (by decide) (Val.addN (j := 1) rfl rfl (by first | omega | (simp only [wts_len, List.length_set]; omega))) ?_ | refine LS.vv rfl rfl (by decide) (Val.add64 rfl rfl (by first | omega | (simp only [wts_len, List.length_set]; omega))) ?_
      refine LS.vv rfl rfl (by decide) (Val.index1 Try.underlying39 elem2 rfl rfl (by first | omega | (simp only [wts_len, List.length_set]; omega)) (hM.o0.rd) (nv_lt (by first | omega | (simp only [wts_len, List.length_set]; omega)))) ?_
      refine LS.m rfl (Step.store (B := w0.heap.size) rfl rfl flat2 elem2 rfl rfl rfl (hM.o0) (by first | omega | (simp only [wts_len, List.length_set]; omega)) hB.size ?_)
      rintro w6 hO6 hg6 hbl6 hsz6
      replace hM := hM.s0 hg6 hO6 inl_block
      try simp only [nv_app1, nv_app, nv_set, nv_rep, nv_one, nv_cons, nv_take, nv_drop, List.nil_append] at hM
      replace hB := hB.trans hbl6
      refine LS.nil ?_
      refine inBlk_normal ?_
      refine thenP_normal ?_
      refine W.reg ?_
      first | refine LS.vv rfl rfl (by decide) (Val.addN (j := 1) rfl rfl (by first | omega | (simp only [wts_len, List.length_set]; omega))) ?_ | refine LS.vv rfl rfl (by decide) (Val.add64 rfl rfl (by first | omega | (simp only [wts_len, List.length_set]; omega))) ?_
      refine LS.vv rfl rfl (by decide) (Val.move rfl) ?_
      refine LS.nil ?_
      refine thenP_normal ?_
      rw [wts_succ (by omega)] at hM
      refine ⟨k + 1, ?_, ?_, ⟨by omega, hM, hB⟩, by omega⟩
      · exact (Sub.cons rfl (Sub.nil _))
      · repeat (first | exact Sub.nil _ | refine Sub.cons rfl ?_)
    ·
      refine W.exit ?_
      refine thenP_exit ?_
      refine thenP_exit ?_
      refine inBlk_exit ?_
      refine thenP_normal ?_
      refine W.seqR ?_
      refine LS.vv rfl rfl (by decide) (Val.move rfl) ?_
      refine LS.vv rfl rfl (by decide) (Val.assign rfl) ?_
      refine LS.vv rfl rfl (by decide) (Val.cast (v := .int .i64 ((0 : Nat) : Int)) (Val.assign rfl) rfl) ?_
      refine LS.nil ?_
      refine W.ret ?_
      refine ret2 (by first | exact .inl rfl | exact .inr rfl) rfl rfl ?_
      first
        | exact ⟨none, 0, [], e, rfl, Own.nil _ _ _, he, fun h => by omega, hB⟩
        | (obtain rfl : k = L.length := (by omega)
           exact ⟨_, m + 1, wts L (m + 1) L.length, 0, (by rw [wts_len]), (by rw [wts_len]; exact hM.o0), ⟨fun _ => hok, fun _ => rfl⟩, fun _ => ⟨wts_len _ _ _, fun j hj => by rw [wts_gn L hj, List.take_length]; exact cntW_perm hL1 j⟩, hB⟩)

theorem odd_any (a b : Nat) (w0 : World) (ha : a < 4294967296) (hb : b < 4294967296) :
    CallsV Try.prog 21 #[.int .u32 (a : Int), .int .u32 (b : Int)] w0 (fun v w => v = .bool (od a b) ∧ Below w0.heap.size w0 w) := by
  refine enter1 Try.func21 rfl Try.ntmps21 (by simp) rfl ?_
  have hB := Below.refl w0.heap.size w0
  simp only [argLoc, Nat.zero_add]
  have han : a &&& b < 2 ^ 32 := Nat.and_lt_two_pow _ (by omega)
  have hpc : popc (a &&& b) ≤ 32 := popTo_le _ 32
  refine W.seqR ?_
  refine LS.vv rfl rfl (by decide) (Val.assign rfl) ?_
  refine LS.nil ?_
  refine W.seqR ?_
  refine LS.vv rfl rfl (by decide) (Val.move rfl) ?_
  refine LS.vv rfl rfl (by decide) (Val.move rfl) ?_
  refine LS.vv rfl rfl (by decide) (Val.andU32 rfl rfl (by omega) (by omega)) ?_
  refine LS.m rfl (Step.call body17 rfl rfl (by decide) rfl (CallsV.mono (size_any _ _ (by omega)) ?_))
  rintro _ w1 ⟨rfl, hb1⟩
  replace hB := hB.trans (hb1.mono hB.size)
  first | refine LS.vv rfl rfl (by decide) (Val.remN (j := 2) rfl rfl (by omega)) ?_ | refine LS.vv rfl rfl (by decide) (Val.rem rfl rfl (by omega) (by omega)) ?_ | refine LS.vv rfl rfl (by decide) (Val.remT rfl rfl (by omega)) ?_
  refine LS.vv rfl rfl (by decide) (Val.eql rfl rfl) ?_
  refine LS.vv rfl rfl (by decide) (Val.assign rfl) ?_
  refine LS.nil ?_
  refine W.ret ?_
  refine ret1 (by first | exact .inl rfl | exact .inr rfl) rfl ?_
  refine ⟨congrArg Value.bool ?_, hB⟩
  unfold od
  rw [decide_eq_decide]
  omega

theorem sumW_any (cs : List Nat) (p : Option Addr) (c : Nat) (q m : Nat) (w0 : World) (hr : Rd w0 p (uv cs)) (hl : cs.length ≤ 9223372036854775807) (hcs : ∀ x ∈ cs, x < 4294967296) (h8 : cs.length ≤ 8) (hm : m ≤ 12) (hcm : ∀ x ∈ cs, x < 2 ^ m) (hq : q < 4294967296) :
    CallsV Try.prog 39 #[.slice p cs.length c, .int .u32 (q : Int)] w0 (fun v w => v = .int .u32 (sumW cs q cs.length : Int) ∧ Below w0.heap.size w0 w) := by
  refine enter1 Try.func39 rfl Try.ntmps39 (by simp) rfl ?_
  have hB := Below.refl w0.heap.size w0
  simp only [argLoc, Nat.zero_add]
  have hM := Mem.nil w0 w0.heap.size
  have hI := spn_inv hcm
  have hp12 : 2 ^ m ≤ 2 ^ 12 := Nat.pow_le_pow_right (by omega) hm
  refine W.seqR ?_
  refine LS.vv rfl rfl (by decide) (Val.cast (v := .int .u32 ((0 : Nat) : Int)) (Val.assign rfl) rfl) ?_
  refine LS.nil ?_
  refine W.seqR ?_
  refine LS.vv rfl rfl (by decide) (Val.cast (v := .int .u32 ((0 : Nat) : Int)) (Val.assign rfl) rfl) ?_
  refine LS.nil ?_
  refine W.seq ?_
  refine W.seqR ?_
  refine LS.vv rfl rfl (by decide) (Val.move rfl) ?_
  refine LS.vv rfl rfl (by decide) (Val.len Try.underlying32 rfl) ?_
  refine LS.vv rfl rfl (by decide) (Val.cast (v := .int .i64 ((0 : Nat) : Int)) (Val.move rfl) rfl) ?_
  refine LS.nil ?_
  refine W.block ?_
  refine W.loop (α := Nat) (fun k => [(5, .int .u32 (sumW cs q k : Int)), (10, .int .i64 (k : Int))]) [(1, _), (8, _), (9, _)] (fun k w => (k ≤ cs.length) ∧ Mem w w0.heap.size [] ∧ Below w0.heap.size w0 w) (fun k => cs.length - k) (0) (Sub.cons rfl (Sub.cons rfl (Sub.nil _))) (Sub.cons rfl (Sub.cons rfl (Sub.cons rfl (Sub.nil _)))) ?_ ?_
  · exact ⟨Nat.zero_le _, hM, hB⟩
  rintro k w1 ⟨hk, hM, hB⟩
  try simp only at hM
  simp only [List.cons_append, List.nil_append]
  refine W.seqR ?_
  refine LS.vv rfl rfl (by decide) (Val.lss rfl rfl) ?_
  refine LS.nil ?_
  refine W.seq ?_
  first | refine W.condD rfl (fun hc1 => ?_) (fun hc1 => ?_) | refine W.cond rfl (fun hc1 => ?_) (fun hc1 => ?_)
  ·
    have hrk : gn cs k < 2 ^ m := hcm _ (by rw [gn_lt (show k < cs.length by omega)]; exact List.getElem_mem _)
    have hsk := hI.lt _ (hI.sum_mem q k (by omega))
    have hss := sumW_succ cs q k
    refine W.skip ?_
    refine thenP_normal ?_
    refine W.seq ?_
    refine W.block ?_
    refine W.seqR ?_
    refine LS.vv rfl rfl (by decide) (Val.move rfl) ?_
    refine LS.vv rfl rfl (by decide) (Val.index1 Try.underlying32 elem37 rfl rfl (by omega) ((hr.below hB)) (uv_lt (by omega))) ?_
    refine LS.m rfl (Step.load rfl rfl (by decide) flat37 rfl ((hr.below hB)) (uv_at (by omega)) ?_)
    refine LS.vv rfl rfl (by decide) (Val.assign rfl) ?_
    refine LS.vv rfl rfl (by decide) (Val.assign rfl) ?_
    refine LS.nil ?_
    refine W.seqR ?_
    refine LS.vv rfl rfl (by decide) (Val.move rfl) ?_
    refine LS.vv rfl rfl (by decide) (Val.move rfl) ?_
    refine LS.m rfl (Step.call body36 rfl rfl (by decide) rfl (CallsV.mono (bit_any q k _ hq (by omega)) ?_))
    rintro _ w2 ⟨rfl, hb2⟩
    replace hM := hM.below hb2
    replace hB := hB.trans (hb2.mono hB.size)
    refine LS.nil ?_
    first | refine W.condD rfl (fun hc2 => ?_) (fun hc2 => ?_) | refine W.cond rfl (fun hc2 => ?_) (fun hc2 => ?_)
    ·
      refine W.reg ?_
      refine LS.vv rfl rfl (by decide) (Val.move rfl) ?_
      refine LS.vv rfl rfl (by decide) (Val.move rfl) ?_
      refine LS.vv rfl rfl (by decide) (Val.xorU32 rfl rfl (by omega) (by omega)) ?_
      refine LS.vv rfl rfl (by decide) (Val.assign rfl) ?_
      refine LS.nil ?_
      refine inBlk_normal ?_
      refine thenP_normal ?_
      refine W.reg ?_
      first | refine LS.vv rfl rfl (by decide) (Val.addN (j := 1) rfl rfl (by omega)) ?_ | refine LS.vv rfl rfl (by decide) (Val.add64 rfl rfl (by omega)) ?_
      refine LS.vv rfl rfl (by decide) (Val.move rfl) ?_
      refine LS.nil ?_
      refine thenP_normal ?_
      refine ⟨k + 1, ?_, ?_, ⟨by omega, hM, hB⟩, by omega⟩
      · exact Sub.cons' rfl (by rw [hss]; first | rw [if_pos (by assumption)] | rw [if_neg (by simp_all)]) (Sub.cons rfl (Sub.nil _))
      · repeat (first | exact Sub.nil _ | refine Sub.cons rfl ?_)
    ·
      refine W.skip ?_
      refine inBlk_normal ?_
      refine thenP_normal ?_
      refine W.reg ?_
      first | refine LS.vv rfl rfl (by decide) (Val.addN (j := 1) rfl rfl (by omega)) ?_ | refine LS.vv rfl rfl (by decide) (Val.add64 rfl rfl (by omega)) ?_
      refine LS.vv rfl rfl (by decide) (Val.move rfl) ?_
      refine LS.nil ?_
      refine thenP_normal ?_
      refine ⟨k + 1, ?_, ?_, ⟨by omega, hM, hB⟩, by omega⟩
      · exact Sub.cons' rfl (by rw [hss]; first | rw [if_pos (by assumption)] | rw [if_neg (by simp_all)]) (Sub.cons rfl (Sub.nil _))
      · repeat (first | exact Sub.nil _ | refine Sub.cons rfl ?_)
  ·
    refine W.exit ?_
    refine thenP_exit ?_
    refine thenP_exit ?_
    refine inBlk_exit ?_
    refine thenP_normal ?_
    refine W.seqR ?_
    refine LS.vv rfl rfl (by decide) (Val.move rfl) ?_
    refine LS.vv rfl rfl (by decide) (Val.assign rfl) ?_
    refine LS.nil ?_
    refine W.ret ?_
    refine ret1 (by first | exact .inl rfl | exact .inr rfl) rfl ?_
    obtain rfl : k = cs.length := by omega
    exact ⟨rfl, hB⟩

theorem in_any (cs : List Nat) (p : Option Addr) (c : Nat) (x m : Nat) (w0 : World) (hr : Rd w0 p (uv cs)) (hl : cs.length ≤ 9223372036854775807) (hcs : ∀ x ∈ cs, x < 4294967296) (h8 : cs.length ≤ 8) (hm : m ≤ 12) (hcm : ∀ x ∈ cs, x < 2 ^ m) :
    CallsV Try.prog 22 #[.slice p cs.length c, .int .u32 (x : Int)] w0 (fun v w => ∃ b : Bool, v = .bool b ∧ (b = true ↔ x ∈ spn cs) ∧ Below w0.heap.size w0 w) := by
  refine enter1 Try.func22 rfl Try.ntmps22 (by simp) rfl ?_
  have hB := Below.refl w0.heap.size w0
  simp only [argLoc, Nat.zero_add]
  have hM := Mem.nil w0 w0.heap.size
  have hI := spn_inv hcm
  have hp8 : 1 <<< cs.length ≤ 256 := by { rw [Nat.one_shiftLeft]; exact Nat.pow_le_pow_right (n := 2) (i := cs.length) (j := 8) (by omega) h8 }
  refine W.seqR ?_
  refine LS.vv rfl rfl (by decide) (Val.assign rfl) ?_
  refine LS.nil ?_
  refine W.seq ?_
  refine W.seqR ?_
  refine LS.vv rfl rfl (by decide) (Val.cast (v := .int .u32 ((0 : Nat) : Int)) (Val.assign rfl) rfl) ?_
  refine LS.nil ?_
  refine W.block ?_
  refine W.loop (α := Nat) (fun k => [(5, .int .u32 (k : Int))]) [(0, _), (1, _)] (fun k w => (k ≤ 1 <<< cs.length ∧ ∀ j, j < k → sumW cs j cs.length ≠ x) ∧ Mem w w0.heap.size [] ∧ Below w0.heap.size w0 w) (fun k => (1 <<< cs.length) - k) (0) (Sub.cons rfl (Sub.nil _)) (Sub.cons rfl (Sub.cons rfl (Sub.nil _))) ?_ ?_
  · exact ⟨⟨Nat.zero_le _, fun j h => absurd h (by omega)⟩, hM, hB⟩
  rintro k w1 ⟨⟨hk, hall⟩, hM, hB⟩
  try simp only at hM
  simp only [List.cons_append, List.nil_append]
  refine W.seq ?_
  refine W.seqR ?_
  refine LS.vv rfl rfl (by decide) (Val.move rfl) ?_
  refine LS.vv rfl rfl (by decide) (Val.move rfl) ?_
  refine LS.vv rfl rfl (by decide) (Val.len Try.underlying32 rfl) ?_
  refine LS.vv rfl rfl (by decide) (Val.conv rfl Try.underlying3 Try.underlying26 (IntWalk.u64_in _ (by omega))) ?_
  refine LS.vv rfl rfl (by decide) (Val.shlU32 (i := 1) rfl rfl (by omega) (by omega)) ?_
  refine LS.vv rfl rfl (by decide) (Val.lss rfl rfl) ?_
  refine LS.nil ?_
  first | refine W.condD rfl (fun hc1 => ?_) (fun hc1 => ?_) | refine W.cond rfl (fun hc1 => ?_) (fun hc1 => ?_)
  ·
    refine W.skip ?_
    refine thenP_normal ?_
    refine W.seq ?_
    refine W.block ?_
    refine W.seqR ?_
    refine LS.vv rfl rfl (by decide) (Val.move rfl) ?_
    refine LS.vv rfl rfl (by decide) (Val.move rfl) ?_
    refine LS.m rfl (Step.call body39 rfl rfl (by decide) rfl (CallsV.mono (sumW_any cs _ _ k m _ (hr.below hB) hl hcs h8 hm hcm (by omega)) ?_))
    rintro _ w2 ⟨rfl, hb2⟩
    replace hM := hM.below hb2
    replace hB := hB.trans (hb2.mono hB.size)
    refine LS.vv rfl rfl (by decide) (Val.move rfl) ?_
    refine LS.vv rfl rfl (by decide) (Val.eql rfl rfl) ?_
    refine LS.nil ?_
    first | refine W.condD rfl (fun hc2 => ?_) (fun hc2 => ?_) | refine W.cond rfl (fun hc2 => ?_) (fun hc2 => ?_)
    ·
      refine W.seqR ?_
      refine LS.vv rfl rfl (by decide) (Val.assign rfl) ?_
      refine LS.nil ?_
      refine W.ret ?_
      refine inBlk_ret ?_
      refine thenP_ret ?_
      refine thenP_ret ?_
      refine inBlk_ret ?_
      refine thenP_ret ?_
      refine ret1 (by first | exact .inl rfl | exact .inr rfl) rfl ?_
      first
        | (have hxe : sumW cs k cs.length = x := (by omega)
           exact ⟨true, rfl, ⟨fun _ => by rw [← hxe]; exact hI.sum_mem k _ (Nat.le_refl _), fun _ => rfl⟩, hB⟩)
        | (refine ⟨false, rfl, ⟨fun h => (by cases h), fun h => ?_⟩, hB⟩
           obtain ⟨q, hq1, hq2⟩ := hI.sums x h
           rw [← Nat.one_shiftLeft] at hq1
           exact absurd hq2 (hall q (by omega)))
    ·
      refine W.skip ?_
      refine inBlk_normal ?_
      refine thenP_normal ?_
      refine W.reg ?_
      refine LS.vv rfl rfl (by decide) (Val.move rfl) ?_
      first | refine LS.vv rfl rfl (by decide) (Val.addNU32 (j := 1) rfl rfl (by omega)) ?_ | refine LS.vv rfl rfl (by decide) (Val.addU32 rfl rfl (by omega)) ?_
      refine LS.vv rfl rfl (by decide) (Val.assign rfl) ?_
      refine LS.nil ?_
      refine thenP_normal ?_
      refine ⟨k + 1, ?_, ?_, ⟨⟨by omega, fun j hj => ?_⟩, hM, hB⟩, by omega⟩
      · exact (Sub.cons rfl (Sub.nil _))
      · repeat (first | exact Sub.nil _ | refine Sub.cons rfl ?_)
      · by_cases e : j = k
        · subst e; omega
        · exact hall j (by omega)
  ·
    refine W.exit ?_
    refine thenP_exit ?_
    refine thenP_exit ?_
    refine inBlk_exit ?_
    refine thenP_normal ?_
    refine W.seqR ?_
    refine LS.vv rfl rfl (by decide) (Val.assign rfl) ?_
    refine LS.nil ?_
    refine W.ret ?_
    refine ret1 (by first | exact .inl rfl | exact .inr rfl) rfl ?_
    first
      | (have hxe : sumW cs k cs.length = x := (by omega)
         exact ⟨true, rfl, ⟨fun _ => by rw [← hxe]; exact hI.sum_mem k _ (Nat.le_refl _), fun _ => rfl⟩, hB⟩)
      | (refine ⟨false, rfl, ⟨fun h => (by cases h), fun h => ?_⟩, hB⟩
         obtain ⟨q, hq1, hq2⟩ := hI.sums x h
         rw [← Nat.one_shiftLeft] at hq1
         exact absurd hq2 (hall q (by omega)))

end Go.Proofs.Ytjmpkmomlpgbdaa
