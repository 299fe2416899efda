/-
  The walk of ship.Play, second.
-/
import Derived.Test.YtldcpihjoakigaaShip
namespace Go.Proofs.Ytldcpihjoakigaa
open Go Go.RowKit V
set_option linter.unusedVariables false
set_option linter.unusedSimpArgs false

theorem body22 : Body Try.prog 22 := ⟨_, Try.func22, by kernel_rfl, rfl⟩
theorem body23 : Body Try.prog 23 := ⟨_, Try.func23, by kernel_rfl, rfl⟩
theorem lcode4 {s : SL} : lcode s 4 = 0 → s.put < s.got := by unfold lcode; simp only [if_true]; rw [if_neg (by decide), if_neg (by decide)]; split <;> omega
theorem lcode4' {s : SL} (h : s.put < s.got) : lcode s 4 = 0 := by unfold lcode; simp only [if_true]; rw [if_neg (by decide), if_neg (by decide), if_pos h]
theorem ldo_put {s : SL} (h : s.put < s.got) : ldo s 4 = { s with put := s.put + 1 } := by unfold ldo; simp only [if_true]; rw [if_neg (by decide), if_neg (by decide), if_pos h]
theorem sst_w {s : SS} {x : St} (h : x.kind = 1) (hb : Kept x) : sst s x = ⟨{ s.l with wr := s.l.wr ++ [x] }, s.main.set x.block.toNat x.val, s.other, s.codes ++ [0]⟩ := by unfold sst; rw [if_pos h, if_pos hb]
theorem sst_wn {s : SS} {x : St} (h : x.kind = 1) (hb : ¬ Kept x) : sst s x = ⟨s.l, s.main, s.other, s.codes ++ [2]⟩ := by unfold sst; rw [if_pos h, if_neg hb]
theorem sst_put {s : SS} {x : St} (h : x.kind = 4) (hp : s.l.put < s.l.got) : sst s x = ⟨ldo s.l x.kind, s.main, s.other.set (gS s.l.wr s.l.put).block.toNat (gS s.l.wr s.l.put).val, s.codes ++ [lcode s.l x.kind]⟩ := by unfold sst; rw [if_neg (by omega), if_pos ⟨h, hp⟩]
theorem sst_do {s : SS} {x : St} (h : x.kind ≠ 1) (hp : ¬ (x.kind = 4 ∧ lcode s.l x.kind = 0)) : sst s x = ⟨ldo s.l x.kind, s.main, s.other, s.codes ++ [lcode s.l x.kind]⟩ := by
  unfold sst; rw [if_neg h, if_neg]
  rintro ⟨h1, h2⟩
  exact hp ⟨h1, by rw [h1]; exact lcode4' h2⟩
theorem ldo_wr (s : SL) (k : Int) : (ldo s k).wr = s.wr := by
  unfold ldo; repeat' split
  all_goals rfl
theorem lnc_w {s : SL} {x : St} {pw p : Option Addr} {cw c : Nat} : (lnc s pw cw).set 1 (.slice p (s.wr.length + 1) c) = lnc { s with wr := s.wr ++ [x] } p c := by simp [lnc]
theorem gS_mem {l : List St} {k : Nat} (h : k < l.length) : gS l k ∈ l := by rw [gS_lt h]; exact List.getElem_mem h

theorem told_any (s : SL) (pw : Option Addr) (cw g : Nat) (w0 : World) (hr : Rd w0 (some ⟨g, 0, none⟩) (lnc s pw cw)) :
    CallsV Try.prog 23 #[.pointer (some ⟨g, 0, none⟩)] w0 (fun v w => v = .int .i64 (stold s : Int) ∧ Below w0.heap.size w0 w) := by
  refine enter1 Try.func23 rfl Try.ntmps23 (by simp) rfl ?_
  have hB := Below.refl w0.heap.size w0
  simp only [argLoc]
  have hM := Mz.nil w0 w0.heap.size
  refine W.seqR ?_
  refine LS.vv rfl rfl (by decide) (Val.cast (v := .int .i64 ((0 : Nat) : Int)) (Val.assign rfl) rfl) ?_
  refine LS.nil ?_
  refine W.seq ?_
  refine W.seqR ?_
  refine LS.vv rfl rfl (by decide) (Val.move rfl) ?_
  first | refine LS.vv rfl rfl (by decide) (Val.nilCheck rfl) ?_ | refine LS.vv rfl rfl (by decide) (Val.nilCheckP rfl) ?_
  refine LS.vv rfl rfl (by decide) (Val.fieldAddr0 fld67_0 rfl) ?_
  refine LS.m rfl (Step.load rfl rfl (by decide) flat3 rfl ((hr.below hB)) (rfl) ?_)
  refine LS.vv rfl rfl (by decide) (Val.eql rfl rfl) ?_
  refine LS.nil ?_
  first | refine W.condD rfl (fun hc1 => ?_) (fun hc1 => ?_) | refine W.cond rfl (fun hc1 => ?_) (fun hc1 => ?_)
  ·
    refine W.seqR ?_
    refine LS.vv rfl rfl (by decide) (Val.move rfl) ?_
    first | refine LS.vv rfl rfl (by decide) (Val.nilCheck rfl) ?_ | refine LS.vv rfl rfl (by decide) (Val.nilCheckP rfl) ?_
    refine LS.vv rfl rfl (by decide) (Val.fieldAddr0 fld67_1 rfl) ?_
    refine LS.m rfl (Step.load rfl rfl (by decide) flat37 rfl ((hr.below hB)) (rfl) ?_)
    refine LS.vv rfl rfl (by decide) (Val.len Try.underlying37 rfl) ?_
    refine LS.vv rfl rfl (by decide) (Val.assign rfl) ?_
    refine LS.nil ?_
    refine W.ret ?_
    refine thenP_ret ?_
    refine ret1 (by first | exact .inl rfl | exact .inr rfl) rfl ?_
    unfold stold
    rw [if_pos (by omega)]
    exact ⟨rfl, hB⟩
  ·
    refine W.skip ?_
    refine thenP_normal ?_
    refine W.seqR ?_
    refine LS.vv rfl rfl (by decide) (Val.move rfl) ?_
    first | refine LS.vv rfl rfl (by decide) (Val.nilCheck rfl) ?_ | refine LS.vv rfl rfl (by decide) (Val.nilCheckP rfl) ?_
    refine LS.vv rfl rfl (by decide) (Val.fieldAddr0 fld67_5 rfl) ?_
    refine LS.m rfl (Step.load rfl rfl (by decide) flat3 rfl ((hr.below hB)) (rfl) ?_)
    refine LS.vv rfl rfl (by decide) (Val.assign rfl) ?_
    refine LS.nil ?_
    refine W.ret ?_
    refine ret1 (by first | exact .inl rfl | exact .inr rfl) rfl ?_
    unfold stold
    rw [if_neg (by omega)]
    exact ⟨rfl, hB⟩

theorem clip_any (p : Option Addr) (m c : Nat) (w0 : World) (hc : m ≤ c) :
    CallsV Try.prog 24 #[.slice p m c] w0 (fun v w => v = .slice p m m ∧ Below w0.heap.size w0 w) := by
  refine enter1 Try.func24 rfl Try.ntmps24 (by simp) rfl ?_
  have hB := Below.refl w0.heap.size w0
  simp only [argLoc]
  refine W.seqR ?_
  refine LS.vv rfl rfl (by decide) (Val.assign rfl) ?_
  refine LS.nil ?_
  refine W.seqR ?_
  refine LS.vv rfl rfl (by decide) (Val.move rfl) ?_
  refine LS.vv rfl rfl (by decide) (Val.move rfl) ?_
  refine LS.vv rfl rfl (by decide) (Val.len Try.underlying31 rfl) ?_
  refine LS.vv rfl rfl (by decide) (Val.move rfl) ?_
  refine LS.vv rfl rfl (by decide) (Val.len Try.underlying31 rfl) ?_
  refine LS.vv rfl rfl (by decide) (Val.sliceToMax Try.underlying31 elem5 rfl rfl rfl (by omega)) ?_
  refine LS.vv rfl rfl (by decide) (Val.assign rfl) ?_
  refine LS.nil ?_
  refine W.ret ?_
  refine ret1 (by first | exact .inl rfl | exact .inr rfl) rfl ?_
  exact ⟨rfl, hB⟩

theorem Play_any (mode : Int) (l : List St) (p : Option Addr) (c m : Nat) (w0 : World) (hr : Rd w0 p (sv l)) (hm : l.length = m) (hl : m ≤ 9223372036854775807) :
    CallsV Try.prog 13 #[.int .i64 mode, .slice p m c] w0 (fun v w => ∃ (pc pm po : Option Addr) (cc cm co nc nm e told got put : Nat) (C MM OO : List Nat), v = .tuple #[.agg #[.slice pc nc cc, .int .i64 (told : Int), .int .i64 (got : Int), .int .i64 (put : Int), .slice pm nm cm, .slice po nm co], .int .i64 (e : Int)] ∧ (e = 0 ↔ 1 ≤ mode ∧ mode ≤ 3 ∧ m ≤ 100) ∧ Mz w w0.heap.size [⟨22, 1, pc, nc, cc, nv C⟩, ⟨5, 1, pm, nm, cm, yv MM⟩, ⟨5, 1, po, nm, co, yv OO⟩] ∧
      (e = 0 → told = stold (splay mode.toNat l).l ∧ got = (splay mode.toNat l).l.got ∧ put = (splay mode.toNat l).l.put ∧ C = (splay mode.toNat l).codes ∧ nc = m ∧ MM = (splay mode.toNat l).main ∧ nm = 8 ∧ OO = (splay mode.toNat l).other) ∧ (e ≠ 0 → nc = 0 ∧ nm = 0 ∧ told = 0) ∧ Below w0.heap.size w0 w) := by
  refine enterC2 Try.func13 rfl Try.ntmps13 (by simp) rfl ?_
  have hB := Below.refl w0.heap.size w0
  simp only [argLoc, Nat.zero_add]
  have hM := Mz.nil w0 w0.heap.size
  subst hm
  refine W.seqR ?_
  refine LS.m rfl (Step.allocZ rfl rfl (by decide) elem40 rfl (by decide) ?_)
  rintro w1 hO1 hg1 hbl1 hsz1
  replace hM := hM.add hB.size hbl1 hO1
  try simp only [List.length_cons, List.length_nil, Nat.zero_add, Nat.reduceAdd, Value.cells, List.toList_toArray, List.append_nil, List.set_cons_zero, List.set_cons_succ] at hM
  replace hB := hB.trans (hbl1.mono hB.size)
  skip
  refine LS.vv rfl rfl (by decide) (Val.cast (v := .int .i64 ((0 : Nat) : Int)) (Val.assign rfl) rfl) ?_
  refine LS.nil ?_
  refine W.seq ?_
  refine W.seqR ?_
  refine LS.vv rfl rfl (by decide) (Val.move rfl) ?_
  refine LS.vv rfl rfl (by decide) (Val.lss rfl rfl) ?_
  refine LS.vv rfl rfl (by decide) (Val.move rfl) ?_
  refine LS.split 2 rfl (fun hg1 => ?_) (fun hg1 => ?_)
  ·
    first | (have hg1p := of_decide_eq_true hg1) | skip
    refine LS.s rfl rfl rfl hg1 (by decide) ?_
    refine LS.s rfl rfl rfl hg1 (by decide) ?_
    refine LS.vv rfl rfl (by decide) (Val.pickT rfl hg1 rfl) ?_
    refine LS.nil ?_
    refine W.condT rfl ?_
    refine W.seqR ?_
    refine LS.vv rfl rfl (by decide) (Val.build str40 elem40 rfl rfl rfl) ?_
    refine LS.m rfl (Step.storeAgg0 (B := w0.heap.size) rfl rfl agg40 rfl rfl rfl (by decide) (by first | exact one_map _ (fun _ => rfl) _ | simp [Value.oneCell']) (hM.o0) rfl hB.size ?_)
    rintro w2 hO2 hg2 hbl2 hsz2
    replace hM := hM.s0 (e := _) hg2 hO2 inl_block
    try simp only [List.set_cons_zero, List.set_cons_succ] at hM
    replace hB := hB.trans hbl2
    refine LS.vv rfl rfl (by decide) (Val.cast (v := .int .i64 ((6 : Nat) : Int)) (Val.assign rfl) rfl) ?_
    refine LS.nil ?_
    refine W.ret ?_
    refine thenP_ret ?_
    refine retC2 (by first | exact .inl rfl | exact .inr rfl) rfl rfl agg40 (hM.o0.rd) rfl (by decide) ?_
    first | (refine ⟨none, none, none, 0, 0, 0, 0, 0, 6, 0, 0, 0, [], [], [], rfl, by omega, ((Mz.nil _ _).addNil 5 1 |>.addNil 5 1 |>.addNil 22 1), fun h => by omega, fun _ => ⟨rfl, rfl, rfl⟩, hB⟩; done) | (refine ⟨none, none, none, 0, 0, 0, 0, 0, 1, 0, 0, 0, [], [], [], rfl, by omega, ((Mz.nil _ _).addNil 5 1 |>.addNil 5 1 |>.addNil 22 1), fun h => by omega, fun _ => ⟨rfl, rfl, rfl⟩, hB⟩; done) | (obtain rfl : k = l.length := (by omega); simp only [List.take_length] at hM ⊢; exact ⟨pc, _, _, cc, 8, 8, l.length, 8, 0, _, _, _, _, _, _, rfl, by omega, hM, fun _ => ⟨rfl, rfl, rfl, rfl, rfl, rfl, rfl, rfl⟩, fun h => absurd rfl h, hB⟩)
  ·
    first | (have hg1p := of_decide_eq_false hg1) | skip
    refine LS.vg rfl rfl rfl hg1 (by decide) (Val.move rfl) ?_
    refine LS.vg rfl rfl rfl hg1 (by decide) (Val.gtr rfl rfl) ?_
    refine LS.vv rfl rfl (by decide) (Val.pickF rfl hg1 rfl) ?_
    refine LS.nil ?_
    first | refine W.condD rfl (fun hc2 => ?_) (fun hc2 => ?_) | refine W.cond rfl (fun hc2 => ?_) (fun hc2 => ?_)
    ·
      refine W.seqR ?_
      refine LS.vv rfl rfl (by decide) (Val.build str40 elem40 rfl rfl rfl) ?_
      refine LS.m rfl (Step.storeAgg0 (B := w0.heap.size) rfl rfl agg40 rfl rfl rfl (by decide) (by first | exact one_map _ (fun _ => rfl) _ | simp [Value.oneCell']) (hM.o0) rfl hB.size ?_)
      rintro w3 hO3 hg3 hbl3 hsz3
      replace hM := hM.s0 (e := _) hg3 hO3 inl_block
      try simp only [List.set_cons_zero, List.set_cons_succ] at hM
      replace hB := hB.trans hbl3
      refine LS.vv rfl rfl (by decide) (Val.cast (v := .int .i64 ((6 : Nat) : Int)) (Val.assign rfl) rfl) ?_
      refine LS.nil ?_
      refine W.ret ?_
      refine thenP_ret ?_
      refine retC2 (by first | exact .inl rfl | exact .inr rfl) rfl rfl agg40 (hM.o0.rd) rfl (by decide) ?_
      first | (refine ⟨none, none, none, 0, 0, 0, 0, 0, 6, 0, 0, 0, [], [], [], rfl, by omega, ((Mz.nil _ _).addNil 5 1 |>.addNil 5 1 |>.addNil 22 1), fun h => by omega, fun _ => ⟨rfl, rfl, rfl⟩, hB⟩; done) | (refine ⟨none, none, none, 0, 0, 0, 0, 0, 1, 0, 0, 0, [], [], [], rfl, by omega, ((Mz.nil _ _).addNil 5 1 |>.addNil 5 1 |>.addNil 22 1), fun h => by omega, fun _ => ⟨rfl, rfl, rfl⟩, hB⟩; done) | (obtain rfl : k = l.length := (by omega); simp only [List.take_length] at hM ⊢; exact ⟨pc, _, _, cc, 8, 8, l.length, 8, 0, _, _, _, _, _, _, rfl, by omega, hM, fun _ => ⟨rfl, rfl, rfl, rfl, rfl, rfl, rfl, rfl⟩, fun h => absurd rfl h, hB⟩)
    ·
      refine W.skip ?_
      refine thenP_normal ?_
      refine W.seq ?_
      refine W.seqR ?_
      refine LS.vv rfl rfl (by decide) (Val.move rfl) ?_
      refine LS.vv rfl rfl (by decide) (Val.len Try.underlying37 rfl) ?_
      refine LS.vv rfl rfl (by decide) (Val.gtr rfl rfl) ?_
      refine LS.nil ?_
      first | refine W.condD rfl (fun hc3 => ?_) (fun hc3 => ?_) | refine W.cond rfl (fun hc3 => ?_) (fun hc3 => ?_)
      ·
        refine W.seqR ?_
        refine LS.vv rfl rfl (by decide) (Val.build str40 elem40 rfl rfl rfl) ?_
        refine LS.m rfl (Step.storeAgg0 (B := w0.heap.size) rfl rfl agg40 rfl rfl rfl (by decide) (by first | exact one_map _ (fun _ => rfl) _ | simp [Value.oneCell']) (hM.o0) rfl hB.size ?_)
        rintro w4 hO4 hg4 hbl4 hsz4
        replace hM := hM.s0 (e := _) hg4 hO4 inl_block
        try simp only [List.set_cons_zero, List.set_cons_succ] at hM
        replace hB := hB.trans hbl4
        refine LS.vv rfl rfl (by decide) (Val.cast (v := .int .i64 ((1 : Nat) : Int)) (Val.assign rfl) rfl) ?_
        refine LS.nil ?_
        refine W.ret ?_
        refine thenP_ret ?_
        refine retC2 (by first | exact .inl rfl | exact .inr rfl) rfl rfl agg40 (hM.o0.rd) rfl (by decide) ?_
        first | (refine ⟨none, none, none, 0, 0, 0, 0, 0, 6, 0, 0, 0, [], [], [], rfl, by omega, ((Mz.nil _ _).addNil 5 1 |>.addNil 5 1 |>.addNil 22 1), fun h => by omega, fun _ => ⟨rfl, rfl, rfl⟩, hB⟩; done) | (refine ⟨none, none, none, 0, 0, 0, 0, 0, 1, 0, 0, 0, [], [], [], rfl, by omega, ((Mz.nil _ _).addNil 5 1 |>.addNil 5 1 |>.addNil 22 1), fun h => by omega, fun _ => ⟨rfl, rfl, rfl⟩, hB⟩; done) | (obtain rfl : k = l.length := (by omega); simp only [List.take_length] at hM ⊢; exact ⟨pc, _, _, cc, 8, 8, l.length, 8, 0, _, _, _, _, _, _, rfl, by omega, hM, fun _ => ⟨rfl, rfl, rfl, rfl, rfl, rfl, rfl, rfl⟩, fun h => absurd rfl h, hB⟩)
      ·
        refine W.skip ?_
        refine thenP_normal ?_
        refine W.seqR ?_
        obtain ⟨M, rfl⟩ := Int.eq_ofNat_of_zero_le (show 0 ≤ mode by omega)
        refine LS.vv rfl rfl (by decide) (Val.move rfl) ?_
        refine LS.vv rfl rfl (by decide) (Val.build str67 elem67 rfl rfl rfl) ?_
        refine LS.m rfl (Step.boxZ rfl rfl (by decide) rfl rfl ?_)
        rintro w5 hO5 hg5 hbl5 hsz5
        replace hM := hM.add hB.size hbl5 hO5
        try simp only [List.length_cons, List.length_nil, Nat.zero_add, Nat.reduceAdd, Value.cells, List.toList_toArray, List.append_nil, List.set_cons_zero, List.set_cons_succ] at hM
        replace hB := hB.trans (hbl5.mono hB.size)
        generalize w1.heap.size = gg5 at *
        refine LS.vv rfl rfl (by decide) (Val.assign rfl) ?_
        refine LS.nil ?_
        refine W.mid (α := Nat × Nat × Nat) (fun g => [(7, .pointer (some ⟨g.1, 0, none⟩))]) [(1, _), (4, _), (6, _)] (fun g w => (True) ∧ Mz w w0.heap.size [⟨40, 6, some ⟨g.1, 0, none⟩, 1, 1, [.slice none 0 0, .int .i64 0, .int .i64 0, .int .i64 0, .slice (some ⟨g.2.1, 0, none⟩) 8 8, .slice (some ⟨g.2.2, 0, none⟩) 8 8]⟩, ⟨5, 1, some ⟨g.2.1, 0, none⟩, 8, 8, yv (List.replicate 8 0)⟩, ⟨5, 1, some ⟨g.2.2, 0, none⟩, 8, 8, yv (List.replicate 8 0)⟩, ⟨67, 6, some ⟨gg5, 0, none⟩, 1, 1, lnc (sinit M).l none 0⟩, ⟨40, 6, some ⟨w0.heap.size, 0, none⟩, 1, 1, [.slice none 0 0, .int .i64 0, .int .i64 0, .int .i64 0, .slice none 0 0, .slice none 0 0]⟩] ∧ Below w0.heap.size w0 w) (Sub.cons rfl (Sub.cons rfl (Sub.cons rfl (Sub.nil _)))) ?_ ?_
        ·
          refine W.regT (S := fun w => Below w0.heap.size w0 w) (.three (.mem 0 (.two (.mem 1 (.val 2 (.mem 3 (.mem 4 (.done))))) (.mem 3 (.mem 1 (.val 2 (.mem 4 (.done))))))) (.mem 1 (.two (.mem 0 (.val 2 (.mem 3 (.mem 4 (.done))))) (.mem 3 (.mem 0 (.val 2 (.mem 4 (.done))))))) (.mem 3 (.two (.mem 0 (.mem 1 (.val 2 (.mem 4 (.done))))) (.mem 1 (.mem 0 (.val 2 (.mem 4 (.done)))))))) mixed (by kernel_rfl) hB.drew ?_
          replace hB := hB.drew
          replace hM := hM.drew
          refine DT.three ?_ ?_ ?_
          ·
            refine DT.m rfl rfl (Step.makeZ (m := 8) rfl rfl (by decide) Try.underlying31 elem5 rfl rfl (by omega) (by omega) (made_one rfl _) ?_)
            rintro w6 hO6 hg6 hbl6
            replace hM := hM.add hB.size hbl6 hO6
            try simp only [yv_app1, yv_app, yv_set, yv_rep, yv_one, yv_cons, yv_take, yv_drop, List.nil_append] at hM
            replace hB := hB.trans (hbl6.mono hB.size)
            generalize w5.drew.heap.size = gg6 at *
            refine ⟨hB, ?_⟩
            refine DT.two ?_ ?_
            ·
              refine DT.m rfl rfl (Step.makeZ (m := 8) rfl rfl (by decide) Try.underlying31 elem5 rfl rfl (by omega) (by omega) (made_one rfl _) ?_)
              rintro w7 hO7 hg7 hbl7
              replace hM := hM.add hB.size hbl7 hO7
              try simp only [yv_app1, yv_app, yv_set, yv_rep, yv_one, yv_cons, yv_take, yv_drop, List.nil_append] at hM
              replace hB := hB.trans (hbl7.mono hB.size)
              generalize w6.heap.size = gg7 at *
              refine ⟨hB, ?_⟩
              refine DT.vv rfl rfl rfl (by decide) (Val.build str40 elem40 rfl rfl rfl) ?_
              refine DT.m rfl rfl (Step.allocZ rfl rfl (by decide) elem40 rfl (by decide) ?_)
              rintro w8 hO8 hg8 hbl8 hsz8
              replace hM := hM.add hB.size hbl8 hO8
              try simp only [List.length_cons, List.length_nil, Nat.zero_add, Nat.reduceAdd, Value.cells, List.toList_toArray, List.append_nil, List.set_cons_zero, List.set_cons_succ] at hM
              replace hB := hB.trans (hbl8.mono hB.size)
              generalize w7.heap.size = gg8 at *
              refine ⟨hB, ?_⟩
              refine DT.m rfl rfl (Step.storeAgg0 (B := w0.heap.size) rfl rfl agg40 rfl rfl rfl (by decide) (by first | exact one_map _ (fun _ => rfl) _ | simp [Value.oneCell']) (hM.o0) rfl hB.size ?_)
              rintro w9 hO9 hg9 hbl9 hsz9
              replace hM := hM.s0 (e := _) hg9 hO9 inl_block
              try simp only [List.set_cons_zero, List.set_cons_succ] at hM
              replace hB := hB.trans hbl9
              refine ⟨hB, ?_⟩
              refine DT.nil ?_
              refine thenP_normal ?_
              replace hM := hM.sw1
              refine ⟨(gg8, gg6, gg7), ?_, ?_, ⟨trivial, hM, hB⟩⟩
              · exact (Sub.cons rfl (Sub.nil _))
              · repeat (first | exact Sub.nil _ | refine Sub.cons rfl ?_)
            ·
              refine DT.m rfl rfl (Step.allocZ rfl rfl (by decide) elem40 rfl (by decide) ?_)
              rintro w10 hO10 hg10 hbl10 hsz10
              replace hM := hM.add hB.size hbl10 hO10
              try simp only [List.length_cons, List.length_nil, Nat.zero_add, Nat.reduceAdd, Value.cells, List.toList_toArray, List.append_nil, List.set_cons_zero, List.set_cons_succ] at hM
              replace hB := hB.trans (hbl10.mono hB.size)
              generalize w6.heap.size = gg10 at *
              refine ⟨hB, ?_⟩
              refine DT.m rfl rfl (Step.makeZ (m := 8) rfl rfl (by decide) Try.underlying31 elem5 rfl rfl (by omega) (by omega) (made_one rfl _) ?_)
              rintro w11 hO11 hg11 hbl11
              replace hM := hM.add hB.size hbl11 hO11
              try simp only [yv_app1, yv_app, yv_set, yv_rep, yv_one, yv_cons, yv_take, yv_drop, List.nil_append] at hM
              replace hB := hB.trans (hbl11.mono hB.size)
              generalize w10.heap.size = gg11 at *
              refine ⟨hB, ?_⟩
              refine DT.vv rfl rfl rfl (by decide) (Val.build str40 elem40 rfl rfl rfl) ?_
              refine DT.m rfl rfl (Step.storeAgg0 (B := w0.heap.size) rfl rfl agg40 rfl rfl rfl (by decide) (by first | exact one_map _ (fun _ => rfl) _ | simp [Value.oneCell']) (hM.o1) rfl hB.size ?_)
              rintro w12 hO12 hg12 hbl12 hsz12
              replace hM := hM.s1 (e := _) hg12 hO12 inl_block
              try simp only [List.set_cons_zero, List.set_cons_succ] at hM
              replace hB := hB.trans hbl12
              refine ⟨hB, ?_⟩
              refine DT.nil ?_
              refine thenP_normal ?_
              replace hM := hM.sw0.sw1
              refine ⟨(gg10, gg6, gg11), ?_, ?_, ⟨trivial, hM, hB⟩⟩
              · exact (Sub.cons rfl (Sub.nil _))
              · repeat (first | exact Sub.nil _ | refine Sub.cons rfl ?_)
          ·
            refine DT.m rfl rfl (Step.makeZ (m := 8) rfl rfl (by decide) Try.underlying31 elem5 rfl rfl (by omega) (by omega) (made_one rfl _) ?_)
            rintro w13 hO13 hg13 hbl13
            replace hM := hM.add hB.size hbl13 hO13
            try simp only [yv_app1, yv_app, yv_set, yv_rep, yv_one, yv_cons, yv_take, yv_drop, List.nil_append] at hM
            replace hB := hB.trans (hbl13.mono hB.size)
            generalize w5.drew.heap.size = gg13 at *
            refine ⟨hB, ?_⟩
            refine DT.two ?_ ?_
            ·
              refine DT.m rfl rfl (Step.makeZ (m := 8) rfl rfl (by decide) Try.underlying31 elem5 rfl rfl (by omega) (by omega) (made_one rfl _) ?_)
              rintro w14 hO14 hg14 hbl14
              replace hM := hM.add hB.size hbl14 hO14
              try simp only [yv_app1, yv_app, yv_set, yv_rep, yv_one, yv_cons, yv_take, yv_drop, List.nil_append] at hM
              replace hB := hB.trans (hbl14.mono hB.size)
              generalize w13.heap.size = gg14 at *
              refine ⟨hB, ?_⟩
              refine DT.vv rfl rfl rfl (by decide) (Val.build str40 elem40 rfl rfl rfl) ?_
              refine DT.m rfl rfl (Step.allocZ rfl rfl (by decide) elem40 rfl (by decide) ?_)
              rintro w15 hO15 hg15 hbl15 hsz15
              replace hM := hM.add hB.size hbl15 hO15
              try simp only [List.length_cons, List.length_nil, Nat.zero_add, Nat.reduceAdd, Value.cells, List.toList_toArray, List.append_nil, List.set_cons_zero, List.set_cons_succ] at hM
              replace hB := hB.trans (hbl15.mono hB.size)
              generalize w14.heap.size = gg15 at *
              refine ⟨hB, ?_⟩
              refine DT.m rfl rfl (Step.storeAgg0 (B := w0.heap.size) rfl rfl agg40 rfl rfl rfl (by decide) (by first | exact one_map _ (fun _ => rfl) _ | simp [Value.oneCell']) (hM.o0) rfl hB.size ?_)
              rintro w16 hO16 hg16 hbl16 hsz16
              replace hM := hM.s0 (e := _) hg16 hO16 inl_block
              try simp only [List.set_cons_zero, List.set_cons_succ] at hM
              replace hB := hB.trans hbl16
              refine ⟨hB, ?_⟩
              refine DT.nil ?_
              refine thenP_normal ?_
              refine ⟨(gg15, gg14, gg13), ?_, ?_, ⟨trivial, hM, hB⟩⟩
              · exact (Sub.cons rfl (Sub.nil _))
              · repeat (first | exact Sub.nil _ | refine Sub.cons rfl ?_)
            ·
              refine DT.m rfl rfl (Step.allocZ rfl rfl (by decide) elem40 rfl (by decide) ?_)
              rintro w17 hO17 hg17 hbl17 hsz17
              replace hM := hM.add hB.size hbl17 hO17
              try simp only [List.length_cons, List.length_nil, Nat.zero_add, Nat.reduceAdd, Value.cells, List.toList_toArray, List.append_nil, List.set_cons_zero, List.set_cons_succ] at hM
              replace hB := hB.trans (hbl17.mono hB.size)
              generalize w13.heap.size = gg17 at *
              refine ⟨hB, ?_⟩
              refine DT.m rfl rfl (Step.makeZ (m := 8) rfl rfl (by decide) Try.underlying31 elem5 rfl rfl (by omega) (by omega) (made_one rfl _) ?_)
              rintro w18 hO18 hg18 hbl18
              replace hM := hM.add hB.size hbl18 hO18
              try simp only [yv_app1, yv_app, yv_set, yv_rep, yv_one, yv_cons, yv_take, yv_drop, List.nil_append] at hM
              replace hB := hB.trans (hbl18.mono hB.size)
              generalize w17.heap.size = gg18 at *
              refine ⟨hB, ?_⟩
              refine DT.vv rfl rfl rfl (by decide) (Val.build str40 elem40 rfl rfl rfl) ?_
              refine DT.m rfl rfl (Step.storeAgg0 (B := w0.heap.size) rfl rfl agg40 rfl rfl rfl (by decide) (by first | exact one_map _ (fun _ => rfl) _ | simp [Value.oneCell']) (hM.o1) rfl hB.size ?_)
              rintro w19 hO19 hg19 hbl19 hsz19
              replace hM := hM.s1 (e := _) hg19 hO19 inl_block
              try simp only [List.set_cons_zero, List.set_cons_succ] at hM
              replace hB := hB.trans hbl19
              refine ⟨hB, ?_⟩
              refine DT.nil ?_
              refine thenP_normal ?_
              replace hM := hM.sw0
              refine ⟨(gg17, gg18, gg13), ?_, ?_, ⟨trivial, hM, hB⟩⟩
              · exact (Sub.cons rfl (Sub.nil _))
              · repeat (first | exact Sub.nil _ | refine Sub.cons rfl ?_)
          ·
            refine DT.m rfl rfl (Step.allocZ rfl rfl (by decide) elem40 rfl (by decide) ?_)
            rintro w20 hO20 hg20 hbl20 hsz20
            replace hM := hM.add hB.size hbl20 hO20
            try simp only [List.length_cons, List.length_nil, Nat.zero_add, Nat.reduceAdd, Value.cells, List.toList_toArray, List.append_nil, List.set_cons_zero, List.set_cons_succ] at hM
            replace hB := hB.trans (hbl20.mono hB.size)
            generalize w5.drew.heap.size = gg20 at *
            refine ⟨hB, ?_⟩
            refine DT.two ?_ ?_
            ·
              refine DT.m rfl rfl (Step.makeZ (m := 8) rfl rfl (by decide) Try.underlying31 elem5 rfl rfl (by omega) (by omega) (made_one rfl _) ?_)
              rintro w21 hO21 hg21 hbl21
              replace hM := hM.add hB.size hbl21 hO21
              try simp only [yv_app1, yv_app, yv_set, yv_rep, yv_one, yv_cons, yv_take, yv_drop, List.nil_append] at hM
              replace hB := hB.trans (hbl21.mono hB.size)
              generalize w20.heap.size = gg21 at *
              refine ⟨hB, ?_⟩
              refine DT.m rfl rfl (Step.makeZ (m := 8) rfl rfl (by decide) Try.underlying31 elem5 rfl rfl (by omega) (by omega) (made_one rfl _) ?_)
              rintro w22 hO22 hg22 hbl22
              replace hM := hM.add hB.size hbl22 hO22
              try simp only [yv_app1, yv_app, yv_set, yv_rep, yv_one, yv_cons, yv_take, yv_drop, List.nil_append] at hM
              replace hB := hB.trans (hbl22.mono hB.size)
              generalize w21.heap.size = gg22 at *
              refine ⟨hB, ?_⟩
              refine DT.vv rfl rfl rfl (by decide) (Val.build str40 elem40 rfl rfl rfl) ?_
              refine DT.m rfl rfl (Step.storeAgg0 (B := w0.heap.size) rfl rfl agg40 rfl rfl rfl (by decide) (by first | exact one_map _ (fun _ => rfl) _ | simp [Value.oneCell']) (hM.o2) rfl hB.size ?_)
              rintro w23 hO23 hg23 hbl23 hsz23
              replace hM := hM.s2 (e := _) hg23 hO23 inl_block
              try simp only [List.set_cons_zero, List.set_cons_succ] at hM
              replace hB := hB.trans hbl23
              refine ⟨hB, ?_⟩
              refine DT.nil ?_
              refine thenP_normal ?_
              replace hM := hM.sw1.sw0.sw1
              refine ⟨(gg20, gg21, gg22), ?_, ?_, ⟨trivial, hM, hB⟩⟩
              · exact (Sub.cons rfl (Sub.nil _))
              · repeat (first | exact Sub.nil _ | refine Sub.cons rfl ?_)
            ·
              refine DT.m rfl rfl (Step.makeZ (m := 8) rfl rfl (by decide) Try.underlying31 elem5 rfl rfl (by omega) (by omega) (made_one rfl _) ?_)
              rintro w24 hO24 hg24 hbl24
              replace hM := hM.add hB.size hbl24 hO24
              try simp only [yv_app1, yv_app, yv_set, yv_rep, yv_one, yv_cons, yv_take, yv_drop, List.nil_append] at hM
              replace hB := hB.trans (hbl24.mono hB.size)
              generalize w20.heap.size = gg24 at *
              refine ⟨hB, ?_⟩
              refine DT.m rfl rfl (Step.makeZ (m := 8) rfl rfl (by decide) Try.underlying31 elem5 rfl rfl (by omega) (by omega) (made_one rfl _) ?_)
              rintro w25 hO25 hg25 hbl25
              replace hM := hM.add hB.size hbl25 hO25
              try simp only [yv_app1, yv_app, yv_set, yv_rep, yv_one, yv_cons, yv_take, yv_drop, List.nil_append] at hM
              replace hB := hB.trans (hbl25.mono hB.size)
              generalize w24.heap.size = gg25 at *
              refine ⟨hB, ?_⟩
              refine DT.vv rfl rfl rfl (by decide) (Val.build str40 elem40 rfl rfl rfl) ?_
              refine DT.m rfl rfl (Step.storeAgg0 (B := w0.heap.size) rfl rfl agg40 rfl rfl rfl (by decide) (by first | exact one_map _ (fun _ => rfl) _ | simp [Value.oneCell']) (hM.o2) rfl hB.size ?_)
              rintro w26 hO26 hg26 hbl26 hsz26
              replace hM := hM.s2 (e := _) hg26 hO26 inl_block
              try simp only [List.set_cons_zero, List.set_cons_succ] at hM
              replace hB := hB.trans hbl26
              refine ⟨hB, ?_⟩
              refine DT.nil ?_
              refine thenP_normal ?_
              replace hM := hM.sw1.sw0
              refine ⟨(gg20, gg25, gg24), ?_, ?_, ⟨trivial, hM, hB⟩⟩
              · exact (Sub.cons rfl (Sub.nil _))
              · repeat (first | exact Sub.nil _ | refine Sub.cons rfl ?_)
        ·
          rintro ⟨gs, gm, go⟩ w27 ⟨-, hM, hB⟩
          simp only [List.cons_append, List.nil_append]
          try simp only at hM
          refine W.seq ?_
          refine W.seqR ?_
          refine LS.vv rfl rfl (by decide) (Val.move rfl) ?_
          refine LS.vv rfl rfl (by decide) (Val.len Try.underlying37 rfl) ?_
          refine LS.vv rfl rfl (by decide) (Val.cast (v := .int .i64 ((0 : Nat) : Int)) (Val.move rfl) rfl) ?_
          refine LS.nil ?_
          refine W.block ?_
          replace hM := hM.addNil 45 4
          replace hM := hM.addNil 22 1
          replace hM := hM.sw1.sw0.sw2.sw1.sw3.sw2.sw4.sw3.sw5.sw4.sw5
          refine W.loop (α := Nat × Option Addr × Nat × Option Addr × Nat) (fun g => [(33, .int .i64 (g.1 : Int))]) [(4, _), (6, _), (7, _), (31, _), (32, _)] (fun g w => (g.1 ≤ l.length) ∧ Mz w w0.heap.size [⟨40, 6, some ⟨gs, 0, none⟩, 1, 1, [.slice g.2.2.2.1 g.1 g.2.2.2.2, .int .i64 0, .int .i64 0, .int .i64 0, .slice (some ⟨gm, 0, none⟩) 8 8, .slice (some ⟨go, 0, none⟩) 8 8]⟩, ⟨5, 1, some ⟨gm, 0, none⟩, 8, 8, yv (splay M (l.take g.1)).main⟩, ⟨5, 1, some ⟨go, 0, none⟩, 8, 8, yv (splay M (l.take g.1)).other⟩, ⟨67, 6, some ⟨gg5, 0, none⟩, 1, 1, lnc (splay M (l.take g.1)).l g.2.1 g.2.2.1⟩, ⟨40, 6, some ⟨w0.heap.size, 0, none⟩, 1, 1, [.slice none 0 0, .int .i64 0, .int .i64 0, .int .i64 0, .slice none 0 0, .slice none 0 0]⟩, ⟨45, 4, g.2.1, (splay M (l.take g.1)).l.wr.length, g.2.2.1, sv (splay M (l.take g.1)).l.wr⟩, ⟨22, 1, g.2.2.2.1, g.1, g.2.2.2.2, nv (splay M (l.take g.1)).codes⟩] ∧ Below w0.heap.size w0 w) (fun g => l.length - g.1) ((0, none, 0, none, 0)) (Sub.cons rfl (Sub.nil _)) (Sub.cons rfl (Sub.cons rfl (Sub.cons rfl (Sub.cons rfl (Sub.cons rfl (Sub.nil _)))))) ?_ ?_
          · exact ⟨Nat.zero_le _, hM, hB⟩
          rintro ⟨k, pw, cw, pc, cc⟩ w28 ⟨hk, hM, hB⟩
          try simp only at hM
          simp only [List.cons_append, List.nil_append]
          simp only at hk
          have hI := SI.all M (l.take k)
          have hwl : (splay M (l.take k)).l.wr.length ≤ k := by { have := splay_wr_len M (l.take k); rw [List.length_take] at this; omega }
          have hi1 := hI.put; have hi2 := hI.got; have hi3 := hI.sent
          have hml : (splay M (l.take k)).main.length = 8 := by { rw [hI.main, apply_len] }
          have hol : (splay M (l.take k)).other.length = 8 := by { rw [hI.other, apply_len] }
          have hcl : (splay M (l.take k)).codes.length = k := by { rw [splay_codes, List.length_take]; omega }
          refine W.seqR ?_
          refine LS.vv rfl rfl (by decide) (Val.lss rfl rfl) ?_
          refine LS.nil ?_
          refine W.seq ?_
          first | refine W.condD rfl (fun hc4 => ?_) (fun hc4 => ?_) | refine W.cond rfl (fun hc4 => ?_) (fun hc4 => ?_)
          ·
            refine W.skip ?_
            refine thenP_normal ?_
            refine W.seq ?_
            refine W.block ?_
            refine W.seqR ?_
            refine LS.vv rfl rfl (by decide) (Val.indexAddr Try.underlying37 elem45 rfl rfl (by omega) ((hr.below hB)) (by rw [sv_len]; omega)) ?_
            refine LS.m rfl (Step.loadAgg (vs := [.int .i64 (gS l k).kind, .int .i64 (gS l k).site, .int .i64 (gS l k).block, .int .u8 ((gS l k).val : Int)]) rfl rfl (by decide) agg45 rfl ((hr.below hB)) ((sv_at (by omega)).1) rfl (by decide) ?_)
            refine LS.m rfl (Step.allocZ rfl rfl (by decide) elem45 rfl (by decide) ?_)
            rintro w29 hO29 hg29 hbl29 hsz29
            replace hM := hM.add hB.size hbl29 hO29
            try simp only [List.length_cons, List.length_nil, Nat.zero_add, Nat.reduceAdd, Value.cells, List.toList_toArray, List.append_nil, List.set_cons_zero, List.set_cons_succ] at hM
            replace hB := hB.trans (hbl29.mono hB.size)
            generalize w28.heap.size = gg29 at *
            refine LS.m rfl (Step.storeAgg0 (B := w0.heap.size) rfl rfl agg45 rfl rfl rfl (by decide) (by first | exact one_map _ (fun _ => rfl) _ | simp [Value.oneCell']) (hM.o0) rfl hB.size ?_)
            rintro w30 hO30 hg30 hbl30 hsz30
            replace hM := hM.s0 (e := _) hg30 hO30 inl_block
            try simp only [List.set_cons_zero, List.set_cons_succ] at hM
            replace hB := hB.trans hbl30
            refine LS.nil ?_
            refine W.seq ?_
            refine W.seqR ?_
            refine LS.vv rfl rfl (by decide) (Val.fieldAddr0 fld45_0 rfl) ?_
            refine LS.m rfl (Step.load rfl rfl (by decide) flat3 rfl (hM.o0.rd) (rfl) ?_)
            refine LS.vv rfl rfl (by decide) (Val.eql rfl rfl) ?_
            refine LS.nil ?_
            first | refine W.condD rfl (fun hc5 => ?_) (fun hc5 => ?_) | refine W.cond rfl (fun hc5 => ?_) (fun hc5 => ?_)
            ·
              refine W.seqR ?_
              refine LS.vv rfl rfl (by decide) (Val.cast (v := .int .i64 ((2 : Nat) : Int)) (Val.assign rfl) rfl) ?_
              refine LS.nil ?_
              refine W.seq ?_
              refine W.seqR ?_
              refine LS.vv rfl rfl (by decide) (Val.fieldAddr0 fld45_2 rfl) ?_
              refine LS.m rfl (Step.load rfl rfl (by decide) flat3 rfl (hM.o0.rd) (rfl) ?_)
              refine LS.vv rfl rfl (by decide) (Val.geq rfl rfl) ?_
              refine LS.vv rfl rfl (by decide) (Val.move rfl) ?_
              refine LS.split 3 rfl (fun hg6 => ?_) (fun hg6 => ?_)
              ·
                first | (have hg6p := of_decide_eq_true hg6) | skip
                refine LS.vg rfl rfl rfl hg6 (by decide) (Val.fieldAddr0 fld45_2 rfl) ?_
                refine LS.mg rfl rfl hg6 (Step.load rfl rfl (by decide) flat3 rfl (hM.o0.rd) (rfl) ?_)
                refine LS.vg rfl rfl rfl hg6 (by decide) (Val.lss rfl rfl) ?_
                refine LS.vv rfl rfl (by decide) (Val.pickT rfl hg6 rfl) ?_
                refine LS.nil ?_
                first | refine W.condD rfl (fun hc7 => ?_) (fun hc7 => ?_) | refine W.cond rfl (fun hc7 => ?_) (fun hc7 => ?_)
                ·
                  refine W.seqR ?_
                  refine LS.vv rfl rfl (by decide) (Val.fieldAddr0 fld40_4 rfl) ?_
                  refine LS.m rfl (Step.load rfl rfl (by decide) flat31 rfl (hM.o1.rd) (rfl) ?_)
                  refine LS.vv rfl rfl (by decide) (Val.fieldAddr0 fld45_2 rfl) ?_
                  have hblk : ([.int .i64 (gS l k).kind, .int .i64 (gS l k).site, .int .i64 (gS l k).block, .int .u8 ((gS l k).val : Int)] : List Value)[2]? = some (.int .i64 (((gS l k).block.toNat : Nat) : Int)) := by { simp; omega }
                  refine LS.m rfl (Step.load rfl rfl (by decide) flat3 rfl (hM.o0.rd) (hblk) ?_)
                  refine LS.vv rfl rfl (by decide) (Val.fieldAddr0 fld45_3 rfl) ?_
                  refine LS.m rfl (Step.load rfl rfl (by decide) flat5 rfl (hM.o0.rd) (rfl) ?_)
                  refine LS.vv rfl rfl (by decide) (Val.index1 Try.underlying31 elem5 rfl rfl (by omega) (hM.o2.rd) (yv_lt (by omega))) ?_
                  refine LS.m rfl (Step.storeZ (B := w0.heap.size) rfl rfl flat5 elem5 rfl rfl rfl (hM.o2) (by first | decide | (simp; done) | (simp; omega) | omega) hB.size ?_)
                  rintro w31 hO31 hg31 hbl31 hsz31
                  replace hM := hM.s2 (e := _) hg31 hO31 inl_block
                  try simp only [yv_app1, yv_app, yv_set, yv_rep, yv_one, yv_cons, yv_take, yv_drop, List.nil_append] at hM
                  try simp only [List.set_cons_zero, List.set_cons_succ] at hM
                  replace hB := hB.trans hbl31
                  refine LS.nil ?_
                  refine W.seqT (S := fun w => Below w0.heap.size w0 w ∧ Mz w w0.heap.size _) (.val 0 (.val 1 (.val 2 (.val 3 (.val 5 (.two (.mem 4 (.mem 6 (.mem 7 (.val 8 (.val 9 (.mem 10 (.done))))))) (.mem 6 (.mem 4 (.mem 7 (.val 8 (.val 9 (.mem 10 (.done))))))))))))) mixed (by kernel_rfl) ⟨hB.drew, hM.drew.er6.er4⟩ ?_
                  replace hB := hB.drew
                  replace hM := hM.drew
                  refine DT.vv rfl rfl rfl (by decide) (Val.move rfl) ?_
                  refine DT.vv rfl rfl rfl (by decide) (Val.move rfl) ?_
                  first | refine DT.vv rfl rfl rfl (by decide) (Val.nilCheck rfl) ?_ | refine DT.vv rfl rfl rfl (by decide) (Val.nilCheckP rfl) ?_
                  refine DT.vv rfl rfl rfl (by decide) (Val.fieldAddr0 fld67_1 rfl) ?_
                  refine DT.vv rfl rfl rfl (by decide) (Val.loadAgg0 agg45 rfl (fun _ h => h.2.o0.rd) rfl (by decide)) ?_
                  refine DT.two ?_ ?_
                  ·
                    refine DT.m rfl rfl (Step.load rfl rfl (by decide) flat37 rfl (hM.o4.rd) (rfl) ?_)
                    refine ⟨⟨hB, hM.er6.er4⟩, ?_⟩
                    refine DT.m rfl rfl (Step.litZ rfl rfl (by decide) Try.underlying37 elem45 rfl (by decide) rfl rfl (by decide) ?_)
                    rintro w32 hO32 hg32 hbl32 hsz32
                    replace hM := hM.add hB.size hbl32 hO32
                    try simp only [List.length_cons, List.length_nil, Nat.zero_add, Nat.reduceAdd, Value.cells, List.toList_toArray, List.append_nil, List.set_cons_zero, List.set_cons_succ] at hM
                    replace hB := hB.trans (hbl32.mono hB.size)
                    generalize w31.drew.heap.size = gg32 at *
                    refine ⟨⟨hB, hM.er7.er5.er0⟩, ?_⟩
                    refine DT.m rfl rfl (Step.appendZ (B := w0.heap.size) rfl rfl (by decide) Try.underlying37 elem45 rfl (by decide) rfl rfl (hM.o7) (hM.o0.rd) (by first | rfl | (simp; done) | (simp; omega)) (by first | exact one_map _ (fun _ => rfl) _ | simp [Value.oneCell']) (by omega) (by omega) hB.size ?_)
                    rintro p33 c33 w33 hO33 hg33 hbl33 hbk33
                    replace hM := hM.s7 (e := _) hg33 hO33 hbk33
                    replace hM := hM.tail
                    replace hB := hB.trans hbl33
                    refine ⟨⟨hB, hM.er6.er4⟩, ?_⟩
                    first | refine DT.vv rfl rfl rfl (by decide) (Val.nilCheck rfl) ?_ | refine DT.vv rfl rfl rfl (by decide) (Val.nilCheckP rfl) ?_
                    refine DT.vv rfl rfl rfl (by decide) (Val.fieldAddr0 fld67_1 rfl) ?_
                    refine DT.m rfl rfl (Step.storeZ (B := w0.heap.size) rfl rfl flat37 elem37 rfl rfl rfl (hM.o4) (by simp [lnc]) hB.size ?_)
                    rintro w34 hO34 hg34 hbl34 hsz34
                    replace hM := hM.s4 (e := _) hg34 hO34 inl_block
                    try simp only [List.set_cons_zero, List.set_cons_succ] at hM
                    replace hB := hB.trans hbl34
                    refine ⟨⟨hB, hM.er6.er4⟩, ?_⟩
                    refine DT.nil ?_
                    refine W.reg ?_
                    refine LS.vv rfl rfl (by decide) (Val.cast (v := .int .i64 ((0 : Nat) : Int)) (Val.assign rfl) rfl) ?_
                    refine LS.nil ?_
                    refine thenP_normal ?_
                    refine W.seqR ?_
                    refine LS.vv rfl rfl (by decide) (Val.fieldAddr0 fld40_0 rfl) ?_
                    refine LS.m rfl (Step.load rfl rfl (by decide) flat38 rfl (hM.o1.rd) (rfl) ?_)
                    refine LS.vv rfl rfl (by decide) (Val.move rfl) ?_
                    refine LS.m rfl (Step.litZ rfl rfl (by decide) Try.underlying38 elem22 rfl (by decide) rfl rfl (by decide) ?_)
                    rintro w35 hO35 hg35 hbl35 hsz35
                    replace hM := hM.add hB.size hbl35 hO35
                    try simp only [List.length_cons, List.length_nil, Nat.zero_add, Nat.reduceAdd, Value.cells, List.toList_toArray, List.append_nil, List.set_cons_zero, List.set_cons_succ] at hM
                    replace hB := hB.trans (hbl35.mono hB.size)
                    generalize w34.heap.size = gg35 at *
                    refine LS.m rfl (Step.appendZ (B := w0.heap.size) rfl rfl (by decide) Try.underlying38 elem22 rfl (by decide) rfl rfl (hM.o8) (hM.o0.rd) (by first | rfl | (simp; done) | (simp; omega)) (by first | exact one_map _ (fun _ => rfl) _ | simp [Value.oneCell']) (by omega) (by omega) hB.size ?_)
                    rintro p36 c36 w36 hO36 hg36 hbl36 hbk36
                    replace hM := hM.s8 (e := _) hg36 hO36 hbk36
                    replace hM := hM.tail
                    try simp only [nv_app1, nv_app, nv_set, nv_rep, nv_one, nv_cons, nv_take, nv_drop, List.nil_append] at hM
                    replace hB := hB.trans hbl36
                    refine LS.vv rfl rfl (by decide) (Val.fieldAddr0 fld40_0 rfl) ?_
                    refine LS.m rfl (Step.storeZ (B := w0.heap.size) rfl rfl flat38 elem38 rfl rfl rfl (hM.o1) (by first | decide | (simp; done) | (simp; omega) | omega) hB.size ?_)
                    rintro w37 hO37 hg37 hbl37 hsz37
                    replace hM := hM.s1 (e := _) hg37 hO37 inl_block
                    try simp only [List.set_cons_zero, List.set_cons_succ] at hM
                    replace hB := hB.trans hbl37
                    refine LS.nil ?_
                    refine W.exit ?_
                    refine thenP_exit ?_
                    refine inBlk_exit ?_
                    refine thenP_normal ?_
                    refine W.reg ?_
                    first | refine LS.vv rfl rfl (by decide) (Val.addN (j := 1) rfl rfl (by omega)) ?_ | refine LS.vv rfl rfl (by decide) (Val.add64 rfl rfl (by omega)) ?_
                    refine LS.vv rfl rfl (by decide) (Val.move rfl) ?_
                    refine LS.nil ?_
                    refine thenP_normal ?_
                    replace hM := hM.er0
                    have hst := splay_take (mode := M) (l := l) (k := k) (by omega)
                    first | rw [sst_w (by omega) ⟨by omega, by omega⟩] at hst | rw [sst_wn (by omega) (fun h => by have := h.1; have := h.2; omega)] at hst | rw [sst_put (by omega) (by omega)] at hst | rw [sst_do (by omega) (by omega)] at hst
                    refine ⟨(k + 1, p33, c33, p36, c36), ?_, ?_, ⟨by simp only; omega, ?_, hB⟩, by simp only; omega⟩
                    · exact (Sub.cons rfl (Sub.nil _))
                    · repeat (first | exact Sub.nil _ | refine Sub.cons rfl ?_)
                    · simp only [hst]
                      first
                        | exact hM
                        | (simp only [ldo_wr]; exact hM)
                        | (rw [lnc_w (x := gS l k)] at hM; rw [← sv_app1, List.length_append]; exact hM)
                  ·
                    refine DT.m rfl rfl (Step.litZ rfl rfl (by decide) Try.underlying37 elem45 rfl (by decide) rfl rfl (by decide) ?_)
                    rintro w38 hO38 hg38 hbl38 hsz38
                    replace hM := hM.add hB.size hbl38 hO38
                    try simp only [List.length_cons, List.length_nil, Nat.zero_add, Nat.reduceAdd, Value.cells, List.toList_toArray, List.append_nil, List.set_cons_zero, List.set_cons_succ] at hM
                    replace hB := hB.trans (hbl38.mono hB.size)
                    generalize w31.drew.heap.size = gg38 at *
                    refine ⟨⟨hB, hM.er7.er5.er0⟩, ?_⟩
                    refine DT.m rfl rfl (Step.load rfl rfl (by decide) flat37 rfl (hM.o5.rd) (rfl) ?_)
                    refine ⟨⟨hB, hM.er7.er5.er0⟩, ?_⟩
                    refine DT.m rfl rfl (Step.appendZ (B := w0.heap.size) rfl rfl (by decide) Try.underlying37 elem45 rfl (by decide) rfl rfl (hM.o7) (hM.o0.rd) (by first | rfl | (simp; done) | (simp; omega)) (by first | exact one_map _ (fun _ => rfl) _ | simp [Value.oneCell']) (by omega) (by omega) hB.size ?_)
                    rintro p39 c39 w39 hO39 hg39 hbl39 hbk39
                    replace hM := hM.s7 (e := _) hg39 hO39 hbk39
                    replace hM := hM.tail
                    replace hB := hB.trans hbl39
                    refine ⟨⟨hB, hM.er6.er4⟩, ?_⟩
                    first | refine DT.vv rfl rfl rfl (by decide) (Val.nilCheck rfl) ?_ | refine DT.vv rfl rfl rfl (by decide) (Val.nilCheckP rfl) ?_
                    refine DT.vv rfl rfl rfl (by decide) (Val.fieldAddr0 fld67_1 rfl) ?_
                    refine DT.m rfl rfl (Step.storeZ (B := w0.heap.size) rfl rfl flat37 elem37 rfl rfl rfl (hM.o4) (by simp [lnc]) hB.size ?_)
                    rintro w40 hO40 hg40 hbl40 hsz40
                    replace hM := hM.s4 (e := _) hg40 hO40 inl_block
                    try simp only [List.set_cons_zero, List.set_cons_succ] at hM
                    replace hB := hB.trans hbl40
                    refine ⟨⟨hB, hM.er6.er4⟩, ?_⟩
                    refine DT.nil ?_
                    refine W.reg ?_
                    refine LS.vv rfl rfl (by decide) (Val.cast (v := .int .i64 ((0 : Nat) : Int)) (Val.assign rfl) rfl) ?_
                    refine LS.nil ?_
                    refine thenP_normal ?_
                    refine W.seqR ?_
                    refine LS.vv rfl rfl (by decide) (Val.fieldAddr0 fld40_0 rfl) ?_
                    refine LS.m rfl (Step.load rfl rfl (by decide) flat38 rfl (hM.o1.rd) (rfl) ?_)
                    refine LS.vv rfl rfl (by decide) (Val.move rfl) ?_
                    refine LS.m rfl (Step.litZ rfl rfl (by decide) Try.underlying38 elem22 rfl (by decide) rfl rfl (by decide) ?_)
                    rintro w41 hO41 hg41 hbl41 hsz41
                    replace hM := hM.add hB.size hbl41 hO41
                    try simp only [List.length_cons, List.length_nil, Nat.zero_add, Nat.reduceAdd, Value.cells, List.toList_toArray, List.append_nil, List.set_cons_zero, List.set_cons_succ] at hM
                    replace hB := hB.trans (hbl41.mono hB.size)
                    generalize w40.heap.size = gg41 at *
                    refine LS.m rfl (Step.appendZ (B := w0.heap.size) rfl rfl (by decide) Try.underlying38 elem22 rfl (by decide) rfl rfl (hM.o8) (hM.o0.rd) (by first | rfl | (simp; done) | (simp; omega)) (by first | exact one_map _ (fun _ => rfl) _ | simp [Value.oneCell']) (by omega) (by omega) hB.size ?_)
                    rintro p42 c42 w42 hO42 hg42 hbl42 hbk42
                    replace hM := hM.s8 (e := _) hg42 hO42 hbk42
                    replace hM := hM.tail
                    try simp only [nv_app1, nv_app, nv_set, nv_rep, nv_one, nv_cons, nv_take, nv_drop, List.nil_append] at hM
                    replace hB := hB.trans hbl42
                    refine LS.vv rfl rfl (by decide) (Val.fieldAddr0 fld40_0 rfl) ?_
                    refine LS.m rfl (Step.storeZ (B := w0.heap.size) rfl rfl flat38 elem38 rfl rfl rfl (hM.o1) (by first | decide | (simp; done) | (simp; omega) | omega) hB.size ?_)
                    rintro w43 hO43 hg43 hbl43 hsz43
                    replace hM := hM.s1 (e := _) hg43 hO43 inl_block
                    try simp only [List.set_cons_zero, List.set_cons_succ] at hM
                    replace hB := hB.trans hbl43
                    refine LS.nil ?_
                    refine W.exit ?_
                    refine thenP_exit ?_
                    refine inBlk_exit ?_
                    refine thenP_normal ?_
                    refine W.reg ?_
                    first | refine LS.vv rfl rfl (by decide) (Val.addN (j := 1) rfl rfl (by omega)) ?_ | refine LS.vv rfl rfl (by decide) (Val.add64 rfl rfl (by omega)) ?_
                    refine LS.vv rfl rfl (by decide) (Val.move rfl) ?_
                    refine LS.nil ?_
                    refine thenP_normal ?_
                    replace hM := hM.er0
                    have hst := splay_take (mode := M) (l := l) (k := k) (by omega)
                    first | rw [sst_w (by omega) ⟨by omega, by omega⟩] at hst | rw [sst_wn (by omega) (fun h => by have := h.1; have := h.2; omega)] at hst | rw [sst_put (by omega) (by omega)] at hst | rw [sst_do (by omega) (by omega)] at hst
                    refine ⟨(k + 1, p39, c39, p42, c42), ?_, ?_, ⟨by simp only; omega, ?_, hB⟩, by simp only; omega⟩
                    · exact (Sub.cons rfl (Sub.nil _))
                    · repeat (first | exact Sub.nil _ | refine Sub.cons rfl ?_)
                    · simp only [hst]
                      first
                        | exact hM
                        | (simp only [ldo_wr]; exact hM)
                        | (rw [lnc_w (x := gS l k)] at hM; rw [← sv_app1, List.length_append]; exact hM)
                ·
                  refine W.skip ?_
                  refine thenP_normal ?_
                  refine W.seqR ?_
                  refine LS.vv rfl rfl (by decide) (Val.fieldAddr0 fld40_0 rfl) ?_
                  refine LS.m rfl (Step.load rfl rfl (by decide) flat38 rfl (hM.o1.rd) (rfl) ?_)
                  refine LS.vv rfl rfl (by decide) (Val.move rfl) ?_
                  refine LS.m rfl (Step.litZ rfl rfl (by decide) Try.underlying38 elem22 rfl (by decide) rfl rfl (by decide) ?_)
                  rintro w44 hO44 hg44 hbl44 hsz44
                  replace hM := hM.add hB.size hbl44 hO44
                  try simp only [List.length_cons, List.length_nil, Nat.zero_add, Nat.reduceAdd, Value.cells, List.toList_toArray, List.append_nil, List.set_cons_zero, List.set_cons_succ] at hM
                  replace hB := hB.trans (hbl44.mono hB.size)
                  generalize w30.heap.size = gg44 at *
                  refine LS.m rfl (Step.appendZ (B := w0.heap.size) rfl rfl (by decide) Try.underlying38 elem22 rfl (by decide) rfl rfl (hM.o8) (hM.o0.rd) (by first | rfl | (simp; done) | (simp; omega)) (by first | exact one_map _ (fun _ => rfl) _ | simp [Value.oneCell']) (by omega) (by omega) hB.size ?_)
                  rintro p45 c45 w45 hO45 hg45 hbl45 hbk45
                  replace hM := hM.s8 (e := _) hg45 hO45 hbk45
                  replace hM := hM.tail
                  try simp only [nv_app1, nv_app, nv_set, nv_rep, nv_one, nv_cons, nv_take, nv_drop, List.nil_append] at hM
                  replace hB := hB.trans hbl45
                  refine LS.vv rfl rfl (by decide) (Val.fieldAddr0 fld40_0 rfl) ?_
                  refine LS.m rfl (Step.storeZ (B := w0.heap.size) rfl rfl flat38 elem38 rfl rfl rfl (hM.o1) (by first | decide | (simp; done) | (simp; omega) | omega) hB.size ?_)
                  rintro w46 hO46 hg46 hbl46 hsz46
                  replace hM := hM.s1 (e := _) hg46 hO46 inl_block
                  try simp only [List.set_cons_zero, List.set_cons_succ] at hM
                  replace hB := hB.trans hbl46
                  refine LS.nil ?_
                  refine W.exit ?_
                  refine thenP_exit ?_
                  refine inBlk_exit ?_
                  refine thenP_normal ?_
                  refine W.reg ?_
                  first | refine LS.vv rfl rfl (by decide) (Val.addN (j := 1) rfl rfl (by omega)) ?_ | refine LS.vv rfl rfl (by decide) (Val.add64 rfl rfl (by omega)) ?_
                  refine LS.vv rfl rfl (by decide) (Val.move rfl) ?_
                  refine LS.nil ?_
                  refine thenP_normal ?_
                  replace hM := hM.er0
                  have hst := splay_take (mode := M) (l := l) (k := k) (by omega)
                  first | rw [sst_w (by omega) ⟨by omega, by omega⟩] at hst | rw [sst_wn (by omega) (fun h => by have := h.1; have := h.2; omega)] at hst | rw [sst_put (by omega) (by omega)] at hst | rw [sst_do (by omega) (by omega)] at hst
                  refine ⟨(k + 1, pw, cw, p45, c45), ?_, ?_, ⟨by simp only; omega, ?_, hB⟩, by simp only; omega⟩
                  · exact (Sub.cons rfl (Sub.nil _))
                  · repeat (first | exact Sub.nil _ | refine Sub.cons rfl ?_)
                  · simp only [hst]
                    first
                      | exact hM
                      | (simp only [ldo_wr]; exact hM)
                      | (rw [lnc_w (x := gS l k)] at hM; rw [← sv_app1, List.length_append]; exact hM)
              ·
                first | (have hg6p := of_decide_eq_false hg6) | skip
                refine LS.s rfl rfl rfl hg6 (by decide) ?_
                refine LS.s rfl rfl rfl hg6 (by decide) ?_
                refine LS.s rfl rfl rfl hg6 (by decide) ?_
                refine LS.vv rfl rfl (by decide) (Val.pickF rfl hg6 rfl) ?_
                refine LS.nil ?_
                refine W.condF rfl ?_
                refine W.skip ?_
                refine thenP_normal ?_
                refine W.seqR ?_
                refine LS.vv rfl rfl (by decide) (Val.fieldAddr0 fld40_0 rfl) ?_
                refine LS.m rfl (Step.load rfl rfl (by decide) flat38 rfl (hM.o1.rd) (rfl) ?_)
                refine LS.vv rfl rfl (by decide) (Val.move rfl) ?_
                refine LS.m rfl (Step.litZ rfl rfl (by decide) Try.underlying38 elem22 rfl (by decide) rfl rfl (by decide) ?_)
                rintro w47 hO47 hg47 hbl47 hsz47
                replace hM := hM.add hB.size hbl47 hO47
                try simp only [List.length_cons, List.length_nil, Nat.zero_add, Nat.reduceAdd, Value.cells, List.toList_toArray, List.append_nil, List.set_cons_zero, List.set_cons_succ] at hM
                replace hB := hB.trans (hbl47.mono hB.size)
                generalize w30.heap.size = gg47 at *
                refine LS.m rfl (Step.appendZ (B := w0.heap.size) rfl rfl (by decide) Try.underlying38 elem22 rfl (by decide) rfl rfl (hM.o8) (hM.o0.rd) (by first | rfl | (simp; done) | (simp; omega)) (by first | exact one_map _ (fun _ => rfl) _ | simp [Value.oneCell']) (by omega) (by omega) hB.size ?_)
                rintro p48 c48 w48 hO48 hg48 hbl48 hbk48
                replace hM := hM.s8 (e := _) hg48 hO48 hbk48
                replace hM := hM.tail
                try simp only [nv_app1, nv_app, nv_set, nv_rep, nv_one, nv_cons, nv_take, nv_drop, List.nil_append] at hM
                replace hB := hB.trans hbl48
                refine LS.vv rfl rfl (by decide) (Val.fieldAddr0 fld40_0 rfl) ?_
                refine LS.m rfl (Step.storeZ (B := w0.heap.size) rfl rfl flat38 elem38 rfl rfl rfl (hM.o1) (by first | decide | (simp; done) | (simp; omega) | omega) hB.size ?_)
                rintro w49 hO49 hg49 hbl49 hsz49
                replace hM := hM.s1 (e := _) hg49 hO49 inl_block
                try simp only [List.set_cons_zero, List.set_cons_succ] at hM
                replace hB := hB.trans hbl49
                refine LS.nil ?_
                refine W.exit ?_
                refine thenP_exit ?_
                refine inBlk_exit ?_
                refine thenP_normal ?_
                refine W.reg ?_
                first | refine LS.vv rfl rfl (by decide) (Val.addN (j := 1) rfl rfl (by omega)) ?_ | refine LS.vv rfl rfl (by decide) (Val.add64 rfl rfl (by omega)) ?_
                refine LS.vv rfl rfl (by decide) (Val.move rfl) ?_
                refine LS.nil ?_
                refine thenP_normal ?_
                replace hM := hM.er0
                have hst := splay_take (mode := M) (l := l) (k := k) (by omega)
                first | rw [sst_w (by omega) ⟨by omega, by omega⟩] at hst | rw [sst_wn (by omega) (fun h => by have := h.1; have := h.2; omega)] at hst | rw [sst_put (by omega) (by omega)] at hst | rw [sst_do (by omega) (by omega)] at hst
                refine ⟨(k + 1, pw, cw, p48, c48), ?_, ?_, ⟨by simp only; omega, ?_, hB⟩, by simp only; omega⟩
                · exact (Sub.cons rfl (Sub.nil _))
                · repeat (first | exact Sub.nil _ | refine Sub.cons rfl ?_)
                · simp only [hst]
                  first
                    | exact hM
                    | (simp only [ldo_wr]; exact hM)
                    | (rw [lnc_w (x := gS l k)] at hM; rw [← sv_app1, List.length_append]; exact hM)
            ·
              refine W.skip ?_
              refine thenP_normal ?_
              refine W.seqR ?_
              refine LS.vv rfl rfl (by decide) (Val.move rfl) ?_
              refine LS.vv rfl rfl (by decide) (Val.fieldAddr0 fld45_0 rfl) ?_
              refine LS.m rfl (Step.load rfl rfl (by decide) flat3 rfl (hM.o0.rd) (rfl) ?_)
              replace hM := hM.sw3.sw2.sw1.sw0
              refine LS.m rfl (Step.call body22 rfl rfl (by decide) rfl (CallsV.mono (Do_any (splay M (l.take k)).l pw cw _ (gS l k).kind w0.heap.size _ _ hM hB.size ⟨by omega, by omega, by omega⟩) ?_))
              rintro _ w50 ⟨⟨bb, rfl⟩, hM50, hb50⟩
              replace hM := hM50
              replace hB := hB.trans hb50
              refine LS.vv rfl rfl (by decide) (Val.move rfl) ?_
              refine LS.vv rfl rfl (by decide) (Val.extract rfl rfl) ?_
              refine LS.vv rfl rfl (by decide) (Val.extract rfl rfl) ?_
              refine LS.vv rfl rfl (by decide) (Val.assign rfl) ?_
              refine LS.vv rfl rfl (by decide) (Val.assign rfl) ?_
              refine LS.nil ?_
              refine W.seq ?_
              refine W.seqR ?_
              refine LS.vv rfl rfl (by decide) (Val.fieldAddr0 fld45_0 rfl) ?_
              refine LS.m rfl (Step.load rfl rfl (by decide) flat3 rfl (hM.o1.rd) (rfl) ?_)
              refine LS.vv rfl rfl (by decide) (Val.eql rfl rfl) ?_
              refine LS.vv rfl rfl (by decide) (Val.move rfl) ?_
              refine LS.split 3 rfl (fun hg8 => ?_) (fun hg8 => ?_)
              ·
                first | (have hg8p := of_decide_eq_true hg8) | skip
                refine LS.vg rfl rfl rfl hg8 (by decide) (Val.move rfl) ?_
                refine LS.vg rfl rfl rfl hg8 (by decide) (Val.eql rfl rfl) ?_
                refine LS.vv rfl rfl (by decide) (Val.pickT rfl hg8 rfl) ?_
                refine LS.nil ?_
                first | refine W.condD rfl (fun hc9 => ?_) (fun hc9 => ?_) | refine W.cond rfl (fun hc9 => ?_) (fun hc9 => ?_)
                ·
                  have hk4 : (gS l k).kind = 4 := by omega
                  have hlc : lcode (splay M (l.take k)).l (gS l k).kind = 0 := by omega
                  have hput : (splay M (l.take k)).l.put < (splay M (l.take k)).l.got := lcode4 (by rw [← hk4]; exact hlc)
                  have hld : ldo (splay M (l.take k)).l (gS l k).kind = { (splay M (l.take k)).l with put := (splay M (l.take k)).l.put + 1 } := by rw [hk4]; exact ldo_put hput
                  have hlp : (ldo (splay M (l.take k)).l (gS l k).kind).put = (splay M (l.take k)).l.put + 1 := by rw [hld]
                  have hlw : (ldo (splay M (l.take k)).l (gS l k).kind).wr.length = (splay M (l.take k)).l.wr.length := by rw [hld]
                  have hkp := hI.kept (gS (splay M (l.take k)).l.wr (splay M (l.take k)).l.put) (gS_mem (by omega))
                  have hkp1 := hkp.1; have hkp2 := hkp.2
                  have hwb : ([.int .i64 (gS (splay M (l.take k)).l.wr (splay M (l.take k)).l.put).kind, .int .i64 (gS (splay M (l.take k)).l.wr (splay M (l.take k)).l.put).site, .int .i64 (gS (splay M (l.take k)).l.wr (splay M (l.take k)).l.put).block, .int .u8 ((gS (splay M (l.take k)).l.wr (splay M (l.take k)).l.put).val : Int)] : List Value)[2]? = some (.int .i64 (((gS (splay M (l.take k)).l.wr (splay M (l.take k)).l.put).block.toNat : Nat) : Int)) := by { simp; omega }
                  refine W.seqT (S := fun w => Below w0.heap.size w0 w ∧ Mz w w0.heap.size _) (.val 0 (.val 1 (.val 2 (.val 3 (.val 4 (.val 5 (.val 6 (.val 7 (.val 8 (.val 9 (.val 10 (.mem 11 (.mem 12 (.done)))))))))))))) mixed (by kernel_rfl) ⟨hB.drew, hM.drew⟩ ?_
                  replace hB := hB.drew
                  replace hM := hM.drew
                  refine DT.vv rfl rfl rfl (by decide) (Val.move rfl) ?_
                  first | refine DT.vv rfl rfl rfl (by decide) (Val.nilCheck rfl) ?_ | refine DT.vv rfl rfl rfl (by decide) (Val.nilCheckP rfl) ?_
                  refine DT.vv rfl rfl rfl (by decide) (Val.fieldAddr0 fld67_1 rfl) ?_
                  refine DT.vv rfl rfl rfl (by decide) (Val.load flat37 rfl (fun _ h => h.2.o0.rd) (rfl)) ?_
                  refine DT.vv rfl rfl rfl (by decide) (Val.move rfl) ?_
                  first | refine DT.vv rfl rfl rfl (by decide) (Val.nilCheck rfl) ?_ | refine DT.vv rfl rfl rfl (by decide) (Val.nilCheckP rfl) ?_
                  refine DT.vv rfl rfl rfl (by decide) (Val.fieldAddr0 fld67_4 rfl) ?_
                  refine DT.vv rfl rfl rfl (by decide) (Val.load flat3 rfl (fun _ h => h.2.o0.rd) (rfl)) ?_
                  first | refine DT.vv rfl rfl rfl (by decide) (Val.subN (j := 1) rfl rfl (by omega) (by omega)) ?_ | refine DT.vv rfl rfl rfl (by decide) (Val.sub64 rfl rfl (by omega)) ?_
                  refine DT.vv rfl rfl rfl (by decide) (Val.indexAddr Try.underlying37 elem45 rfl rfl (by omega) (hM.o6.rd) (by rw [sv_len]; omega)) ?_
                  refine DT.vv rfl rfl rfl (by decide) (Val.loadAgg (vs := [.int .i64 (gS (splay M (l.take k)).l.wr (splay M (l.take k)).l.put).kind, .int .i64 (gS (splay M (l.take k)).l.wr (splay M (l.take k)).l.put).site, .int .i64 (gS (splay M (l.take k)).l.wr (splay M (l.take k)).l.put).block, .int .u8 ((gS (splay M (l.take k)).l.wr (splay M (l.take k)).l.put).val : Int)]) agg45 rfl (fun _ h => h.2.o6.rd) (by rw [show (ldo (splay M (l.take k)).l (gS l k).kind).put - 1 = (splay M (l.take k)).l.put from by omega]; exact (sv_at (by omega)).1) rfl (by decide)) ?_
                  refine DT.m rfl rfl (Step.allocZ rfl rfl (by decide) elem45 rfl (by decide) ?_)
                  rintro w51 hO51 hg51 hbl51 hsz51
                  replace hM := hM.add hB.size hbl51 hO51
                  try simp only [List.length_cons, List.length_nil, Nat.zero_add, Nat.reduceAdd, Value.cells, List.toList_toArray, List.append_nil, List.set_cons_zero, List.set_cons_succ] at hM
                  replace hB := hB.trans (hbl51.mono hB.size)
                  generalize w50.drew.heap.size = gg51 at *
                  refine ⟨⟨hB, hM.er0⟩, ?_⟩
                  refine DT.m rfl rfl (Step.storeAgg0 (B := w0.heap.size) rfl rfl agg45 rfl rfl rfl (by decide) (by first | exact one_map _ (fun _ => rfl) _ | simp [Value.oneCell']) (hM.o0) rfl hB.size ?_)
                  rintro w52 hO52 hg52 hbl52 hsz52
                  replace hM := hM.s0 (e := _) hg52 hO52 inl_block
                  try simp only [List.set_cons_zero, List.set_cons_succ] at hM
                  replace hB := hB.trans hbl52
                  refine ⟨⟨hB, hM.er0⟩, ?_⟩
                  refine DT.nil ?_
                  refine W.reg ?_
                  refine LS.vv rfl rfl (by decide) (Val.fieldAddr0 fld40_5 rfl) ?_
                  refine LS.m rfl (Step.load rfl rfl (by decide) flat31 rfl (hM.o3.rd) (rfl) ?_)
                  refine LS.vv rfl rfl (by decide) (Val.fieldAddr0 fld45_2 rfl) ?_
                  refine LS.m rfl (Step.load rfl rfl (by decide) flat3 rfl (hM.o0.rd) (hwb) ?_)
                  refine LS.vv rfl rfl (by decide) (Val.fieldAddr0 fld45_3 rfl) ?_
                  refine LS.m rfl (Step.load rfl rfl (by decide) flat5 rfl (hM.o0.rd) (rfl) ?_)
                  refine LS.vv rfl rfl (by decide) (Val.index1 Try.underlying31 elem5 rfl rfl (by omega) (hM.o5.rd) (yv_lt (by omega))) ?_
                  refine LS.m rfl (Step.storeZ (B := w0.heap.size) rfl rfl flat5 elem5 rfl rfl rfl (hM.o5) (by first | decide | (simp; done) | (simp; omega) | omega) hB.size ?_)
                  rintro w53 hO53 hg53 hbl53 hsz53
                  replace hM := hM.s5 (e := _) hg53 hO53 inl_block
                  try simp only [yv_app1, yv_app, yv_set, yv_rep, yv_one, yv_cons, yv_take, yv_drop, List.nil_append] at hM
                  try simp only [List.set_cons_zero, List.set_cons_succ] at hM
                  replace hB := hB.trans hbl53
                  refine LS.nil ?_
                  refine thenP_normal ?_
                  refine W.reg ?_
                  refine LS.vv rfl rfl (by decide) (Val.fieldAddr0 fld40_0 rfl) ?_
                  refine LS.m rfl (Step.load rfl rfl (by decide) flat38 rfl (hM.o3.rd) (rfl) ?_)
                  refine LS.vv rfl rfl (by decide) (Val.move rfl) ?_
                  refine LS.m rfl (Step.litZ rfl rfl (by decide) Try.underlying38 elem22 rfl (by decide) rfl rfl (by decide) ?_)
                  rintro w54 hO54 hg54 hbl54 hsz54
                  replace hM := hM.add hB.size hbl54 hO54
                  try simp only [List.length_cons, List.length_nil, Nat.zero_add, Nat.reduceAdd, Value.cells, List.toList_toArray, List.append_nil, List.set_cons_zero, List.set_cons_succ] at hM
                  replace hB := hB.trans (hbl54.mono hB.size)
                  generalize w53.heap.size = gg54 at *
                  refine LS.m rfl (Step.appendZ (B := w0.heap.size) rfl rfl (by decide) Try.underlying38 elem22 rfl (by decide) rfl rfl (hM.o9) (hM.o0.rd) (by first | rfl | (simp; done) | (simp; omega)) (by first | exact one_map _ (fun _ => rfl) _ | simp [Value.oneCell']) (by omega) (by omega) hB.size ?_)
                  rintro p55 c55 w55 hO55 hg55 hbl55 hbk55
                  replace hM := hM.s9 (e := _) hg55 hO55 hbk55
                  replace hM := hM.tail
                  try simp only [nv_app1, nv_app, nv_set, nv_rep, nv_one, nv_cons, nv_take, nv_drop, List.nil_append] at hM
                  replace hB := hB.trans hbl55
                  refine LS.vv rfl rfl (by decide) (Val.fieldAddr0 fld40_0 rfl) ?_
                  refine LS.m rfl (Step.storeZ (B := w0.heap.size) rfl rfl flat38 elem38 rfl rfl rfl (hM.o3) (by first | decide | (simp; done) | (simp; omega) | omega) hB.size ?_)
                  rintro w56 hO56 hg56 hbl56 hsz56
                  replace hM := hM.s3 (e := _) hg56 hO56 inl_block
                  try simp only [List.set_cons_zero, List.set_cons_succ] at hM
                  replace hB := hB.trans hbl56
                  refine LS.nil ?_
                  refine inBlk_normal ?_
                  refine thenP_normal ?_
                  refine W.reg ?_
                  first | refine LS.vv rfl rfl (by decide) (Val.addN (j := 1) rfl rfl (by omega)) ?_ | refine LS.vv rfl rfl (by decide) (Val.add64 rfl rfl (by omega)) ?_
                  refine LS.vv rfl rfl (by decide) (Val.move rfl) ?_
                  refine LS.nil ?_
                  refine thenP_normal ?_
                  replace hM := hM.er2.er0.sw0.sw1.sw2
                  have hst := splay_take (mode := M) (l := l) (k := k) (by omega)
                  first | rw [sst_w (by omega) ⟨by omega, by omega⟩] at hst | rw [sst_wn (by omega) (fun h => by have := h.1; have := h.2; omega)] at hst | rw [sst_put (by omega) (by omega)] at hst | rw [sst_do (by omega) (by omega)] at hst
                  refine ⟨(k + 1, pw, cw, p55, c55), ?_, ?_, ⟨by simp only; omega, ?_, hB⟩, by simp only; omega⟩
                  · exact (Sub.cons rfl (Sub.nil _))
                  · repeat (first | exact Sub.nil _ | refine Sub.cons rfl ?_)
                  · simp only [hst]
                    first
                      | exact hM
                      | (simp only [ldo_wr]; exact hM)
                      | (rw [lnc_w (x := gS l k)] at hM; rw [← sv_app1, List.length_append]; exact hM)
                ·
                  refine W.skip ?_
                  refine thenP_normal ?_
                  refine W.reg ?_
                  refine LS.vv rfl rfl (by decide) (Val.fieldAddr0 fld40_0 rfl) ?_
                  refine LS.m rfl (Step.load rfl rfl (by decide) flat38 rfl (hM.o2.rd) (rfl) ?_)
                  refine LS.vv rfl rfl (by decide) (Val.move rfl) ?_
                  refine LS.m rfl (Step.litZ rfl rfl (by decide) Try.underlying38 elem22 rfl (by decide) rfl rfl (by decide) ?_)
                  rintro w57 hO57 hg57 hbl57 hsz57
                  replace hM := hM.add hB.size hbl57 hO57
                  try simp only [List.length_cons, List.length_nil, Nat.zero_add, Nat.reduceAdd, Value.cells, List.toList_toArray, List.append_nil, List.set_cons_zero, List.set_cons_succ] at hM
                  replace hB := hB.trans (hbl57.mono hB.size)
                  generalize w50.heap.size = gg57 at *
                  refine LS.m rfl (Step.appendZ (B := w0.heap.size) rfl rfl (by decide) Try.underlying38 elem22 rfl (by decide) rfl rfl (hM.o8) (hM.o0.rd) (by first | rfl | (simp; done) | (simp; omega)) (by first | exact one_map _ (fun _ => rfl) _ | simp [Value.oneCell']) (by omega) (by omega) hB.size ?_)
                  rintro p58 c58 w58 hO58 hg58 hbl58 hbk58
                  replace hM := hM.s8 (e := _) hg58 hO58 hbk58
                  replace hM := hM.tail
                  try simp only [nv_app1, nv_app, nv_set, nv_rep, nv_one, nv_cons, nv_take, nv_drop, List.nil_append] at hM
                  replace hB := hB.trans hbl58
                  refine LS.vv rfl rfl (by decide) (Val.fieldAddr0 fld40_0 rfl) ?_
                  refine LS.m rfl (Step.storeZ (B := w0.heap.size) rfl rfl flat38 elem38 rfl rfl rfl (hM.o2) (by first | decide | (simp; done) | (simp; omega) | omega) hB.size ?_)
                  rintro w59 hO59 hg59 hbl59 hsz59
                  replace hM := hM.s2 (e := _) hg59 hO59 inl_block
                  try simp only [List.set_cons_zero, List.set_cons_succ] at hM
                  replace hB := hB.trans hbl59
                  refine LS.nil ?_
                  refine inBlk_normal ?_
                  refine thenP_normal ?_
                  refine W.reg ?_
                  first | refine LS.vv rfl rfl (by decide) (Val.addN (j := 1) rfl rfl (by omega)) ?_ | refine LS.vv rfl rfl (by decide) (Val.add64 rfl rfl (by omega)) ?_
                  refine LS.vv rfl rfl (by decide) (Val.move rfl) ?_
                  refine LS.nil ?_
                  refine thenP_normal ?_
                  replace hM := hM.er1.sw0.sw1.sw2
                  have hst := splay_take (mode := M) (l := l) (k := k) (by omega)
                  first | rw [sst_w (by omega) ⟨by omega, by omega⟩] at hst | rw [sst_wn (by omega) (fun h => by have := h.1; have := h.2; omega)] at hst | rw [sst_put (by omega) (by omega)] at hst | rw [sst_do (by omega) (by omega)] at hst
                  refine ⟨(k + 1, pw, cw, p58, c58), ?_, ?_, ⟨by simp only; omega, ?_, hB⟩, by simp only; omega⟩
                  · exact (Sub.cons rfl (Sub.nil _))
                  · repeat (first | exact Sub.nil _ | refine Sub.cons rfl ?_)
                  · simp only [hst]
                    first
                      | exact hM
                      | (simp only [ldo_wr]; exact hM)
                      | (rw [lnc_w (x := gS l k)] at hM; rw [← sv_app1, List.length_append]; exact hM)
              ·
                first | (have hg8p := of_decide_eq_false hg8) | skip
                refine LS.s rfl rfl rfl hg8 (by decide) ?_
                refine LS.s rfl rfl rfl hg8 (by decide) ?_
                refine LS.vv rfl rfl (by decide) (Val.pickF rfl hg8 rfl) ?_
                refine LS.nil ?_
                refine W.condF rfl ?_
                refine W.skip ?_
                refine thenP_normal ?_
                refine W.reg ?_
                refine LS.vv rfl rfl (by decide) (Val.fieldAddr0 fld40_0 rfl) ?_
                refine LS.m rfl (Step.load rfl rfl (by decide) flat38 rfl (hM.o2.rd) (rfl) ?_)
                refine LS.vv rfl rfl (by decide) (Val.move rfl) ?_
                refine LS.m rfl (Step.litZ rfl rfl (by decide) Try.underlying38 elem22 rfl (by decide) rfl rfl (by decide) ?_)
                rintro w60 hO60 hg60 hbl60 hsz60
                replace hM := hM.add hB.size hbl60 hO60
                try simp only [List.length_cons, List.length_nil, Nat.zero_add, Nat.reduceAdd, Value.cells, List.toList_toArray, List.append_nil, List.set_cons_zero, List.set_cons_succ] at hM
                replace hB := hB.trans (hbl60.mono hB.size)
                generalize w50.heap.size = gg60 at *
                refine LS.m rfl (Step.appendZ (B := w0.heap.size) rfl rfl (by decide) Try.underlying38 elem22 rfl (by decide) rfl rfl (hM.o8) (hM.o0.rd) (by first | rfl | (simp; done) | (simp; omega)) (by first | exact one_map _ (fun _ => rfl) _ | simp [Value.oneCell']) (by omega) (by omega) hB.size ?_)
                rintro p61 c61 w61 hO61 hg61 hbl61 hbk61
                replace hM := hM.s8 (e := _) hg61 hO61 hbk61
                replace hM := hM.tail
                try simp only [nv_app1, nv_app, nv_set, nv_rep, nv_one, nv_cons, nv_take, nv_drop, List.nil_append] at hM
                replace hB := hB.trans hbl61
                refine LS.vv rfl rfl (by decide) (Val.fieldAddr0 fld40_0 rfl) ?_
                refine LS.m rfl (Step.storeZ (B := w0.heap.size) rfl rfl flat38 elem38 rfl rfl rfl (hM.o2) (by first | decide | (simp; done) | (simp; omega) | omega) hB.size ?_)
                rintro w62 hO62 hg62 hbl62 hsz62
                replace hM := hM.s2 (e := _) hg62 hO62 inl_block
                try simp only [List.set_cons_zero, List.set_cons_succ] at hM
                replace hB := hB.trans hbl62
                refine LS.nil ?_
                refine inBlk_normal ?_
                refine thenP_normal ?_
                refine W.reg ?_
                first | refine LS.vv rfl rfl (by decide) (Val.addN (j := 1) rfl rfl (by omega)) ?_ | refine LS.vv rfl rfl (by decide) (Val.add64 rfl rfl (by omega)) ?_
                refine LS.vv rfl rfl (by decide) (Val.move rfl) ?_
                refine LS.nil ?_
                refine thenP_normal ?_
                replace hM := hM.er1.sw0.sw1.sw2
                have hst := splay_take (mode := M) (l := l) (k := k) (by omega)
                first | rw [sst_w (by omega) ⟨by omega, by omega⟩] at hst | rw [sst_wn (by omega) (fun h => by have := h.1; have := h.2; omega)] at hst | rw [sst_put (by omega) (by omega)] at hst | rw [sst_do (by omega) (by omega)] at hst
                refine ⟨(k + 1, pw, cw, p61, c61), ?_, ?_, ⟨by simp only; omega, ?_, hB⟩, by simp only; omega⟩
                · exact (Sub.cons rfl (Sub.nil _))
                · repeat (first | exact Sub.nil _ | refine Sub.cons rfl ?_)
                · simp only [hst]
                  first
                    | exact hM
                    | (simp only [ldo_wr]; exact hM)
                    | (rw [lnc_w (x := gS l k)] at hM; rw [← sv_app1, List.length_append]; exact hM)
          ·
            refine W.exit ?_
            refine thenP_exit ?_
            refine thenP_exit ?_
            refine inBlk_exit ?_
            refine thenP_normal ?_
            refine W.seqT (S := fun w => Below w0.heap.size w0 w ∧ Mz w w0.heap.size _) (.val 0 (.val 2 (.val 3 (.val 4 (.val 5 (.val 6 (.val 7 (.val 8 (.val 9 (.mem 1 (.val 10 (.mem 11 (.val 12 (.mem 13 (.val 14 (.mem 15 (.done))))))))))))))))) mixed (by kernel_rfl) ⟨hB.drew, hM.drew.er6.er5.er4.er2.er1.er0⟩ ?_
            replace hB := hB.drew
            replace hM := hM.drew
            refine DT.vv rfl rfl rfl (by decide) (Val.move rfl) ?_
            refine DT.vv rfl rfl rfl (by decide) (Val.move rfl) ?_
            first | refine DT.vv rfl rfl rfl (by decide) (Val.nilCheck rfl) ?_ | refine DT.vv rfl rfl rfl (by decide) (Val.nilCheckP rfl) ?_
            refine DT.vv rfl rfl rfl (by decide) (Val.fieldAddr0 fld67_3 rfl) ?_
            refine DT.vv rfl rfl rfl (by decide) (Val.load flat3 rfl (fun _ h => h.2.o0.rd) (rfl)) ?_
            refine DT.vv rfl rfl rfl (by decide) (Val.move rfl) ?_
            first | refine DT.vv rfl rfl rfl (by decide) (Val.nilCheck rfl) ?_ | refine DT.vv rfl rfl rfl (by decide) (Val.nilCheckP rfl) ?_
            refine DT.vv rfl rfl rfl (by decide) (Val.fieldAddr0 fld67_4 rfl) ?_
            refine DT.vv rfl rfl rfl (by decide) (Val.load flat3 rfl (fun _ h => h.2.o0.rd) (rfl)) ?_
            refine DT.m rfl rfl (Step.call body23 rfl rfl (by decide) rfl (CallsV.mono (told_any _ _ _ _ _ hM.o3.rd) ?_))
            rintro _ w63 ⟨rfl, hb63⟩
            replace hM := hM.below hb63
            replace hB := hB.trans (hb63.mono hB.size)
            refine ⟨⟨hB, hM.er6.er5.er4.er2.er1.er0⟩, ?_⟩
            refine DT.vv rfl rfl rfl (by decide) (Val.fieldAddr0 fld40_1 rfl) ?_
            refine DT.m rfl rfl (Step.storeZ (B := w0.heap.size) rfl rfl flat3 elem3 rfl rfl rfl (hM.o0) (by first | decide | (simp; done) | (simp; omega) | omega) hB.size ?_)
            rintro w64 hO64 hg64 hbl64 hsz64
            replace hM := hM.s0 (e := _) hg64 hO64 inl_block
            try simp only [List.set_cons_zero, List.set_cons_succ] at hM
            replace hB := hB.trans hbl64
            refine ⟨⟨hB, hM.er6.er5.er4.er2.er1.er0⟩, ?_⟩
            refine DT.vv rfl rfl rfl (by decide) (Val.fieldAddr0 fld40_2 rfl) ?_
            refine DT.m rfl rfl (Step.storeZ (B := w0.heap.size) rfl rfl flat3 elem3 rfl rfl rfl (hM.o0) (by first | decide | (simp; done) | (simp; omega) | omega) hB.size ?_)
            rintro w65 hO65 hg65 hbl65 hsz65
            replace hM := hM.s0 (e := _) hg65 hO65 inl_block
            try simp only [List.set_cons_zero, List.set_cons_succ] at hM
            replace hB := hB.trans hbl65
            refine ⟨⟨hB, hM.er6.er5.er4.er2.er1.er0⟩, ?_⟩
            refine DT.vv rfl rfl rfl (by decide) (Val.fieldAddr0 fld40_3 rfl) ?_
            refine DT.m rfl rfl (Step.storeZ (B := w0.heap.size) rfl rfl flat3 elem3 rfl rfl rfl (hM.o0) (by first | decide | (simp; done) | (simp; omega) | omega) hB.size ?_)
            rintro w66 hO66 hg66 hbl66 hsz66
            replace hM := hM.s0 (e := _) hg66 hO66 inl_block
            try simp only [List.set_cons_zero, List.set_cons_succ] at hM
            replace hB := hB.trans hbl66
            refine ⟨⟨hB, hM.er6.er5.er4.er2.er1.er0⟩, ?_⟩
            refine DT.nil ?_
            refine W.seqT (S := fun w => Below w0.heap.size w0 w ∧ Mz w w0.heap.size _) (.val 0 (.val 3 (.two (.mem 1 (.two (.mem 2 (.mem 4 (.val 6 (.mem 5 (.mem 7 (.val 8 (.mem 9 (.done)))))))) (.mem 4 (.mem 2 (.val 6 (.mem 5 (.mem 7 (.val 8 (.mem 9 (.done)))))))))) (.mem 4 (.mem 1 (.mem 2 (.val 6 (.mem 5 (.mem 7 (.val 8 (.mem 9 (.done)))))))))))) mixed (by kernel_rfl) ⟨hB.drew, hM.drew.er6.er5.er4.er3.er2.er1.er0⟩ ?_
            replace hB := hB.drew
            replace hM := hM.drew
            refine DT.vv rfl rfl rfl (by decide) (Val.fieldAddr0 fld40_4 rfl) ?_
            refine DT.vv rfl rfl rfl (by decide) (Val.fieldAddr0 fld40_5 rfl) ?_
            refine DT.two ?_ ?_
            ·
              refine DT.m rfl rfl (Step.load rfl rfl (by decide) flat31 rfl (hM.o0.rd) (rfl) ?_)
              refine ⟨⟨hB, hM.er6.er5.er4.er3.er2.er1.er0⟩, ?_⟩
              refine DT.two ?_ ?_
              ·
                refine DT.m rfl rfl (Step.call body24 rfl rfl (by decide) rfl (CallsV.mono (clip_any _ _ _ _ (Nat.le_refl _)) ?_))
                rintro _ w67 ⟨rfl, hb67⟩
                replace hM := hM.below hb67
                replace hB := hB.trans (hb67.mono hB.size)
                refine ⟨⟨hB, hM.er6.er5.er4.er3.er2.er1.er0⟩, ?_⟩
                refine DT.m rfl rfl (Step.load rfl rfl (by decide) flat31 rfl (hM.o0.rd) (rfl) ?_)
                refine ⟨⟨hB, hM.er6.er5.er4.er3.er2.er1.er0⟩, ?_⟩
                refine DT.vv rfl rfl rfl (by decide) (Val.fieldAddr0 fld40_4 rfl) ?_
                refine DT.m rfl rfl (Step.call body24 rfl rfl (by decide) rfl (CallsV.mono (clip_any _ _ _ _ (Nat.le_refl _)) ?_))
                rintro _ w68 ⟨rfl, hb68⟩
                replace hM := hM.below hb68
                replace hB := hB.trans (hb68.mono hB.size)
                refine ⟨⟨hB, hM.er6.er5.er4.er3.er2.er1.er0⟩, ?_⟩
                refine DT.m rfl rfl (Step.storeZ (B := w0.heap.size) rfl rfl flat31 elem31 rfl rfl rfl (hM.o0) (by first | decide | (simp; done) | (simp; omega) | omega) hB.size ?_)
                rintro w69 hO69 hg69 hbl69 hsz69
                replace hM := hM.s0 (e := _) hg69 hO69 inl_block
                try simp only [List.set_cons_zero, List.set_cons_succ] at hM
                replace hB := hB.trans hbl69
                refine ⟨⟨hB, hM.er6.er5.er4.er3.er2.er1.er0⟩, ?_⟩
                refine DT.vv rfl rfl rfl (by decide) (Val.fieldAddr0 fld40_5 rfl) ?_
                refine DT.m rfl rfl (Step.storeZ (B := w0.heap.size) rfl rfl flat31 elem31 rfl rfl rfl (hM.o0) (by first | decide | (simp; done) | (simp; omega) | omega) hB.size ?_)
                rintro w70 hO70 hg70 hbl70 hsz70
                replace hM := hM.s0 (e := _) hg70 hO70 inl_block
                try simp only [List.set_cons_zero, List.set_cons_succ] at hM
                replace hB := hB.trans hbl70
                refine ⟨⟨hB, hM.er6.er5.er4.er3.er2.er1.er0⟩, ?_⟩
                refine DT.nil ?_
                refine W.seqR ?_
                refine LS.m rfl (Step.loadAgg0 rfl rfl (by decide) agg40 rfl (hM.o0.rd) rfl (by decide) ?_)
                refine LS.m rfl (Step.storeAgg0 (B := w0.heap.size) rfl rfl agg40 rfl rfl rfl (by decide) (by first | exact one_map _ (fun _ => rfl) _ | simp [Value.oneCell']) (hM.o4) rfl hB.size ?_)
                rintro w71 hO71 hg71 hbl71 hsz71
                replace hM := hM.s4 (e := _) hg71 hO71 inl_block
                try simp only [List.set_cons_zero, List.set_cons_succ] at hM
                replace hB := hB.trans hbl71
                refine LS.vv rfl rfl (by decide) (Val.cast (v := .int .i64 ((0 : Nat) : Int)) (Val.assign rfl) rfl) ?_
                refine LS.nil ?_
                refine W.ret ?_
                refine retC2 (by first | exact .inl rfl | exact .inr rfl) rfl rfl agg40 (hM.o4.rd) rfl (by decide) ?_
                replace hM := hM.er5.er4.er3.er0.sw1.sw0
                first | (refine ⟨none, none, none, 0, 0, 0, 0, 0, 6, 0, 0, 0, [], [], [], rfl, by omega, ((Mz.nil _ _).addNil 5 1 |>.addNil 5 1 |>.addNil 22 1), fun h => by omega, fun _ => ⟨rfl, rfl, rfl⟩, hB⟩; done) | (refine ⟨none, none, none, 0, 0, 0, 0, 0, 1, 0, 0, 0, [], [], [], rfl, by omega, ((Mz.nil _ _).addNil 5 1 |>.addNil 5 1 |>.addNil 22 1), fun h => by omega, fun _ => ⟨rfl, rfl, rfl⟩, hB⟩; done) | (obtain rfl : k = l.length := (by omega); simp only [List.take_length] at hM ⊢; exact ⟨pc, _, _, cc, 8, 8, l.length, 8, 0, _, _, _, _, _, _, rfl, by omega, hM, fun _ => ⟨rfl, rfl, rfl, rfl, rfl, rfl, rfl, rfl⟩, fun h => absurd rfl h, hB⟩)
              ·
                refine DT.m rfl rfl (Step.load rfl rfl (by decide) flat31 rfl (hM.o0.rd) (rfl) ?_)
                refine ⟨⟨hB, hM.er6.er5.er4.er3.er2.er1.er0⟩, ?_⟩
                refine DT.m rfl rfl (Step.call body24 rfl rfl (by decide) rfl (CallsV.mono (clip_any _ _ _ _ (Nat.le_refl _)) ?_))
                rintro _ w72 ⟨rfl, hb72⟩
                replace hM := hM.below hb72
                replace hB := hB.trans (hb72.mono hB.size)
                refine ⟨⟨hB, hM.er6.er5.er4.er3.er2.er1.er0⟩, ?_⟩
                refine DT.vv rfl rfl rfl (by decide) (Val.fieldAddr0 fld40_4 rfl) ?_
                refine DT.m rfl rfl (Step.call body24 rfl rfl (by decide) rfl (CallsV.mono (clip_any _ _ _ _ (Nat.le_refl _)) ?_))
                rintro _ w73 ⟨rfl, hb73⟩
                replace hM := hM.below hb73
                replace hB := hB.trans (hb73.mono hB.size)
                refine ⟨⟨hB, hM.er6.er5.er4.er3.er2.er1.er0⟩, ?_⟩
                refine DT.m rfl rfl (Step.storeZ (B := w0.heap.size) rfl rfl flat31 elem31 rfl rfl rfl (hM.o0) (by first | decide | (simp; done) | (simp; omega) | omega) hB.size ?_)
                rintro w74 hO74 hg74 hbl74 hsz74
                replace hM := hM.s0 (e := _) hg74 hO74 inl_block
                try simp only [List.set_cons_zero, List.set_cons_succ] at hM
                replace hB := hB.trans hbl74
                refine ⟨⟨hB, hM.er6.er5.er4.er3.er2.er1.er0⟩, ?_⟩
                refine DT.vv rfl rfl rfl (by decide) (Val.fieldAddr0 fld40_5 rfl) ?_
                refine DT.m rfl rfl (Step.storeZ (B := w0.heap.size) rfl rfl flat31 elem31 rfl rfl rfl (hM.o0) (by first | decide | (simp; done) | (simp; omega) | omega) hB.size ?_)
                rintro w75 hO75 hg75 hbl75 hsz75
                replace hM := hM.s0 (e := _) hg75 hO75 inl_block
                try simp only [List.set_cons_zero, List.set_cons_succ] at hM
                replace hB := hB.trans hbl75
                refine ⟨⟨hB, hM.er6.er5.er4.er3.er2.er1.er0⟩, ?_⟩
                refine DT.nil ?_
                refine W.seqR ?_
                refine LS.m rfl (Step.loadAgg0 rfl rfl (by decide) agg40 rfl (hM.o0.rd) rfl (by decide) ?_)
                refine LS.m rfl (Step.storeAgg0 (B := w0.heap.size) rfl rfl agg40 rfl rfl rfl (by decide) (by first | exact one_map _ (fun _ => rfl) _ | simp [Value.oneCell']) (hM.o4) rfl hB.size ?_)
                rintro w76 hO76 hg76 hbl76 hsz76
                replace hM := hM.s4 (e := _) hg76 hO76 inl_block
                try simp only [List.set_cons_zero, List.set_cons_succ] at hM
                replace hB := hB.trans hbl76
                refine LS.vv rfl rfl (by decide) (Val.cast (v := .int .i64 ((0 : Nat) : Int)) (Val.assign rfl) rfl) ?_
                refine LS.nil ?_
                refine W.ret ?_
                refine retC2 (by first | exact .inl rfl | exact .inr rfl) rfl rfl agg40 (hM.o4.rd) rfl (by decide) ?_
                replace hM := hM.er5.er4.er3.er0.sw1.sw0
                first | (refine ⟨none, none, none, 0, 0, 0, 0, 0, 6, 0, 0, 0, [], [], [], rfl, by omega, ((Mz.nil _ _).addNil 5 1 |>.addNil 5 1 |>.addNil 22 1), fun h => by omega, fun _ => ⟨rfl, rfl, rfl⟩, hB⟩; done) | (refine ⟨none, none, none, 0, 0, 0, 0, 0, 1, 0, 0, 0, [], [], [], rfl, by omega, ((Mz.nil _ _).addNil 5 1 |>.addNil 5 1 |>.addNil 22 1), fun h => by omega, fun _ => ⟨rfl, rfl, rfl⟩, hB⟩; done) | (obtain rfl : k = l.length := (by omega); simp only [List.take_length] at hM ⊢; exact ⟨pc, _, _, cc, 8, 8, l.length, 8, 0, _, _, _, _, _, _, rfl, by omega, hM, fun _ => ⟨rfl, rfl, rfl, rfl, rfl, rfl, rfl, rfl⟩, fun h => absurd rfl h, hB⟩)
            ·
              refine DT.m rfl rfl (Step.load rfl rfl (by decide) flat31 rfl (hM.o0.rd) (rfl) ?_)
              refine ⟨⟨hB, hM.er6.er5.er4.er3.er2.er1.er0⟩, ?_⟩
              refine DT.m rfl rfl (Step.load rfl rfl (by decide) flat31 rfl (hM.o0.rd) (rfl) ?_)
              refine ⟨⟨hB, hM.er6.er5.er4.er3.er2.er1.er0⟩, ?_⟩
              refine DT.m rfl rfl (Step.call body24 rfl rfl (by decide) rfl (CallsV.mono (clip_any _ _ _ _ (Nat.le_refl _)) ?_))
              rintro _ w77 ⟨rfl, hb77⟩
              replace hM := hM.below hb77
              replace hB := hB.trans (hb77.mono hB.size)
              refine ⟨⟨hB, hM.er6.er5.er4.er3.er2.er1.er0⟩, ?_⟩
              refine DT.vv rfl rfl rfl (by decide) (Val.fieldAddr0 fld40_4 rfl) ?_
              refine DT.m rfl rfl (Step.call body24 rfl rfl (by decide) rfl (CallsV.mono (clip_any _ _ _ _ (Nat.le_refl _)) ?_))
              rintro _ w78 ⟨rfl, hb78⟩
              replace hM := hM.below hb78
              replace hB := hB.trans (hb78.mono hB.size)
              refine ⟨⟨hB, hM.er6.er5.er4.er3.er2.er1.er0⟩, ?_⟩
              refine DT.m rfl rfl (Step.storeZ (B := w0.heap.size) rfl rfl flat31 elem31 rfl rfl rfl (hM.o0) (by first | decide | (simp; done) | (simp; omega) | omega) hB.size ?_)
              rintro w79 hO79 hg79 hbl79 hsz79
              replace hM := hM.s0 (e := _) hg79 hO79 inl_block
              try simp only [List.set_cons_zero, List.set_cons_succ] at hM
              replace hB := hB.trans hbl79
              refine ⟨⟨hB, hM.er6.er5.er4.er3.er2.er1.er0⟩, ?_⟩
              refine DT.vv rfl rfl rfl (by decide) (Val.fieldAddr0 fld40_5 rfl) ?_
              refine DT.m rfl rfl (Step.storeZ (B := w0.heap.size) rfl rfl flat31 elem31 rfl rfl rfl (hM.o0) (by first | decide | (simp; done) | (simp; omega) | omega) hB.size ?_)
              rintro w80 hO80 hg80 hbl80 hsz80
              replace hM := hM.s0 (e := _) hg80 hO80 inl_block
              try simp only [List.set_cons_zero, List.set_cons_succ] at hM
              replace hB := hB.trans hbl80
              refine ⟨⟨hB, hM.er6.er5.er4.er3.er2.er1.er0⟩, ?_⟩
              refine DT.nil ?_
              refine W.seqR ?_
              refine LS.m rfl (Step.loadAgg0 rfl rfl (by decide) agg40 rfl (hM.o0.rd) rfl (by decide) ?_)
              refine LS.m rfl (Step.storeAgg0 (B := w0.heap.size) rfl rfl agg40 rfl rfl rfl (by decide) (by first | exact one_map _ (fun _ => rfl) _ | simp [Value.oneCell']) (hM.o4) rfl hB.size ?_)
              rintro w81 hO81 hg81 hbl81 hsz81
              replace hM := hM.s4 (e := _) hg81 hO81 inl_block
              try simp only [List.set_cons_zero, List.set_cons_succ] at hM
              replace hB := hB.trans hbl81
              refine LS.vv rfl rfl (by decide) (Val.cast (v := .int .i64 ((0 : Nat) : Int)) (Val.assign rfl) rfl) ?_
              refine LS.nil ?_
              refine W.ret ?_
              refine retC2 (by first | exact .inl rfl | exact .inr rfl) rfl rfl agg40 (hM.o4.rd) rfl (by decide) ?_
              replace hM := hM.er5.er4.er3.er0.sw1.sw0
              first | (refine ⟨none, none, none, 0, 0, 0, 0, 0, 6, 0, 0, 0, [], [], [], rfl, by omega, ((Mz.nil _ _).addNil 5 1 |>.addNil 5 1 |>.addNil 22 1), fun h => by omega, fun _ => ⟨rfl, rfl, rfl⟩, hB⟩; done) | (refine ⟨none, none, none, 0, 0, 0, 0, 0, 1, 0, 0, 0, [], [], [], rfl, by omega, ((Mz.nil _ _).addNil 5 1 |>.addNil 5 1 |>.addNil 22 1), fun h => by omega, fun _ => ⟨rfl, rfl, rfl⟩, hB⟩; done) | (obtain rfl : k = l.length := (by omega); simp only [List.take_length] at hM ⊢; exact ⟨pc, _, _, cc, 8, 8, l.length, 8, 0, _, _, _, _, _, _, rfl, by omega, hM, fun _ => ⟨rfl, rfl, rfl, rfl, rfl, rfl, rfl, rfl⟩, fun h => absurd rfl h, hB⟩)

end Go.Proofs.Ytldcpihjoakigaa
