/-
  The statements DoubleAny and DoubleTells.
-/
import Derived.Test.YtnaebllojkodbaaDoubleF
import Derived.Test.YtnaebllojkodbaaRefs
namespace Go.Proofs.Ytnaebllojkodbaa
open Go Go.RowKit V
set_option linter.unusedVariables false

theorem intsEq_len (xs ys : List Int) (p q : Option Addr) (c d m n : Nat) (w0 : World) (hr1 : Rd w0 p (iv xs)) (hr2 : Rd w0 q (iv ys)) (hm : xs.length = m) (hn : ys.length = n) (hl1 : m ≤ 9223372036854775807) :
    CallsV Try.prog 21 #[.slice p m c, .slice q n d] w0 (fun v w => v = .bool (decide (xs = ys)) ∧ Below w0.heap.size w0 w) := by
  subst hm; subst hn; exact intsEq_any xs ys p q c d w0 hr1 hr2 hl1
theorem toNat_back {zs : List Int} (h : OkF zs) : (zs.map Int.toNat).map (fun x : Nat => (x : Int)) = zs := by
  rw [List.map_map]
  refine (List.map_congr_left fun z hz => ?_).trans (List.map_id zs)
  have := h z hz
  show ((z.toNat : Nat) : Int) = z
  omega
theorem word_cast {zs : List Int} (h : OkF zs) : zs ++ [(pS (zs.map Int.toNat) : Int), (qS (zs.map Int.toNat) : Int)] = (word (zs.map Int.toNat)).map (fun x : Nat => (x : Int)) := by
  unfold word
  rw [List.map_append, toNat_back h]; rfl
theorem gz_cast (l : List Nat) (j : Nat) : gz (l.map fun x : Nat => (x : Int)) j = (gn l j : Int) := by
  by_cases hj : j < l.length
  · rw [gz_lt (by simpa using hj), gn_lt hj, List.getElem_map]
  · unfold gz gn
    simp only [List.getD_eq_getElem?_getD, List.getElem?_map]
    rw [List.getElem?_eq_none (by omega)]; rfl
/-- nought at the marks -/
def blot (ls : List Bool) (G : List Nat) : List Nat := (List.range G.length).map fun j => if gb ls j = true then 0 else gn G j
theorem blot_len (ls : List Bool) (G : List Nat) : (blot ls G).length = G.length := by simp [blot]
theorem blot_at {ls : List Bool} {G : List Nat} {j : Nat} (h : j < G.length) : gn (blot ls G) j = if gb ls j = true then 0 else gn G j := by
  rw [gn_lt (by rw [blot_len]; exact h)]; simp [blot]
theorem blot_sm {ls : List Bool} {G : List Nat} (h : Sm G) : Sm (blot ls G) := fun j => by
  by_cases hj : j < G.length
  · rw [blot_at hj]; split
    · omega
    · exact h j
  · unfold gn; rw [List.getD_eq_getElem?_getD, List.getElem?_eq_none (by rw [blot_len]; omega)]; simp
theorem xor_ne {a y : Nat} (h : y ≠ 0) : a ^^^ y ≠ a := fun e => h (by rw [← Nat.zero_xor y, ← Nat.xor_self a, Nat.xor_assoc, e])
theorem Fill_len (G : List Nat) (L : List Int) (ls : List Bool) (n : Nat) (pl plo : Option Addr) (cl clo m1 m2 : Nat) (w0 : World) (hr : Rd w0 pl (iv L)) (hrl : Rd w0 plo (bv ls)) (hm1 : L.length = m1) (hm2 : ls.length = m2) (h1 : m1 = n + 2) (h2 : m2 = n + 2) (hG : G.length = n + 2) (h11 : 1 ≤ n) (h12 : n ≤ 12) (hs : Sm G) (hc : (pos ls (n + 2)).length ≤ 2)
    (hk : ∀ j, j < n + 2 → gb ls j = false → gz L j = gn G j) :
    CallsV Try.prog 30 #[.slice pl m1 cl, .slice plo m2 clo] w0 (fun v w => ∃ (p2 : Option Addr) (c2 : Nat) (D : List Nat) (e : Nat), v = .tuple #[.slice p2 D.length c2, .int .i64 (e : Int)] ∧ Rd w p2 (nv D) ∧ (fits (blot ls G) ls n (solve (blot ls G) ls n) = true → e = 0 ∧ D = solve (blot ls G) ls n) ∧ (fits (blot ls G) ls n (solve (blot ls G) ls n) = false → e = 8 ∧ D = []) ∧ Below w0.heap.size w0 w) := by
  subst hm1; subst hm2
  exact Fill_any (blot ls G) L ls n pl plo cl clo w0 hr hrl h1 h2 (by rw [blot_len]; exact hG) h11 h12 (blot_sm hs) hc (fun j hj hb => by rw [hk j hj hb, blot_at (by omega), if_neg (by simp [hb])]) (fun j hj hb => by rw [blot_at (by omega), if_pos hb])
theorem blot_word {ls : List Bool} {d : List Nat} (hs : Sm d) (hn : d.length ≤ 12) (h2 : (pos ls (d.length + 2)).length ≤ 2) : solve (blot ls (word d)) ls d.length = d ∧ fits (blot ls (word d)) ls d.length (solve (blot ls (word d)) ls d.length) = true := by
  have hB : Blot (blot ls (word d)) ls d := ⟨by rw [blot_len, word_len], fun j hj => blot_at (by rw [word_len]; exact hj)⟩
  have h := solve_word hs hn h2 hB
  refine ⟨h, ?_⟩
  rw [h]; exact fits_word hB
theorem blot_wrong {ls : List Bool} {d : List Nat} {a x : Nat} (hs : Sm d) (hn : d.length ≤ 12) (ha : a < d.length + 2) (hal : gb ls a = false) (h1 : (pos ls (d.length + 2)).length ≤ 1) (hl : ls.length = d.length + 2) (hx : x < 16) (hne : x ≠ gn (word d) a) :
    fits (blot ls ((word d).set a x)) ls d.length (solve (blot ls ((word d).set a x)) ls d.length) = false := by
  have hwl := word_len d
  have hat : ∀ j, j < d.length + 2 → gn (blot ls ((word d).set a x)) j = if gb ls j = true then 0 else if j = a then x else gn (word d) j := fun j hj => by
    rw [blot_at (by rw [List.length_set, hwl]; exact hj), gn_set (by omega)]
  refine Bool.eq_false_iff.2 fun hf => hne ?_
  have := fits_only hs hn (blot_sm (sm_set (word_sm hs) (by omega) hx)) (by rw [blot_len, List.length_set, hwl]) ha hal (fun j hj hja => by rw [hat j hj, if_neg hja]) h1 hl hf
  rw [hat a ha, hal, if_neg (by simp), if_pos rfl] at this
  exact this

theorem doubleAny_any (zs : List Int) (p : Option Addr) (c : Nat) (I J : Nat) (w0 : World) (hr : Rd w0 p (iv zs)) (hI : I < 256) (hJ : J < 256) :
    CallsV Try.prog 11 #[.slice p zs.length c, .int .u8 (I : Int), .int .u8 (J : Int)] w0 (fun v w => v = .bool true ∧ Below w0.heap.size w0 w) := by
  refine enter1 Try.func11 rfl Try.ntmps11 (by simp) rfl ?_
  have hB := Below.refl w0.heap.size w0
  simp only [argLoc, Nat.zero_add, Nat.reduceAdd]
  have hM := Mem.nil w0 w0.heap.size
  refine W.seqR ?_
  refine LS.vv rfl rfl (by decide) (Val.assign rfl) ?_
  refine LS.nil ?_
  refine W.seqR ?_
  refine LS.vv rfl rfl (by decide) (Val.move rfl) ?_
  refine LS.m rfl (Step.call body29 rfl rfl (by decide) rfl (CallsV.mono (dput_any zs _ _ _ (hr.below hB)) ?_))
  rintro _ w1 ⟨P, Q, e, rfl, he, hPQ, hb1⟩
  replace hM := hM.below hb1
  replace hB := hB.trans (hb1.mono hB.size)
  refine LS.vv rfl rfl (by decide) (Val.move rfl) ?_
  refine LS.vv rfl rfl (by decide) (Val.extract rfl rfl) ?_
  refine LS.vv rfl rfl (by decide) (Val.extract rfl rfl) ?_
  refine LS.vv rfl rfl (by decide) (Val.extract rfl rfl) ?_
  refine LS.vv rfl rfl (by decide) (Val.assign rfl) ?_
  refine LS.vv rfl rfl (by decide) (Val.assign rfl) ?_
  refine LS.vv rfl rfl (by decide) (Val.assign rfl) ?_
  refine LS.nil ?_
  refine W.seq ?_
  refine W.seqR ?_
  refine LS.vv rfl rfl (by decide) (Val.move rfl) ?_
  refine LS.vv rfl rfl (by decide) (Val.len Try.underlying27 rfl) ?_
  refine LS.vv rfl rfl (by decide) (Val.eql rfl rfl) ?_
  refine LS.vv rfl rfl (by decide) (Val.move rfl) ?_
  refine LS.split 3 rfl (fun hg1 => ?_) (fun hg1 => ?_)
  ·
    first | (have hg1p := of_decide_eq_true hg1) | skip
    refine LS.s rfl rfl rfl hg1 (by decide) ?_
    refine LS.s rfl rfl rfl hg1 (by decide) ?_
    refine LS.s rfl rfl rfl hg1 (by decide) ?_
    refine LS.vv rfl rfl (by decide) (Val.pickT rfl hg1 rfl) ?_
    refine LS.vv rfl rfl (by decide) (Val.move rfl) ?_
    refine LS.s rfl rfl rfl rfl (by decide) ?_
    refine LS.s rfl rfl rfl rfl (by decide) ?_
    refine LS.s rfl rfl rfl rfl (by decide) ?_
    refine LS.vv rfl rfl (by decide) (Val.pickT rfl rfl rfl) ?_
    refine LS.nil ?_
    refine W.condT rfl ?_
    refine W.seqR ?_
    refine LS.vv rfl rfl (by decide) (Val.move rfl) ?_
    refine LS.vv rfl rfl (by decide) (Val.cast (v := .bool true) (Val.neq rfl rfl) (by refine congrArg Value.bool (decide_eq_true ?_); intro h0; have hq := he.1 (by omega); first | omega | (have hq2 := hbn.2 hq.2.2; simp_all))) ?_
    refine LS.vv rfl rfl (by decide) (Val.assign rfl) ?_
    refine LS.nil ?_
    refine W.ret ?_
    refine thenP_ret ?_
    refine ret1 (by first | exact .inl rfl | exact .inr rfl) rfl ?_
    first | exact ⟨rfl, hB⟩ | contradiction | (exfalso; omega)
  ·
    first | (have hg1p := of_decide_eq_false hg1) | skip
    refine LS.vg rfl rfl rfl hg1 (by decide) (Val.move rfl) ?_
    refine LS.vg rfl rfl rfl hg1 (by decide) (Val.len Try.underlying27 rfl) ?_
    refine LS.vg rfl rfl rfl hg1 (by decide) (Val.gtr rfl rfl) ?_
    refine LS.vv rfl rfl (by decide) (Val.pickF rfl hg1 rfl) ?_
    refine LS.vv rfl rfl (by decide) (Val.move rfl) ?_
    refine LS.split 8 rfl (fun hg2 => ?_) (fun hg2 => ?_)
    ·
      first | (have hg2p := of_decide_eq_true hg2) | skip
      refine LS.s rfl rfl rfl hg2 (by decide) ?_
      refine LS.s rfl rfl rfl hg2 (by decide) ?_
      refine LS.s rfl rfl rfl hg2 (by decide) ?_
      refine LS.vv rfl rfl (by decide) (Val.pickT rfl hg2 rfl) ?_
      refine LS.nil ?_
      refine W.condT rfl ?_
      refine W.seqR ?_
      refine LS.vv rfl rfl (by decide) (Val.move rfl) ?_
      refine LS.vv rfl rfl (by decide) (Val.cast (v := .bool true) (Val.neq rfl rfl) (by refine congrArg Value.bool (decide_eq_true ?_); intro h0; have hq := he.1 (by omega); first | omega | (have hq2 := hbn.2 hq.2.2; simp_all))) ?_
      refine LS.vv rfl rfl (by decide) (Val.assign rfl) ?_
      refine LS.nil ?_
      refine W.ret ?_
      refine thenP_ret ?_
      refine ret1 (by first | exact .inl rfl | exact .inr rfl) rfl ?_
      first | exact ⟨rfl, hB⟩ | contradiction | (exfalso; omega)
    ·
      first | (have hg2p := of_decide_eq_false hg2) | skip
      refine LS.vg rfl rfl rfl hg2 (by decide) (Val.move rfl) ?_
      refine LS.mg rfl rfl hg2 (Step.call body14 rfl rfl (by decide) rfl (CallsV.mono (numbers_any zs _ _ _ (hr.below hB) (by omega)) ?_))
      rintro _ w2 ⟨b, rfl, hbn, hb2⟩
      replace hM := hM.below hb2
      replace hB := hB.trans (hb2.mono hB.size)
      refine LS.vg rfl rfl rfl hg2 (by decide) (Val.not rfl) ?_
      refine LS.vv rfl rfl (by decide) (Val.pickF rfl hg2 rfl) ?_
      refine LS.nil ?_
      first | refine W.condD rfl (fun hc3 => ?_) (fun hc3 => ?_) | refine W.cond rfl (fun hc3 => ?_) (fun hc3 => ?_)
      ·
        refine W.seqR ?_
        refine LS.vv rfl rfl (by decide) (Val.move rfl) ?_
        refine LS.vv rfl rfl (by decide) (Val.cast (v := .bool true) (Val.neq rfl rfl) (by refine congrArg Value.bool (decide_eq_true ?_); intro h0; have hq := he.1 (by omega); first | omega | (have hq2 := hbn.2 hq.2.2; simp_all))) ?_
        refine LS.vv rfl rfl (by decide) (Val.assign rfl) ?_
        refine LS.nil ?_
        refine W.ret ?_
        refine thenP_ret ?_
        refine ret1 (by first | exact .inl rfl | exact .inr rfl) rfl ?_
        first | exact ⟨rfl, hB⟩ | contradiction | (exfalso; omega)
      ·
        have hok := hbn.1 (by simp_all)
        have hE : e = 0 := he.2 ⟨by omega, by omega, hok⟩
        obtain ⟨rfl, rfl⟩ := hPQ hE
        have hwc := word_cast hok
        have hsm := sm_toNat hok
        have hzb := toNat_back hok
        obtain ⟨d, hd⟩ : ∃ d, d = zs.map Int.toNat := ⟨_, rfl⟩
        have hdl : d.length = zs.length := by rw [hd]; simp
        rw [← hd] at hwc hsm hzb ⊢
        have hwl := word_len d
        refine W.skip ?_
        refine thenP_normal ?_
        refine W.seqR ?_
        refine LS.m rfl (Step.lit rfl rfl (by decide) Try.underlying27 elem3 rfl rfl (by omega) (by simp [Value.oneCell']) (Nat.le_refl _) ?_)
        rintro w3 hO3 hg3 hbl3 hsz3
        replace hM := hM.add hB.size hbl3 hO3
        try simp only [iv_app1, iv_app, iv_set, iv_rep, iv_one, iv_cons, iv_take, iv_drop, List.nil_append] at hM
        replace hB := hB.trans (hbl3.mono hB.size)
        generalize w2.heap.size = gg3 at *
        refine LS.vv rfl rfl (by decide) (Val.move rfl) ?_
        refine LS.m rfl (Step.append2 (B := w0.heap.size) rfl rfl (by decide) Try.underlying27 elem3 rfl rfl rfl rfl (hM.o0) ((hr.below hB)) (by first | rfl | (simp; done) | (simp; omega)) (by first | exact one_map _ (fun _ => rfl) _ | simp [Value.oneCell']) (by first | omega | (simp only [List.length_set, List.length_replicate]; omega)) (by first | omega | (simp only [List.length_set, List.length_replicate]; omega)) hB.size ?_)
        rintro p4 c4 w4 hO4 hg4 hbl4 hbk4
        replace hM := hM.s0 hg4 hO4 hbk4
        try simp only [iv_app1, iv_app, iv_set, iv_rep, iv_one, iv_cons, iv_take, iv_drop, List.nil_append] at hM
        replace hB := hB.trans hbl4
        refine LS.vv rfl rfl (by decide) (Val.move rfl) ?_
        refine LS.vv rfl rfl (by decide) (Val.move rfl) ?_
        refine LS.m rfl (Step.lit rfl rfl (by decide) Try.underlying27 elem3 rfl rfl (by omega) (by simp [Value.oneCell']) (Nat.le_refl _) ?_)
        rintro w5 hO5 hg5 hbl5 hsz5
        replace hM := hM.add hB.size hbl5 hO5
        try simp only [iv_app1, iv_app, iv_set, iv_rep, iv_one, iv_cons, iv_take, iv_drop, List.nil_append] at hM
        replace hB := hB.trans (hbl5.mono hB.size)
        generalize w4.heap.size = gg5 at *
        refine LS.m rfl (Step.append2 (B := w0.heap.size) rfl rfl (by decide) Try.underlying27 elem3 rfl rfl rfl rfl (hM.o1) (hM.o0.rd) (by first | rfl | (simp; done) | (simp; omega)) (by first | exact one_map _ (fun _ => rfl) _ | simp [Value.oneCell']) (by first | omega | (simp only [List.length_set, List.length_replicate]; omega)) (by first | omega | (simp only [List.length_set, List.length_replicate]; omega)) hB.size ?_)
        rintro p6 c6 w6 hO6 hg6 hbl6 hbk6
        replace hM := hM.s1 hg6 hO6 hbk6
        replace hM := hM.tail
        try simp only [iv_app1, iv_app, iv_set, iv_rep, iv_one, iv_cons, iv_take, iv_drop, List.nil_append] at hM
        replace hB := hB.trans hbl6
        have hN : 0 + zs.length + 2 = d.length + 2 := by omega
        rw [hN] at hM ⊢
        rw [hwc] at hM
        have hmi := Nat.mod_lt I (show 0 < d.length + 2 by omega)
        have hmj := Nat.mod_lt J (show 0 < d.length + 2 by omega)
        refine LS.vv rfl rfl (by decide) (Val.assign rfl) ?_
        refine LS.nil ?_
        refine W.seqR ?_
        refine LS.vv rfl rfl (by decide) (Val.move rfl) ?_
        refine LS.vv rfl rfl (by decide) (Val.len Try.underlying27 rfl) ?_
        refine LS.m rfl (Step.make rfl rfl (by decide) Try.underlying35 elem4 rfl rfl rfl (by first | omega | (simp only [List.length_set, List.length_replicate]; omega)) (by first | omega | (simp only [List.length_set, List.length_replicate]; omega)) (Nat.le_refl _) ?_)
        rintro w7 hO7 hg7 hbl7
        replace hM := hM.add hB.size hbl7 hO7
        try simp only [bv_app1, bv_app, bv_set, bv_rep, bv_one, bv_cons, bv_take, bv_drop, List.nil_append] at hM
        replace hB := hB.trans (hbl7.mono hB.size)
        generalize w6.heap.size = gg7 at *
        refine LS.vv rfl rfl (by decide) (Val.assign rfl) ?_
        refine LS.nil ?_
        refine W.seqR ?_
        refine LS.vv rfl rfl (by decide) (Val.move rfl) ?_
        refine LS.vv rfl rfl (by decide) (Val.move rfl) ?_
        refine LS.vv rfl rfl (by decide) (Val.conv rfl Try.underlying5 Try.underlying3 (IntWalk.i64_in _ (by first | omega | (simp only [List.length_set, List.length_replicate]; omega)))) ?_
        refine LS.vv rfl rfl (by decide) (Val.move rfl) ?_
        refine LS.vv rfl rfl (by decide) (Val.len Try.underlying27 rfl) ?_
        first | refine LS.vv rfl rfl (by decide) (Val.remN rfl rfl (by first | omega | (simp only [List.length_set, List.length_replicate]; omega))) ?_ | refine LS.vv rfl rfl (by decide) (Val.rem rfl rfl (by first | omega | (simp only [List.length_set, List.length_replicate]; omega)) (by first | omega | (simp only [List.length_set, List.length_replicate]; omega))) ?_ | refine LS.vv rfl rfl (by decide) (Val.remT rfl rfl (by first | omega | (simp only [List.length_set, List.length_replicate]; omega))) ?_
        refine LS.vv rfl rfl (by decide) (Val.index1 Try.underlying35 elem4 rfl rfl (by first | omega | (simp only [List.length_set, List.length_replicate]; omega)) (hM.o0.rd) (bv_lt (by first | omega | (simp only [List.length_set, List.length_replicate]; omega)))) ?_
        refine LS.m rfl (Step.store (B := w0.heap.size) rfl rfl flat4 elem4 rfl rfl rfl (hM.o0) (by first | omega | (simp only [List.length_set, List.length_replicate]; omega)) hB.size ?_)
        rintro w8 hO8 hg8 hbl8 hsz8
        replace hM := hM.s0 hg8 hO8 inl_block
        try simp only [bv_app1, bv_app, bv_set, bv_rep, bv_one, bv_cons, bv_take, bv_drop, List.nil_append] at hM
        replace hB := hB.trans hbl8
        refine LS.nil ?_
        refine W.seqR ?_
        refine LS.vv rfl rfl (by decide) (Val.move rfl) ?_
        refine LS.vv rfl rfl (by decide) (Val.move rfl) ?_
        refine LS.vv rfl rfl (by decide) (Val.conv rfl Try.underlying5 Try.underlying3 (IntWalk.i64_in _ (by first | omega | (simp only [List.length_set, List.length_replicate]; omega)))) ?_
        refine LS.vv rfl rfl (by decide) (Val.move rfl) ?_
        refine LS.vv rfl rfl (by decide) (Val.len Try.underlying27 rfl) ?_
        first | refine LS.vv rfl rfl (by decide) (Val.remN rfl rfl (by first | omega | (simp only [List.length_set, List.length_replicate]; omega))) ?_ | refine LS.vv rfl rfl (by decide) (Val.rem rfl rfl (by first | omega | (simp only [List.length_set, List.length_replicate]; omega)) (by first | omega | (simp only [List.length_set, List.length_replicate]; omega))) ?_ | refine LS.vv rfl rfl (by decide) (Val.remT rfl rfl (by first | omega | (simp only [List.length_set, List.length_replicate]; omega))) ?_
        refine LS.vv rfl rfl (by decide) (Val.index1 Try.underlying35 elem4 rfl rfl (by first | omega | (simp only [List.length_set, List.length_replicate]; omega)) (hM.o0.rd) (bv_lt (by first | omega | (simp only [List.length_set, List.length_replicate]; omega)))) ?_
        refine LS.m rfl (Step.store (B := w0.heap.size) rfl rfl flat4 elem4 rfl rfl rfl (hM.o0) (by first | omega | (simp only [List.length_set, List.length_replicate]; omega)) hB.size ?_)
        rintro w9 hO9 hg9 hbl9 hsz9
        replace hM := hM.s0 hg9 hO9 inl_block
        try simp only [bv_app1, bv_app, bv_set, bv_rep, bv_one, bv_cons, bv_take, bv_drop, List.nil_append] at hM
        replace hB := hB.trans hbl9
        refine LS.nil ?_
        refine W.seq ?_
        refine W.seqR ?_
        refine LS.vv rfl rfl (by decide) (Val.cast (v := .int .i64 ((0 : Nat) : Int)) (Val.assign rfl) rfl) ?_
        refine LS.nil ?_
        refine W.block ?_
        generalize hlsd : ((List.replicate (d.length + 2) false).set (I % (d.length + 2)) true).set (J % (d.length + 2)) true = ls at hM
        have hlsl : ls.length = d.length + 2 := by rw [← hlsd]; simp
        have hlsb : ∀ k, gb ls k = true → k = I % (d.length + 2) ∨ k = J % (d.length + 2) := fun k h => by
          rw [← hlsd, gb_set (by simpa using hmj)] at h
          split at h
          · exact .inr (by assumption)
          · rw [gb_set (by simpa using hmi)] at h
            split at h
            · exact .inl (by assumption)
            · rw [gb_rep] at h; cases h
        have hpos : (pos ls (d.length + 2)).length ≤ 2 := by have := pos_two hlsb (d.length + 2); split at this <;> split at this <;> omega
        refine W.loop (α := Nat × List Int) (fun g => [(12, .int .i64 (g.1 : Int))]) [(0, _), (9, _), (10, _), (11, _)] (fun g w => (g.1 ≤ d.length + 2 ∧ g.2.length = d.length + 2 ∧ (∀ j, j < g.1 → gz g.2 j = if gb ls j = true then -7 else (gn (word d) j : Int)) ∧ ∀ j, g.1 ≤ j → gz g.2 j = (gn (word d) j : Int)) ∧ Mem w w0.heap.size [⟨4, some ⟨gg7, 0, none⟩, d.length + 2, d.length + 2, bv ls⟩, ⟨3, p6, d.length + 2, c6, iv g.2⟩] ∧ Below w0.heap.size w0 w) (fun g => d.length + 2 - g.1) ((0, (word d).map fun x : Nat => (x : Int))) (Sub.cons rfl (Sub.nil _)) (Sub.cons rfl (Sub.cons rfl (Sub.cons rfl (Sub.cons rfl (Sub.nil _))))) ?_ ?_
        · exact ⟨⟨Nat.zero_le _, by simpa using hwl, fun j hj => absurd hj (by simp), fun j _ => gz_cast _ j⟩, hM, hB⟩
        rintro ⟨k, ys⟩ w10 ⟨⟨hkl, hyl, hyk, hyr⟩, hM, hB⟩
        try simp only at hM
        simp only [List.cons_append, List.nil_append]
        simp only at hkl hyl hyk hyr
        refine W.seq ?_
        refine W.seqR ?_
        refine LS.vv rfl rfl (by decide) (Val.move rfl) ?_
        refine LS.vv rfl rfl (by decide) (Val.move rfl) ?_
        refine LS.vv rfl rfl (by decide) (Val.len Try.underlying27 rfl) ?_
        refine LS.vv rfl rfl (by decide) (Val.lss rfl rfl) ?_
        refine LS.nil ?_
        first | refine W.condD rfl (fun hc4 => ?_) (fun hc4 => ?_) | refine W.cond rfl (fun hc4 => ?_) (fun hc4 => ?_)
        ·
          refine W.skip ?_
          refine thenP_normal ?_
          refine W.seq ?_
          refine W.block ?_
          refine W.seqR ?_
          refine LS.vv rfl rfl (by decide) (Val.move rfl) ?_
          refine LS.vv rfl rfl (by decide) (Val.move rfl) ?_
          refine LS.vv rfl rfl (by decide) (Val.index1 Try.underlying35 elem4 rfl rfl (by first | omega | (simp only [List.length_set, List.length_replicate]; omega)) (hM.o0.rd) (bv_lt (by first | omega | (simp only [List.length_set, List.length_replicate]; omega)))) ?_
          refine LS.m rfl (Step.load rfl rfl (by decide) flat4 rfl (hM.o0.rd) (bv_at (by first | omega | (simp only [List.length_set, List.length_replicate]; omega))) ?_)
          refine LS.nil ?_
          first | refine W.condD rfl (fun hc5 => ?_) (fun hc5 => ?_) | refine W.cond rfl (fun hc5 => ?_) (fun hc5 => ?_)
          ·
            refine W.reg ?_
            refine LS.vv rfl rfl (by decide) (Val.move rfl) ?_
            refine LS.vv rfl rfl (by decide) (Val.move rfl) ?_
            refine LS.vv rfl rfl (by decide) (Val.index1 Try.underlying27 elem3 rfl rfl (by first | omega | (simp only [List.length_set, List.length_replicate]; omega)) (hM.o1.rd) (iv_lt (by first | omega | (simp only [List.length_set, List.length_replicate]; omega)))) ?_
            refine LS.m rfl (Step.store (B := w0.heap.size) rfl rfl flat3 elem3 rfl rfl rfl (hM.o1) (by first | omega | (simp only [List.length_set, List.length_replicate]; omega)) hB.size ?_)
            rintro w11 hO11 hg11 hbl11 hsz11
            replace hM := hM.s1 hg11 hO11 inl_block
            try simp only [iv_app1, iv_app, iv_set, iv_rep, iv_one, iv_cons, iv_take, iv_drop, List.nil_append] at hM
            replace hB := hB.trans hbl11
            refine LS.nil ?_
            refine inBlk_normal ?_
            refine thenP_normal ?_
            refine W.reg ?_
            refine LS.vv rfl rfl (by decide) (Val.move rfl) ?_
            first | refine LS.vv rfl rfl (by decide) (Val.addN (j := 1) rfl rfl (by first | omega | (simp only [List.length_set, List.length_replicate]; omega))) ?_ | refine LS.vv rfl rfl (by decide) (Val.add64 rfl rfl (by first | omega | (simp only [List.length_set, List.length_replicate]; omega))) ?_
            refine LS.vv rfl rfl (by decide) (Val.assign rfl) ?_
            refine LS.nil ?_
            refine thenP_normal ?_
            refine ⟨(k + 1, ys.set k (-7)), ?_, ?_, ⟨⟨by simp only; omega, by simpa using hyl, fun j hj => ?_, fun j hj => ?_⟩, hM, hB⟩, by simp only; omega⟩
            · exact (Sub.cons rfl (Sub.nil _))
            · repeat (first | exact Sub.nil _ | refine Sub.cons rfl ?_)
            · simp only at hj ⊢; rw [gz_set (by omega)]
              by_cases ej : j = k
              · subst ej; rw [if_pos rfl, if_pos ‹gb ls j = true›]
              · rw [if_neg ej]; exact hyk j (by omega)
            · simp only at hj ⊢; rw [gz_set (by omega), if_neg (by omega)]; exact hyr j (by omega)
          ·
            refine W.skip ?_
            refine inBlk_normal ?_
            refine thenP_normal ?_
            refine W.reg ?_
            refine LS.vv rfl rfl (by decide) (Val.move rfl) ?_
            first | refine LS.vv rfl rfl (by decide) (Val.addN (j := 1) rfl rfl (by first | omega | (simp only [List.length_set, List.length_replicate]; omega))) ?_ | refine LS.vv rfl rfl (by decide) (Val.add64 rfl rfl (by first | omega | (simp only [List.length_set, List.length_replicate]; omega))) ?_
            refine LS.vv rfl rfl (by decide) (Val.assign rfl) ?_
            refine LS.nil ?_
            refine thenP_normal ?_
            have hgf : gb ls k = false := by simp_all
            refine ⟨(k + 1, ys), ?_, ?_, ⟨⟨by simp only; omega, hyl, fun j hj => ?_, fun j hj => hyr j (by simp only at hj; omega)⟩, hM, hB⟩, by simp only; omega⟩
            · exact (Sub.cons rfl (Sub.nil _))
            · repeat (first | exact Sub.nil _ | refine Sub.cons rfl ?_)
            · simp only at hj ⊢
              by_cases ej : j = k
              · subst ej; rw [if_neg (by simp [hgf])]; exact hyr j (Nat.le_refl _)
              · exact hyk j (by omega)
        ·
          refine W.exit ?_
          refine thenP_exit ?_
          refine thenP_exit ?_
          refine inBlk_exit ?_
          refine thenP_normal ?_
          refine W.seqR ?_
          refine LS.vv rfl rfl (by decide) (Val.move rfl) ?_
          refine LS.vv rfl rfl (by decide) (Val.move rfl) ?_
          refine LS.m rfl (Step.call body30 rfl rfl (by decide) rfl (CallsV.mono (Fill_len (word d) ys ls d.length _ _ _ _ _ _ _ hM.o1.rd hM.o0.rd (by omega) hlsl (by omega) (by omega) hwl (by omega) (by omega) (word_sm hsm) hpos (fun j hj hb => by rw [hyk j (by omega), if_neg (by simp [hb])])) ?_))
          rintro _ w12 ⟨p2, c2, D, f, rfl, hRD, hf1, hf2, hb12⟩
          replace hM := hM.below hb12
          replace hB := hB.trans (hb12.mono hB.size)
          obtain ⟨hb1, hb2⟩ := blot_word hsm (by omega) hpos
          obtain ⟨rfl, hD⟩ := hf1 hb2
          rw [hb1] at hD
          subst hD
          refine LS.vv rfl rfl (by decide) (Val.move rfl) ?_
          refine LS.vv rfl rfl (by decide) (Val.extract rfl rfl) ?_
          refine LS.vv rfl rfl (by decide) (Val.extract rfl rfl) ?_
          refine LS.vv rfl rfl (by decide) (Val.assign rfl) ?_
          refine LS.vv rfl rfl (by decide) (Val.assign rfl) ?_
          refine LS.nil ?_
          refine W.seqR ?_
          refine LS.vv rfl rfl (by decide) (Val.move rfl) ?_
          refine LS.vv rfl rfl (by decide) (Val.cast (v := .bool true) (Val.eql rfl rfl) (by first | (simp; done) | (simp; omega))) ?_
          refine LS.vv rfl rfl (by decide) (Val.move rfl) ?_
          refine LS.vg rfl rfl rfl rfl (by decide) (Val.move rfl) ?_
          refine LS.vg rfl rfl rfl rfl (by decide) (Val.cast (v := .bool true) (Val.eql rfl rfl) (by first | (simp; done) | (simp; omega))) ?_
          refine LS.vv rfl rfl (by decide) (Val.pickT rfl rfl rfl) ?_
          refine LS.vv rfl rfl (by decide) (Val.move rfl) ?_
          refine LS.vg rfl rfl rfl rfl (by decide) (Val.move rfl) ?_
          refine LS.vg rfl rfl rfl rfl (by decide) (Val.move rfl) ?_
          refine LS.mg rfl rfl rfl (Step.call body21 rfl rfl (by decide) rfl (CallsV.mono (intsEq_len (D.map fun x : Nat => (x : Int)) zs _ _ _ _ _ _ _ (by rw [← nv_cast]; exact hRD) (hr.below hB) (by simp) rfl (by omega)) ?_))
          rintro _ w13 ⟨rfl, hb13⟩
          replace hM := hM.below hb13
          replace hB := hB.trans (hb13.mono hB.size)
          rw [show decide (D.map (fun x : Nat => (x : Int)) = zs) = true from decide_eq_true hzb]
          refine LS.vv rfl rfl (by decide) (Val.pickT rfl rfl rfl) ?_
          refine LS.vv rfl rfl (by decide) (Val.assign rfl) ?_
          refine LS.nil ?_
          refine W.ret ?_
          refine ret1 (by first | exact .inl rfl | exact .inr rfl) rfl ?_
          first | exact ⟨rfl, hB⟩ | contradiction | (exfalso; omega)

end Go.Proofs.Ytnaebllojkodbaa
