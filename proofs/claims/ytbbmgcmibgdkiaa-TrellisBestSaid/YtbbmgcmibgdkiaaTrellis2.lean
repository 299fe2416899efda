/-
  Package trellis: Get.
-/
import Derived.Test.YtbbmgcmibgdkiaaTrellis1
namespace Go.Proofs.Ytbbmgcmibgdkiaa
open Go Go.RowKit V
set_option linter.unusedVariables false
set_option linter.unusedSimpArgs false

theorem MapR.drew {κ : Type} {enc : κ → Value} {w : World} {B m : Nat} {f : κ → Option Value} (h : MapR enc w B m f) : MapR enc w.drew B m f := ⟨h.own, h.births⟩
theorem OwnIter.drew {κ : Type} {enc : κ → Value} {w : World} {B m it : Nat} {ks : List κ} (h : OwnIter enc w B m it ks) : OwnIter enc w.drew B m it ks := h
theorem tp_cap {w : World} {B : Nat} {S : List Oz} {T : List PV} {x : PV} (h : Mz w B S) (hx : x ∈ T) (hin : ∀ o ∈ tp T, o ∈ S) : x.l.length ≤ x.c := (h.all _ (hin ⟨4, 1, x.p, x.l.length, x.c, bv x.l⟩ (List.mem_map.2 ⟨x, hx, rfl⟩))).le_cap
abbrev nxq (a : St2) (q : Nat) : St2 := nxs a (gb [false, true] q)
abbrev xpv (pq : Option Addr) (cq : Nat) (x : PV) (q : Nat) (xs : List Bool) (k : Nat) (a : St2) : PV := ⟨pq, cq, x.l ++ [gb [false, true] q], x.o + two xs k a (gb [false, true] q)⟩
/-- how many of the first i of two bits are off -/
def prt (l : List Bool) (k : Nat) (s : St2) (b : Bool) (i : Nat) : Nat := (if 1 ≤ i ∧ out0 s b ≠ gb l (2 * k) then 1 else 0) + if 2 ≤ i ∧ out1 s b ≠ gb l (2 * k + 1) then 1 else 0
theorem prt_zero (l : List Bool) (k : Nat) (s : St2) (b : Bool) : prt l k s b 0 = 0 := by simp [prt]
theorem prt_succ (l : List Bool) (k : Nat) (s : St2) (b : Bool) {i : Nat} (hi : i < 2) : prt l k s b (i + 1) = prt l k s b i + if (if i = 0 then out0 s b else out1 s b) ≠ gb l (2 * k + i) then 1 else 0 := by
  have : i = 0 ∨ i = 1 := by omega
  rcases this with rfl | rfl <;> simp [prt]
theorem prt_le (l : List Bool) (k : Nat) (s : St2) (b : Bool) (i : Nat) : prt l k s b i ≤ 2 := by
  unfold prt; split <;> split <;> omega
theorem prt_two (l : List Bool) (k : Nat) (s : St2) (b : Bool) : prt l k s b 2 = two l k s b := by
  unfold prt two
  by_cases h1 : out0 s b = gb l (2 * k) <;> by_cases h2 : out1 s b = gb l (2 * k + 1) <;> simp [h1, h2]
theorem nodup_sub {α : Type} [DecidableEq α] : ∀ (l m : List α), l.Nodup → (∀ x ∈ l, x ∈ m) → l.length ≤ m.length
  | [], _, _, _ => Nat.zero_le _
  | a :: l, m, hn, hs => by
    rw [List.nodup_cons] at hn
    have ha := hs a (by simp)
    have h := nodup_sub l (m.erase a) hn.2 fun x hx => (List.mem_erase_of_ne (fun e : x = a => hn.1 (by rw [← e]; exact hx))).2 (hs x (by simp [hx]))
    rw [List.length_erase_of_mem ha] at h
    have := List.length_pos_of_mem ha
    rw [List.length_cons]; omega
theorem nod4 {ks : List St2} (h : ks.Nodup) : ks.length ≤ 4 := nodup_sub ks [(false, false), (false, true), (true, false), (true, true)] h fun x _ => by
  obtain ⟨a, b⟩ := x
  cases a <;> cases b <;> simp
def nb (N k : Nat) : Nat := if k < N then 2 else 1
theorem nb_ok {N k q : Nat} (hq : q < nb N k) : N ≤ k → gb [false, true] q = false := by
  intro h
  unfold nb at hq
  rw [if_neg (by omega)] at hq
  obtain rfl : q = 0 := by omega
  rfl
theorem nb_all {N k : Nat} {b : Bool} (h : N ≤ k → b = false) : ∃ j, j < nb N k ∧ gb [false, true] j = b := by
  unfold nb
  by_cases hk : k < N
  · rw [if_pos hk]; cases b
    · exact ⟨0, by omega, rfl⟩
    · exact ⟨1, by omega, rfl⟩
  · rw [if_neg hk, h (by omega)]; exact ⟨0, by omega, rfl⟩
def zG : St2 → Option PV := fun s => if s = zero2 then some zPV else none
theorem zG_upd : upd (fun _ => none) zero2 (pv zPV) = fv zG := by funext s; unfold upd fv zG; split <;> rfl
theorem zG_pl : plT zG = fun t => if t = zero2 then some ([], 0) else none := by funext s; unfold plT zG; split <;> rfl
theorem zG_in : InT zG [zPV] := fun s x h => by unfold zG at h; split at h <;> simp_all
theorem none_in (T : List PV) : InT (fun _ => none) T := fun s x h => by cases h
def sn (ks : List St2) (a : St2) (q : Nat) : St2 → Bool → Prop := fun s b => s ∈ ks ∨ s = a ∧ ∃ j, j < q ∧ gb [false, true] j = b
theorem sn_start {N k : Nat} {l : List Bool} {f g : St2 → Option (List Bool × Nat)} {ks : List St2} {a : St2} (h : Nxt N l k f g (fun s _ => s ∈ ks)) : Nxt N l k f g (sn ks a 0) := h.weak fun s b hs _ _ => by
  rcases hs with hs | ⟨_, j, hj, _⟩
  · exact hs
  · omega
theorem sn_next {N k q : Nat} {l : List Bool} {f g : St2 → Option (List Bool × Nat)} {ks : List St2} {a : St2} (h : Nxt N l k f g (fun s2 b2 => sn ks a q s2 b2 ∨ s2 = a ∧ b2 = gb [false, true] q)) : Nxt N l k f g (sn ks a (q + 1)) := h.weak fun s b hs _ _ => by
  rcases hs with hs | ⟨h1, j, hj, h2⟩
  · exact .inl (.inl hs)
  · by_cases e : j = q
    · subst e; exact .inr ⟨h1, h2.symm⟩
    · exact .inl (.inr ⟨h1, j, by omega, h2⟩)
theorem sn_end {N k : Nat} {l : List Bool} {f g : St2 → Option (List Bool × Nat)} {ks : List St2} {a : St2} (h : Nxt N l k f g (sn ks a (nb N k))) : Nxt N l k f g (fun s _ => s ∈ ks ++ [a]) := h.weak fun s b hs hb _ => by
  rcases List.mem_append.1 hs with hs | hs
  · exact .inl hs
  · exact .inr ⟨List.mem_singleton.1 hs, nb_all hb⟩

theorem pv_two (pq : Option Addr) (cq : Nat) (x : PV) (q : Nat) (xs : List Bool) (k : Nat) (a : St2) : (.agg #[.slice pq (x.l.length + 1) cq, .int .i64 ((x.o + prt xs k a (gb [false, true] q) 2 : Nat) : Int)] : Value) = pv (xpv pq cq x q xs k a) := by rw [prt_two]; simp [pv, xpv]

set_option maxHeartbeats 2000000 in
theorem tget_any (xs : List Bool) (p : Option Addr) (c m N : Nat) (w0 : World) (hr : Rd w0 p (bv xs)) (hm : xs.length = m) (hmx : m ≤ 9223372036854775807) (hN : N = m / 2 - 2) :
    CallsV Try.prog 39 #[.slice p m c] w0 (fun v w => ∃ (p2 : Option Addr) (c2 : Nat) (ds : List Bool) (nn e : Nat), v = .tuple #[.slice p2 ds.length c2, .int .i64 (nn : Int), .int .i64 (e : Int)] ∧ Rd w p2 (bv ds) ∧ (e = 0 ↔ m % 2 = 0 ∧ 4 ≤ m ∧ N ≤ 12) ∧ (e = 0 → Best N xs ds nn) ∧ nn ≤ 100 ∧ ds.length ≤ 12 ∧ Below w0.heap.size w0 w) := by
 refine enter3 Try.func39 rfl Try.ntmps39 (by simp) rfl ?_
 have hB := Below.refl w0.heap.size w0
 simp only [argLoc]
 have hM := Mz.nil w0 w0.heap.size
 subst hm
 refine W.seqR ?_
 refine LS.vv rfl rfl (by decide) (Val.assign rfl) ?_
 refine LS.vv rfl rfl (by decide) (Val.cast (v := .int .i64 ((0 : Nat) : Int)) (Val.assign rfl) rfl) ?_
 refine LS.vv rfl rfl (by decide) (Val.cast (v := .int .i64 ((0 : Nat) : Int)) (Val.assign rfl) rfl) ?_
 refine LS.nil ?_
 refine W.seq ?_
 refine W.seqR ?_
 refine LS.vv rfl rfl (by decide) (Val.move rfl) ?_
 refine LS.vv rfl rfl (by decide) (Val.len Try.underlying23 rfl) ?_
 first | refine LS.vv rfl rfl (by decide) (Val.remN (j := 2) rfl rfl (by omega)) ?_ | refine LS.vv rfl rfl (by decide) (Val.rem rfl rfl (by omega) (by omega)) ?_ | refine LS.vv rfl rfl (by decide) (Val.remT rfl rfl (by omega)) ?_
 refine LS.vv rfl rfl (by decide) (Val.eql rfl rfl) ?_
 refine LS.vv rfl rfl (by decide) (Val.move rfl) ?_
 refine LS.split 4 rfl (fun hg1 => ?_) (fun hg1 => ?_)
 ·
  first | (have hg1p := of_decide_eq_true hg1) | skip
  refine LS.s rfl rfl rfl hg1 (by decide) ?_
  refine LS.s rfl rfl rfl hg1 (by decide) ?_
  refine LS.s rfl rfl rfl hg1 (by decide) ?_
  refine LS.vv rfl rfl (by decide) (Val.pickT rfl hg1 rfl) ?_
  refine LS.nil ?_
  refine W.condT rfl ?_
  refine W.seqR ?_
  refine LS.vv rfl rfl (by decide) (Val.assign rfl) ?_
  refine LS.vv rfl rfl (by decide) (Val.cast (v := .int .i64 ((0 : Nat) : Int)) (Val.assign rfl) rfl) ?_
  refine LS.vv rfl rfl (by decide) (Val.cast (v := .int .i64 ((3 : Nat) : Int)) (Val.assign rfl) rfl) ?_
  refine LS.nil ?_
  refine W.ret ?_
  refine thenP_ret ?_
  refine ret3 (by first | exact .inl rfl | exact .inr rfl) rfl rfl rfl ?_
  first
    | exact ⟨none, 0, [], 0, 3, rfl, Rd.nil _ _, ⟨fun h => by omega, fun h => by omega⟩, fun h => by omega, by omega, by simp, hB⟩
    | exact ⟨none, 0, [], 0, 1, rfl, Rd.nil _ _, ⟨fun h => by omega, fun h => by omega⟩, fun h => by omega, by omega, by simp, hB⟩
    | (have htl : (bits.take N).length = N := hbest.len
       refine ⟨x.p, N, bits.take N, off, 0, (by rw [htl, hxo]), ?_, ⟨fun _ => ⟨by omega, by omega, hN12⟩, fun _ => rfl⟩, fun _ => hbest, by omega, by omega, hB⟩
       have h9 := (tp_rd hM (hGT _ _ hGx) (fun o h => by simp [h])).take N
       rw [hxl] at h9
       rw [← bv_take]; exact h9)
 ·
  first | (have hg1p := of_decide_eq_false hg1) | skip
  refine LS.vg rfl rfl rfl hg1 (by decide) (Val.move rfl) ?_
  refine LS.vg rfl rfl rfl hg1 (by decide) (Val.len Try.underlying23 rfl) ?_
  refine LS.vg rfl rfl rfl hg1 (by decide) (Val.lss rfl rfl) ?_
  refine LS.vv rfl rfl (by decide) (Val.pickF rfl hg1 rfl) ?_
  refine LS.nil ?_
  first | refine W.condD rfl (fun hc2 => ?_) (fun hc2 => ?_) | refine W.cond rfl (fun hc2 => ?_) (fun hc2 => ?_)
  ·
   refine W.seqR ?_
   refine LS.vv rfl rfl (by decide) (Val.assign rfl) ?_
   refine LS.vv rfl rfl (by decide) (Val.cast (v := .int .i64 ((0 : Nat) : Int)) (Val.assign rfl) rfl) ?_
   refine LS.vv rfl rfl (by decide) (Val.cast (v := .int .i64 ((3 : Nat) : Int)) (Val.assign rfl) rfl) ?_
   refine LS.nil ?_
   refine W.ret ?_
   refine thenP_ret ?_
   refine ret3 (by first | exact .inl rfl | exact .inr rfl) rfl rfl rfl ?_
   first
     | exact ⟨none, 0, [], 0, 3, rfl, Rd.nil _ _, ⟨fun h => by omega, fun h => by omega⟩, fun h => by omega, by omega, by simp, hB⟩
     | exact ⟨none, 0, [], 0, 1, rfl, Rd.nil _ _, ⟨fun h => by omega, fun h => by omega⟩, fun h => by omega, by omega, by simp, hB⟩
     | (have htl : (bits.take N).length = N := hbest.len
        refine ⟨x.p, N, bits.take N, off, 0, (by rw [htl, hxo]), ?_, ⟨fun _ => ⟨by omega, by omega, hN12⟩, fun _ => rfl⟩, fun _ => hbest, by omega, by omega, hB⟩
        have h9 := (tp_rd hM (hGT _ _ hGx) (fun o h => by simp [h])).take N
        rw [hxl] at h9
        rw [← bv_take]; exact h9)
  ·
   refine W.skip ?_
   refine thenP_normal ?_
   refine W.seqR ?_
   refine LS.vv rfl rfl (by decide) (Val.move rfl) ?_
   refine LS.vv rfl rfl (by decide) (Val.len Try.underlying23 rfl) ?_
   first | refine LS.vv rfl rfl (by decide) (Val.quoN (j := 2) rfl rfl (by omega) (by omega)) ?_ | refine LS.vv rfl rfl (by decide) (Val.quo64 rfl rfl (by omega) (by omega)) ?_
   first | refine LS.vv rfl rfl (by decide) (Val.cast (v := .int .i64 (N : Int)) (Val.subN (j := 2) rfl rfl (by omega) (by omega)) (by rw [hN])) ?_ | refine LS.vv rfl rfl (by decide) (Val.cast (v := .int .i64 (N : Int)) (Val.sub64 rfl rfl (by omega)) (by rw [hN])) ?_
   refine LS.vv rfl rfl (by decide) (Val.assign rfl) ?_
   refine LS.nil ?_
   refine W.seq ?_
   refine W.seqR ?_
   refine LS.vv rfl rfl (by decide) (Val.move rfl) ?_
   refine LS.vv rfl rfl (by decide) (Val.gtr rfl rfl) ?_
   refine LS.nil ?_
   first | refine W.condD rfl (fun hc3 => ?_) (fun hc3 => ?_) | refine W.cond rfl (fun hc3 => ?_) (fun hc3 => ?_)
   ·
    refine W.seqR ?_
    refine LS.vv rfl rfl (by decide) (Val.assign rfl) ?_
    refine LS.vv rfl rfl (by decide) (Val.cast (v := .int .i64 ((0 : Nat) : Int)) (Val.assign rfl) rfl) ?_
    refine LS.vv rfl rfl (by decide) (Val.cast (v := .int .i64 ((1 : Nat) : Int)) (Val.assign rfl) rfl) ?_
    refine LS.nil ?_
    refine W.ret ?_
    refine thenP_ret ?_
    refine ret3 (by first | exact .inl rfl | exact .inr rfl) rfl rfl rfl ?_
    first
      | exact ⟨none, 0, [], 0, 3, rfl, Rd.nil _ _, ⟨fun h => by omega, fun h => by omega⟩, fun h => by omega, by omega, by simp, hB⟩
      | exact ⟨none, 0, [], 0, 1, rfl, Rd.nil _ _, ⟨fun h => by omega, fun h => by omega⟩, fun h => by omega, by omega, by simp, hB⟩
      | (have htl : (bits.take N).length = N := hbest.len
         refine ⟨x.p, N, bits.take N, off, 0, (by rw [htl, hxo]), ?_, ⟨fun _ => ⟨by omega, by omega, hN12⟩, fun _ => rfl⟩, fun _ => hbest, by omega, by omega, hB⟩
         have h9 := (tp_rd hM (hGT _ _ hGx) (fun o h => by simp [h])).take N
         rw [hxl] at h9
         rw [← bv_take]; exact h9)
   ·
    have hN12 : N ≤ 12 := by omega
    have hXl : xs.length = 2 * N + 4 := by omega
    refine W.skip ?_
    refine thenP_normal ?_
    refine W.seqR ?_
    refine LS.m rfl (Step.makeMapR (enc := encB) rfl rfl (by decide) ?_)
    rintro wa hmb hbla hsza
    replace hM := hM.below hbla
    replace hB := hB.trans (hbla.mono hB.size)
    refine LS.vv rfl rfl (by decide) (Val.buildArr (vs := [.bool false, .bool false]) Try.underlying79 elem79 elem4 rfl rfl) ?_
    refine LS.vv rfl rfl (by decide) (Val.build str82 elem82 rfl rfl rfl) ?_
    refine LS.m rfl (Step.mapPutR (k := zero2) (v := pv zPV) (.inr rfl) rfl (keys_bb b2_79) Try.underlying83 rfl rfl rfl hmb hB.size ?_)
    rintro wb hmb2 hgb hblb hszb
    rw [zG_upd] at hmb2
    replace hM := hM.mapR hmb hgb
    replace hB := hB.trans hblb
    replace hmb := hmb2
    clear hmb2
    refine LS.vv rfl rfl (by decide) (Val.move rfl) ?_
    refine LS.vv rfl rfl (by decide) (Val.assign rfl) ?_
    refine LS.nil ?_
    refine W.seq ?_
    refine W.seqR ?_
    refine LS.vv rfl rfl (by decide) (Val.move rfl) ?_
    first | refine LS.vv rfl rfl (by decide) (Val.addN (j := 2) rfl rfl (by omega)) ?_ | refine LS.vv rfl rfl (by decide) (Val.add64 rfl rfl (by omega)) ?_
    refine LS.vv rfl rfl (by decide) (Val.cast (v := .int .i64 ((0 : Nat) : Int)) (Val.move rfl) rfl) ?_
    refine LS.nil ?_
    refine W.block ?_
    replace hM := hM.addNil 4 1
    refine W.loop (α := Nat × Nat × (St2 → Option PV) × List PV) (fun g => [(6, .map (some g.2.1)), (41, .int .i64 (g.1 : Int))]) [(0, _), (5, _), (40, _)] (fun g w => (g.1 ≤ N + 2 ∧ Tab N xs g.1 (plT g.2.2.1) ∧ MapR encB w w0.heap.size g.2.1 (fv g.2.2.1) ∧ InT g.2.2.1 g.2.2.2) ∧ Mz w w0.heap.size ((tp g.2.2.2)) ∧ Below w0.heap.size w0 w) (fun g => N + 2 - g.1) ((0, _, zG, [zPV])) (Sub.cons rfl (Sub.cons rfl (Sub.nil _))) (Sub.cons rfl (Sub.cons rfl (Sub.cons rfl (Sub.nil _)))) ?_ ?_
    · exact ⟨⟨Nat.zero_le _, by rw [zG_pl]; exact Tab.start N xs, hmb, zG_in⟩, hM, hB⟩
    rintro ⟨k, mb, G, T⟩ w1 ⟨⟨hk, hTab, hmb, hGT⟩, hM, hB⟩
    try simp only at hM
    simp only [List.cons_append, List.nil_append]
    simp only at hk hTab hmb hGT
    refine W.seqR ?_
    refine LS.vv rfl rfl (by decide) (Val.lss rfl rfl) ?_
    refine LS.nil ?_
    refine W.seq ?_
    first | refine W.condD rfl (fun hc4 => ?_) (fun hc4 => ?_) | refine W.cond rfl (fun hc4 => ?_) (fun hc4 => ?_)
    ·
     refine W.skip ?_
     refine thenP_normal ?_
     refine W.seq ?_
     refine W.block ?_
     refine W.seqR ?_
     refine LS.vv rfl rfl (by decide) (Val.move rfl) ?_
     refine LS.vv rfl rfl (by decide) (Val.assign rfl) ?_
     refine LS.nil ?_
     refine W.seqR ?_
     refine LS.m rfl (Step.makeMapR (enc := encB) rfl rfl (by decide) ?_)
     rintro wc hmn hblc hszc
     replace hM := hM.below hblc
     have hmne : mb ≠ w1.heap.size := Nat.ne_of_lt hmb.lt
     replace hmb := hmb.below hblc
     replace hmn := MapR.base hmn hB.size
     rw [fv_none] at hmn
     replace hB := hB.trans (hblc.mono hB.size)
     generalize w1.heap.size = mn at *
     refine LS.vv rfl rfl (by decide) (Val.assign rfl) ?_
     refine LS.nil ?_
     refine W.seq ?_
     refine W.seqR ?_
     refine LS.vv rfl rfl (by decide) (Val.move rfl) ?_
     refine LS.m rfl (Step.rangeR rfl rfl (by decide) Try.underlying83 rfl hmb hB.size ?_)
     rintro wd hmb4 hit hbld
     replace hM := hM.below hbld
     replace hmn := hmn.below hbld
     replace hmb := hmb4
     replace hB := hB.trans (hbld.mono hB.size)
     generalize wc.heap.size = it at *
     refine LS.nil ?_
     refine W.block ?_
     refine W.loop (α := List St2 × (St2 → Option PV) × List PV) (fun g => []) [(0, _), (5, _), (7, _), (8, _), (40, _), (41, _), (46, _)] (fun g w => (MapR encB w w0.heap.size mb (fv G) ∧ MapR encB w w0.heap.size mn (fv g.2.1) ∧ OwnIter encB w w0.heap.size mb it g.1 ∧ Nxt N xs k (plT G) (plT g.2.1) (fun s _ => s ∈ g.1) ∧ InT G g.2.2 ∧ InT g.2.1 g.2.2) ∧ Mz w w0.heap.size ((tp g.2.2)) ∧ Below w0.heap.size w0 w) (fun g => 4 - g.1.length) (([], fun _ => none, T)) (Sub.nil _) (Sub.cons rfl (Sub.cons rfl (Sub.cons rfl (Sub.cons rfl (Sub.cons rfl (Sub.cons rfl (Sub.cons rfl (Sub.nil _)))))))) ?_ ?_
     · exact ⟨⟨hmb, hmn, hit, (Nxt.start N xs k (plT G)).weak (fun s b h _ _ => by simp at h), hGT, none_in T⟩, hM, hB⟩
     rintro ⟨ks, Nx, T1⟩ w2 ⟨⟨hmb, hmn, hit, hnx, hGT, hNT⟩, hM, hB⟩
     try simp only at hM
     simp only [List.cons_append, List.nil_append]
     simp only at hmb hmn hit hnx hGT hNT
     refine W.seqR ?_
     refine LS.m rfl (Step.nextZ (keys_bb b2_79) rfl rfl (by decide) rfl hmb hit hB.size ?_)
     rintro nb1 ncs we hnth hmb6 hbl6 hg6 hsz6 hfin hnext
     replace hM := hM.iter hit hg6
     replace hmn := hmn.keep hg6 (fun h => hit.ne_map hmn (by injection h with h; exact h.symm))
     replace hmb := hmb6
     replace hB := hB.trans hbl6
     refine LS.vv rfl rfl (by decide) (Val.extract rfl hnth) ?_
     refine LS.nil ?_
     refine W.seq ?_
     first | refine W.condD rfl (fun hc5 => ?_) (fun hc5 => ?_) | refine W.cond rfl (fun hc5 => ?_) (fun hc5 => ?_)
     ·
      refine W.skip ?_
      refine thenP_normal ?_
      refine W.block ?_
      refine W.seqR ?_
      obtain ⟨a, vx, hvx, hak, hit1⟩ := hnext (by assumption)
      replace hit := hit1
      obtain ⟨x, hGx, rfl⟩ := fv_some hvx
      have hTa := (hTab a).1 x.l x.o (pl_some hGx)
      have hxl := hTa.1.len
      have hxo := hTa.1.off
      have hxo2 := dif_le (enc zero2 x.l) (xs.take (2 * k))
      rw [hxo, enc_len, hxl] at hxo2
      have hks4 := nod4 hit.nodup
      rw [List.length_append] at hks4
      refine LS.m rfl (Step.entryR (keys_bb b2_79) rfl rfl (by decide) rfl hmb hit hvx ?_)
      refine LS.vv rfl rfl (by decide) (Val.extract rfl rfl) ?_
      refine LS.vv rfl rfl (by decide) (Val.extract rfl rfl) ?_
      refine LS.m rfl (Step.allocZ rfl rfl (by decide) elem79 rfl (by decide) ?_)
      rintro w3 hO3 hg3 hbl3 hsz3
      first | replace hmb := hmb.below hbl3 | replace hmb := hmb.offZ hM.o0 hg3 | replace hmb := hmb.offZ hM.o1 hg3 | replace hmb := hmb.offZ hM.o2 hg3 | replace hmb := hmb.offZ hM.o3 hg3 | replace hmb := hmb.offZ hM.o4 hg3 | replace hmb := hmb.offZ hM.o5 hg3 | replace hmb := hmb.offZ hM.o6 hg3 | replace hmb := hmb.offZ hM.o7 hg3 | replace hmb := hmb.offZ hM.o8 hg3 | replace hmb := hmb.offZ hM.o9 hg3 | skip
      first | replace hmn := hmn.below hbl3 | replace hmn := hmn.offZ hM.o0 hg3 | replace hmn := hmn.offZ hM.o1 hg3 | replace hmn := hmn.offZ hM.o2 hg3 | replace hmn := hmn.offZ hM.o3 hg3 | replace hmn := hmn.offZ hM.o4 hg3 | replace hmn := hmn.offZ hM.o5 hg3 | replace hmn := hmn.offZ hM.o6 hg3 | replace hmn := hmn.offZ hM.o7 hg3 | replace hmn := hmn.offZ hM.o8 hg3 | replace hmn := hmn.offZ hM.o9 hg3 | skip
      first | replace hit := hit.below hbl3 | replace hit := hit.offZ hM.o0 hg3 | replace hit := hit.offZ hM.o1 hg3 | replace hit := hit.offZ hM.o2 hg3 | replace hit := hit.offZ hM.o3 hg3 | replace hit := hit.offZ hM.o4 hg3 | replace hit := hit.offZ hM.o5 hg3 | replace hit := hit.offZ hM.o6 hg3 | replace hit := hit.offZ hM.o7 hg3 | replace hit := hit.offZ hM.o8 hg3 | replace hit := hit.offZ hM.o9 hg3 | skip
      replace hM := hM.add hB.size hbl3 hO3
      try simp only [List.length_cons, List.length_nil, Nat.zero_add, Nat.reduceAdd, Value.cells, List.toList_toArray, List.append_nil, List.set_cons_zero, List.set_cons_succ] at hM
      replace hB := hB.trans (hbl3.mono hB.size)
      generalize we.heap.size = gg3 at *
      refine LS.m rfl (Step.allocZ rfl rfl (by decide) elem82 rfl (by decide) ?_)
      rintro w4 hO4 hg4 hbl4 hsz4
      first | replace hmb := hmb.below hbl4 | replace hmb := hmb.offZ hM.o0 hg4 | replace hmb := hmb.offZ hM.o1 hg4 | replace hmb := hmb.offZ hM.o2 hg4 | replace hmb := hmb.offZ hM.o3 hg4 | replace hmb := hmb.offZ hM.o4 hg4 | replace hmb := hmb.offZ hM.o5 hg4 | replace hmb := hmb.offZ hM.o6 hg4 | replace hmb := hmb.offZ hM.o7 hg4 | replace hmb := hmb.offZ hM.o8 hg4 | replace hmb := hmb.offZ hM.o9 hg4 | skip
      first | replace hmn := hmn.below hbl4 | replace hmn := hmn.offZ hM.o0 hg4 | replace hmn := hmn.offZ hM.o1 hg4 | replace hmn := hmn.offZ hM.o2 hg4 | replace hmn := hmn.offZ hM.o3 hg4 | replace hmn := hmn.offZ hM.o4 hg4 | replace hmn := hmn.offZ hM.o5 hg4 | replace hmn := hmn.offZ hM.o6 hg4 | replace hmn := hmn.offZ hM.o7 hg4 | replace hmn := hmn.offZ hM.o8 hg4 | replace hmn := hmn.offZ hM.o9 hg4 | skip
      first | replace hit := hit.below hbl4 | replace hit := hit.offZ hM.o0 hg4 | replace hit := hit.offZ hM.o1 hg4 | replace hit := hit.offZ hM.o2 hg4 | replace hit := hit.offZ hM.o3 hg4 | replace hit := hit.offZ hM.o4 hg4 | replace hit := hit.offZ hM.o5 hg4 | replace hit := hit.offZ hM.o6 hg4 | replace hit := hit.offZ hM.o7 hg4 | replace hit := hit.offZ hM.o8 hg4 | replace hit := hit.offZ hM.o9 hg4 | skip
      replace hM := hM.add hB.size hbl4 hO4
      try simp only [List.length_cons, List.length_nil, Nat.zero_add, Nat.reduceAdd, Value.cells, List.toList_toArray, List.append_nil, List.set_cons_zero, List.set_cons_succ] at hM
      replace hB := hB.trans (hbl4.mono hB.size)
      generalize w3.heap.size = gg4 at *
      refine LS.m rfl (Step.storeAgg0 (B := w0.heap.size) rfl rfl agg79 rfl rfl rfl (by decide) (by first | exact one_map _ (fun _ => rfl) _ | simp [Value.oneCell']) (hM.o1) rfl hB.size ?_)
      rintro w5 hO5 hg5 hbl5 hsz5
      first | replace hmb := hmb.below hbl5 | replace hmb := hmb.offZ hM.o0 hg5 | replace hmb := hmb.offZ hM.o1 hg5 | replace hmb := hmb.offZ hM.o2 hg5 | replace hmb := hmb.offZ hM.o3 hg5 | replace hmb := hmb.offZ hM.o4 hg5 | replace hmb := hmb.offZ hM.o5 hg5 | replace hmb := hmb.offZ hM.o6 hg5 | replace hmb := hmb.offZ hM.o7 hg5 | replace hmb := hmb.offZ hM.o8 hg5 | replace hmb := hmb.offZ hM.o9 hg5 | skip
      first | replace hmn := hmn.below hbl5 | replace hmn := hmn.offZ hM.o0 hg5 | replace hmn := hmn.offZ hM.o1 hg5 | replace hmn := hmn.offZ hM.o2 hg5 | replace hmn := hmn.offZ hM.o3 hg5 | replace hmn := hmn.offZ hM.o4 hg5 | replace hmn := hmn.offZ hM.o5 hg5 | replace hmn := hmn.offZ hM.o6 hg5 | replace hmn := hmn.offZ hM.o7 hg5 | replace hmn := hmn.offZ hM.o8 hg5 | replace hmn := hmn.offZ hM.o9 hg5 | skip
      first | replace hit := hit.below hbl5 | replace hit := hit.offZ hM.o0 hg5 | replace hit := hit.offZ hM.o1 hg5 | replace hit := hit.offZ hM.o2 hg5 | replace hit := hit.offZ hM.o3 hg5 | replace hit := hit.offZ hM.o4 hg5 | replace hit := hit.offZ hM.o5 hg5 | replace hit := hit.offZ hM.o6 hg5 | replace hit := hit.offZ hM.o7 hg5 | replace hit := hit.offZ hM.o8 hg5 | replace hit := hit.offZ hM.o9 hg5 | skip
      replace hM := hM.s1 (e := _) hg5 hO5 inl_block
      try simp only [List.set_cons_zero, List.set_cons_succ] at hM
      replace hB := hB.trans hbl5
      refine LS.m rfl (Step.storeAgg0 (B := w0.heap.size) rfl rfl agg82 rfl rfl rfl (by decide) (by first | exact one_map _ (fun _ => rfl) _ | simp [Value.oneCell']) (hM.o0) rfl hB.size ?_)
      rintro w6 hO6 hg6 hbl6 hsz6
      first | replace hmb := hmb.below hbl6 | replace hmb := hmb.offZ hM.o0 hg6 | replace hmb := hmb.offZ hM.o1 hg6 | replace hmb := hmb.offZ hM.o2 hg6 | replace hmb := hmb.offZ hM.o3 hg6 | replace hmb := hmb.offZ hM.o4 hg6 | replace hmb := hmb.offZ hM.o5 hg6 | replace hmb := hmb.offZ hM.o6 hg6 | replace hmb := hmb.offZ hM.o7 hg6 | replace hmb := hmb.offZ hM.o8 hg6 | replace hmb := hmb.offZ hM.o9 hg6 | skip
      first | replace hmn := hmn.below hbl6 | replace hmn := hmn.offZ hM.o0 hg6 | replace hmn := hmn.offZ hM.o1 hg6 | replace hmn := hmn.offZ hM.o2 hg6 | replace hmn := hmn.offZ hM.o3 hg6 | replace hmn := hmn.offZ hM.o4 hg6 | replace hmn := hmn.offZ hM.o5 hg6 | replace hmn := hmn.offZ hM.o6 hg6 | replace hmn := hmn.offZ hM.o7 hg6 | replace hmn := hmn.offZ hM.o8 hg6 | replace hmn := hmn.offZ hM.o9 hg6 | skip
      first | replace hit := hit.below hbl6 | replace hit := hit.offZ hM.o0 hg6 | replace hit := hit.offZ hM.o1 hg6 | replace hit := hit.offZ hM.o2 hg6 | replace hit := hit.offZ hM.o3 hg6 | replace hit := hit.offZ hM.o4 hg6 | replace hit := hit.offZ hM.o5 hg6 | replace hit := hit.offZ hM.o6 hg6 | replace hit := hit.offZ hM.o7 hg6 | replace hit := hit.offZ hM.o8 hg6 | replace hit := hit.offZ hM.o9 hg6 | skip
      replace hM := hM.s0 (e := _) hg6 hO6 inl_block
      try simp only [List.set_cons_zero, List.set_cons_succ] at hM
      replace hB := hB.trans hbl6
      refine LS.nil ?_
      refine W.seqR ?_
      refine LS.m rfl (Step.litZ rfl rfl (by decide) Try.underlying23 elem4 rfl (by decide) rfl rfl (by decide) ?_)
      rintro w7 hO7 hg7 hbl7 hsz7
      first | replace hmb := hmb.below hbl7 | replace hmb := hmb.offZ hM.o0 hg7 | replace hmb := hmb.offZ hM.o1 hg7 | replace hmb := hmb.offZ hM.o2 hg7 | replace hmb := hmb.offZ hM.o3 hg7 | replace hmb := hmb.offZ hM.o4 hg7 | replace hmb := hmb.offZ hM.o5 hg7 | replace hmb := hmb.offZ hM.o6 hg7 | replace hmb := hmb.offZ hM.o7 hg7 | replace hmb := hmb.offZ hM.o8 hg7 | replace hmb := hmb.offZ hM.o9 hg7 | skip
      first | replace hmn := hmn.below hbl7 | replace hmn := hmn.offZ hM.o0 hg7 | replace hmn := hmn.offZ hM.o1 hg7 | replace hmn := hmn.offZ hM.o2 hg7 | replace hmn := hmn.offZ hM.o3 hg7 | replace hmn := hmn.offZ hM.o4 hg7 | replace hmn := hmn.offZ hM.o5 hg7 | replace hmn := hmn.offZ hM.o6 hg7 | replace hmn := hmn.offZ hM.o7 hg7 | replace hmn := hmn.offZ hM.o8 hg7 | replace hmn := hmn.offZ hM.o9 hg7 | skip
      first | replace hit := hit.below hbl7 | replace hit := hit.offZ hM.o0 hg7 | replace hit := hit.offZ hM.o1 hg7 | replace hit := hit.offZ hM.o2 hg7 | replace hit := hit.offZ hM.o3 hg7 | replace hit := hit.offZ hM.o4 hg7 | replace hit := hit.offZ hM.o5 hg7 | replace hit := hit.offZ hM.o6 hg7 | replace hit := hit.offZ hM.o7 hg7 | replace hit := hit.offZ hM.o8 hg7 | replace hit := hit.offZ hM.o9 hg7 | skip
      replace hM := hM.add hB.size hbl7 hO7
      try simp only [bv_app1, bv_app, bv_set, bv_rep, bv_one, bv_cons, bv_take, bv_drop, List.nil_append] at hM
      try simp only [List.length_cons, List.length_nil, Nat.zero_add, Nat.reduceAdd, Value.cells, List.toList_toArray, List.append_nil, List.set_cons_zero, List.set_cons_succ] at hM
      replace hB := hB.trans (hbl7.mono hB.size)
      generalize w6.heap.size = gg7 at *
      refine LS.vv rfl rfl (by decide) (Val.move rfl) ?_
      refine LS.vv rfl rfl (by decide) (Val.move rfl) ?_
      refine LS.vv rfl rfl (by decide) (Val.sub64 rfl rfl (by omega)) ?_
      first | refine LS.vv rfl rfl (by decide) (Val.minN rfl rfl) ?_ | refine LS.vv rfl rfl (by decide) (Val.min rfl rfl) ?_
      first | refine LS.vv rfl rfl (by decide) (Val.maxN rfl rfl) ?_ | refine LS.vv rfl rfl (by decide) (Val.max rfl rfl) ?_
      first | refine LS.vv rfl rfl (by decide) (Val.cast (v := .int .i64 ((nb N k : Nat) : Int)) (Val.addN (i := 1) rfl rfl (by omega)) (by congr 1; unfold nb; by_cases hkN : k < N <;> simp only [hkN, if_true, if_false] <;> (repeat split) <;> omega)) ?_ | refine LS.vv rfl rfl (by decide) (Val.cast (v := .int .i64 ((nb N k : Nat) : Int)) (Val.add64 rfl rfl (by omega)) (by congr 1; unfold nb; by_cases hkN : k < N <;> simp only [hkN, if_true, if_false] <;> (repeat split) <;> omega)) ?_
      have hnb : nb N k ≤ 2 := by unfold nb; split <;> omega
      have hnb1 : 1 ≤ nb N k := by unfold nb; split <;> omega
      refine LS.vv rfl rfl (by decide) (Val.sliceTo Try.underlying23 elem4 rfl rfl (by omega)) ?_
      refine LS.vv rfl rfl (by decide) (Val.len Try.underlying23 rfl) ?_
      refine LS.vv rfl rfl (by decide) (Val.cast (v := .int .i64 ((0 : Nat) : Int)) (Val.move rfl) rfl) ?_
      refine LS.nil ?_
      refine W.block ?_
      replace hM := hM.sw1.sw0.sw1
      refine W.loop (α := Nat × (St2 → Option PV) × List PV) (fun g => [(61, .int .i64 (g.1 : Int))]) [(0, _), (5, _), (7, _), (8, _), (9, _), (10, _), (40, _), (41, _), (46, _), (59, _), (60, _)] (fun g w => (MapR encB w w0.heap.size mb (fv G) ∧ MapR encB w w0.heap.size mn (fv g.2.1) ∧ OwnIter encB w w0.heap.size mb it (ks ++ [a]) ∧ Nxt N xs k (plT G) (plT g.2.1) (sn ks a g.1) ∧ InT G g.2.2 ∧ InT g.2.1 g.2.2 ∧ g.1 ≤ nb N k) ∧ Mz w w0.heap.size (⟨79, 2, some ⟨gg3, 0, none⟩, 1, 1, [.bool a.1, .bool a.2]⟩ :: ⟨82, 2, some ⟨gg4, 0, none⟩, 1, 1, [.slice x.p x.l.length x.c, .int .i64 (x.o : Int)]⟩ :: ⟨4, 1, some ⟨gg7, 0, none⟩, 2, 2, bv [false, true]⟩ :: (tp g.2.2)) ∧ Below w0.heap.size w0 w) (fun g => nb N k - g.1) ((0, Nx, T1)) (Sub.cons rfl (Sub.nil _)) (Sub.cons rfl (Sub.cons rfl (Sub.cons rfl (Sub.cons rfl (Sub.cons rfl (Sub.cons rfl (Sub.cons rfl (Sub.cons rfl (Sub.cons rfl (Sub.cons rfl (Sub.cons rfl (Sub.nil _)))))))))))) ?_ ?_
      · exact ⟨⟨hmb, hmn, hit, sn_start hnx, hGT, hNT, Nat.zero_le _⟩, hM, hB⟩
      rintro ⟨q, Nx, T1⟩ w8 ⟨⟨hmb, hmn, hit, hnx, hGT, hNT, hqn⟩, hM, hB⟩
      try simp only at hM
      simp only [List.cons_append, List.nil_append]
      simp only at hmb hmn hit hnx hGT hNT hqn
      have hl2 : ([false, true] : List Bool).length = 2 := rfl
      refine W.seqR ?_
      refine LS.vv rfl rfl (by decide) (Val.lss rfl rfl) ?_
      refine LS.nil ?_
      refine W.seq ?_
      first | refine W.condD rfl (fun hc6 => ?_) (fun hc6 => ?_) | refine W.cond rfl (fun hc6 => ?_) (fun hc6 => ?_)
      ·
       refine W.skip ?_
       refine thenP_normal ?_
       refine W.seq ?_
       refine W.block ?_
       refine W.seqR ?_
       refine LS.vv rfl rfl (by decide) (Val.index1 Try.underlying23 elem4 rfl rfl (by omega) (hM.o2.rd) (bv_lt (by omega))) ?_
       refine LS.m rfl (Step.load rfl rfl (by decide) flat4 rfl (hM.o2.rd) (bv_at (by omega)) ?_)
       refine LS.vv rfl rfl (by decide) (Val.assign rfl) ?_
       refine LS.nil ?_
       refine W.seqT (S := fun w => Below w0.heap.size w0 w ∧ Mz w w0.heap.size _) (.val 0 (.val 1 (.val 3 (.val 6 (.val 7 (.three (.mem 2 (.two (.mem 4 (.two (.mem 5 (.val 8 (.mem 9 (.mem 10 (.done))))) (.mem 9 (.mem 5 (.val 8 (.mem 10 (.done))))))) (.mem 9 (.mem 4 (.mem 5 (.val 8 (.mem 10 (.done)))))))) (.mem 4 (.two (.mem 2 (.two (.mem 5 (.val 8 (.mem 9 (.mem 10 (.done))))) (.mem 9 (.mem 5 (.val 8 (.mem 10 (.done))))))) (.mem 9 (.mem 2 (.mem 5 (.val 8 (.mem 10 (.done)))))))) (.mem 9 (.two (.mem 2 (.mem 4 (.mem 5 (.val 8 (.mem 10 (.done)))))) (.mem 4 (.mem 2 (.mem 5 (.val 8 (.mem 10 (.done)))))))))))))) mixed (by kernel_rfl) ⟨hB.drew, hM.drew⟩ ?_
       replace hB := hB.drew
       replace hM := hM.drew
       try replace hmb := MapR.drew hmb
       try replace hmn := MapR.drew hmn
       try replace hit := OwnIter.drew hit
       refine DT.vv rfl rfl rfl (by decide) (Val.fieldAddr0 fld82_0 rfl) ?_
       refine DT.vv rfl rfl rfl (by decide) (Val.load flat23 rfl (fun _ h => h.2.o1.rd) (rfl)) ?_
       refine DT.vv rfl rfl rfl (by decide) (Val.move rfl) ?_
       refine DT.vv rfl rfl rfl (by decide) (Val.fieldAddr0 fld82_1 rfl) ?_
       refine DT.vv rfl rfl rfl (by decide) (Val.load flat3 rfl (fun _ h => h.2.o1.rd) (rfl)) ?_
       refine DT.three ?_ ?_ ?_
       ·
        refine DT.m rfl rfl (Step.call body46 rfl rfl (by decide) rfl (CallsV.mono (clone_bool x.l x.p x.c _ (tp_rd hM (hGT _ _ hGx) (fun o h => by simp [h])) (by omega)) ?_))
        rintro _ w9 ⟨pq0, cq0, rfl, hOcl, hb9⟩
        replace hM := hM.add hB.size hb9 hOcl.toZ
        try replace hmb := hmb.below hb9
        try replace hmn := hmn.below hb9
        try replace hit := hit.below hb9
        replace hB := hB.trans (hb9.mono hB.size)
        refine ⟨⟨hB, hM.er0⟩, ?_⟩
        refine DT.two ?_ ?_
        ·
         refine DT.m rfl rfl (Step.litZ rfl rfl (by decide) Try.underlying23 elem4 rfl (by decide) rfl rfl (by decide) ?_)
         rintro w10 hO10 hg10 hbl10 hsz10
         first | replace hmb := hmb.below hbl10 | replace hmb := hmb.offZ hM.o0 hg10 | replace hmb := hmb.offZ hM.o1 hg10 | replace hmb := hmb.offZ hM.o2 hg10 | replace hmb := hmb.offZ hM.o3 hg10 | replace hmb := hmb.offZ hM.o4 hg10 | replace hmb := hmb.offZ hM.o5 hg10 | replace hmb := hmb.offZ hM.o6 hg10 | replace hmb := hmb.offZ hM.o7 hg10 | replace hmb := hmb.offZ hM.o8 hg10 | replace hmb := hmb.offZ hM.o9 hg10 | skip
         first | replace hmn := hmn.below hbl10 | replace hmn := hmn.offZ hM.o0 hg10 | replace hmn := hmn.offZ hM.o1 hg10 | replace hmn := hmn.offZ hM.o2 hg10 | replace hmn := hmn.offZ hM.o3 hg10 | replace hmn := hmn.offZ hM.o4 hg10 | replace hmn := hmn.offZ hM.o5 hg10 | replace hmn := hmn.offZ hM.o6 hg10 | replace hmn := hmn.offZ hM.o7 hg10 | replace hmn := hmn.offZ hM.o8 hg10 | replace hmn := hmn.offZ hM.o9 hg10 | skip
         first | replace hit := hit.below hbl10 | replace hit := hit.offZ hM.o0 hg10 | replace hit := hit.offZ hM.o1 hg10 | replace hit := hit.offZ hM.o2 hg10 | replace hit := hit.offZ hM.o3 hg10 | replace hit := hit.offZ hM.o4 hg10 | replace hit := hit.offZ hM.o5 hg10 | replace hit := hit.offZ hM.o6 hg10 | replace hit := hit.offZ hM.o7 hg10 | replace hit := hit.offZ hM.o8 hg10 | replace hit := hit.offZ hM.o9 hg10 | skip
         replace hM := hM.add hB.size hbl10 hO10
         try simp only [bv_app1, bv_app, bv_set, bv_rep, bv_one, bv_cons, bv_take, bv_drop, List.nil_append] at hM
         try simp only [List.length_cons, List.length_nil, Nat.zero_add, Nat.reduceAdd, Value.cells, List.toList_toArray, List.append_nil, List.set_cons_zero, List.set_cons_succ] at hM
         replace hB := hB.trans (hbl10.mono hB.size)
         generalize w9.heap.size = gg10 at *
         refine ⟨⟨hB, hM.er1.er0⟩, ?_⟩
         refine DT.two ?_ ?_
         ·
          refine DT.m rfl rfl (Step.appendZ (B := w0.heap.size) rfl rfl (by decide) Try.underlying23 elem4 rfl (by decide) rfl rfl (hM.o1) (hM.o0.rd) rfl (by first | exact one_map _ (fun _ => rfl) _ | simp [Value.oneCell']) (by omega) (by omega) hB.size ?_)
          rintro p11 c11 w11 hO11 hg11 hbl11 hbk11
          first | replace hmb := hmb.below hbl11 | replace hmb := hmb.offZ hM.o0 hg11 | replace hmb := hmb.offZ hM.o1 hg11 | replace hmb := hmb.offZ hM.o2 hg11 | replace hmb := hmb.offZ hM.o3 hg11 | replace hmb := hmb.offZ hM.o4 hg11 | replace hmb := hmb.offZ hM.o5 hg11 | replace hmb := hmb.offZ hM.o6 hg11 | replace hmb := hmb.offZ hM.o7 hg11 | replace hmb := hmb.offZ hM.o8 hg11 | replace hmb := hmb.offZ hM.o9 hg11 | skip
          first | replace hmn := hmn.below hbl11 | replace hmn := hmn.offZ hM.o0 hg11 | replace hmn := hmn.offZ hM.o1 hg11 | replace hmn := hmn.offZ hM.o2 hg11 | replace hmn := hmn.offZ hM.o3 hg11 | replace hmn := hmn.offZ hM.o4 hg11 | replace hmn := hmn.offZ hM.o5 hg11 | replace hmn := hmn.offZ hM.o6 hg11 | replace hmn := hmn.offZ hM.o7 hg11 | replace hmn := hmn.offZ hM.o8 hg11 | replace hmn := hmn.offZ hM.o9 hg11 | skip
          first | replace hit := hit.below hbl11 | replace hit := hit.offZ hM.o0 hg11 | replace hit := hit.offZ hM.o1 hg11 | replace hit := hit.offZ hM.o2 hg11 | replace hit := hit.offZ hM.o3 hg11 | replace hit := hit.offZ hM.o4 hg11 | replace hit := hit.offZ hM.o5 hg11 | replace hit := hit.offZ hM.o6 hg11 | replace hit := hit.offZ hM.o7 hg11 | replace hit := hit.offZ hM.o8 hg11 | replace hit := hit.offZ hM.o9 hg11 | skip
          replace hM := hM.s1 (e := _) hg11 hO11 hbk11
          replace hM := hM.tail
          try simp only [bv_app1, bv_app, bv_set, bv_rep, bv_one, bv_cons, bv_take, bv_drop, List.nil_append] at hM
          replace hB := hB.trans hbl11
          refine ⟨⟨hB, hM.er0⟩, ?_⟩
          generalize p11 = pq at *
          generalize c11 = cq at *
          refine DT.vv rfl rfl rfl (by decide) (Val.build str82 elem82 rfl rfl rfl) ?_
          refine DT.m rfl rfl (Step.allocZ rfl rfl (by decide) elem82 rfl (by decide) ?_)
          rintro w12 hO12 hg12 hbl12 hsz12
          first | replace hmb := hmb.below hbl12 | replace hmb := hmb.offZ hM.o0 hg12 | replace hmb := hmb.offZ hM.o1 hg12 | replace hmb := hmb.offZ hM.o2 hg12 | replace hmb := hmb.offZ hM.o3 hg12 | replace hmb := hmb.offZ hM.o4 hg12 | replace hmb := hmb.offZ hM.o5 hg12 | replace hmb := hmb.offZ hM.o6 hg12 | replace hmb := hmb.offZ hM.o7 hg12 | replace hmb := hmb.offZ hM.o8 hg12 | replace hmb := hmb.offZ hM.o9 hg12 | skip
          first | replace hmn := hmn.below hbl12 | replace hmn := hmn.offZ hM.o0 hg12 | replace hmn := hmn.offZ hM.o1 hg12 | replace hmn := hmn.offZ hM.o2 hg12 | replace hmn := hmn.offZ hM.o3 hg12 | replace hmn := hmn.offZ hM.o4 hg12 | replace hmn := hmn.offZ hM.o5 hg12 | replace hmn := hmn.offZ hM.o6 hg12 | replace hmn := hmn.offZ hM.o7 hg12 | replace hmn := hmn.offZ hM.o8 hg12 | replace hmn := hmn.offZ hM.o9 hg12 | skip
          first | replace hit := hit.below hbl12 | replace hit := hit.offZ hM.o0 hg12 | replace hit := hit.offZ hM.o1 hg12 | replace hit := hit.offZ hM.o2 hg12 | replace hit := hit.offZ hM.o3 hg12 | replace hit := hit.offZ hM.o4 hg12 | replace hit := hit.offZ hM.o5 hg12 | replace hit := hit.offZ hM.o6 hg12 | replace hit := hit.offZ hM.o7 hg12 | replace hit := hit.offZ hM.o8 hg12 | replace hit := hit.offZ hM.o9 hg12 | skip
          replace hM := hM.add hB.size hbl12 hO12
          try simp only [List.length_cons, List.length_nil, Nat.zero_add, Nat.reduceAdd, Value.cells, List.toList_toArray, List.append_nil, List.set_cons_zero, List.set_cons_succ] at hM
          replace hB := hB.trans (hbl12.mono hB.size)
          generalize w11.heap.size = gg12 at *
          refine ⟨⟨hB, hM.er1.er0⟩, ?_⟩
          refine DT.m rfl rfl (Step.storeAgg0 (B := w0.heap.size) rfl rfl agg82 rfl rfl rfl (by decide) (by first | exact one_map _ (fun _ => rfl) _ | simp [Value.oneCell']) (hM.o0) rfl hB.size ?_)
          rintro w13 hO13 hg13 hbl13 hsz13
          first | replace hmb := hmb.below hbl13 | replace hmb := hmb.offZ hM.o0 hg13 | replace hmb := hmb.offZ hM.o1 hg13 | replace hmb := hmb.offZ hM.o2 hg13 | replace hmb := hmb.offZ hM.o3 hg13 | replace hmb := hmb.offZ hM.o4 hg13 | replace hmb := hmb.offZ hM.o5 hg13 | replace hmb := hmb.offZ hM.o6 hg13 | replace hmb := hmb.offZ hM.o7 hg13 | replace hmb := hmb.offZ hM.o8 hg13 | replace hmb := hmb.offZ hM.o9 hg13 | skip
          first | replace hmn := hmn.below hbl13 | replace hmn := hmn.offZ hM.o0 hg13 | replace hmn := hmn.offZ hM.o1 hg13 | replace hmn := hmn.offZ hM.o2 hg13 | replace hmn := hmn.offZ hM.o3 hg13 | replace hmn := hmn.offZ hM.o4 hg13 | replace hmn := hmn.offZ hM.o5 hg13 | replace hmn := hmn.offZ hM.o6 hg13 | replace hmn := hmn.offZ hM.o7 hg13 | replace hmn := hmn.offZ hM.o8 hg13 | replace hmn := hmn.offZ hM.o9 hg13 | skip
          first | replace hit := hit.below hbl13 | replace hit := hit.offZ hM.o0 hg13 | replace hit := hit.offZ hM.o1 hg13 | replace hit := hit.offZ hM.o2 hg13 | replace hit := hit.offZ hM.o3 hg13 | replace hit := hit.offZ hM.o4 hg13 | replace hit := hit.offZ hM.o5 hg13 | replace hit := hit.offZ hM.o6 hg13 | replace hit := hit.offZ hM.o7 hg13 | replace hit := hit.offZ hM.o8 hg13 | replace hit := hit.offZ hM.o9 hg13 | skip
          replace hM := hM.s0 (e := _) hg13 hO13 inl_block
          try simp only [List.set_cons_zero, List.set_cons_succ] at hM
          replace hB := hB.trans hbl13
          refine ⟨⟨hB, hM.er1.er0⟩, ?_⟩
          refine DT.nil ?_
          refine W.seq ?_
          refine W.seqR ?_
          refine LS.m rfl (Step.loadAgg0 rfl rfl (by decide) agg79 rfl (hM.o2.rd) rfl (by decide) ?_)
          refine LS.vv rfl rfl (by decide) (Val.move rfl) ?_
          refine LS.m rfl (Step.call body58 rfl rfl (by decide) rfl (CallsV.mono (out_any a (gb [false, true] q) _) ?_))
          rintro _ w14 ⟨rfl, hb14⟩
          replace hM := hM.below hb14
          try replace hmb := hmb.below hb14
          try replace hmn := hmn.below hb14
          try replace hit := hit.below hb14
          replace hB := hB.trans (hb14.mono hB.size)
          refine LS.vv rfl rfl (by decide) (Val.cast (v := .int .i64 ((0 : Nat) : Int)) (Val.move rfl) rfl) ?_
          refine LS.nil ?_
          refine W.block ?_
          skip
          refine W.loop (α := Nat) (fun i => [(77, .int .i64 (i : Int))]) [(0, _), (5, _), (7, _), (8, _), (9, _), (10, _), (12, _), (13, _), (40, _), (41, _), (46, _), (59, _), (60, _), (61, _), (76, _)] (fun i w => (MapR encB w w0.heap.size mb (fv G) ∧ MapR encB w w0.heap.size mn (fv Nx) ∧ OwnIter encB w w0.heap.size mb it (ks ++ [a]) ∧ i ≤ 2) ∧ Mz w w0.heap.size (⟨82, 2, some ⟨gg12, 0, none⟩, 1, 1, [.slice pq (x.l.length + 1) cq, .int .i64 ((x.o + prt xs k a (gb [false, true] q) i : Nat) : Int)]⟩ :: ⟨4, 1, pq, x.l.length + 1, cq, bv (x.l ++ [(gb [false, true] q)])⟩ :: ⟨79, 2, some ⟨gg3, 0, none⟩, 1, 1, [.bool a.1, .bool a.2]⟩ :: ⟨82, 2, some ⟨gg4, 0, none⟩, 1, 1, [.slice x.p x.l.length x.c, .int .i64 (x.o : Int)]⟩ :: ⟨4, 1, some ⟨gg7, 0, none⟩, 2, 2, bv [false, true]⟩ :: (tp T1)) ∧ Below w0.heap.size w0 w) (fun i => 2 - i) (0) (Sub.cons rfl (Sub.nil _)) (Sub.cons rfl (Sub.cons rfl (Sub.cons rfl (Sub.cons rfl (Sub.cons rfl (Sub.cons rfl (Sub.cons rfl (Sub.cons rfl (Sub.cons rfl (Sub.cons rfl (Sub.cons rfl (Sub.cons rfl (Sub.cons rfl (Sub.cons rfl (Sub.cons rfl (Sub.nil _)))))))))))))))) ?_ ?_
          · exact ⟨⟨hmb, hmn, hit, Nat.zero_le _⟩, (by simp only [prt_zero, Nat.add_zero]; exact hM), hB⟩
          rintro i w15 ⟨⟨hmb, hmn, hit, hi2⟩, hM, hB⟩
          try simp only at hM
          simp only [List.cons_append, List.nil_append]
          have hpl := prt_le xs k a (gb [false, true] q) i
          have hps := fun h => prt_succ xs k a (gb [false, true] q) (i := i) h
          refine W.seqR ?_
          refine LS.vv rfl rfl (by decide) (Val.lss rfl rfl) ?_
          refine LS.nil ?_
          refine W.seq ?_
          first | refine W.condD rfl (fun hc7 => ?_) (fun hc7 => ?_) | refine W.cond rfl (fun hc7 => ?_) (fun hc7 => ?_)
          ·
           refine W.skip ?_
           refine thenP_normal ?_
           refine W.seq ?_
           refine W.block ?_
           refine W.seqR ?_
           refine LS.vv rfl rfl (by decide) (Val.move rfl) ?_
           refine LS.vv rfl rfl (by decide) (Val.cast (v := .bool (if i = 0 then out0 a (gb [false, true] q) else out1 a (gb [false, true] q))) (Val.indexV2 Try.underlying78 elem4 ag4 rfl rfl (by omega)) (by split <;> rfl)) ?_
           refine LS.vv rfl rfl (by decide) (Val.assign rfl) ?_
           refine LS.vv rfl rfl (by decide) (Val.assign rfl) ?_
           refine LS.nil ?_
           refine W.seqR ?_
           refine LS.vv rfl rfl (by decide) (Val.move rfl) ?_
           refine LS.vv rfl rfl (by decide) (Val.move rfl) ?_
           refine LS.vv rfl rfl (by decide) (Val.move rfl) ?_
           first | refine LS.vv rfl rfl (by decide) (Val.mulN (i := 2) rfl rfl (by omega)) ?_ | refine LS.vv rfl rfl (by decide) (Val.mul64 rfl rfl (by omega)) ?_
           refine LS.vv rfl rfl (by decide) (Val.move rfl) ?_
           first | refine LS.vv rfl rfl (by decide) (Val.addN rfl rfl (by omega)) ?_ | refine LS.vv rfl rfl (by decide) (Val.add64 rfl rfl (by omega)) ?_
           refine LS.vv rfl rfl (by decide) (Val.index1 Try.underlying23 elem4 rfl rfl (by omega) ((hr.below hB)) (bv_lt (by omega))) ?_
           refine LS.m rfl (Step.load rfl rfl (by decide) flat4 rfl ((hr.below hB)) (bv_at (by omega)) ?_)
           refine LS.vv rfl rfl (by decide) (Val.neqB Try.underlying4 rfl rfl) ?_
           refine LS.nil ?_
           first | refine W.condD rfl (fun hc8 => ?_) (fun hc8 => ?_) | refine W.cond rfl (fun hc8 => ?_) (fun hc8 => ?_)
           ·
            refine W.reg ?_
            refine LS.vv rfl rfl (by decide) (Val.fieldAddr0 fld82_1 rfl) ?_
            refine LS.m rfl (Step.load rfl rfl (by decide) flat3 rfl (hM.o0.rd) (rfl) ?_)
            refine LS.vv rfl rfl (by decide) (Val.addN (j := 1) rfl rfl (by omega)) ?_
            refine LS.vv rfl rfl (by decide) (Val.fieldAddr0 fld82_1 rfl) ?_
            refine LS.m rfl (Step.storeZ (B := w0.heap.size) rfl rfl flat3 elem3 rfl rfl rfl (hM.o0) (by first | decide | (simp; done) | (simp; omega) | omega) hB.size ?_)
            rintro w16 hO16 hg16 hbl16 hsz16
            first | replace hmb := hmb.below hbl16 | replace hmb := hmb.offZ hM.o0 hg16 | replace hmb := hmb.offZ hM.o1 hg16 | replace hmb := hmb.offZ hM.o2 hg16 | replace hmb := hmb.offZ hM.o3 hg16 | replace hmb := hmb.offZ hM.o4 hg16 | replace hmb := hmb.offZ hM.o5 hg16 | replace hmb := hmb.offZ hM.o6 hg16 | replace hmb := hmb.offZ hM.o7 hg16 | replace hmb := hmb.offZ hM.o8 hg16 | replace hmb := hmb.offZ hM.o9 hg16 | skip
            first | replace hmn := hmn.below hbl16 | replace hmn := hmn.offZ hM.o0 hg16 | replace hmn := hmn.offZ hM.o1 hg16 | replace hmn := hmn.offZ hM.o2 hg16 | replace hmn := hmn.offZ hM.o3 hg16 | replace hmn := hmn.offZ hM.o4 hg16 | replace hmn := hmn.offZ hM.o5 hg16 | replace hmn := hmn.offZ hM.o6 hg16 | replace hmn := hmn.offZ hM.o7 hg16 | replace hmn := hmn.offZ hM.o8 hg16 | replace hmn := hmn.offZ hM.o9 hg16 | skip
            first | replace hit := hit.below hbl16 | replace hit := hit.offZ hM.o0 hg16 | replace hit := hit.offZ hM.o1 hg16 | replace hit := hit.offZ hM.o2 hg16 | replace hit := hit.offZ hM.o3 hg16 | replace hit := hit.offZ hM.o4 hg16 | replace hit := hit.offZ hM.o5 hg16 | replace hit := hit.offZ hM.o6 hg16 | replace hit := hit.offZ hM.o7 hg16 | replace hit := hit.offZ hM.o8 hg16 | replace hit := hit.offZ hM.o9 hg16 | skip
            replace hM := hM.s0 (e := _) hg16 hO16 inl_block
            try simp only [List.set_cons_zero, List.set_cons_succ] at hM
            replace hB := hB.trans hbl16
            refine LS.nil ?_
            refine inBlk_normal ?_
            refine thenP_normal ?_
            refine W.reg ?_
            refine LS.vv rfl rfl (by decide) (Val.addN (j := 1) rfl rfl (by omega)) ?_
            refine LS.vv rfl rfl (by decide) (Val.move rfl) ?_
            refine LS.nil ?_
            refine thenP_normal ?_
            have hps2 := hps (by omega)
            first
              | (rw [if_pos (by assumption)] at hps2
                 refine ⟨i + 1, (Sub.cons rfl (Sub.nil _)), (by repeat (first | exact Sub.nil _ | refine Sub.cons rfl ?_)), ⟨⟨hmb, hmn, hit, by omega⟩, (by rw [hps2, ← Nat.add_assoc]; exact hM), hB⟩, by omega⟩)
              | (rw [if_neg (by assumption), Nat.add_zero] at hps2
                 refine ⟨i + 1, (Sub.cons rfl (Sub.nil _)), (by repeat (first | exact Sub.nil _ | refine Sub.cons rfl ?_)), ⟨⟨hmb, hmn, hit, by omega⟩, (by rw [hps2]; exact hM), hB⟩, by omega⟩)
           ·
            refine W.skip ?_
            refine inBlk_normal ?_
            refine thenP_normal ?_
            refine W.reg ?_
            refine LS.vv rfl rfl (by decide) (Val.addN (j := 1) rfl rfl (by omega)) ?_
            refine LS.vv rfl rfl (by decide) (Val.move rfl) ?_
            refine LS.nil ?_
            refine thenP_normal ?_
            have hps2 := hps (by omega)
            first
              | (rw [if_pos (by assumption)] at hps2
                 refine ⟨i + 1, (Sub.cons rfl (Sub.nil _)), (by repeat (first | exact Sub.nil _ | refine Sub.cons rfl ?_)), ⟨⟨hmb, hmn, hit, by omega⟩, (by rw [hps2, ← Nat.add_assoc]; exact hM), hB⟩, by omega⟩)
              | (rw [if_neg (by assumption), Nat.add_zero] at hps2
                 refine ⟨i + 1, (Sub.cons rfl (Sub.nil _)), (by repeat (first | exact Sub.nil _ | refine Sub.cons rfl ?_)), ⟨⟨hmb, hmn, hit, by omega⟩, (by rw [hps2]; exact hM), hB⟩, by omega⟩)
          ·
           obtain rfl : i = 2 := by omega
           refine W.exit ?_
           refine thenP_exit ?_
           refine thenP_exit ?_
           refine inBlk_exit ?_
           refine thenP_normal ?_
           refine W.seqR ?_
           refine LS.vv rfl rfl (by decide) (Val.move rfl) ?_
           refine LS.vv rfl rfl (by decide) (Val.indexArr (j := 0) Try.underlying79 elem4 rfl rfl (by omega)) ?_
           refine LS.m rfl (Step.load rfl rfl (by decide) flat4 rfl (hM.o2.rd) (rfl) ?_)
           refine LS.vv rfl rfl (by decide) (Val.buildArr Try.underlying79 elem79 elem4 rfl (fill_b2 _ _)) ?_
           refine LS.m rfl (Step.allocZ rfl rfl (by decide) elem79 rfl (by decide) ?_)
           rintro w17 hO17 hg17 hbl17 hsz17
           first | replace hmb := hmb.below hbl17 | replace hmb := hmb.offZ hM.o0 hg17 | replace hmb := hmb.offZ hM.o1 hg17 | replace hmb := hmb.offZ hM.o2 hg17 | replace hmb := hmb.offZ hM.o3 hg17 | replace hmb := hmb.offZ hM.o4 hg17 | replace hmb := hmb.offZ hM.o5 hg17 | replace hmb := hmb.offZ hM.o6 hg17 | replace hmb := hmb.offZ hM.o7 hg17 | replace hmb := hmb.offZ hM.o8 hg17 | replace hmb := hmb.offZ hM.o9 hg17 | skip
           first | replace hmn := hmn.below hbl17 | replace hmn := hmn.offZ hM.o0 hg17 | replace hmn := hmn.offZ hM.o1 hg17 | replace hmn := hmn.offZ hM.o2 hg17 | replace hmn := hmn.offZ hM.o3 hg17 | replace hmn := hmn.offZ hM.o4 hg17 | replace hmn := hmn.offZ hM.o5 hg17 | replace hmn := hmn.offZ hM.o6 hg17 | replace hmn := hmn.offZ hM.o7 hg17 | replace hmn := hmn.offZ hM.o8 hg17 | replace hmn := hmn.offZ hM.o9 hg17 | skip
           first | replace hit := hit.below hbl17 | replace hit := hit.offZ hM.o0 hg17 | replace hit := hit.offZ hM.o1 hg17 | replace hit := hit.offZ hM.o2 hg17 | replace hit := hit.offZ hM.o3 hg17 | replace hit := hit.offZ hM.o4 hg17 | replace hit := hit.offZ hM.o5 hg17 | replace hit := hit.offZ hM.o6 hg17 | replace hit := hit.offZ hM.o7 hg17 | replace hit := hit.offZ hM.o8 hg17 | replace hit := hit.offZ hM.o9 hg17 | skip
           replace hM := hM.add hB.size hbl17 hO17
           try simp only [List.length_cons, List.length_nil, Nat.zero_add, Nat.reduceAdd, Value.cells, List.toList_toArray, List.append_nil, List.set_cons_zero, List.set_cons_succ] at hM
           replace hB := hB.trans (hbl17.mono hB.size)
           generalize w15.heap.size = gg17 at *
           refine LS.m rfl (Step.storeAgg0 (B := w0.heap.size) rfl rfl agg79 rfl rfl rfl (by decide) (by first | exact one_map _ (fun _ => rfl) _ | simp [Value.oneCell']) (hM.o0) rfl hB.size ?_)
           rintro w18 hO18 hg18 hbl18 hsz18
           first | replace hmb := hmb.below hbl18 | replace hmb := hmb.offZ hM.o0 hg18 | replace hmb := hmb.offZ hM.o1 hg18 | replace hmb := hmb.offZ hM.o2 hg18 | replace hmb := hmb.offZ hM.o3 hg18 | replace hmb := hmb.offZ hM.o4 hg18 | replace hmb := hmb.offZ hM.o5 hg18 | replace hmb := hmb.offZ hM.o6 hg18 | replace hmb := hmb.offZ hM.o7 hg18 | replace hmb := hmb.offZ hM.o8 hg18 | replace hmb := hmb.offZ hM.o9 hg18 | skip
           first | replace hmn := hmn.below hbl18 | replace hmn := hmn.offZ hM.o0 hg18 | replace hmn := hmn.offZ hM.o1 hg18 | replace hmn := hmn.offZ hM.o2 hg18 | replace hmn := hmn.offZ hM.o3 hg18 | replace hmn := hmn.offZ hM.o4 hg18 | replace hmn := hmn.offZ hM.o5 hg18 | replace hmn := hmn.offZ hM.o6 hg18 | replace hmn := hmn.offZ hM.o7 hg18 | replace hmn := hmn.offZ hM.o8 hg18 | replace hmn := hmn.offZ hM.o9 hg18 | skip
           first | replace hit := hit.below hbl18 | replace hit := hit.offZ hM.o0 hg18 | replace hit := hit.offZ hM.o1 hg18 | replace hit := hit.offZ hM.o2 hg18 | replace hit := hit.offZ hM.o3 hg18 | replace hit := hit.offZ hM.o4 hg18 | replace hit := hit.offZ hM.o5 hg18 | replace hit := hit.offZ hM.o6 hg18 | replace hit := hit.offZ hM.o7 hg18 | replace hit := hit.offZ hM.o8 hg18 | replace hit := hit.offZ hM.o9 hg18 | skip
           replace hM := hM.s0 (e := _) hg18 hO18 inl_block
           try simp only [List.set_cons_zero, List.set_cons_succ] at hM
           replace hB := hB.trans hbl18
           refine LS.nil ?_
           refine W.seqR ?_
           refine LS.vv rfl rfl (by decide) (Val.move rfl) ?_
           refine LS.m rfl (Step.loadAgg0 rfl rfl (by decide) agg79 rfl (hM.o0.rd) rfl (by decide) ?_)
           refine LS.m rfl (Step.lookup2 rfl rfl (by decide) (keys_bb b2_79) Try.underlying83 elem82 rfl rfl hmn.own (fv_getD Nx (nxq a q)) (fv_isSome Nx (nxq a q)) ?_)
           refine LS.vv rfl rfl (by decide) (Val.move rfl) ?_
           refine LS.vv rfl rfl (by decide) (Val.extract rfl rfl) ?_
           refine LS.vv rfl rfl (by decide) (Val.extract rfl rfl) ?_
           refine LS.m rfl (Step.allocZ rfl rfl (by decide) elem82 rfl (by decide) ?_)
           rintro w19 hO19 hg19 hbl19 hsz19
           first | replace hmb := hmb.below hbl19 | replace hmb := hmb.offZ hM.o0 hg19 | replace hmb := hmb.offZ hM.o1 hg19 | replace hmb := hmb.offZ hM.o2 hg19 | replace hmb := hmb.offZ hM.o3 hg19 | replace hmb := hmb.offZ hM.o4 hg19 | replace hmb := hmb.offZ hM.o5 hg19 | replace hmb := hmb.offZ hM.o6 hg19 | replace hmb := hmb.offZ hM.o7 hg19 | replace hmb := hmb.offZ hM.o8 hg19 | replace hmb := hmb.offZ hM.o9 hg19 | skip
           first | replace hmn := hmn.below hbl19 | replace hmn := hmn.offZ hM.o0 hg19 | replace hmn := hmn.offZ hM.o1 hg19 | replace hmn := hmn.offZ hM.o2 hg19 | replace hmn := hmn.offZ hM.o3 hg19 | replace hmn := hmn.offZ hM.o4 hg19 | replace hmn := hmn.offZ hM.o5 hg19 | replace hmn := hmn.offZ hM.o6 hg19 | replace hmn := hmn.offZ hM.o7 hg19 | replace hmn := hmn.offZ hM.o8 hg19 | replace hmn := hmn.offZ hM.o9 hg19 | skip
           first | replace hit := hit.below hbl19 | replace hit := hit.offZ hM.o0 hg19 | replace hit := hit.offZ hM.o1 hg19 | replace hit := hit.offZ hM.o2 hg19 | replace hit := hit.offZ hM.o3 hg19 | replace hit := hit.offZ hM.o4 hg19 | replace hit := hit.offZ hM.o5 hg19 | replace hit := hit.offZ hM.o6 hg19 | replace hit := hit.offZ hM.o7 hg19 | replace hit := hit.offZ hM.o8 hg19 | replace hit := hit.offZ hM.o9 hg19 | skip
           replace hM := hM.add hB.size hbl19 hO19
           try simp only [List.length_cons, List.length_nil, Nat.zero_add, Nat.reduceAdd, Value.cells, List.toList_toArray, List.append_nil, List.set_cons_zero, List.set_cons_succ] at hM
           replace hB := hB.trans (hbl19.mono hB.size)
           generalize w18.heap.size = gg19 at *
           refine LS.m rfl (Step.storeAgg0 (B := w0.heap.size) rfl rfl agg82 rfl rfl rfl (by decide) (by first | exact one_map _ (fun _ => rfl) _ | simp [Value.oneCell']) (hM.o0) rfl hB.size ?_)
           rintro w20 hO20 hg20 hbl20 hsz20
           first | replace hmb := hmb.below hbl20 | replace hmb := hmb.offZ hM.o0 hg20 | replace hmb := hmb.offZ hM.o1 hg20 | replace hmb := hmb.offZ hM.o2 hg20 | replace hmb := hmb.offZ hM.o3 hg20 | replace hmb := hmb.offZ hM.o4 hg20 | replace hmb := hmb.offZ hM.o5 hg20 | replace hmb := hmb.offZ hM.o6 hg20 | replace hmb := hmb.offZ hM.o7 hg20 | replace hmb := hmb.offZ hM.o8 hg20 | replace hmb := hmb.offZ hM.o9 hg20 | skip
           first | replace hmn := hmn.below hbl20 | replace hmn := hmn.offZ hM.o0 hg20 | replace hmn := hmn.offZ hM.o1 hg20 | replace hmn := hmn.offZ hM.o2 hg20 | replace hmn := hmn.offZ hM.o3 hg20 | replace hmn := hmn.offZ hM.o4 hg20 | replace hmn := hmn.offZ hM.o5 hg20 | replace hmn := hmn.offZ hM.o6 hg20 | replace hmn := hmn.offZ hM.o7 hg20 | replace hmn := hmn.offZ hM.o8 hg20 | replace hmn := hmn.offZ hM.o9 hg20 | skip
           first | replace hit := hit.below hbl20 | replace hit := hit.offZ hM.o0 hg20 | replace hit := hit.offZ hM.o1 hg20 | replace hit := hit.offZ hM.o2 hg20 | replace hit := hit.offZ hM.o3 hg20 | replace hit := hit.offZ hM.o4 hg20 | replace hit := hit.offZ hM.o5 hg20 | replace hit := hit.offZ hM.o6 hg20 | replace hit := hit.offZ hM.o7 hg20 | replace hit := hit.offZ hM.o8 hg20 | replace hit := hit.offZ hM.o9 hg20 | skip
           replace hM := hM.s0 (e := _) hg20 hO20 inl_block
           try simp only [List.set_cons_zero, List.set_cons_succ] at hM
           replace hB := hB.trans hbl20
           refine LS.vv rfl rfl (by decide) (Val.assign rfl) ?_
           refine LS.nil ?_
           refine W.seqR ?_
           refine LS.vv rfl rfl (by decide) (Val.move rfl) ?_
           refine LS.vv rfl rfl (by decide) (Val.not rfl) ?_
           refine LS.vv rfl rfl (by decide) (Val.move rfl) ?_
           refine LS.split 2 rfl (fun hg9 => ?_) (fun hg9 => ?_)
           ·
            first | (have hg9p := of_decide_eq_true hg9) | skip
            refine LS.s rfl rfl rfl hg9 (by decide) ?_
            refine LS.s rfl rfl rfl hg9 (by decide) ?_
            refine LS.s rfl rfl rfl hg9 (by decide) ?_
            refine LS.vv rfl rfl (by decide) (Val.pickT rfl hg9 rfl) ?_
            refine LS.nil ?_
            refine W.condT rfl ?_
            refine W.reg ?_
            refine LS.vv rfl rfl (by decide) (Val.move rfl) ?_
            refine LS.m rfl (Step.loadAgg0 rfl rfl (by decide) agg79 rfl (hM.o1.rd) rfl (by decide) ?_)
            refine LS.m rfl (Step.loadAgg0 rfl rfl (by decide) agg82 rfl (hM.o2.rd) rfl (by decide) ?_)
            have hold : ∀ q2 m2, plT Nx (nxq a q) = some (q2, m2) → x.o + two xs k a (gb [false, true] q) ≤ m2 := fun q2 m2 h9 => by
              obtain ⟨y9, hy9, hy10, hy11⟩ := pl_inv h9
              first
                | (exfalso; have h7 : (Nx (nxq a q)).isSome = false := (by simpa using (by assumption : (!(Nx (nxq a q)).isSome) = true)); rw [hy9] at h7; cases h7)
                | (have h8 := hbt (by assumption); rw [hy] at hy9; cases hy9; rw [prt_two] at h8; omega)
            have hnx2 : Nxt N xs k (plT G) (plT (putG Nx (nxq a q) (xpv pq cq x q xs k a))) (fun s2 b2 => sn ks a q s2 b2 ∨ s2 = a ∧ b2 = (gb [false, true] q)) := by rw [pl_put]; exact hnx.take hTab (by omega) (nb_ok (by omega)) (pl_some hGx) hold
            refine LS.m rfl (Step.mapPutR (k := (nxq a q)) (v := .agg #[.slice pq (x.l.length + 1) cq, .int .i64 ((x.o + prt xs k a (gb [false, true] q) 2 : Nat) : Int)]) (.inl rfl) rfl (keys_bb b2_79) Try.underlying83 rfl rfl rfl hmn hB.size ?_)
            rintro wf hmn2 hg9 hbl9 hsz9
            replace hM := hM.mapR hmn hg9
            replace hmb := hmb.keep hg9 (fun h => hmne (Option.some.inj h))
            replace hit := hit.keep hg9 (fun h => hmne (Option.some.inj h)) (fun h => hit.ne_map hmn (Option.some.inj h))
            replace hB := hB.trans hbl9
            rw [pv_two, fv_put] at hmn2
            refine LS.nil ?_
            refine inBlk_normal ?_
            refine thenP_normal ?_
            refine W.reg ?_
            refine LS.vv rfl rfl (by decide) (Val.addN (j := 1) rfl rfl (by omega)) ?_
            refine LS.vv rfl rfl (by decide) (Val.move rfl) ?_
            refine LS.nil ?_
            refine thenP_normal ?_
            replace hM := hM.er2.er1.er0.sw0.sw1.sw2
            rw [show (x.l.length + 1) = (x.l ++ [(gb [false, true] q)]).length from by simp] at hM
            first
              | (refine ⟨(q + 1, putG Nx (nxq a q) (xpv pq cq x q xs k a), (xpv pq cq x q xs k a) :: T1), (Sub.cons rfl (Sub.nil _)), (by repeat (first | exact Sub.nil _ | refine Sub.cons rfl ?_)), ⟨⟨hmb, hmn2, hit, sn_next hnx2, hGT.more, hNT.put, by simp only; omega⟩, hM, hB⟩, by simp only; omega⟩)
              | (refine ⟨(q + 1, Nx, (xpv pq cq x q xs k a) :: T1), (Sub.cons rfl (Sub.nil _)), (by repeat (first | exact Sub.nil _ | refine Sub.cons rfl ?_)), ⟨⟨hmb, hmn, hit, sn_next hnx2, hGT.more, hNT.more, by simp only; omega⟩, hM, hB⟩, by simp only; omega⟩)
           ·
            first | (have hg9p := of_decide_eq_false hg9) | skip
            refine LS.mg rfl rfl hg9 (Step.loadAgg0 rfl rfl (by decide) agg82 rfl (hM.o2.rd) rfl (by decide) ?_)
            refine LS.mg rfl rfl hg9 (Step.loadAgg0 rfl rfl (by decide) agg82 rfl (hM.o0.rd) rfl (by decide) ?_)
            obtain ⟨y, hy⟩ := Option.isSome_iff_exists.1 (by simpa using (by assumption : (!(Nx (nxq a q)).isSome) = false))
            have hyd : ((Nx (nxq a q)).getD zPV) = y := by rw [hy]; rfl
            have hyp := hnx.path _ _ _ (pl_some hy)
            have hyl := hyp.len
            rw [hyd]
            refine LS.mg rfl rfl hg9 (Step.call body59 rfl rfl (by decide) rfl (CallsV.mono (better_any (x.l ++ [(gb [false, true] q)]) y.l pq y.p cq y.c (x.l.length + 1) y.l.length (x.o + prt xs k a (gb [false, true] q) 2) y.o _ hM.o3.rd (tp_rd hM (hNT _ _ hy) (fun o h => by simp [h])) (by simp) rfl (by omega) (by omega)) ?_))
            rintro _ w21 ⟨bb, rfl, hbt, hbf, hb21⟩
            replace hM := hM.below hb21
            try replace hmb := hmb.below hb21
            try replace hmn := hmn.below hb21
            try replace hit := hit.below hb21
            replace hB := hB.trans (hb21.mono hB.size)
            refine LS.vv rfl rfl (by decide) (Val.pickF rfl hg9 rfl) ?_
            refine LS.nil ?_
            first | refine W.condD rfl (fun hc10 => ?_) (fun hc10 => ?_) | refine W.cond rfl (fun hc10 => ?_) (fun hc10 => ?_)
            ·
             refine W.reg ?_
             refine LS.vv rfl rfl (by decide) (Val.move rfl) ?_
             refine LS.m rfl (Step.loadAgg0 rfl rfl (by decide) agg79 rfl (hM.o1.rd) rfl (by decide) ?_)
             refine LS.m rfl (Step.loadAgg0 rfl rfl (by decide) agg82 rfl (hM.o2.rd) rfl (by decide) ?_)
             have hold : ∀ q2 m2, plT Nx (nxq a q) = some (q2, m2) → x.o + two xs k a (gb [false, true] q) ≤ m2 := fun q2 m2 h9 => by
               obtain ⟨y9, hy9, hy10, hy11⟩ := pl_inv h9
               first
                 | (exfalso; have h7 : (Nx (nxq a q)).isSome = false := (by simpa using (by assumption : (!(Nx (nxq a q)).isSome) = true)); rw [hy9] at h7; cases h7)
                 | (have h8 := hbt (by assumption); rw [hy] at hy9; cases hy9; rw [prt_two] at h8; omega)
             have hnx2 : Nxt N xs k (plT G) (plT (putG Nx (nxq a q) (xpv pq cq x q xs k a))) (fun s2 b2 => sn ks a q s2 b2 ∨ s2 = a ∧ b2 = (gb [false, true] q)) := by rw [pl_put]; exact hnx.take hTab (by omega) (nb_ok (by omega)) (pl_some hGx) hold
             refine LS.m rfl (Step.mapPutR (k := (nxq a q)) (v := .agg #[.slice pq (x.l.length + 1) cq, .int .i64 ((x.o + prt xs k a (gb [false, true] q) 2 : Nat) : Int)]) (.inl rfl) rfl (keys_bb b2_79) Try.underlying83 rfl rfl rfl hmn hB.size ?_)
             rintro wf hmn2 hg9 hbl9 hsz9
             replace hM := hM.mapR hmn hg9
             replace hmb := hmb.keep hg9 (fun h => hmne (Option.some.inj h))
             replace hit := hit.keep hg9 (fun h => hmne (Option.some.inj h)) (fun h => hit.ne_map hmn (Option.some.inj h))
             replace hB := hB.trans hbl9
             rw [pv_two, fv_put] at hmn2
             refine LS.nil ?_
             refine inBlk_normal ?_
             refine thenP_normal ?_
             refine W.reg ?_
             refine LS.vv rfl rfl (by decide) (Val.addN (j := 1) rfl rfl (by omega)) ?_
             refine LS.vv rfl rfl (by decide) (Val.move rfl) ?_
             refine LS.nil ?_
             refine thenP_normal ?_
             replace hM := hM.er2.er1.er0.sw0.sw1.sw2
             rw [show (x.l.length + 1) = (x.l ++ [(gb [false, true] q)]).length from by simp] at hM
             first
               | (refine ⟨(q + 1, putG Nx (nxq a q) (xpv pq cq x q xs k a), (xpv pq cq x q xs k a) :: T1), (Sub.cons rfl (Sub.nil _)), (by repeat (first | exact Sub.nil _ | refine Sub.cons rfl ?_)), ⟨⟨hmb, hmn2, hit, sn_next hnx2, hGT.more, hNT.put, by simp only; omega⟩, hM, hB⟩, by simp only; omega⟩)
               | (refine ⟨(q + 1, Nx, (xpv pq cq x q xs k a) :: T1), (Sub.cons rfl (Sub.nil _)), (by repeat (first | exact Sub.nil _ | refine Sub.cons rfl ?_)), ⟨⟨hmb, hmn, hit, sn_next hnx2, hGT.more, hNT.more, by simp only; omega⟩, hM, hB⟩, by simp only; omega⟩)
            ·
             have hnx2 : Nxt N xs k (plT G) (plT Nx) (fun s2 b2 => sn ks a q s2 b2 ∨ s2 = a ∧ b2 = (gb [false, true] q)) := hnx.skip (pl_some hGx) (pl_some hy) (by have h8 := hbf (by assumption); rw [prt_two] at h8; exact h8)
             refine W.skip ?_
             refine inBlk_normal ?_
             refine thenP_normal ?_
             refine W.reg ?_
             refine LS.vv rfl rfl (by decide) (Val.addN (j := 1) rfl rfl (by omega)) ?_
             refine LS.vv rfl rfl (by decide) (Val.move rfl) ?_
             refine LS.nil ?_
             refine thenP_normal ?_
             replace hM := hM.er2.er1.er0.sw0.sw1.sw2
             rw [show (x.l.length + 1) = (x.l ++ [(gb [false, true] q)]).length from by simp] at hM
             first
               | (refine ⟨(q + 1, putG Nx (nxq a q) (xpv pq cq x q xs k a), (xpv pq cq x q xs k a) :: T1), (Sub.cons rfl (Sub.nil _)), (by repeat (first | exact Sub.nil _ | refine Sub.cons rfl ?_)), ⟨⟨hmb, hmn2, hit, sn_next hnx2, hGT.more, hNT.put, by simp only; omega⟩, hM, hB⟩, by simp only; omega⟩)
               | (refine ⟨(q + 1, Nx, (xpv pq cq x q xs k a) :: T1), (Sub.cons rfl (Sub.nil _)), (by repeat (first | exact Sub.nil _ | refine Sub.cons rfl ?_)), ⟨⟨hmb, hmn, hit, sn_next hnx2, hGT.more, hNT.more, by simp only; omega⟩, hM, hB⟩, by simp only; omega⟩)
         ·
          refine DT.m rfl rfl (Step.allocZ rfl rfl (by decide) elem82 rfl (by decide) ?_)
          rintro w22 hO22 hg22 hbl22 hsz22
          first | replace hmb := hmb.below hbl22 | replace hmb := hmb.offZ hM.o0 hg22 | replace hmb := hmb.offZ hM.o1 hg22 | replace hmb := hmb.offZ hM.o2 hg22 | replace hmb := hmb.offZ hM.o3 hg22 | replace hmb := hmb.offZ hM.o4 hg22 | replace hmb := hmb.offZ hM.o5 hg22 | replace hmb := hmb.offZ hM.o6 hg22 | replace hmb := hmb.offZ hM.o7 hg22 | replace hmb := hmb.offZ hM.o8 hg22 | replace hmb := hmb.offZ hM.o9 hg22 | skip
          first | replace hmn := hmn.below hbl22 | replace hmn := hmn.offZ hM.o0 hg22 | replace hmn := hmn.offZ hM.o1 hg22 | replace hmn := hmn.offZ hM.o2 hg22 | replace hmn := hmn.offZ hM.o3 hg22 | replace hmn := hmn.offZ hM.o4 hg22 | replace hmn := hmn.offZ hM.o5 hg22 | replace hmn := hmn.offZ hM.o6 hg22 | replace hmn := hmn.offZ hM.o7 hg22 | replace hmn := hmn.offZ hM.o8 hg22 | replace hmn := hmn.offZ hM.o9 hg22 | skip
          first | replace hit := hit.below hbl22 | replace hit := hit.offZ hM.o0 hg22 | replace hit := hit.offZ hM.o1 hg22 | replace hit := hit.offZ hM.o2 hg22 | replace hit := hit.offZ hM.o3 hg22 | replace hit := hit.offZ hM.o4 hg22 | replace hit := hit.offZ hM.o5 hg22 | replace hit := hit.offZ hM.o6 hg22 | replace hit := hit.offZ hM.o7 hg22 | replace hit := hit.offZ hM.o8 hg22 | replace hit := hit.offZ hM.o9 hg22 | skip
          replace hM := hM.add hB.size hbl22 hO22
          try simp only [List.length_cons, List.length_nil, Nat.zero_add, Nat.reduceAdd, Value.cells, List.toList_toArray, List.append_nil, List.set_cons_zero, List.set_cons_succ] at hM
          replace hB := hB.trans (hbl22.mono hB.size)
          generalize w10.heap.size = gg22 at *
          refine ⟨⟨hB, hM.er2.er1.er0⟩, ?_⟩
          refine DT.m rfl rfl (Step.appendZ (B := w0.heap.size) rfl rfl (by decide) Try.underlying23 elem4 rfl (by decide) rfl rfl (hM.o2) (hM.o1.rd) rfl (by first | exact one_map _ (fun _ => rfl) _ | simp [Value.oneCell']) (by omega) (by omega) hB.size ?_)
          rintro p23 c23 w23 hO23 hg23 hbl23 hbk23
          first | replace hmb := hmb.below hbl23 | replace hmb := hmb.offZ hM.o0 hg23 | replace hmb := hmb.offZ hM.o1 hg23 | replace hmb := hmb.offZ hM.o2 hg23 | replace hmb := hmb.offZ hM.o3 hg23 | replace hmb := hmb.offZ hM.o4 hg23 | replace hmb := hmb.offZ hM.o5 hg23 | replace hmb := hmb.offZ hM.o6 hg23 | replace hmb := hmb.offZ hM.o7 hg23 | replace hmb := hmb.offZ hM.o8 hg23 | replace hmb := hmb.offZ hM.o9 hg23 | skip
          first | replace hmn := hmn.below hbl23 | replace hmn := hmn.offZ hM.o0 hg23 | replace hmn := hmn.offZ hM.o1 hg23 | replace hmn := hmn.offZ hM.o2 hg23 | replace hmn := hmn.offZ hM.o3 hg23 | replace hmn := hmn.offZ hM.o4 hg23 | replace hmn := hmn.offZ hM.o5 hg23 | replace hmn := hmn.offZ hM.o6 hg23 | replace hmn := hmn.offZ hM.o7 hg23 | replace hmn := hmn.offZ hM.o8 hg23 | replace hmn := hmn.offZ hM.o9 hg23 | skip
          first | replace hit := hit.below hbl23 | replace hit := hit.offZ hM.o0 hg23 | replace hit := hit.offZ hM.o1 hg23 | replace hit := hit.offZ hM.o2 hg23 | replace hit := hit.offZ hM.o3 hg23 | replace hit := hit.offZ hM.o4 hg23 | replace hit := hit.offZ hM.o5 hg23 | replace hit := hit.offZ hM.o6 hg23 | replace hit := hit.offZ hM.o7 hg23 | replace hit := hit.offZ hM.o8 hg23 | replace hit := hit.offZ hM.o9 hg23 | skip
          replace hM := hM.s2 (e := _) hg23 hO23 hbk23
          replace hM := hM.drop1
          try simp only [bv_app1, bv_app, bv_set, bv_rep, bv_one, bv_cons, bv_take, bv_drop, List.nil_append] at hM
          replace hB := hB.trans hbl23
          refine ⟨⟨hB, hM.er1.er0⟩, ?_⟩
          generalize p23 = pq at *
          generalize c23 = cq at *
          refine DT.vv rfl rfl rfl (by decide) (Val.build str82 elem82 rfl rfl rfl) ?_
          refine DT.m rfl rfl (Step.storeAgg0 (B := w0.heap.size) rfl rfl agg82 rfl rfl rfl (by decide) (by first | exact one_map _ (fun _ => rfl) _ | simp [Value.oneCell']) (hM.o0) rfl hB.size ?_)
          rintro w24 hO24 hg24 hbl24 hsz24
          first | replace hmb := hmb.below hbl24 | replace hmb := hmb.offZ hM.o0 hg24 | replace hmb := hmb.offZ hM.o1 hg24 | replace hmb := hmb.offZ hM.o2 hg24 | replace hmb := hmb.offZ hM.o3 hg24 | replace hmb := hmb.offZ hM.o4 hg24 | replace hmb := hmb.offZ hM.o5 hg24 | replace hmb := hmb.offZ hM.o6 hg24 | replace hmb := hmb.offZ hM.o7 hg24 | replace hmb := hmb.offZ hM.o8 hg24 | replace hmb := hmb.offZ hM.o9 hg24 | skip
          first | replace hmn := hmn.below hbl24 | replace hmn := hmn.offZ hM.o0 hg24 | replace hmn := hmn.offZ hM.o1 hg24 | replace hmn := hmn.offZ hM.o2 hg24 | replace hmn := hmn.offZ hM.o3 hg24 | replace hmn := hmn.offZ hM.o4 hg24 | replace hmn := hmn.offZ hM.o5 hg24 | replace hmn := hmn.offZ hM.o6 hg24 | replace hmn := hmn.offZ hM.o7 hg24 | replace hmn := hmn.offZ hM.o8 hg24 | replace hmn := hmn.offZ hM.o9 hg24 | skip
          first | replace hit := hit.below hbl24 | replace hit := hit.offZ hM.o0 hg24 | replace hit := hit.offZ hM.o1 hg24 | replace hit := hit.offZ hM.o2 hg24 | replace hit := hit.offZ hM.o3 hg24 | replace hit := hit.offZ hM.o4 hg24 | replace hit := hit.offZ hM.o5 hg24 | replace hit := hit.offZ hM.o6 hg24 | replace hit := hit.offZ hM.o7 hg24 | replace hit := hit.offZ hM.o8 hg24 | replace hit := hit.offZ hM.o9 hg24 | skip
          replace hM := hM.s0 (e := _) hg24 hO24 inl_block
          try simp only [List.set_cons_zero, List.set_cons_succ] at hM
          replace hB := hB.trans hbl24
          refine ⟨⟨hB, hM.er1.er0⟩, ?_⟩
          refine DT.nil ?_
          refine W.seq ?_
          refine W.seqR ?_
          refine LS.m rfl (Step.loadAgg0 rfl rfl (by decide) agg79 rfl (hM.o2.rd) rfl (by decide) ?_)
          refine LS.vv rfl rfl (by decide) (Val.move rfl) ?_
          refine LS.m rfl (Step.call body58 rfl rfl (by decide) rfl (CallsV.mono (out_any a (gb [false, true] q) _) ?_))
          rintro _ w25 ⟨rfl, hb25⟩
          replace hM := hM.below hb25
          try replace hmb := hmb.below hb25
          try replace hmn := hmn.below hb25
          try replace hit := hit.below hb25
          replace hB := hB.trans (hb25.mono hB.size)
          refine LS.vv rfl rfl (by decide) (Val.cast (v := .int .i64 ((0 : Nat) : Int)) (Val.move rfl) rfl) ?_
          refine LS.nil ?_
          refine W.block ?_
          skip
          refine W.loop (α := Nat) (fun i => [(77, .int .i64 (i : Int))]) [(0, _), (5, _), (7, _), (8, _), (9, _), (10, _), (12, _), (13, _), (40, _), (41, _), (46, _), (59, _), (60, _), (61, _), (76, _)] (fun i w => (MapR encB w w0.heap.size mb (fv G) ∧ MapR encB w w0.heap.size mn (fv Nx) ∧ OwnIter encB w w0.heap.size mb it (ks ++ [a]) ∧ i ≤ 2) ∧ Mz w w0.heap.size (⟨82, 2, some ⟨gg22, 0, none⟩, 1, 1, [.slice pq (x.l.length + 1) cq, .int .i64 ((x.o + prt xs k a (gb [false, true] q) i : Nat) : Int)]⟩ :: ⟨4, 1, pq, x.l.length + 1, cq, bv (x.l ++ [(gb [false, true] q)])⟩ :: ⟨79, 2, some ⟨gg3, 0, none⟩, 1, 1, [.bool a.1, .bool a.2]⟩ :: ⟨82, 2, some ⟨gg4, 0, none⟩, 1, 1, [.slice x.p x.l.length x.c, .int .i64 (x.o : Int)]⟩ :: ⟨4, 1, some ⟨gg7, 0, none⟩, 2, 2, bv [false, true]⟩ :: (tp T1)) ∧ Below w0.heap.size w0 w) (fun i => 2 - i) (0) (Sub.cons rfl (Sub.nil _)) (Sub.cons rfl (Sub.cons rfl (Sub.cons rfl (Sub.cons rfl (Sub.cons rfl (Sub.cons rfl (Sub.cons rfl (Sub.cons rfl (Sub.cons rfl (Sub.cons rfl (Sub.cons rfl (Sub.cons rfl (Sub.cons rfl (Sub.cons rfl (Sub.cons rfl (Sub.nil _)))))))))))))))) ?_ ?_
          · exact ⟨⟨hmb, hmn, hit, Nat.zero_le _⟩, (by simp only [prt_zero, Nat.add_zero]; exact hM), hB⟩
          rintro i w26 ⟨⟨hmb, hmn, hit, hi2⟩, hM, hB⟩
          try simp only at hM
          simp only [List.cons_append, List.nil_append]
          have hpl := prt_le xs k a (gb [false, true] q) i
          have hps := fun h => prt_succ xs k a (gb [false, true] q) (i := i) h
          refine W.seqR ?_
          refine LS.vv rfl rfl (by decide) (Val.lss rfl rfl) ?_
          refine LS.nil ?_
          refine W.seq ?_
          first | refine W.condD rfl (fun hc11 => ?_) (fun hc11 => ?_) | refine W.cond rfl (fun hc11 => ?_) (fun hc11 => ?_)
          ·
           refine W.skip ?_
           refine thenP_normal ?_
           refine W.seq ?_
           refine W.block ?_
           refine W.seqR ?_
           refine LS.vv rfl rfl (by decide) (Val.move rfl) ?_
           refine LS.vv rfl rfl (by decide) (Val.cast (v := .bool (if i = 0 then out0 a (gb [false, true] q) else out1 a (gb [false, true] q))) (Val.indexV2 Try.underlying78 elem4 ag4 rfl rfl (by omega)) (by split <;> rfl)) ?_
           refine LS.vv rfl rfl (by decide) (Val.assign rfl) ?_
           refine LS.vv rfl rfl (by decide) (Val.assign rfl) ?_
           refine LS.nil ?_
           refine W.seqR ?_
           refine LS.vv rfl rfl (by decide) (Val.move rfl) ?_
           refine LS.vv rfl rfl (by decide) (Val.move rfl) ?_
           refine LS.vv rfl rfl (by decide) (Val.move rfl) ?_
           first | refine LS.vv rfl rfl (by decide) (Val.mulN (i := 2) rfl rfl (by omega)) ?_ | refine LS.vv rfl rfl (by decide) (Val.mul64 rfl rfl (by omega)) ?_
           refine LS.vv rfl rfl (by decide) (Val.move rfl) ?_
           first | refine LS.vv rfl rfl (by decide) (Val.addN rfl rfl (by omega)) ?_ | refine LS.vv rfl rfl (by decide) (Val.add64 rfl rfl (by omega)) ?_
           refine LS.vv rfl rfl (by decide) (Val.index1 Try.underlying23 elem4 rfl rfl (by omega) ((hr.below hB)) (bv_lt (by omega))) ?_
           refine LS.m rfl (Step.load rfl rfl (by decide) flat4 rfl ((hr.below hB)) (bv_at (by omega)) ?_)
           refine LS.vv rfl rfl (by decide) (Val.neqB Try.underlying4 rfl rfl) ?_
           refine LS.nil ?_
           first | refine W.condD rfl (fun hc12 => ?_) (fun hc12 => ?_) | refine W.cond rfl (fun hc12 => ?_) (fun hc12 => ?_)
           ·
            refine W.reg ?_
            refine LS.vv rfl rfl (by decide) (Val.fieldAddr0 fld82_1 rfl) ?_
            refine LS.m rfl (Step.load rfl rfl (by decide) flat3 rfl (hM.o0.rd) (rfl) ?_)
            refine LS.vv rfl rfl (by decide) (Val.addN (j := 1) rfl rfl (by omega)) ?_
            refine LS.vv rfl rfl (by decide) (Val.fieldAddr0 fld82_1 rfl) ?_
            refine LS.m rfl (Step.storeZ (B := w0.heap.size) rfl rfl flat3 elem3 rfl rfl rfl (hM.o0) (by first | decide | (simp; done) | (simp; omega) | omega) hB.size ?_)
            rintro w27 hO27 hg27 hbl27 hsz27
            first | replace hmb := hmb.below hbl27 | replace hmb := hmb.offZ hM.o0 hg27 | replace hmb := hmb.offZ hM.o1 hg27 | replace hmb := hmb.offZ hM.o2 hg27 | replace hmb := hmb.offZ hM.o3 hg27 | replace hmb := hmb.offZ hM.o4 hg27 | replace hmb := hmb.offZ hM.o5 hg27 | replace hmb := hmb.offZ hM.o6 hg27 | replace hmb := hmb.offZ hM.o7 hg27 | replace hmb := hmb.offZ hM.o8 hg27 | replace hmb := hmb.offZ hM.o9 hg27 | skip
            first | replace hmn := hmn.below hbl27 | replace hmn := hmn.offZ hM.o0 hg27 | replace hmn := hmn.offZ hM.o1 hg27 | replace hmn := hmn.offZ hM.o2 hg27 | replace hmn := hmn.offZ hM.o3 hg27 | replace hmn := hmn.offZ hM.o4 hg27 | replace hmn := hmn.offZ hM.o5 hg27 | replace hmn := hmn.offZ hM.o6 hg27 | replace hmn := hmn.offZ hM.o7 hg27 | replace hmn := hmn.offZ hM.o8 hg27 | replace hmn := hmn.offZ hM.o9 hg27 | skip
            first | replace hit := hit.below hbl27 | replace hit := hit.offZ hM.o0 hg27 | replace hit := hit.offZ hM.o1 hg27 | replace hit := hit.offZ hM.o2 hg27 | replace hit := hit.offZ hM.o3 hg27 | replace hit := hit.offZ hM.o4 hg27 | replace hit := hit.offZ hM.o5 hg27 | replace hit := hit.offZ hM.o6 hg27 | replace hit := hit.offZ hM.o7 hg27 | replace hit := hit.offZ hM.o8 hg27 | replace hit := hit.offZ hM.o9 hg27 | skip
            replace hM := hM.s0 (e := _) hg27 hO27 inl_block
            try simp only [List.set_cons_zero, List.set_cons_succ] at hM
            replace hB := hB.trans hbl27
            refine LS.nil ?_
            refine inBlk_normal ?_
            refine thenP_normal ?_
            refine W.reg ?_
            refine LS.vv rfl rfl (by decide) (Val.addN (j := 1) rfl rfl (by omega)) ?_
            refine LS.vv rfl rfl (by decide) (Val.move rfl) ?_
            refine LS.nil ?_
            refine thenP_normal ?_
            have hps2 := hps (by omega)
            first
              | (rw [if_pos (by assumption)] at hps2
                 refine ⟨i + 1, (Sub.cons rfl (Sub.nil _)), (by repeat (first | exact Sub.nil _ | refine Sub.cons rfl ?_)), ⟨⟨hmb, hmn, hit, by omega⟩, (by rw [hps2, ← Nat.add_assoc]; exact hM), hB⟩, by omega⟩)
              | (rw [if_neg (by assumption), Nat.add_zero] at hps2
                 refine ⟨i + 1, (Sub.cons rfl (Sub.nil _)), (by repeat (first | exact Sub.nil _ | refine Sub.cons rfl ?_)), ⟨⟨hmb, hmn, hit, by omega⟩, (by rw [hps2]; exact hM), hB⟩, by omega⟩)
           ·
            refine W.skip ?_
            refine inBlk_normal ?_
            refine thenP_normal ?_
            refine W.reg ?_
            refine LS.vv rfl rfl (by decide) (Val.addN (j := 1) rfl rfl (by omega)) ?_
            refine LS.vv rfl rfl (by decide) (Val.move rfl) ?_
            refine LS.nil ?_
            refine thenP_normal ?_
            have hps2 := hps (by omega)
            first
              | (rw [if_pos (by assumption)] at hps2
                 refine ⟨i + 1, (Sub.cons rfl (Sub.nil _)), (by repeat (first | exact Sub.nil _ | refine Sub.cons rfl ?_)), ⟨⟨hmb, hmn, hit, by omega⟩, (by rw [hps2, ← Nat.add_assoc]; exact hM), hB⟩, by omega⟩)
              | (rw [if_neg (by assumption), Nat.add_zero] at hps2
                 refine ⟨i + 1, (Sub.cons rfl (Sub.nil _)), (by repeat (first | exact Sub.nil _ | refine Sub.cons rfl ?_)), ⟨⟨hmb, hmn, hit, by omega⟩, (by rw [hps2]; exact hM), hB⟩, by omega⟩)
          ·
           obtain rfl : i = 2 := by omega
           refine W.exit ?_
           refine thenP_exit ?_
           refine thenP_exit ?_
           refine inBlk_exit ?_
           refine thenP_normal ?_
           refine W.seqR ?_
           refine LS.vv rfl rfl (by decide) (Val.move rfl) ?_
           refine LS.vv rfl rfl (by decide) (Val.indexArr (j := 0) Try.underlying79 elem4 rfl rfl (by omega)) ?_
           refine LS.m rfl (Step.load rfl rfl (by decide) flat4 rfl (hM.o2.rd) (rfl) ?_)
           refine LS.vv rfl rfl (by decide) (Val.buildArr Try.underlying79 elem79 elem4 rfl (fill_b2 _ _)) ?_
           refine LS.m rfl (Step.allocZ rfl rfl (by decide) elem79 rfl (by decide) ?_)
           rintro w28 hO28 hg28 hbl28 hsz28
           first | replace hmb := hmb.below hbl28 | replace hmb := hmb.offZ hM.o0 hg28 | replace hmb := hmb.offZ hM.o1 hg28 | replace hmb := hmb.offZ hM.o2 hg28 | replace hmb := hmb.offZ hM.o3 hg28 | replace hmb := hmb.offZ hM.o4 hg28 | replace hmb := hmb.offZ hM.o5 hg28 | replace hmb := hmb.offZ hM.o6 hg28 | replace hmb := hmb.offZ hM.o7 hg28 | replace hmb := hmb.offZ hM.o8 hg28 | replace hmb := hmb.offZ hM.o9 hg28 | skip
           first | replace hmn := hmn.below hbl28 | replace hmn := hmn.offZ hM.o0 hg28 | replace hmn := hmn.offZ hM.o1 hg28 | replace hmn := hmn.offZ hM.o2 hg28 | replace hmn := hmn.offZ hM.o3 hg28 | replace hmn := hmn.offZ hM.o4 hg28 | replace hmn := hmn.offZ hM.o5 hg28 | replace hmn := hmn.offZ hM.o6 hg28 | replace hmn := hmn.offZ hM.o7 hg28 | replace hmn := hmn.offZ hM.o8 hg28 | replace hmn := hmn.offZ hM.o9 hg28 | skip
           first | replace hit := hit.below hbl28 | replace hit := hit.offZ hM.o0 hg28 | replace hit := hit.offZ hM.o1 hg28 | replace hit := hit.offZ hM.o2 hg28 | replace hit := hit.offZ hM.o3 hg28 | replace hit := hit.offZ hM.o4 hg28 | replace hit := hit.offZ hM.o5 hg28 | replace hit := hit.offZ hM.o6 hg28 | replace hit := hit.offZ hM.o7 hg28 | replace hit := hit.offZ hM.o8 hg28 | replace hit := hit.offZ hM.o9 hg28 | skip
           replace hM := hM.add hB.size hbl28 hO28
           try simp only [List.length_cons, List.length_nil, Nat.zero_add, Nat.reduceAdd, Value.cells, List.toList_toArray, List.append_nil, List.set_cons_zero, List.set_cons_succ] at hM
           replace hB := hB.trans (hbl28.mono hB.size)
           generalize w26.heap.size = gg28 at *
           refine LS.m rfl (Step.storeAgg0 (B := w0.heap.size) rfl rfl agg79 rfl rfl rfl (by decide) (by first | exact one_map _ (fun _ => rfl) _ | simp [Value.oneCell']) (hM.o0) rfl hB.size ?_)
           rintro w29 hO29 hg29 hbl29 hsz29
           first | replace hmb := hmb.below hbl29 | replace hmb := hmb.offZ hM.o0 hg29 | replace hmb := hmb.offZ hM.o1 hg29 | replace hmb := hmb.offZ hM.o2 hg29 | replace hmb := hmb.offZ hM.o3 hg29 | replace hmb := hmb.offZ hM.o4 hg29 | replace hmb := hmb.offZ hM.o5 hg29 | replace hmb := hmb.offZ hM.o6 hg29 | replace hmb := hmb.offZ hM.o7 hg29 | replace hmb := hmb.offZ hM.o8 hg29 | replace hmb := hmb.offZ hM.o9 hg29 | skip
           first | replace hmn := hmn.below hbl29 | replace hmn := hmn.offZ hM.o0 hg29 | replace hmn := hmn.offZ hM.o1 hg29 | replace hmn := hmn.offZ hM.o2 hg29 | replace hmn := hmn.offZ hM.o3 hg29 | replace hmn := hmn.offZ hM.o4 hg29 | replace hmn := hmn.offZ hM.o5 hg29 | replace hmn := hmn.offZ hM.o6 hg29 | replace hmn := hmn.offZ hM.o7 hg29 | replace hmn := hmn.offZ hM.o8 hg29 | replace hmn := hmn.offZ hM.o9 hg29 | skip
           first | replace hit := hit.below hbl29 | replace hit := hit.offZ hM.o0 hg29 | replace hit := hit.offZ hM.o1 hg29 | replace hit := hit.offZ hM.o2 hg29 | replace hit := hit.offZ hM.o3 hg29 | replace hit := hit.offZ hM.o4 hg29 | replace hit := hit.offZ hM.o5 hg29 | replace hit := hit.offZ hM.o6 hg29 | replace hit := hit.offZ hM.o7 hg29 | replace hit := hit.offZ hM.o8 hg29 | replace hit := hit.offZ hM.o9 hg29 | skip
           replace hM := hM.s0 (e := _) hg29 hO29 inl_block
           try simp only [List.set_cons_zero, List.set_cons_succ] at hM
           replace hB := hB.trans hbl29
           refine LS.nil ?_
           refine W.seqR ?_
           refine LS.vv rfl rfl (by decide) (Val.move rfl) ?_
           refine LS.m rfl (Step.loadAgg0 rfl rfl (by decide) agg79 rfl (hM.o0.rd) rfl (by decide) ?_)
           refine LS.m rfl (Step.lookup2 rfl rfl (by decide) (keys_bb b2_79) Try.underlying83 elem82 rfl rfl hmn.own (fv_getD Nx (nxq a q)) (fv_isSome Nx (nxq a q)) ?_)
           refine LS.vv rfl rfl (by decide) (Val.move rfl) ?_
           refine LS.vv rfl rfl (by decide) (Val.extract rfl rfl) ?_
           refine LS.vv rfl rfl (by decide) (Val.extract rfl rfl) ?_
           refine LS.m rfl (Step.allocZ rfl rfl (by decide) elem82 rfl (by decide) ?_)
           rintro w30 hO30 hg30 hbl30 hsz30
           first | replace hmb := hmb.below hbl30 | replace hmb := hmb.offZ hM.o0 hg30 | replace hmb := hmb.offZ hM.o1 hg30 | replace hmb := hmb.offZ hM.o2 hg30 | replace hmb := hmb.offZ hM.o3 hg30 | replace hmb := hmb.offZ hM.o4 hg30 | replace hmb := hmb.offZ hM.o5 hg30 | replace hmb := hmb.offZ hM.o6 hg30 | replace hmb := hmb.offZ hM.o7 hg30 | replace hmb := hmb.offZ hM.o8 hg30 | replace hmb := hmb.offZ hM.o9 hg30 | skip
           first | replace hmn := hmn.below hbl30 | replace hmn := hmn.offZ hM.o0 hg30 | replace hmn := hmn.offZ hM.o1 hg30 | replace hmn := hmn.offZ hM.o2 hg30 | replace hmn := hmn.offZ hM.o3 hg30 | replace hmn := hmn.offZ hM.o4 hg30 | replace hmn := hmn.offZ hM.o5 hg30 | replace hmn := hmn.offZ hM.o6 hg30 | replace hmn := hmn.offZ hM.o7 hg30 | replace hmn := hmn.offZ hM.o8 hg30 | replace hmn := hmn.offZ hM.o9 hg30 | skip
           first | replace hit := hit.below hbl30 | replace hit := hit.offZ hM.o0 hg30 | replace hit := hit.offZ hM.o1 hg30 | replace hit := hit.offZ hM.o2 hg30 | replace hit := hit.offZ hM.o3 hg30 | replace hit := hit.offZ hM.o4 hg30 | replace hit := hit.offZ hM.o5 hg30 | replace hit := hit.offZ hM.o6 hg30 | replace hit := hit.offZ hM.o7 hg30 | replace hit := hit.offZ hM.o8 hg30 | replace hit := hit.offZ hM.o9 hg30 | skip
           replace hM := hM.add hB.size hbl30 hO30
           try simp only [List.length_cons, List.length_nil, Nat.zero_add, Nat.reduceAdd, Value.cells, List.toList_toArray, List.append_nil, List.set_cons_zero, List.set_cons_succ] at hM
           replace hB := hB.trans (hbl30.mono hB.size)
           generalize w29.heap.size = gg30 at *
           refine LS.m rfl (Step.storeAgg0 (B := w0.heap.size) rfl rfl agg82 rfl rfl rfl (by decide) (by first | exact one_map _ (fun _ => rfl) _ | simp [Value.oneCell']) (hM.o0) rfl hB.size ?_)
           rintro w31 hO31 hg31 hbl31 hsz31
           first | replace hmb := hmb.below hbl31 | replace hmb := hmb.offZ hM.o0 hg31 | replace hmb := hmb.offZ hM.o1 hg31 | replace hmb := hmb.offZ hM.o2 hg31 | replace hmb := hmb.offZ hM.o3 hg31 | replace hmb := hmb.offZ hM.o4 hg31 | replace hmb := hmb.offZ hM.o5 hg31 | replace hmb := hmb.offZ hM.o6 hg31 | replace hmb := hmb.offZ hM.o7 hg31 | replace hmb := hmb.offZ hM.o8 hg31 | replace hmb := hmb.offZ hM.o9 hg31 | skip
           first | replace hmn := hmn.below hbl31 | replace hmn := hmn.offZ hM.o0 hg31 | replace hmn := hmn.offZ hM.o1 hg31 | replace hmn := hmn.offZ hM.o2 hg31 | replace hmn := hmn.offZ hM.o3 hg31 | replace hmn := hmn.offZ hM.o4 hg31 | replace hmn := hmn.offZ hM.o5 hg31 | replace hmn := hmn.offZ hM.o6 hg31 | replace hmn := hmn.offZ hM.o7 hg31 | replace hmn := hmn.offZ hM.o8 hg31 | replace hmn := hmn.offZ hM.o9 hg31 | skip
           first | replace hit := hit.below hbl31 | replace hit := hit.offZ hM.o0 hg31 | replace hit := hit.offZ hM.o1 hg31 | replace hit := hit.offZ hM.o2 hg31 | replace hit := hit.offZ hM.o3 hg31 | replace hit := hit.offZ hM.o4 hg31 | replace hit := hit.offZ hM.o5 hg31 | replace hit := hit.offZ hM.o6 hg31 | replace hit := hit.offZ hM.o7 hg31 | replace hit := hit.offZ hM.o8 hg31 | replace hit := hit.offZ hM.o9 hg31 | skip
           replace hM := hM.s0 (e := _) hg31 hO31 inl_block
           try simp only [List.set_cons_zero, List.set_cons_succ] at hM
           replace hB := hB.trans hbl31
           refine LS.vv rfl rfl (by decide) (Val.assign rfl) ?_
           refine LS.nil ?_
           refine W.seqR ?_
           refine LS.vv rfl rfl (by decide) (Val.move rfl) ?_
           refine LS.vv rfl rfl (by decide) (Val.not rfl) ?_
           refine LS.vv rfl rfl (by decide) (Val.move rfl) ?_
           refine LS.split 2 rfl (fun hg13 => ?_) (fun hg13 => ?_)
           ·
            first | (have hg13p := of_decide_eq_true hg13) | skip
            refine LS.s rfl rfl rfl hg13 (by decide) ?_
            refine LS.s rfl rfl rfl hg13 (by decide) ?_
            refine LS.s rfl rfl rfl hg13 (by decide) ?_
            refine LS.vv rfl rfl (by decide) (Val.pickT rfl hg13 rfl) ?_
            refine LS.nil ?_
            refine W.condT rfl ?_
            refine W.reg ?_
            refine LS.vv rfl rfl (by decide) (Val.move rfl) ?_
            refine LS.m rfl (Step.loadAgg0 rfl rfl (by decide) agg79 rfl (hM.o1.rd) rfl (by decide) ?_)
            refine LS.m rfl (Step.loadAgg0 rfl rfl (by decide) agg82 rfl (hM.o2.rd) rfl (by decide) ?_)
            have hold : ∀ q2 m2, plT Nx (nxq a q) = some (q2, m2) → x.o + two xs k a (gb [false, true] q) ≤ m2 := fun q2 m2 h9 => by
              obtain ⟨y9, hy9, hy10, hy11⟩ := pl_inv h9
              first
                | (exfalso; have h7 : (Nx (nxq a q)).isSome = false := (by simpa using (by assumption : (!(Nx (nxq a q)).isSome) = true)); rw [hy9] at h7; cases h7)
                | (have h8 := hbt (by assumption); rw [hy] at hy9; cases hy9; rw [prt_two] at h8; omega)
            have hnx2 : Nxt N xs k (plT G) (plT (putG Nx (nxq a q) (xpv pq cq x q xs k a))) (fun s2 b2 => sn ks a q s2 b2 ∨ s2 = a ∧ b2 = (gb [false, true] q)) := by rw [pl_put]; exact hnx.take hTab (by omega) (nb_ok (by omega)) (pl_some hGx) hold
            refine LS.m rfl (Step.mapPutR (k := (nxq a q)) (v := .agg #[.slice pq (x.l.length + 1) cq, .int .i64 ((x.o + prt xs k a (gb [false, true] q) 2 : Nat) : Int)]) (.inl rfl) rfl (keys_bb b2_79) Try.underlying83 rfl rfl rfl hmn hB.size ?_)
            rintro wf hmn2 hg9 hbl9 hsz9
            replace hM := hM.mapR hmn hg9
            replace hmb := hmb.keep hg9 (fun h => hmne (Option.some.inj h))
            replace hit := hit.keep hg9 (fun h => hmne (Option.some.inj h)) (fun h => hit.ne_map hmn (Option.some.inj h))
            replace hB := hB.trans hbl9
            rw [pv_two, fv_put] at hmn2
            refine LS.nil ?_
            refine inBlk_normal ?_
            refine thenP_normal ?_
            refine W.reg ?_
            refine LS.vv rfl rfl (by decide) (Val.addN (j := 1) rfl rfl (by omega)) ?_
            refine LS.vv rfl rfl (by decide) (Val.move rfl) ?_
            refine LS.nil ?_
            refine thenP_normal ?_
            replace hM := hM.er2.er1.er0.sw0.sw1.sw2
            rw [show (x.l.length + 1) = (x.l ++ [(gb [false, true] q)]).length from by simp] at hM
            first
              | (refine ⟨(q + 1, putG Nx (nxq a q) (xpv pq cq x q xs k a), (xpv pq cq x q xs k a) :: T1), (Sub.cons rfl (Sub.nil _)), (by repeat (first | exact Sub.nil _ | refine Sub.cons rfl ?_)), ⟨⟨hmb, hmn2, hit, sn_next hnx2, hGT.more, hNT.put, by simp only; omega⟩, hM, hB⟩, by simp only; omega⟩)
              | (refine ⟨(q + 1, Nx, (xpv pq cq x q xs k a) :: T1), (Sub.cons rfl (Sub.nil _)), (by repeat (first | exact Sub.nil _ | refine Sub.cons rfl ?_)), ⟨⟨hmb, hmn, hit, sn_next hnx2, hGT.more, hNT.more, by simp only; omega⟩, hM, hB⟩, by simp only; omega⟩)
           ·
            first | (have hg13p := of_decide_eq_false hg13) | skip
            refine LS.mg rfl rfl hg13 (Step.loadAgg0 rfl rfl (by decide) agg82 rfl (hM.o2.rd) rfl (by decide) ?_)
            refine LS.mg rfl rfl hg13 (Step.loadAgg0 rfl rfl (by decide) agg82 rfl (hM.o0.rd) rfl (by decide) ?_)
            obtain ⟨y, hy⟩ := Option.isSome_iff_exists.1 (by simpa using (by assumption : (!(Nx (nxq a q)).isSome) = false))
            have hyd : ((Nx (nxq a q)).getD zPV) = y := by rw [hy]; rfl
            have hyp := hnx.path _ _ _ (pl_some hy)
            have hyl := hyp.len
            rw [hyd]
            refine LS.mg rfl rfl hg13 (Step.call body59 rfl rfl (by decide) rfl (CallsV.mono (better_any (x.l ++ [(gb [false, true] q)]) y.l pq y.p cq y.c (x.l.length + 1) y.l.length (x.o + prt xs k a (gb [false, true] q) 2) y.o _ hM.o3.rd (tp_rd hM (hNT _ _ hy) (fun o h => by simp [h])) (by simp) rfl (by omega) (by omega)) ?_))
            rintro _ w32 ⟨bb, rfl, hbt, hbf, hb32⟩
            replace hM := hM.below hb32
            try replace hmb := hmb.below hb32
            try replace hmn := hmn.below hb32
            try replace hit := hit.below hb32
            replace hB := hB.trans (hb32.mono hB.size)
            refine LS.vv rfl rfl (by decide) (Val.pickF rfl hg13 rfl) ?_
            refine LS.nil ?_
            first | refine W.condD rfl (fun hc14 => ?_) (fun hc14 => ?_) | refine W.cond rfl (fun hc14 => ?_) (fun hc14 => ?_)
            ·
             refine W.reg ?_
             refine LS.vv rfl rfl (by decide) (Val.move rfl) ?_
             refine LS.m rfl (Step.loadAgg0 rfl rfl (by decide) agg79 rfl (hM.o1.rd) rfl (by decide) ?_)
             refine LS.m rfl (Step.loadAgg0 rfl rfl (by decide) agg82 rfl (hM.o2.rd) rfl (by decide) ?_)
             have hold : ∀ q2 m2, plT Nx (nxq a q) = some (q2, m2) → x.o + two xs k a (gb [false, true] q) ≤ m2 := fun q2 m2 h9 => by
               obtain ⟨y9, hy9, hy10, hy11⟩ := pl_inv h9
               first
                 | (exfalso; have h7 : (Nx (nxq a q)).isSome = false := (by simpa using (by assumption : (!(Nx (nxq a q)).isSome) = true)); rw [hy9] at h7; cases h7)
                 | (have h8 := hbt (by assumption); rw [hy] at hy9; cases hy9; rw [prt_two] at h8; omega)
             have hnx2 : Nxt N xs k (plT G) (plT (putG Nx (nxq a q) (xpv pq cq x q xs k a))) (fun s2 b2 => sn ks a q s2 b2 ∨ s2 = a ∧ b2 = (gb [false, true] q)) := by rw [pl_put]; exact hnx.take hTab (by omega) (nb_ok (by omega)) (pl_some hGx) hold
             refine LS.m rfl (Step.mapPutR (k := (nxq a q)) (v := .agg #[.slice pq (x.l.length + 1) cq, .int .i64 ((x.o + prt xs k a (gb [false, true] q) 2 : Nat) : Int)]) (.inl rfl) rfl (keys_bb b2_79) Try.underlying83 rfl rfl rfl hmn hB.size ?_)
             rintro wf hmn2 hg9 hbl9 hsz9
             replace hM := hM.mapR hmn hg9
             replace hmb := hmb.keep hg9 (fun h => hmne (Option.some.inj h))
             replace hit := hit.keep hg9 (fun h => hmne (Option.some.inj h)) (fun h => hit.ne_map hmn (Option.some.inj h))
             replace hB := hB.trans hbl9
             rw [pv_two, fv_put] at hmn2
             refine LS.nil ?_
             refine inBlk_normal ?_
             refine thenP_normal ?_
             refine W.reg ?_
             refine LS.vv rfl rfl (by decide) (Val.addN (j := 1) rfl rfl (by omega)) ?_
             refine LS.vv rfl rfl (by decide) (Val.move rfl) ?_
             refine LS.nil ?_
             refine thenP_normal ?_
             replace hM := hM.er2.er1.er0.sw0.sw1.sw2
             rw [show (x.l.length + 1) = (x.l ++ [(gb [false, true] q)]).length from by simp] at hM
             first
               | (refine ⟨(q + 1, putG Nx (nxq a q) (xpv pq cq x q xs k a), (xpv pq cq x q xs k a) :: T1), (Sub.cons rfl (Sub.nil _)), (by repeat (first | exact Sub.nil _ | refine Sub.cons rfl ?_)), ⟨⟨hmb, hmn2, hit, sn_next hnx2, hGT.more, hNT.put, by simp only; omega⟩, hM, hB⟩, by simp only; omega⟩)
               | (refine ⟨(q + 1, Nx, (xpv pq cq x q xs k a) :: T1), (Sub.cons rfl (Sub.nil _)), (by repeat (first | exact Sub.nil _ | refine Sub.cons rfl ?_)), ⟨⟨hmb, hmn, hit, sn_next hnx2, hGT.more, hNT.more, by simp only; omega⟩, hM, hB⟩, by simp only; omega⟩)
            ·
             have hnx2 : Nxt N xs k (plT G) (plT Nx) (fun s2 b2 => sn ks a q s2 b2 ∨ s2 = a ∧ b2 = (gb [false, true] q)) := hnx.skip (pl_some hGx) (pl_some hy) (by have h8 := hbf (by assumption); rw [prt_two] at h8; exact h8)
             refine W.skip ?_
             refine inBlk_normal ?_
             refine thenP_normal ?_
             refine W.reg ?_
             refine LS.vv rfl rfl (by decide) (Val.addN (j := 1) rfl rfl (by omega)) ?_
             refine LS.vv rfl rfl (by decide) (Val.move rfl) ?_
             refine LS.nil ?_
             refine thenP_normal ?_
             replace hM := hM.er2.er1.er0.sw0.sw1.sw2
             rw [show (x.l.length + 1) = (x.l ++ [(gb [false, true] q)]).length from by simp] at hM
             first
               | (refine ⟨(q + 1, putG Nx (nxq a q) (xpv pq cq x q xs k a), (xpv pq cq x q xs k a) :: T1), (Sub.cons rfl (Sub.nil _)), (by repeat (first | exact Sub.nil _ | refine Sub.cons rfl ?_)), ⟨⟨hmb, hmn2, hit, sn_next hnx2, hGT.more, hNT.put, by simp only; omega⟩, hM, hB⟩, by simp only; omega⟩)
               | (refine ⟨(q + 1, Nx, (xpv pq cq x q xs k a) :: T1), (Sub.cons rfl (Sub.nil _)), (by repeat (first | exact Sub.nil _ | refine Sub.cons rfl ?_)), ⟨⟨hmb, hmn, hit, sn_next hnx2, hGT.more, hNT.more, by simp only; omega⟩, hM, hB⟩, by simp only; omega⟩)
        ·
         refine DT.m rfl rfl (Step.allocZ rfl rfl (by decide) elem82 rfl (by decide) ?_)
         rintro w33 hO33 hg33 hbl33 hsz33
         first | replace hmb := hmb.below hbl33 | replace hmb := hmb.offZ hM.o0 hg33 | replace hmb := hmb.offZ hM.o1 hg33 | replace hmb := hmb.offZ hM.o2 hg33 | replace hmb := hmb.offZ hM.o3 hg33 | replace hmb := hmb.offZ hM.o4 hg33 | replace hmb := hmb.offZ hM.o5 hg33 | replace hmb := hmb.offZ hM.o6 hg33 | replace hmb := hmb.offZ hM.o7 hg33 | replace hmb := hmb.offZ hM.o8 hg33 | replace hmb := hmb.offZ hM.o9 hg33 | skip
         first | replace hmn := hmn.below hbl33 | replace hmn := hmn.offZ hM.o0 hg33 | replace hmn := hmn.offZ hM.o1 hg33 | replace hmn := hmn.offZ hM.o2 hg33 | replace hmn := hmn.offZ hM.o3 hg33 | replace hmn := hmn.offZ hM.o4 hg33 | replace hmn := hmn.offZ hM.o5 hg33 | replace hmn := hmn.offZ hM.o6 hg33 | replace hmn := hmn.offZ hM.o7 hg33 | replace hmn := hmn.offZ hM.o8 hg33 | replace hmn := hmn.offZ hM.o9 hg33 | skip
         first | replace hit := hit.below hbl33 | replace hit := hit.offZ hM.o0 hg33 | replace hit := hit.offZ hM.o1 hg33 | replace hit := hit.offZ hM.o2 hg33 | replace hit := hit.offZ hM.o3 hg33 | replace hit := hit.offZ hM.o4 hg33 | replace hit := hit.offZ hM.o5 hg33 | replace hit := hit.offZ hM.o6 hg33 | replace hit := hit.offZ hM.o7 hg33 | replace hit := hit.offZ hM.o8 hg33 | replace hit := hit.offZ hM.o9 hg33 | skip
         replace hM := hM.add hB.size hbl33 hO33
         try simp only [List.length_cons, List.length_nil, Nat.zero_add, Nat.reduceAdd, Value.cells, List.toList_toArray, List.append_nil, List.set_cons_zero, List.set_cons_succ] at hM
         replace hB := hB.trans (hbl33.mono hB.size)
         generalize w9.heap.size = gg33 at *
         refine ⟨⟨hB, hM.er1.er0⟩, ?_⟩
         refine DT.m rfl rfl (Step.litZ rfl rfl (by decide) Try.underlying23 elem4 rfl (by decide) rfl rfl (by decide) ?_)
         rintro w34 hO34 hg34 hbl34 hsz34
         first | replace hmb := hmb.below hbl34 | replace hmb := hmb.offZ hM.o0 hg34 | replace hmb := hmb.offZ hM.o1 hg34 | replace hmb := hmb.offZ hM.o2 hg34 | replace hmb := hmb.offZ hM.o3 hg34 | replace hmb := hmb.offZ hM.o4 hg34 | replace hmb := hmb.offZ hM.o5 hg34 | replace hmb := hmb.offZ hM.o6 hg34 | replace hmb := hmb.offZ hM.o7 hg34 | replace hmb := hmb.offZ hM.o8 hg34 | replace hmb := hmb.offZ hM.o9 hg34 | skip
         first | replace hmn := hmn.below hbl34 | replace hmn := hmn.offZ hM.o0 hg34 | replace hmn := hmn.offZ hM.o1 hg34 | replace hmn := hmn.offZ hM.o2 hg34 | replace hmn := hmn.offZ hM.o3 hg34 | replace hmn := hmn.offZ hM.o4 hg34 | replace hmn := hmn.offZ hM.o5 hg34 | replace hmn := hmn.offZ hM.o6 hg34 | replace hmn := hmn.offZ hM.o7 hg34 | replace hmn := hmn.offZ hM.o8 hg34 | replace hmn := hmn.offZ hM.o9 hg34 | skip
         first | replace hit := hit.below hbl34 | replace hit := hit.offZ hM.o0 hg34 | replace hit := hit.offZ hM.o1 hg34 | replace hit := hit.offZ hM.o2 hg34 | replace hit := hit.offZ hM.o3 hg34 | replace hit := hit.offZ hM.o4 hg34 | replace hit := hit.offZ hM.o5 hg34 | replace hit := hit.offZ hM.o6 hg34 | replace hit := hit.offZ hM.o7 hg34 | replace hit := hit.offZ hM.o8 hg34 | replace hit := hit.offZ hM.o9 hg34 | skip
         replace hM := hM.add hB.size hbl34 hO34
         try simp only [bv_app1, bv_app, bv_set, bv_rep, bv_one, bv_cons, bv_take, bv_drop, List.nil_append] at hM
         try simp only [List.length_cons, List.length_nil, Nat.zero_add, Nat.reduceAdd, Value.cells, List.toList_toArray, List.append_nil, List.set_cons_zero, List.set_cons_succ] at hM
         replace hB := hB.trans (hbl34.mono hB.size)
         generalize w33.heap.size = gg34 at *
         refine ⟨⟨hB, hM.er2.er1.er0⟩, ?_⟩
         refine DT.m rfl rfl (Step.appendZ (B := w0.heap.size) rfl rfl (by decide) Try.underlying23 elem4 rfl (by decide) rfl rfl (hM.o2) (hM.o0.rd) rfl (by first | exact one_map _ (fun _ => rfl) _ | simp [Value.oneCell']) (by omega) (by omega) hB.size ?_)
         rintro p35 c35 w35 hO35 hg35 hbl35 hbk35
         first | replace hmb := hmb.below hbl35 | replace hmb := hmb.offZ hM.o0 hg35 | replace hmb := hmb.offZ hM.o1 hg35 | replace hmb := hmb.offZ hM.o2 hg35 | replace hmb := hmb.offZ hM.o3 hg35 | replace hmb := hmb.offZ hM.o4 hg35 | replace hmb := hmb.offZ hM.o5 hg35 | replace hmb := hmb.offZ hM.o6 hg35 | replace hmb := hmb.offZ hM.o7 hg35 | replace hmb := hmb.offZ hM.o8 hg35 | replace hmb := hmb.offZ hM.o9 hg35 | skip
         first | replace hmn := hmn.below hbl35 | replace hmn := hmn.offZ hM.o0 hg35 | replace hmn := hmn.offZ hM.o1 hg35 | replace hmn := hmn.offZ hM.o2 hg35 | replace hmn := hmn.offZ hM.o3 hg35 | replace hmn := hmn.offZ hM.o4 hg35 | replace hmn := hmn.offZ hM.o5 hg35 | replace hmn := hmn.offZ hM.o6 hg35 | replace hmn := hmn.offZ hM.o7 hg35 | replace hmn := hmn.offZ hM.o8 hg35 | replace hmn := hmn.offZ hM.o9 hg35 | skip
         first | replace hit := hit.below hbl35 | replace hit := hit.offZ hM.o0 hg35 | replace hit := hit.offZ hM.o1 hg35 | replace hit := hit.offZ hM.o2 hg35 | replace hit := hit.offZ hM.o3 hg35 | replace hit := hit.offZ hM.o4 hg35 | replace hit := hit.offZ hM.o5 hg35 | replace hit := hit.offZ hM.o6 hg35 | replace hit := hit.offZ hM.o7 hg35 | replace hit := hit.offZ hM.o8 hg35 | replace hit := hit.offZ hM.o9 hg35 | skip
         replace hM := hM.s2 (e := _) hg35 hO35 hbk35
         replace hM := hM.tail
         try simp only [bv_app1, bv_app, bv_set, bv_rep, bv_one, bv_cons, bv_take, bv_drop, List.nil_append] at hM
         replace hB := hB.trans hbl35
         refine ⟨⟨hB, hM.er1.er0⟩, ?_⟩
         generalize p35 = pq at *
         generalize c35 = cq at *
         refine DT.vv rfl rfl rfl (by decide) (Val.build str82 elem82 rfl rfl rfl) ?_
         refine DT.m rfl rfl (Step.storeAgg0 (B := w0.heap.size) rfl rfl agg82 rfl rfl rfl (by decide) (by first | exact one_map _ (fun _ => rfl) _ | simp [Value.oneCell']) (hM.o0) rfl hB.size ?_)
         rintro w36 hO36 hg36 hbl36 hsz36
         first | replace hmb := hmb.below hbl36 | replace hmb := hmb.offZ hM.o0 hg36 | replace hmb := hmb.offZ hM.o1 hg36 | replace hmb := hmb.offZ hM.o2 hg36 | replace hmb := hmb.offZ hM.o3 hg36 | replace hmb := hmb.offZ hM.o4 hg36 | replace hmb := hmb.offZ hM.o5 hg36 | replace hmb := hmb.offZ hM.o6 hg36 | replace hmb := hmb.offZ hM.o7 hg36 | replace hmb := hmb.offZ hM.o8 hg36 | replace hmb := hmb.offZ hM.o9 hg36 | skip
         first | replace hmn := hmn.below hbl36 | replace hmn := hmn.offZ hM.o0 hg36 | replace hmn := hmn.offZ hM.o1 hg36 | replace hmn := hmn.offZ hM.o2 hg36 | replace hmn := hmn.offZ hM.o3 hg36 | replace hmn := hmn.offZ hM.o4 hg36 | replace hmn := hmn.offZ hM.o5 hg36 | replace hmn := hmn.offZ hM.o6 hg36 | replace hmn := hmn.offZ hM.o7 hg36 | replace hmn := hmn.offZ hM.o8 hg36 | replace hmn := hmn.offZ hM.o9 hg36 | skip
         first | replace hit := hit.below hbl36 | replace hit := hit.offZ hM.o0 hg36 | replace hit := hit.offZ hM.o1 hg36 | replace hit := hit.offZ hM.o2 hg36 | replace hit := hit.offZ hM.o3 hg36 | replace hit := hit.offZ hM.o4 hg36 | replace hit := hit.offZ hM.o5 hg36 | replace hit := hit.offZ hM.o6 hg36 | replace hit := hit.offZ hM.o7 hg36 | replace hit := hit.offZ hM.o8 hg36 | replace hit := hit.offZ hM.o9 hg36 | skip
         replace hM := hM.s0 (e := _) hg36 hO36 inl_block
         try simp only [List.set_cons_zero, List.set_cons_succ] at hM
         replace hB := hB.trans hbl36
         refine ⟨⟨hB, hM.er1.er0⟩, ?_⟩
         refine DT.nil ?_
         refine W.seq ?_
         refine W.seqR ?_
         refine LS.m rfl (Step.loadAgg0 rfl rfl (by decide) agg79 rfl (hM.o2.rd) rfl (by decide) ?_)
         refine LS.vv rfl rfl (by decide) (Val.move rfl) ?_
         refine LS.m rfl (Step.call body58 rfl rfl (by decide) rfl (CallsV.mono (out_any a (gb [false, true] q) _) ?_))
         rintro _ w37 ⟨rfl, hb37⟩
         replace hM := hM.below hb37
         try replace hmb := hmb.below hb37
         try replace hmn := hmn.below hb37
         try replace hit := hit.below hb37
         replace hB := hB.trans (hb37.mono hB.size)
         refine LS.vv rfl rfl (by decide) (Val.cast (v := .int .i64 ((0 : Nat) : Int)) (Val.move rfl) rfl) ?_
         refine LS.nil ?_
         refine W.block ?_
         skip
         refine W.loop (α := Nat) (fun i => [(77, .int .i64 (i : Int))]) [(0, _), (5, _), (7, _), (8, _), (9, _), (10, _), (12, _), (13, _), (40, _), (41, _), (46, _), (59, _), (60, _), (61, _), (76, _)] (fun i w => (MapR encB w w0.heap.size mb (fv G) ∧ MapR encB w w0.heap.size mn (fv Nx) ∧ OwnIter encB w w0.heap.size mb it (ks ++ [a]) ∧ i ≤ 2) ∧ Mz w w0.heap.size (⟨82, 2, some ⟨gg33, 0, none⟩, 1, 1, [.slice pq (x.l.length + 1) cq, .int .i64 ((x.o + prt xs k a (gb [false, true] q) i : Nat) : Int)]⟩ :: ⟨4, 1, pq, x.l.length + 1, cq, bv (x.l ++ [(gb [false, true] q)])⟩ :: ⟨79, 2, some ⟨gg3, 0, none⟩, 1, 1, [.bool a.1, .bool a.2]⟩ :: ⟨82, 2, some ⟨gg4, 0, none⟩, 1, 1, [.slice x.p x.l.length x.c, .int .i64 (x.o : Int)]⟩ :: ⟨4, 1, some ⟨gg7, 0, none⟩, 2, 2, bv [false, true]⟩ :: (tp T1)) ∧ Below w0.heap.size w0 w) (fun i => 2 - i) (0) (Sub.cons rfl (Sub.nil _)) (Sub.cons rfl (Sub.cons rfl (Sub.cons rfl (Sub.cons rfl (Sub.cons rfl (Sub.cons rfl (Sub.cons rfl (Sub.cons rfl (Sub.cons rfl (Sub.cons rfl (Sub.cons rfl (Sub.cons rfl (Sub.cons rfl (Sub.cons rfl (Sub.cons rfl (Sub.nil _)))))))))))))))) ?_ ?_
         · exact ⟨⟨hmb, hmn, hit, Nat.zero_le _⟩, (by simp only [prt_zero, Nat.add_zero]; exact hM), hB⟩
         rintro i w38 ⟨⟨hmb, hmn, hit, hi2⟩, hM, hB⟩
         try simp only at hM
         simp only [List.cons_append, List.nil_append]
         have hpl := prt_le xs k a (gb [false, true] q) i
         have hps := fun h => prt_succ xs k a (gb [false, true] q) (i := i) h
         refine W.seqR ?_
         refine LS.vv rfl rfl (by decide) (Val.lss rfl rfl) ?_
         refine LS.nil ?_
         refine W.seq ?_
         first | refine W.condD rfl (fun hc15 => ?_) (fun hc15 => ?_) | refine W.cond rfl (fun hc15 => ?_) (fun hc15 => ?_)
         ·
          refine W.skip ?_
          refine thenP_normal ?_
          refine W.seq ?_
          refine W.block ?_
          refine W.seqR ?_
          refine LS.vv rfl rfl (by decide) (Val.move rfl) ?_
          refine LS.vv rfl rfl (by decide) (Val.cast (v := .bool (if i = 0 then out0 a (gb [false, true] q) else out1 a (gb [false, true] q))) (Val.indexV2 Try.underlying78 elem4 ag4 rfl rfl (by omega)) (by split <;> rfl)) ?_
          refine LS.vv rfl rfl (by decide) (Val.assign rfl) ?_
          refine LS.vv rfl rfl (by decide) (Val.assign rfl) ?_
          refine LS.nil ?_
          refine W.seqR ?_
          refine LS.vv rfl rfl (by decide) (Val.move rfl) ?_
          refine LS.vv rfl rfl (by decide) (Val.move rfl) ?_
          refine LS.vv rfl rfl (by decide) (Val.move rfl) ?_
          first | refine LS.vv rfl rfl (by decide) (Val.mulN (i := 2) rfl rfl (by omega)) ?_ | refine LS.vv rfl rfl (by decide) (Val.mul64 rfl rfl (by omega)) ?_
          refine LS.vv rfl rfl (by decide) (Val.move rfl) ?_
          first | refine LS.vv rfl rfl (by decide) (Val.addN rfl rfl (by omega)) ?_ | refine LS.vv rfl rfl (by decide) (Val.add64 rfl rfl (by omega)) ?_
          refine LS.vv rfl rfl (by decide) (Val.index1 Try.underlying23 elem4 rfl rfl (by omega) ((hr.below hB)) (bv_lt (by omega))) ?_
          refine LS.m rfl (Step.load rfl rfl (by decide) flat4 rfl ((hr.below hB)) (bv_at (by omega)) ?_)
          refine LS.vv rfl rfl (by decide) (Val.neqB Try.underlying4 rfl rfl) ?_
          refine LS.nil ?_
          first | refine W.condD rfl (fun hc16 => ?_) (fun hc16 => ?_) | refine W.cond rfl (fun hc16 => ?_) (fun hc16 => ?_)
          ·
           refine W.reg ?_
           refine LS.vv rfl rfl (by decide) (Val.fieldAddr0 fld82_1 rfl) ?_
           refine LS.m rfl (Step.load rfl rfl (by decide) flat3 rfl (hM.o0.rd) (rfl) ?_)
           refine LS.vv rfl rfl (by decide) (Val.addN (j := 1) rfl rfl (by omega)) ?_
           refine LS.vv rfl rfl (by decide) (Val.fieldAddr0 fld82_1 rfl) ?_
           refine LS.m rfl (Step.storeZ (B := w0.heap.size) rfl rfl flat3 elem3 rfl rfl rfl (hM.o0) (by first | decide | (simp; done) | (simp; omega) | omega) hB.size ?_)
           rintro w39 hO39 hg39 hbl39 hsz39
           first | replace hmb := hmb.below hbl39 | replace hmb := hmb.offZ hM.o0 hg39 | replace hmb := hmb.offZ hM.o1 hg39 | replace hmb := hmb.offZ hM.o2 hg39 | replace hmb := hmb.offZ hM.o3 hg39 | replace hmb := hmb.offZ hM.o4 hg39 | replace hmb := hmb.offZ hM.o5 hg39 | replace hmb := hmb.offZ hM.o6 hg39 | replace hmb := hmb.offZ hM.o7 hg39 | replace hmb := hmb.offZ hM.o8 hg39 | replace hmb := hmb.offZ hM.o9 hg39 | skip
           first | replace hmn := hmn.below hbl39 | replace hmn := hmn.offZ hM.o0 hg39 | replace hmn := hmn.offZ hM.o1 hg39 | replace hmn := hmn.offZ hM.o2 hg39 | replace hmn := hmn.offZ hM.o3 hg39 | replace hmn := hmn.offZ hM.o4 hg39 | replace hmn := hmn.offZ hM.o5 hg39 | replace hmn := hmn.offZ hM.o6 hg39 | replace hmn := hmn.offZ hM.o7 hg39 | replace hmn := hmn.offZ hM.o8 hg39 | replace hmn := hmn.offZ hM.o9 hg39 | skip
           first | replace hit := hit.below hbl39 | replace hit := hit.offZ hM.o0 hg39 | replace hit := hit.offZ hM.o1 hg39 | replace hit := hit.offZ hM.o2 hg39 | replace hit := hit.offZ hM.o3 hg39 | replace hit := hit.offZ hM.o4 hg39 | replace hit := hit.offZ hM.o5 hg39 | replace hit := hit.offZ hM.o6 hg39 | replace hit := hit.offZ hM.o7 hg39 | replace hit := hit.offZ hM.o8 hg39 | replace hit := hit.offZ hM.o9 hg39 | skip
           replace hM := hM.s0 (e := _) hg39 hO39 inl_block
           try simp only [List.set_cons_zero, List.set_cons_succ] at hM
           replace hB := hB.trans hbl39
           refine LS.nil ?_
           refine inBlk_normal ?_
           refine thenP_normal ?_
           refine W.reg ?_
           refine LS.vv rfl rfl (by decide) (Val.addN (j := 1) rfl rfl (by omega)) ?_
           refine LS.vv rfl rfl (by decide) (Val.move rfl) ?_
           refine LS.nil ?_
           refine thenP_normal ?_
           have hps2 := hps (by omega)
           first
             | (rw [if_pos (by assumption)] at hps2
                refine ⟨i + 1, (Sub.cons rfl (Sub.nil _)), (by repeat (first | exact Sub.nil _ | refine Sub.cons rfl ?_)), ⟨⟨hmb, hmn, hit, by omega⟩, (by rw [hps2, ← Nat.add_assoc]; exact hM), hB⟩, by omega⟩)
             | (rw [if_neg (by assumption), Nat.add_zero] at hps2
                refine ⟨i + 1, (Sub.cons rfl (Sub.nil _)), (by repeat (first | exact Sub.nil _ | refine Sub.cons rfl ?_)), ⟨⟨hmb, hmn, hit, by omega⟩, (by rw [hps2]; exact hM), hB⟩, by omega⟩)
          ·
           refine W.skip ?_
           refine inBlk_normal ?_
           refine thenP_normal ?_
           refine W.reg ?_
           refine LS.vv rfl rfl (by decide) (Val.addN (j := 1) rfl rfl (by omega)) ?_
           refine LS.vv rfl rfl (by decide) (Val.move rfl) ?_
           refine LS.nil ?_
           refine thenP_normal ?_
           have hps2 := hps (by omega)
           first
             | (rw [if_pos (by assumption)] at hps2
                refine ⟨i + 1, (Sub.cons rfl (Sub.nil _)), (by repeat (first | exact Sub.nil _ | refine Sub.cons rfl ?_)), ⟨⟨hmb, hmn, hit, by omega⟩, (by rw [hps2, ← Nat.add_assoc]; exact hM), hB⟩, by omega⟩)
             | (rw [if_neg (by assumption), Nat.add_zero] at hps2
                refine ⟨i + 1, (Sub.cons rfl (Sub.nil _)), (by repeat (first | exact Sub.nil _ | refine Sub.cons rfl ?_)), ⟨⟨hmb, hmn, hit, by omega⟩, (by rw [hps2]; exact hM), hB⟩, by omega⟩)
         ·
          obtain rfl : i = 2 := by omega
          refine W.exit ?_
          refine thenP_exit ?_
          refine thenP_exit ?_
          refine inBlk_exit ?_
          refine thenP_normal ?_
          refine W.seqR ?_
          refine LS.vv rfl rfl (by decide) (Val.move rfl) ?_
          refine LS.vv rfl rfl (by decide) (Val.indexArr (j := 0) Try.underlying79 elem4 rfl rfl (by omega)) ?_
          refine LS.m rfl (Step.load rfl rfl (by decide) flat4 rfl (hM.o2.rd) (rfl) ?_)
          refine LS.vv rfl rfl (by decide) (Val.buildArr Try.underlying79 elem79 elem4 rfl (fill_b2 _ _)) ?_
          refine LS.m rfl (Step.allocZ rfl rfl (by decide) elem79 rfl (by decide) ?_)
          rintro w40 hO40 hg40 hbl40 hsz40
          first | replace hmb := hmb.below hbl40 | replace hmb := hmb.offZ hM.o0 hg40 | replace hmb := hmb.offZ hM.o1 hg40 | replace hmb := hmb.offZ hM.o2 hg40 | replace hmb := hmb.offZ hM.o3 hg40 | replace hmb := hmb.offZ hM.o4 hg40 | replace hmb := hmb.offZ hM.o5 hg40 | replace hmb := hmb.offZ hM.o6 hg40 | replace hmb := hmb.offZ hM.o7 hg40 | replace hmb := hmb.offZ hM.o8 hg40 | replace hmb := hmb.offZ hM.o9 hg40 | skip
          first | replace hmn := hmn.below hbl40 | replace hmn := hmn.offZ hM.o0 hg40 | replace hmn := hmn.offZ hM.o1 hg40 | replace hmn := hmn.offZ hM.o2 hg40 | replace hmn := hmn.offZ hM.o3 hg40 | replace hmn := hmn.offZ hM.o4 hg40 | replace hmn := hmn.offZ hM.o5 hg40 | replace hmn := hmn.offZ hM.o6 hg40 | replace hmn := hmn.offZ hM.o7 hg40 | replace hmn := hmn.offZ hM.o8 hg40 | replace hmn := hmn.offZ hM.o9 hg40 | skip
          first | replace hit := hit.below hbl40 | replace hit := hit.offZ hM.o0 hg40 | replace hit := hit.offZ hM.o1 hg40 | replace hit := hit.offZ hM.o2 hg40 | replace hit := hit.offZ hM.o3 hg40 | replace hit := hit.offZ hM.o4 hg40 | replace hit := hit.offZ hM.o5 hg40 | replace hit := hit.offZ hM.o6 hg40 | replace hit := hit.offZ hM.o7 hg40 | replace hit := hit.offZ hM.o8 hg40 | replace hit := hit.offZ hM.o9 hg40 | skip
          replace hM := hM.add hB.size hbl40 hO40
          try simp only [List.length_cons, List.length_nil, Nat.zero_add, Nat.reduceAdd, Value.cells, List.toList_toArray, List.append_nil, List.set_cons_zero, List.set_cons_succ] at hM
          replace hB := hB.trans (hbl40.mono hB.size)
          generalize w38.heap.size = gg40 at *
          refine LS.m rfl (Step.storeAgg0 (B := w0.heap.size) rfl rfl agg79 rfl rfl rfl (by decide) (by first | exact one_map _ (fun _ => rfl) _ | simp [Value.oneCell']) (hM.o0) rfl hB.size ?_)
          rintro w41 hO41 hg41 hbl41 hsz41
          first | replace hmb := hmb.below hbl41 | replace hmb := hmb.offZ hM.o0 hg41 | replace hmb := hmb.offZ hM.o1 hg41 | replace hmb := hmb.offZ hM.o2 hg41 | replace hmb := hmb.offZ hM.o3 hg41 | replace hmb := hmb.offZ hM.o4 hg41 | replace hmb := hmb.offZ hM.o5 hg41 | replace hmb := hmb.offZ hM.o6 hg41 | replace hmb := hmb.offZ hM.o7 hg41 | replace hmb := hmb.offZ hM.o8 hg41 | replace hmb := hmb.offZ hM.o9 hg41 | skip
          first | replace hmn := hmn.below hbl41 | replace hmn := hmn.offZ hM.o0 hg41 | replace hmn := hmn.offZ hM.o1 hg41 | replace hmn := hmn.offZ hM.o2 hg41 | replace hmn := hmn.offZ hM.o3 hg41 | replace hmn := hmn.offZ hM.o4 hg41 | replace hmn := hmn.offZ hM.o5 hg41 | replace hmn := hmn.offZ hM.o6 hg41 | replace hmn := hmn.offZ hM.o7 hg41 | replace hmn := hmn.offZ hM.o8 hg41 | replace hmn := hmn.offZ hM.o9 hg41 | skip
          first | replace hit := hit.below hbl41 | replace hit := hit.offZ hM.o0 hg41 | replace hit := hit.offZ hM.o1 hg41 | replace hit := hit.offZ hM.o2 hg41 | replace hit := hit.offZ hM.o3 hg41 | replace hit := hit.offZ hM.o4 hg41 | replace hit := hit.offZ hM.o5 hg41 | replace hit := hit.offZ hM.o6 hg41 | replace hit := hit.offZ hM.o7 hg41 | replace hit := hit.offZ hM.o8 hg41 | replace hit := hit.offZ hM.o9 hg41 | skip
          replace hM := hM.s0 (e := _) hg41 hO41 inl_block
          try simp only [List.set_cons_zero, List.set_cons_succ] at hM
          replace hB := hB.trans hbl41
          refine LS.nil ?_
          refine W.seqR ?_
          refine LS.vv rfl rfl (by decide) (Val.move rfl) ?_
          refine LS.m rfl (Step.loadAgg0 rfl rfl (by decide) agg79 rfl (hM.o0.rd) rfl (by decide) ?_)
          refine LS.m rfl (Step.lookup2 rfl rfl (by decide) (keys_bb b2_79) Try.underlying83 elem82 rfl rfl hmn.own (fv_getD Nx (nxq a q)) (fv_isSome Nx (nxq a q)) ?_)
          refine LS.vv rfl rfl (by decide) (Val.move rfl) ?_
          refine LS.vv rfl rfl (by decide) (Val.extract rfl rfl) ?_
          refine LS.vv rfl rfl (by decide) (Val.extract rfl rfl) ?_
          refine LS.m rfl (Step.allocZ rfl rfl (by decide) elem82 rfl (by decide) ?_)
          rintro w42 hO42 hg42 hbl42 hsz42
          first | replace hmb := hmb.below hbl42 | replace hmb := hmb.offZ hM.o0 hg42 | replace hmb := hmb.offZ hM.o1 hg42 | replace hmb := hmb.offZ hM.o2 hg42 | replace hmb := hmb.offZ hM.o3 hg42 | replace hmb := hmb.offZ hM.o4 hg42 | replace hmb := hmb.offZ hM.o5 hg42 | replace hmb := hmb.offZ hM.o6 hg42 | replace hmb := hmb.offZ hM.o7 hg42 | replace hmb := hmb.offZ hM.o8 hg42 | replace hmb := hmb.offZ hM.o9 hg42 | skip
          first | replace hmn := hmn.below hbl42 | replace hmn := hmn.offZ hM.o0 hg42 | replace hmn := hmn.offZ hM.o1 hg42 | replace hmn := hmn.offZ hM.o2 hg42 | replace hmn := hmn.offZ hM.o3 hg42 | replace hmn := hmn.offZ hM.o4 hg42 | replace hmn := hmn.offZ hM.o5 hg42 | replace hmn := hmn.offZ hM.o6 hg42 | replace hmn := hmn.offZ hM.o7 hg42 | replace hmn := hmn.offZ hM.o8 hg42 | replace hmn := hmn.offZ hM.o9 hg42 | skip
          first | replace hit := hit.below hbl42 | replace hit := hit.offZ hM.o0 hg42 | replace hit := hit.offZ hM.o1 hg42 | replace hit := hit.offZ hM.o2 hg42 | replace hit := hit.offZ hM.o3 hg42 | replace hit := hit.offZ hM.o4 hg42 | replace hit := hit.offZ hM.o5 hg42 | replace hit := hit.offZ hM.o6 hg42 | replace hit := hit.offZ hM.o7 hg42 | replace hit := hit.offZ hM.o8 hg42 | replace hit := hit.offZ hM.o9 hg42 | skip
          replace hM := hM.add hB.size hbl42 hO42
          try simp only [List.length_cons, List.length_nil, Nat.zero_add, Nat.reduceAdd, Value.cells, List.toList_toArray, List.append_nil, List.set_cons_zero, List.set_cons_succ] at hM
          replace hB := hB.trans (hbl42.mono hB.size)
          generalize w41.heap.size = gg42 at *
          refine LS.m rfl (Step.storeAgg0 (B := w0.heap.size) rfl rfl agg82 rfl rfl rfl (by decide) (by first | exact one_map _ (fun _ => rfl) _ | simp [Value.oneCell']) (hM.o0) rfl hB.size ?_)
          rintro w43 hO43 hg43 hbl43 hsz43
          first | replace hmb := hmb.below hbl43 | replace hmb := hmb.offZ hM.o0 hg43 | replace hmb := hmb.offZ hM.o1 hg43 | replace hmb := hmb.offZ hM.o2 hg43 | replace hmb := hmb.offZ hM.o3 hg43 | replace hmb := hmb.offZ hM.o4 hg43 | replace hmb := hmb.offZ hM.o5 hg43 | replace hmb := hmb.offZ hM.o6 hg43 | replace hmb := hmb.offZ hM.o7 hg43 | replace hmb := hmb.offZ hM.o8 hg43 | replace hmb := hmb.offZ hM.o9 hg43 | skip
          first | replace hmn := hmn.below hbl43 | replace hmn := hmn.offZ hM.o0 hg43 | replace hmn := hmn.offZ hM.o1 hg43 | replace hmn := hmn.offZ hM.o2 hg43 | replace hmn := hmn.offZ hM.o3 hg43 | replace hmn := hmn.offZ hM.o4 hg43 | replace hmn := hmn.offZ hM.o5 hg43 | replace hmn := hmn.offZ hM.o6 hg43 | replace hmn := hmn.offZ hM.o7 hg43 | replace hmn := hmn.offZ hM.o8 hg43 | replace hmn := hmn.offZ hM.o9 hg43 | skip
          first | replace hit := hit.below hbl43 | replace hit := hit.offZ hM.o0 hg43 | replace hit := hit.offZ hM.o1 hg43 | replace hit := hit.offZ hM.o2 hg43 | replace hit := hit.offZ hM.o3 hg43 | replace hit := hit.offZ hM.o4 hg43 | replace hit := hit.offZ hM.o5 hg43 | replace hit := hit.offZ hM.o6 hg43 | replace hit := hit.offZ hM.o7 hg43 | replace hit := hit.offZ hM.o8 hg43 | replace hit := hit.offZ hM.o9 hg43 | skip
          replace hM := hM.s0 (e := _) hg43 hO43 inl_block
          try simp only [List.set_cons_zero, List.set_cons_succ] at hM
          replace hB := hB.trans hbl43
          refine LS.vv rfl rfl (by decide) (Val.assign rfl) ?_
          refine LS.nil ?_
          refine W.seqR ?_
          refine LS.vv rfl rfl (by decide) (Val.move rfl) ?_
          refine LS.vv rfl rfl (by decide) (Val.not rfl) ?_
          refine LS.vv rfl rfl (by decide) (Val.move rfl) ?_
          refine LS.split 2 rfl (fun hg17 => ?_) (fun hg17 => ?_)
          ·
           first | (have hg17p := of_decide_eq_true hg17) | skip
           refine LS.s rfl rfl rfl hg17 (by decide) ?_
           refine LS.s rfl rfl rfl hg17 (by decide) ?_
           refine LS.s rfl rfl rfl hg17 (by decide) ?_
           refine LS.vv rfl rfl (by decide) (Val.pickT rfl hg17 rfl) ?_
           refine LS.nil ?_
           refine W.condT rfl ?_
           refine W.reg ?_
           refine LS.vv rfl rfl (by decide) (Val.move rfl) ?_
           refine LS.m rfl (Step.loadAgg0 rfl rfl (by decide) agg79 rfl (hM.o1.rd) rfl (by decide) ?_)
           refine LS.m rfl (Step.loadAgg0 rfl rfl (by decide) agg82 rfl (hM.o2.rd) rfl (by decide) ?_)
           have hold : ∀ q2 m2, plT Nx (nxq a q) = some (q2, m2) → x.o + two xs k a (gb [false, true] q) ≤ m2 := fun q2 m2 h9 => by
             obtain ⟨y9, hy9, hy10, hy11⟩ := pl_inv h9
             first
               | (exfalso; have h7 : (Nx (nxq a q)).isSome = false := (by simpa using (by assumption : (!(Nx (nxq a q)).isSome) = true)); rw [hy9] at h7; cases h7)
               | (have h8 := hbt (by assumption); rw [hy] at hy9; cases hy9; rw [prt_two] at h8; omega)
           have hnx2 : Nxt N xs k (plT G) (plT (putG Nx (nxq a q) (xpv pq cq x q xs k a))) (fun s2 b2 => sn ks a q s2 b2 ∨ s2 = a ∧ b2 = (gb [false, true] q)) := by rw [pl_put]; exact hnx.take hTab (by omega) (nb_ok (by omega)) (pl_some hGx) hold
           refine LS.m rfl (Step.mapPutR (k := (nxq a q)) (v := .agg #[.slice pq (x.l.length + 1) cq, .int .i64 ((x.o + prt xs k a (gb [false, true] q) 2 : Nat) : Int)]) (.inl rfl) rfl (keys_bb b2_79) Try.underlying83 rfl rfl rfl hmn hB.size ?_)
           rintro wf hmn2 hg9 hbl9 hsz9
           replace hM := hM.mapR hmn hg9
           replace hmb := hmb.keep hg9 (fun h => hmne (Option.some.inj h))
           replace hit := hit.keep hg9 (fun h => hmne (Option.some.inj h)) (fun h => hit.ne_map hmn (Option.some.inj h))
           replace hB := hB.trans hbl9
           rw [pv_two, fv_put] at hmn2
           refine LS.nil ?_
           refine inBlk_normal ?_
           refine thenP_normal ?_
           refine W.reg ?_
           refine LS.vv rfl rfl (by decide) (Val.addN (j := 1) rfl rfl (by omega)) ?_
           refine LS.vv rfl rfl (by decide) (Val.move rfl) ?_
           refine LS.nil ?_
           refine thenP_normal ?_
           replace hM := hM.er2.er1.er0.sw0.sw1.sw2
           rw [show (x.l.length + 1) = (x.l ++ [(gb [false, true] q)]).length from by simp] at hM
           first
             | (refine ⟨(q + 1, putG Nx (nxq a q) (xpv pq cq x q xs k a), (xpv pq cq x q xs k a) :: T1), (Sub.cons rfl (Sub.nil _)), (by repeat (first | exact Sub.nil _ | refine Sub.cons rfl ?_)), ⟨⟨hmb, hmn2, hit, sn_next hnx2, hGT.more, hNT.put, by simp only; omega⟩, hM, hB⟩, by simp only; omega⟩)
             | (refine ⟨(q + 1, Nx, (xpv pq cq x q xs k a) :: T1), (Sub.cons rfl (Sub.nil _)), (by repeat (first | exact Sub.nil _ | refine Sub.cons rfl ?_)), ⟨⟨hmb, hmn, hit, sn_next hnx2, hGT.more, hNT.more, by simp only; omega⟩, hM, hB⟩, by simp only; omega⟩)
          ·
           first | (have hg17p := of_decide_eq_false hg17) | skip
           refine LS.mg rfl rfl hg17 (Step.loadAgg0 rfl rfl (by decide) agg82 rfl (hM.o2.rd) rfl (by decide) ?_)
           refine LS.mg rfl rfl hg17 (Step.loadAgg0 rfl rfl (by decide) agg82 rfl (hM.o0.rd) rfl (by decide) ?_)
           obtain ⟨y, hy⟩ := Option.isSome_iff_exists.1 (by simpa using (by assumption : (!(Nx (nxq a q)).isSome) = false))
           have hyd : ((Nx (nxq a q)).getD zPV) = y := by rw [hy]; rfl
           have hyp := hnx.path _ _ _ (pl_some hy)
           have hyl := hyp.len
           rw [hyd]
           refine LS.mg rfl rfl hg17 (Step.call body59 rfl rfl (by decide) rfl (CallsV.mono (better_any (x.l ++ [(gb [false, true] q)]) y.l pq y.p cq y.c (x.l.length + 1) y.l.length (x.o + prt xs k a (gb [false, true] q) 2) y.o _ hM.o3.rd (tp_rd hM (hNT _ _ hy) (fun o h => by simp [h])) (by simp) rfl (by omega) (by omega)) ?_))
           rintro _ w44 ⟨bb, rfl, hbt, hbf, hb44⟩
           replace hM := hM.below hb44
           try replace hmb := hmb.below hb44
           try replace hmn := hmn.below hb44
           try replace hit := hit.below hb44
           replace hB := hB.trans (hb44.mono hB.size)
           refine LS.vv rfl rfl (by decide) (Val.pickF rfl hg17 rfl) ?_
           refine LS.nil ?_
           first | refine W.condD rfl (fun hc18 => ?_) (fun hc18 => ?_) | refine W.cond rfl (fun hc18 => ?_) (fun hc18 => ?_)
           ·
            refine W.reg ?_
            refine LS.vv rfl rfl (by decide) (Val.move rfl) ?_
            refine LS.m rfl (Step.loadAgg0 rfl rfl (by decide) agg79 rfl (hM.o1.rd) rfl (by decide) ?_)
            refine LS.m rfl (Step.loadAgg0 rfl rfl (by decide) agg82 rfl (hM.o2.rd) rfl (by decide) ?_)
            have hold : ∀ q2 m2, plT Nx (nxq a q) = some (q2, m2) → x.o + two xs k a (gb [false, true] q) ≤ m2 := fun q2 m2 h9 => by
              obtain ⟨y9, hy9, hy10, hy11⟩ := pl_inv h9
              first
                | (exfalso; have h7 : (Nx (nxq a q)).isSome = false := (by simpa using (by assumption : (!(Nx (nxq a q)).isSome) = true)); rw [hy9] at h7; cases h7)
                | (have h8 := hbt (by assumption); rw [hy] at hy9; cases hy9; rw [prt_two] at h8; omega)
            have hnx2 : Nxt N xs k (plT G) (plT (putG Nx (nxq a q) (xpv pq cq x q xs k a))) (fun s2 b2 => sn ks a q s2 b2 ∨ s2 = a ∧ b2 = (gb [false, true] q)) := by rw [pl_put]; exact hnx.take hTab (by omega) (nb_ok (by omega)) (pl_some hGx) hold
            refine LS.m rfl (Step.mapPutR (k := (nxq a q)) (v := .agg #[.slice pq (x.l.length + 1) cq, .int .i64 ((x.o + prt xs k a (gb [false, true] q) 2 : Nat) : Int)]) (.inl rfl) rfl (keys_bb b2_79) Try.underlying83 rfl rfl rfl hmn hB.size ?_)
            rintro wf hmn2 hg9 hbl9 hsz9
            replace hM := hM.mapR hmn hg9
            replace hmb := hmb.keep hg9 (fun h => hmne (Option.some.inj h))
            replace hit := hit.keep hg9 (fun h => hmne (Option.some.inj h)) (fun h => hit.ne_map hmn (Option.some.inj h))
            replace hB := hB.trans hbl9
            rw [pv_two, fv_put] at hmn2
            refine LS.nil ?_
            refine inBlk_normal ?_
            refine thenP_normal ?_
            refine W.reg ?_
            refine LS.vv rfl rfl (by decide) (Val.addN (j := 1) rfl rfl (by omega)) ?_
            refine LS.vv rfl rfl (by decide) (Val.move rfl) ?_
            refine LS.nil ?_
            refine thenP_normal ?_
            replace hM := hM.er2.er1.er0.sw0.sw1.sw2
            rw [show (x.l.length + 1) = (x.l ++ [(gb [false, true] q)]).length from by simp] at hM
            first
              | (refine ⟨(q + 1, putG Nx (nxq a q) (xpv pq cq x q xs k a), (xpv pq cq x q xs k a) :: T1), (Sub.cons rfl (Sub.nil _)), (by repeat (first | exact Sub.nil _ | refine Sub.cons rfl ?_)), ⟨⟨hmb, hmn2, hit, sn_next hnx2, hGT.more, hNT.put, by simp only; omega⟩, hM, hB⟩, by simp only; omega⟩)
              | (refine ⟨(q + 1, Nx, (xpv pq cq x q xs k a) :: T1), (Sub.cons rfl (Sub.nil _)), (by repeat (first | exact Sub.nil _ | refine Sub.cons rfl ?_)), ⟨⟨hmb, hmn, hit, sn_next hnx2, hGT.more, hNT.more, by simp only; omega⟩, hM, hB⟩, by simp only; omega⟩)
           ·
            have hnx2 : Nxt N xs k (plT G) (plT Nx) (fun s2 b2 => sn ks a q s2 b2 ∨ s2 = a ∧ b2 = (gb [false, true] q)) := hnx.skip (pl_some hGx) (pl_some hy) (by have h8 := hbf (by assumption); rw [prt_two] at h8; exact h8)
            refine W.skip ?_
            refine inBlk_normal ?_
            refine thenP_normal ?_
            refine W.reg ?_
            refine LS.vv rfl rfl (by decide) (Val.addN (j := 1) rfl rfl (by omega)) ?_
            refine LS.vv rfl rfl (by decide) (Val.move rfl) ?_
            refine LS.nil ?_
            refine thenP_normal ?_
            replace hM := hM.er2.er1.er0.sw0.sw1.sw2
            rw [show (x.l.length + 1) = (x.l ++ [(gb [false, true] q)]).length from by simp] at hM
            first
              | (refine ⟨(q + 1, putG Nx (nxq a q) (xpv pq cq x q xs k a), (xpv pq cq x q xs k a) :: T1), (Sub.cons rfl (Sub.nil _)), (by repeat (first | exact Sub.nil _ | refine Sub.cons rfl ?_)), ⟨⟨hmb, hmn2, hit, sn_next hnx2, hGT.more, hNT.put, by simp only; omega⟩, hM, hB⟩, by simp only; omega⟩)
              | (refine ⟨(q + 1, Nx, (xpv pq cq x q xs k a) :: T1), (Sub.cons rfl (Sub.nil _)), (by repeat (first | exact Sub.nil _ | refine Sub.cons rfl ?_)), ⟨⟨hmb, hmn, hit, sn_next hnx2, hGT.more, hNT.more, by simp only; omega⟩, hM, hB⟩, by simp only; omega⟩)
       ·
        refine DT.m rfl rfl (Step.litZ rfl rfl (by decide) Try.underlying23 elem4 rfl (by decide) rfl rfl (by decide) ?_)
        rintro w45 hO45 hg45 hbl45 hsz45
        first | replace hmb := hmb.below hbl45 | replace hmb := hmb.offZ hM.o0 hg45 | replace hmb := hmb.offZ hM.o1 hg45 | replace hmb := hmb.offZ hM.o2 hg45 | replace hmb := hmb.offZ hM.o3 hg45 | replace hmb := hmb.offZ hM.o4 hg45 | replace hmb := hmb.offZ hM.o5 hg45 | replace hmb := hmb.offZ hM.o6 hg45 | replace hmb := hmb.offZ hM.o7 hg45 | replace hmb := hmb.offZ hM.o8 hg45 | replace hmb := hmb.offZ hM.o9 hg45 | skip
        first | replace hmn := hmn.below hbl45 | replace hmn := hmn.offZ hM.o0 hg45 | replace hmn := hmn.offZ hM.o1 hg45 | replace hmn := hmn.offZ hM.o2 hg45 | replace hmn := hmn.offZ hM.o3 hg45 | replace hmn := hmn.offZ hM.o4 hg45 | replace hmn := hmn.offZ hM.o5 hg45 | replace hmn := hmn.offZ hM.o6 hg45 | replace hmn := hmn.offZ hM.o7 hg45 | replace hmn := hmn.offZ hM.o8 hg45 | replace hmn := hmn.offZ hM.o9 hg45 | skip
        first | replace hit := hit.below hbl45 | replace hit := hit.offZ hM.o0 hg45 | replace hit := hit.offZ hM.o1 hg45 | replace hit := hit.offZ hM.o2 hg45 | replace hit := hit.offZ hM.o3 hg45 | replace hit := hit.offZ hM.o4 hg45 | replace hit := hit.offZ hM.o5 hg45 | replace hit := hit.offZ hM.o6 hg45 | replace hit := hit.offZ hM.o7 hg45 | replace hit := hit.offZ hM.o8 hg45 | replace hit := hit.offZ hM.o9 hg45 | skip
        replace hM := hM.add hB.size hbl45 hO45
        try simp only [bv_app1, bv_app, bv_set, bv_rep, bv_one, bv_cons, bv_take, bv_drop, List.nil_append] at hM
        try simp only [List.length_cons, List.length_nil, Nat.zero_add, Nat.reduceAdd, Value.cells, List.toList_toArray, List.append_nil, List.set_cons_zero, List.set_cons_succ] at hM
        replace hB := hB.trans (hbl45.mono hB.size)
        generalize w8.drew.heap.size = gg45 at *
        refine ⟨⟨hB, hM.er0⟩, ?_⟩
        refine DT.two ?_ ?_
        ·
         refine DT.m rfl rfl (Step.call body46 rfl rfl (by decide) rfl (CallsV.mono (clone_bool x.l x.p x.c _ (tp_rd hM (hGT _ _ hGx) (fun o h => by simp [h])) (by omega)) ?_))
         rintro _ w46 ⟨pq0, cq0, rfl, hOcl, hb46⟩
         replace hM := hM.add hB.size hb46 hOcl.toZ
         try replace hmb := hmb.below hb46
         try replace hmn := hmn.below hb46
         try replace hit := hit.below hb46
         replace hB := hB.trans (hb46.mono hB.size)
         refine ⟨⟨hB, hM.er1.er0⟩, ?_⟩
         refine DT.two ?_ ?_
         ·
          refine DT.m rfl rfl (Step.appendZ (B := w0.heap.size) rfl rfl (by decide) Try.underlying23 elem4 rfl (by decide) rfl rfl (hM.o0) (hM.o1.rd) rfl (by first | exact one_map _ (fun _ => rfl) _ | simp [Value.oneCell']) (by omega) (by omega) hB.size ?_)
          rintro p47 c47 w47 hO47 hg47 hbl47 hbk47
          first | replace hmb := hmb.below hbl47 | replace hmb := hmb.offZ hM.o0 hg47 | replace hmb := hmb.offZ hM.o1 hg47 | replace hmb := hmb.offZ hM.o2 hg47 | replace hmb := hmb.offZ hM.o3 hg47 | replace hmb := hmb.offZ hM.o4 hg47 | replace hmb := hmb.offZ hM.o5 hg47 | replace hmb := hmb.offZ hM.o6 hg47 | replace hmb := hmb.offZ hM.o7 hg47 | replace hmb := hmb.offZ hM.o8 hg47 | replace hmb := hmb.offZ hM.o9 hg47 | skip
          first | replace hmn := hmn.below hbl47 | replace hmn := hmn.offZ hM.o0 hg47 | replace hmn := hmn.offZ hM.o1 hg47 | replace hmn := hmn.offZ hM.o2 hg47 | replace hmn := hmn.offZ hM.o3 hg47 | replace hmn := hmn.offZ hM.o4 hg47 | replace hmn := hmn.offZ hM.o5 hg47 | replace hmn := hmn.offZ hM.o6 hg47 | replace hmn := hmn.offZ hM.o7 hg47 | replace hmn := hmn.offZ hM.o8 hg47 | replace hmn := hmn.offZ hM.o9 hg47 | skip
          first | replace hit := hit.below hbl47 | replace hit := hit.offZ hM.o0 hg47 | replace hit := hit.offZ hM.o1 hg47 | replace hit := hit.offZ hM.o2 hg47 | replace hit := hit.offZ hM.o3 hg47 | replace hit := hit.offZ hM.o4 hg47 | replace hit := hit.offZ hM.o5 hg47 | replace hit := hit.offZ hM.o6 hg47 | replace hit := hit.offZ hM.o7 hg47 | replace hit := hit.offZ hM.o8 hg47 | replace hit := hit.offZ hM.o9 hg47 | skip
          replace hM := hM.s0 (e := _) hg47 hO47 hbk47
          replace hM := hM.drop1
          try simp only [bv_app1, bv_app, bv_set, bv_rep, bv_one, bv_cons, bv_take, bv_drop, List.nil_append] at hM
          replace hB := hB.trans hbl47
          refine ⟨⟨hB, hM.er0⟩, ?_⟩
          generalize p47 = pq at *
          generalize c47 = cq at *
          refine DT.vv rfl rfl rfl (by decide) (Val.build str82 elem82 rfl rfl rfl) ?_
          refine DT.m rfl rfl (Step.allocZ rfl rfl (by decide) elem82 rfl (by decide) ?_)
          rintro w48 hO48 hg48 hbl48 hsz48
          first | replace hmb := hmb.below hbl48 | replace hmb := hmb.offZ hM.o0 hg48 | replace hmb := hmb.offZ hM.o1 hg48 | replace hmb := hmb.offZ hM.o2 hg48 | replace hmb := hmb.offZ hM.o3 hg48 | replace hmb := hmb.offZ hM.o4 hg48 | replace hmb := hmb.offZ hM.o5 hg48 | replace hmb := hmb.offZ hM.o6 hg48 | replace hmb := hmb.offZ hM.o7 hg48 | replace hmb := hmb.offZ hM.o8 hg48 | replace hmb := hmb.offZ hM.o9 hg48 | skip
          first | replace hmn := hmn.below hbl48 | replace hmn := hmn.offZ hM.o0 hg48 | replace hmn := hmn.offZ hM.o1 hg48 | replace hmn := hmn.offZ hM.o2 hg48 | replace hmn := hmn.offZ hM.o3 hg48 | replace hmn := hmn.offZ hM.o4 hg48 | replace hmn := hmn.offZ hM.o5 hg48 | replace hmn := hmn.offZ hM.o6 hg48 | replace hmn := hmn.offZ hM.o7 hg48 | replace hmn := hmn.offZ hM.o8 hg48 | replace hmn := hmn.offZ hM.o9 hg48 | skip
          first | replace hit := hit.below hbl48 | replace hit := hit.offZ hM.o0 hg48 | replace hit := hit.offZ hM.o1 hg48 | replace hit := hit.offZ hM.o2 hg48 | replace hit := hit.offZ hM.o3 hg48 | replace hit := hit.offZ hM.o4 hg48 | replace hit := hit.offZ hM.o5 hg48 | replace hit := hit.offZ hM.o6 hg48 | replace hit := hit.offZ hM.o7 hg48 | replace hit := hit.offZ hM.o8 hg48 | replace hit := hit.offZ hM.o9 hg48 | skip
          replace hM := hM.add hB.size hbl48 hO48
          try simp only [List.length_cons, List.length_nil, Nat.zero_add, Nat.reduceAdd, Value.cells, List.toList_toArray, List.append_nil, List.set_cons_zero, List.set_cons_succ] at hM
          replace hB := hB.trans (hbl48.mono hB.size)
          generalize w47.heap.size = gg48 at *
          refine ⟨⟨hB, hM.er1.er0⟩, ?_⟩
          refine DT.m rfl rfl (Step.storeAgg0 (B := w0.heap.size) rfl rfl agg82 rfl rfl rfl (by decide) (by first | exact one_map _ (fun _ => rfl) _ | simp [Value.oneCell']) (hM.o0) rfl hB.size ?_)
          rintro w49 hO49 hg49 hbl49 hsz49
          first | replace hmb := hmb.below hbl49 | replace hmb := hmb.offZ hM.o0 hg49 | replace hmb := hmb.offZ hM.o1 hg49 | replace hmb := hmb.offZ hM.o2 hg49 | replace hmb := hmb.offZ hM.o3 hg49 | replace hmb := hmb.offZ hM.o4 hg49 | replace hmb := hmb.offZ hM.o5 hg49 | replace hmb := hmb.offZ hM.o6 hg49 | replace hmb := hmb.offZ hM.o7 hg49 | replace hmb := hmb.offZ hM.o8 hg49 | replace hmb := hmb.offZ hM.o9 hg49 | skip
          first | replace hmn := hmn.below hbl49 | replace hmn := hmn.offZ hM.o0 hg49 | replace hmn := hmn.offZ hM.o1 hg49 | replace hmn := hmn.offZ hM.o2 hg49 | replace hmn := hmn.offZ hM.o3 hg49 | replace hmn := hmn.offZ hM.o4 hg49 | replace hmn := hmn.offZ hM.o5 hg49 | replace hmn := hmn.offZ hM.o6 hg49 | replace hmn := hmn.offZ hM.o7 hg49 | replace hmn := hmn.offZ hM.o8 hg49 | replace hmn := hmn.offZ hM.o9 hg49 | skip
          first | replace hit := hit.below hbl49 | replace hit := hit.offZ hM.o0 hg49 | replace hit := hit.offZ hM.o1 hg49 | replace hit := hit.offZ hM.o2 hg49 | replace hit := hit.offZ hM.o3 hg49 | replace hit := hit.offZ hM.o4 hg49 | replace hit := hit.offZ hM.o5 hg49 | replace hit := hit.offZ hM.o6 hg49 | replace hit := hit.offZ hM.o7 hg49 | replace hit := hit.offZ hM.o8 hg49 | replace hit := hit.offZ hM.o9 hg49 | skip
          replace hM := hM.s0 (e := _) hg49 hO49 inl_block
          try simp only [List.set_cons_zero, List.set_cons_succ] at hM
          replace hB := hB.trans hbl49
          refine ⟨⟨hB, hM.er1.er0⟩, ?_⟩
          refine DT.nil ?_
          refine W.seq ?_
          refine W.seqR ?_
          refine LS.m rfl (Step.loadAgg0 rfl rfl (by decide) agg79 rfl (hM.o2.rd) rfl (by decide) ?_)
          refine LS.vv rfl rfl (by decide) (Val.move rfl) ?_
          refine LS.m rfl (Step.call body58 rfl rfl (by decide) rfl (CallsV.mono (out_any a (gb [false, true] q) _) ?_))
          rintro _ w50 ⟨rfl, hb50⟩
          replace hM := hM.below hb50
          try replace hmb := hmb.below hb50
          try replace hmn := hmn.below hb50
          try replace hit := hit.below hb50
          replace hB := hB.trans (hb50.mono hB.size)
          refine LS.vv rfl rfl (by decide) (Val.cast (v := .int .i64 ((0 : Nat) : Int)) (Val.move rfl) rfl) ?_
          refine LS.nil ?_
          refine W.block ?_
          skip
          refine W.loop (α := Nat) (fun i => [(77, .int .i64 (i : Int))]) [(0, _), (5, _), (7, _), (8, _), (9, _), (10, _), (12, _), (13, _), (40, _), (41, _), (46, _), (59, _), (60, _), (61, _), (76, _)] (fun i w => (MapR encB w w0.heap.size mb (fv G) ∧ MapR encB w w0.heap.size mn (fv Nx) ∧ OwnIter encB w w0.heap.size mb it (ks ++ [a]) ∧ i ≤ 2) ∧ Mz w w0.heap.size (⟨82, 2, some ⟨gg48, 0, none⟩, 1, 1, [.slice pq (x.l.length + 1) cq, .int .i64 ((x.o + prt xs k a (gb [false, true] q) i : Nat) : Int)]⟩ :: ⟨4, 1, pq, x.l.length + 1, cq, bv (x.l ++ [(gb [false, true] q)])⟩ :: ⟨79, 2, some ⟨gg3, 0, none⟩, 1, 1, [.bool a.1, .bool a.2]⟩ :: ⟨82, 2, some ⟨gg4, 0, none⟩, 1, 1, [.slice x.p x.l.length x.c, .int .i64 (x.o : Int)]⟩ :: ⟨4, 1, some ⟨gg7, 0, none⟩, 2, 2, bv [false, true]⟩ :: (tp T1)) ∧ Below w0.heap.size w0 w) (fun i => 2 - i) (0) (Sub.cons rfl (Sub.nil _)) (Sub.cons rfl (Sub.cons rfl (Sub.cons rfl (Sub.cons rfl (Sub.cons rfl (Sub.cons rfl (Sub.cons rfl (Sub.cons rfl (Sub.cons rfl (Sub.cons rfl (Sub.cons rfl (Sub.cons rfl (Sub.cons rfl (Sub.cons rfl (Sub.cons rfl (Sub.nil _)))))))))))))))) ?_ ?_
          · exact ⟨⟨hmb, hmn, hit, Nat.zero_le _⟩, (by simp only [prt_zero, Nat.add_zero]; exact hM), hB⟩
          rintro i w51 ⟨⟨hmb, hmn, hit, hi2⟩, hM, hB⟩
          try simp only at hM
          simp only [List.cons_append, List.nil_append]
          have hpl := prt_le xs k a (gb [false, true] q) i
          have hps := fun h => prt_succ xs k a (gb [false, true] q) (i := i) h
          refine W.seqR ?_
          refine LS.vv rfl rfl (by decide) (Val.lss rfl rfl) ?_
          refine LS.nil ?_
          refine W.seq ?_
          first | refine W.condD rfl (fun hc19 => ?_) (fun hc19 => ?_) | refine W.cond rfl (fun hc19 => ?_) (fun hc19 => ?_)
          ·
           refine W.skip ?_
           refine thenP_normal ?_
           refine W.seq ?_
           refine W.block ?_
           refine W.seqR ?_
           refine LS.vv rfl rfl (by decide) (Val.move rfl) ?_
           refine LS.vv rfl rfl (by decide) (Val.cast (v := .bool (if i = 0 then out0 a (gb [false, true] q) else out1 a (gb [false, true] q))) (Val.indexV2 Try.underlying78 elem4 ag4 rfl rfl (by omega)) (by split <;> rfl)) ?_
           refine LS.vv rfl rfl (by decide) (Val.assign rfl) ?_
           refine LS.vv rfl rfl (by decide) (Val.assign rfl) ?_
           refine LS.nil ?_
           refine W.seqR ?_
           refine LS.vv rfl rfl (by decide) (Val.move rfl) ?_
           refine LS.vv rfl rfl (by decide) (Val.move rfl) ?_
           refine LS.vv rfl rfl (by decide) (Val.move rfl) ?_
           first | refine LS.vv rfl rfl (by decide) (Val.mulN (i := 2) rfl rfl (by omega)) ?_ | refine LS.vv rfl rfl (by decide) (Val.mul64 rfl rfl (by omega)) ?_
           refine LS.vv rfl rfl (by decide) (Val.move rfl) ?_
           first | refine LS.vv rfl rfl (by decide) (Val.addN rfl rfl (by omega)) ?_ | refine LS.vv rfl rfl (by decide) (Val.add64 rfl rfl (by omega)) ?_
           refine LS.vv rfl rfl (by decide) (Val.index1 Try.underlying23 elem4 rfl rfl (by omega) ((hr.below hB)) (bv_lt (by omega))) ?_
           refine LS.m rfl (Step.load rfl rfl (by decide) flat4 rfl ((hr.below hB)) (bv_at (by omega)) ?_)
           refine LS.vv rfl rfl (by decide) (Val.neqB Try.underlying4 rfl rfl) ?_
           refine LS.nil ?_
           first | refine W.condD rfl (fun hc20 => ?_) (fun hc20 => ?_) | refine W.cond rfl (fun hc20 => ?_) (fun hc20 => ?_)
           ·
            refine W.reg ?_
            refine LS.vv rfl rfl (by decide) (Val.fieldAddr0 fld82_1 rfl) ?_
            refine LS.m rfl (Step.load rfl rfl (by decide) flat3 rfl (hM.o0.rd) (rfl) ?_)
            refine LS.vv rfl rfl (by decide) (Val.addN (j := 1) rfl rfl (by omega)) ?_
            refine LS.vv rfl rfl (by decide) (Val.fieldAddr0 fld82_1 rfl) ?_
            refine LS.m rfl (Step.storeZ (B := w0.heap.size) rfl rfl flat3 elem3 rfl rfl rfl (hM.o0) (by first | decide | (simp; done) | (simp; omega) | omega) hB.size ?_)
            rintro w52 hO52 hg52 hbl52 hsz52
            first | replace hmb := hmb.below hbl52 | replace hmb := hmb.offZ hM.o0 hg52 | replace hmb := hmb.offZ hM.o1 hg52 | replace hmb := hmb.offZ hM.o2 hg52 | replace hmb := hmb.offZ hM.o3 hg52 | replace hmb := hmb.offZ hM.o4 hg52 | replace hmb := hmb.offZ hM.o5 hg52 | replace hmb := hmb.offZ hM.o6 hg52 | replace hmb := hmb.offZ hM.o7 hg52 | replace hmb := hmb.offZ hM.o8 hg52 | replace hmb := hmb.offZ hM.o9 hg52 | skip
            first | replace hmn := hmn.below hbl52 | replace hmn := hmn.offZ hM.o0 hg52 | replace hmn := hmn.offZ hM.o1 hg52 | replace hmn := hmn.offZ hM.o2 hg52 | replace hmn := hmn.offZ hM.o3 hg52 | replace hmn := hmn.offZ hM.o4 hg52 | replace hmn := hmn.offZ hM.o5 hg52 | replace hmn := hmn.offZ hM.o6 hg52 | replace hmn := hmn.offZ hM.o7 hg52 | replace hmn := hmn.offZ hM.o8 hg52 | replace hmn := hmn.offZ hM.o9 hg52 | skip
            first | replace hit := hit.below hbl52 | replace hit := hit.offZ hM.o0 hg52 | replace hit := hit.offZ hM.o1 hg52 | replace hit := hit.offZ hM.o2 hg52 | replace hit := hit.offZ hM.o3 hg52 | replace hit := hit.offZ hM.o4 hg52 | replace hit := hit.offZ hM.o5 hg52 | replace hit := hit.offZ hM.o6 hg52 | replace hit := hit.offZ hM.o7 hg52 | replace hit := hit.offZ hM.o8 hg52 | replace hit := hit.offZ hM.o9 hg52 | skip
            replace hM := hM.s0 (e := _) hg52 hO52 inl_block
            try simp only [List.set_cons_zero, List.set_cons_succ] at hM
            replace hB := hB.trans hbl52
            refine LS.nil ?_
            refine inBlk_normal ?_
            refine thenP_normal ?_
            refine W.reg ?_
            refine LS.vv rfl rfl (by decide) (Val.addN (j := 1) rfl rfl (by omega)) ?_
            refine LS.vv rfl rfl (by decide) (Val.move rfl) ?_
            refine LS.nil ?_
            refine thenP_normal ?_
            have hps2 := hps (by omega)
            first
              | (rw [if_pos (by assumption)] at hps2
                 refine ⟨i + 1, (Sub.cons rfl (Sub.nil _)), (by repeat (first | exact Sub.nil _ | refine Sub.cons rfl ?_)), ⟨⟨hmb, hmn, hit, by omega⟩, (by rw [hps2, ← Nat.add_assoc]; exact hM), hB⟩, by omega⟩)
              | (rw [if_neg (by assumption), Nat.add_zero] at hps2
                 refine ⟨i + 1, (Sub.cons rfl (Sub.nil _)), (by repeat (first | exact Sub.nil _ | refine Sub.cons rfl ?_)), ⟨⟨hmb, hmn, hit, by omega⟩, (by rw [hps2]; exact hM), hB⟩, by omega⟩)
           ·
            refine W.skip ?_
            refine inBlk_normal ?_
            refine thenP_normal ?_
            refine W.reg ?_
            refine LS.vv rfl rfl (by decide) (Val.addN (j := 1) rfl rfl (by omega)) ?_
            refine LS.vv rfl rfl (by decide) (Val.move rfl) ?_
            refine LS.nil ?_
            refine thenP_normal ?_
            have hps2 := hps (by omega)
            first
              | (rw [if_pos (by assumption)] at hps2
                 refine ⟨i + 1, (Sub.cons rfl (Sub.nil _)), (by repeat (first | exact Sub.nil _ | refine Sub.cons rfl ?_)), ⟨⟨hmb, hmn, hit, by omega⟩, (by rw [hps2, ← Nat.add_assoc]; exact hM), hB⟩, by omega⟩)
              | (rw [if_neg (by assumption), Nat.add_zero] at hps2
                 refine ⟨i + 1, (Sub.cons rfl (Sub.nil _)), (by repeat (first | exact Sub.nil _ | refine Sub.cons rfl ?_)), ⟨⟨hmb, hmn, hit, by omega⟩, (by rw [hps2]; exact hM), hB⟩, by omega⟩)
          ·
           obtain rfl : i = 2 := by omega
           refine W.exit ?_
           refine thenP_exit ?_
           refine thenP_exit ?_
           refine inBlk_exit ?_
           refine thenP_normal ?_
           refine W.seqR ?_
           refine LS.vv rfl rfl (by decide) (Val.move rfl) ?_
           refine LS.vv rfl rfl (by decide) (Val.indexArr (j := 0) Try.underlying79 elem4 rfl rfl (by omega)) ?_
           refine LS.m rfl (Step.load rfl rfl (by decide) flat4 rfl (hM.o2.rd) (rfl) ?_)
           refine LS.vv rfl rfl (by decide) (Val.buildArr Try.underlying79 elem79 elem4 rfl (fill_b2 _ _)) ?_
           refine LS.m rfl (Step.allocZ rfl rfl (by decide) elem79 rfl (by decide) ?_)
           rintro w53 hO53 hg53 hbl53 hsz53
           first | replace hmb := hmb.below hbl53 | replace hmb := hmb.offZ hM.o0 hg53 | replace hmb := hmb.offZ hM.o1 hg53 | replace hmb := hmb.offZ hM.o2 hg53 | replace hmb := hmb.offZ hM.o3 hg53 | replace hmb := hmb.offZ hM.o4 hg53 | replace hmb := hmb.offZ hM.o5 hg53 | replace hmb := hmb.offZ hM.o6 hg53 | replace hmb := hmb.offZ hM.o7 hg53 | replace hmb := hmb.offZ hM.o8 hg53 | replace hmb := hmb.offZ hM.o9 hg53 | skip
           first | replace hmn := hmn.below hbl53 | replace hmn := hmn.offZ hM.o0 hg53 | replace hmn := hmn.offZ hM.o1 hg53 | replace hmn := hmn.offZ hM.o2 hg53 | replace hmn := hmn.offZ hM.o3 hg53 | replace hmn := hmn.offZ hM.o4 hg53 | replace hmn := hmn.offZ hM.o5 hg53 | replace hmn := hmn.offZ hM.o6 hg53 | replace hmn := hmn.offZ hM.o7 hg53 | replace hmn := hmn.offZ hM.o8 hg53 | replace hmn := hmn.offZ hM.o9 hg53 | skip
           first | replace hit := hit.below hbl53 | replace hit := hit.offZ hM.o0 hg53 | replace hit := hit.offZ hM.o1 hg53 | replace hit := hit.offZ hM.o2 hg53 | replace hit := hit.offZ hM.o3 hg53 | replace hit := hit.offZ hM.o4 hg53 | replace hit := hit.offZ hM.o5 hg53 | replace hit := hit.offZ hM.o6 hg53 | replace hit := hit.offZ hM.o7 hg53 | replace hit := hit.offZ hM.o8 hg53 | replace hit := hit.offZ hM.o9 hg53 | skip
           replace hM := hM.add hB.size hbl53 hO53
           try simp only [List.length_cons, List.length_nil, Nat.zero_add, Nat.reduceAdd, Value.cells, List.toList_toArray, List.append_nil, List.set_cons_zero, List.set_cons_succ] at hM
           replace hB := hB.trans (hbl53.mono hB.size)
           generalize w51.heap.size = gg53 at *
           refine LS.m rfl (Step.storeAgg0 (B := w0.heap.size) rfl rfl agg79 rfl rfl rfl (by decide) (by first | exact one_map _ (fun _ => rfl) _ | simp [Value.oneCell']) (hM.o0) rfl hB.size ?_)
           rintro w54 hO54 hg54 hbl54 hsz54
           first | replace hmb := hmb.below hbl54 | replace hmb := hmb.offZ hM.o0 hg54 | replace hmb := hmb.offZ hM.o1 hg54 | replace hmb := hmb.offZ hM.o2 hg54 | replace hmb := hmb.offZ hM.o3 hg54 | replace hmb := hmb.offZ hM.o4 hg54 | replace hmb := hmb.offZ hM.o5 hg54 | replace hmb := hmb.offZ hM.o6 hg54 | replace hmb := hmb.offZ hM.o7 hg54 | replace hmb := hmb.offZ hM.o8 hg54 | replace hmb := hmb.offZ hM.o9 hg54 | skip
           first | replace hmn := hmn.below hbl54 | replace hmn := hmn.offZ hM.o0 hg54 | replace hmn := hmn.offZ hM.o1 hg54 | replace hmn := hmn.offZ hM.o2 hg54 | replace hmn := hmn.offZ hM.o3 hg54 | replace hmn := hmn.offZ hM.o4 hg54 | replace hmn := hmn.offZ hM.o5 hg54 | replace hmn := hmn.offZ hM.o6 hg54 | replace hmn := hmn.offZ hM.o7 hg54 | replace hmn := hmn.offZ hM.o8 hg54 | replace hmn := hmn.offZ hM.o9 hg54 | skip
           first | replace hit := hit.below hbl54 | replace hit := hit.offZ hM.o0 hg54 | replace hit := hit.offZ hM.o1 hg54 | replace hit := hit.offZ hM.o2 hg54 | replace hit := hit.offZ hM.o3 hg54 | replace hit := hit.offZ hM.o4 hg54 | replace hit := hit.offZ hM.o5 hg54 | replace hit := hit.offZ hM.o6 hg54 | replace hit := hit.offZ hM.o7 hg54 | replace hit := hit.offZ hM.o8 hg54 | replace hit := hit.offZ hM.o9 hg54 | skip
           replace hM := hM.s0 (e := _) hg54 hO54 inl_block
           try simp only [List.set_cons_zero, List.set_cons_succ] at hM
           replace hB := hB.trans hbl54
           refine LS.nil ?_
           refine W.seqR ?_
           refine LS.vv rfl rfl (by decide) (Val.move rfl) ?_
           refine LS.m rfl (Step.loadAgg0 rfl rfl (by decide) agg79 rfl (hM.o0.rd) rfl (by decide) ?_)
           refine LS.m rfl (Step.lookup2 rfl rfl (by decide) (keys_bb b2_79) Try.underlying83 elem82 rfl rfl hmn.own (fv_getD Nx (nxq a q)) (fv_isSome Nx (nxq a q)) ?_)
           refine LS.vv rfl rfl (by decide) (Val.move rfl) ?_
           refine LS.vv rfl rfl (by decide) (Val.extract rfl rfl) ?_
           refine LS.vv rfl rfl (by decide) (Val.extract rfl rfl) ?_
           refine LS.m rfl (Step.allocZ rfl rfl (by decide) elem82 rfl (by decide) ?_)
           rintro w55 hO55 hg55 hbl55 hsz55
           first | replace hmb := hmb.below hbl55 | replace hmb := hmb.offZ hM.o0 hg55 | replace hmb := hmb.offZ hM.o1 hg55 | replace hmb := hmb.offZ hM.o2 hg55 | replace hmb := hmb.offZ hM.o3 hg55 | replace hmb := hmb.offZ hM.o4 hg55 | replace hmb := hmb.offZ hM.o5 hg55 | replace hmb := hmb.offZ hM.o6 hg55 | replace hmb := hmb.offZ hM.o7 hg55 | replace hmb := hmb.offZ hM.o8 hg55 | replace hmb := hmb.offZ hM.o9 hg55 | skip
           first | replace hmn := hmn.below hbl55 | replace hmn := hmn.offZ hM.o0 hg55 | replace hmn := hmn.offZ hM.o1 hg55 | replace hmn := hmn.offZ hM.o2 hg55 | replace hmn := hmn.offZ hM.o3 hg55 | replace hmn := hmn.offZ hM.o4 hg55 | replace hmn := hmn.offZ hM.o5 hg55 | replace hmn := hmn.offZ hM.o6 hg55 | replace hmn := hmn.offZ hM.o7 hg55 | replace hmn := hmn.offZ hM.o8 hg55 | replace hmn := hmn.offZ hM.o9 hg55 | skip
           first | replace hit := hit.below hbl55 | replace hit := hit.offZ hM.o0 hg55 | replace hit := hit.offZ hM.o1 hg55 | replace hit := hit.offZ hM.o2 hg55 | replace hit := hit.offZ hM.o3 hg55 | replace hit := hit.offZ hM.o4 hg55 | replace hit := hit.offZ hM.o5 hg55 | replace hit := hit.offZ hM.o6 hg55 | replace hit := hit.offZ hM.o7 hg55 | replace hit := hit.offZ hM.o8 hg55 | replace hit := hit.offZ hM.o9 hg55 | skip
           replace hM := hM.add hB.size hbl55 hO55
           try simp only [List.length_cons, List.length_nil, Nat.zero_add, Nat.reduceAdd, Value.cells, List.toList_toArray, List.append_nil, List.set_cons_zero, List.set_cons_succ] at hM
           replace hB := hB.trans (hbl55.mono hB.size)
           generalize w54.heap.size = gg55 at *
           refine LS.m rfl (Step.storeAgg0 (B := w0.heap.size) rfl rfl agg82 rfl rfl rfl (by decide) (by first | exact one_map _ (fun _ => rfl) _ | simp [Value.oneCell']) (hM.o0) rfl hB.size ?_)
           rintro w56 hO56 hg56 hbl56 hsz56
           first | replace hmb := hmb.below hbl56 | replace hmb := hmb.offZ hM.o0 hg56 | replace hmb := hmb.offZ hM.o1 hg56 | replace hmb := hmb.offZ hM.o2 hg56 | replace hmb := hmb.offZ hM.o3 hg56 | replace hmb := hmb.offZ hM.o4 hg56 | replace hmb := hmb.offZ hM.o5 hg56 | replace hmb := hmb.offZ hM.o6 hg56 | replace hmb := hmb.offZ hM.o7 hg56 | replace hmb := hmb.offZ hM.o8 hg56 | replace hmb := hmb.offZ hM.o9 hg56 | skip
           first | replace hmn := hmn.below hbl56 | replace hmn := hmn.offZ hM.o0 hg56 | replace hmn := hmn.offZ hM.o1 hg56 | replace hmn := hmn.offZ hM.o2 hg56 | replace hmn := hmn.offZ hM.o3 hg56 | replace hmn := hmn.offZ hM.o4 hg56 | replace hmn := hmn.offZ hM.o5 hg56 | replace hmn := hmn.offZ hM.o6 hg56 | replace hmn := hmn.offZ hM.o7 hg56 | replace hmn := hmn.offZ hM.o8 hg56 | replace hmn := hmn.offZ hM.o9 hg56 | skip
           first | replace hit := hit.below hbl56 | replace hit := hit.offZ hM.o0 hg56 | replace hit := hit.offZ hM.o1 hg56 | replace hit := hit.offZ hM.o2 hg56 | replace hit := hit.offZ hM.o3 hg56 | replace hit := hit.offZ hM.o4 hg56 | replace hit := hit.offZ hM.o5 hg56 | replace hit := hit.offZ hM.o6 hg56 | replace hit := hit.offZ hM.o7 hg56 | replace hit := hit.offZ hM.o8 hg56 | replace hit := hit.offZ hM.o9 hg56 | skip
           replace hM := hM.s0 (e := _) hg56 hO56 inl_block
           try simp only [List.set_cons_zero, List.set_cons_succ] at hM
           replace hB := hB.trans hbl56
           refine LS.vv rfl rfl (by decide) (Val.assign rfl) ?_
           refine LS.nil ?_
           refine W.seqR ?_
           refine LS.vv rfl rfl (by decide) (Val.move rfl) ?_
           refine LS.vv rfl rfl (by decide) (Val.not rfl) ?_
           refine LS.vv rfl rfl (by decide) (Val.move rfl) ?_
           refine LS.split 2 rfl (fun hg21 => ?_) (fun hg21 => ?_)
           ·
            first | (have hg21p := of_decide_eq_true hg21) | skip
            refine LS.s rfl rfl rfl hg21 (by decide) ?_
            refine LS.s rfl rfl rfl hg21 (by decide) ?_
            refine LS.s rfl rfl rfl hg21 (by decide) ?_
            refine LS.vv rfl rfl (by decide) (Val.pickT rfl hg21 rfl) ?_
            refine LS.nil ?_
            refine W.condT rfl ?_
            refine W.reg ?_
            refine LS.vv rfl rfl (by decide) (Val.move rfl) ?_
            refine LS.m rfl (Step.loadAgg0 rfl rfl (by decide) agg79 rfl (hM.o1.rd) rfl (by decide) ?_)
            refine LS.m rfl (Step.loadAgg0 rfl rfl (by decide) agg82 rfl (hM.o2.rd) rfl (by decide) ?_)
            have hold : ∀ q2 m2, plT Nx (nxq a q) = some (q2, m2) → x.o + two xs k a (gb [false, true] q) ≤ m2 := fun q2 m2 h9 => by
              obtain ⟨y9, hy9, hy10, hy11⟩ := pl_inv h9
              first
                | (exfalso; have h7 : (Nx (nxq a q)).isSome = false := (by simpa using (by assumption : (!(Nx (nxq a q)).isSome) = true)); rw [hy9] at h7; cases h7)
                | (have h8 := hbt (by assumption); rw [hy] at hy9; cases hy9; rw [prt_two] at h8; omega)
            have hnx2 : Nxt N xs k (plT G) (plT (putG Nx (nxq a q) (xpv pq cq x q xs k a))) (fun s2 b2 => sn ks a q s2 b2 ∨ s2 = a ∧ b2 = (gb [false, true] q)) := by rw [pl_put]; exact hnx.take hTab (by omega) (nb_ok (by omega)) (pl_some hGx) hold
            refine LS.m rfl (Step.mapPutR (k := (nxq a q)) (v := .agg #[.slice pq (x.l.length + 1) cq, .int .i64 ((x.o + prt xs k a (gb [false, true] q) 2 : Nat) : Int)]) (.inl rfl) rfl (keys_bb b2_79) Try.underlying83 rfl rfl rfl hmn hB.size ?_)
            rintro wf hmn2 hg9 hbl9 hsz9
            replace hM := hM.mapR hmn hg9
            replace hmb := hmb.keep hg9 (fun h => hmne (Option.some.inj h))
            replace hit := hit.keep hg9 (fun h => hmne (Option.some.inj h)) (fun h => hit.ne_map hmn (Option.some.inj h))
            replace hB := hB.trans hbl9
            rw [pv_two, fv_put] at hmn2
            refine LS.nil ?_
            refine inBlk_normal ?_
            refine thenP_normal ?_
            refine W.reg ?_
            refine LS.vv rfl rfl (by decide) (Val.addN (j := 1) rfl rfl (by omega)) ?_
            refine LS.vv rfl rfl (by decide) (Val.move rfl) ?_
            refine LS.nil ?_
            refine thenP_normal ?_
            replace hM := hM.er2.er1.er0.sw0.sw1.sw2
            rw [show (x.l.length + 1) = (x.l ++ [(gb [false, true] q)]).length from by simp] at hM
            first
              | (refine ⟨(q + 1, putG Nx (nxq a q) (xpv pq cq x q xs k a), (xpv pq cq x q xs k a) :: T1), (Sub.cons rfl (Sub.nil _)), (by repeat (first | exact Sub.nil _ | refine Sub.cons rfl ?_)), ⟨⟨hmb, hmn2, hit, sn_next hnx2, hGT.more, hNT.put, by simp only; omega⟩, hM, hB⟩, by simp only; omega⟩)
              | (refine ⟨(q + 1, Nx, (xpv pq cq x q xs k a) :: T1), (Sub.cons rfl (Sub.nil _)), (by repeat (first | exact Sub.nil _ | refine Sub.cons rfl ?_)), ⟨⟨hmb, hmn, hit, sn_next hnx2, hGT.more, hNT.more, by simp only; omega⟩, hM, hB⟩, by simp only; omega⟩)
           ·
            first | (have hg21p := of_decide_eq_false hg21) | skip
            refine LS.mg rfl rfl hg21 (Step.loadAgg0 rfl rfl (by decide) agg82 rfl (hM.o2.rd) rfl (by decide) ?_)
            refine LS.mg rfl rfl hg21 (Step.loadAgg0 rfl rfl (by decide) agg82 rfl (hM.o0.rd) rfl (by decide) ?_)
            obtain ⟨y, hy⟩ := Option.isSome_iff_exists.1 (by simpa using (by assumption : (!(Nx (nxq a q)).isSome) = false))
            have hyd : ((Nx (nxq a q)).getD zPV) = y := by rw [hy]; rfl
            have hyp := hnx.path _ _ _ (pl_some hy)
            have hyl := hyp.len
            rw [hyd]
            refine LS.mg rfl rfl hg21 (Step.call body59 rfl rfl (by decide) rfl (CallsV.mono (better_any (x.l ++ [(gb [false, true] q)]) y.l pq y.p cq y.c (x.l.length + 1) y.l.length (x.o + prt xs k a (gb [false, true] q) 2) y.o _ hM.o3.rd (tp_rd hM (hNT _ _ hy) (fun o h => by simp [h])) (by simp) rfl (by omega) (by omega)) ?_))
            rintro _ w57 ⟨bb, rfl, hbt, hbf, hb57⟩
            replace hM := hM.below hb57
            try replace hmb := hmb.below hb57
            try replace hmn := hmn.below hb57
            try replace hit := hit.below hb57
            replace hB := hB.trans (hb57.mono hB.size)
            refine LS.vv rfl rfl (by decide) (Val.pickF rfl hg21 rfl) ?_
            refine LS.nil ?_
            first | refine W.condD rfl (fun hc22 => ?_) (fun hc22 => ?_) | refine W.cond rfl (fun hc22 => ?_) (fun hc22 => ?_)
            ·
             refine W.reg ?_
             refine LS.vv rfl rfl (by decide) (Val.move rfl) ?_
             refine LS.m rfl (Step.loadAgg0 rfl rfl (by decide) agg79 rfl (hM.o1.rd) rfl (by decide) ?_)
             refine LS.m rfl (Step.loadAgg0 rfl rfl (by decide) agg82 rfl (hM.o2.rd) rfl (by decide) ?_)
             have hold : ∀ q2 m2, plT Nx (nxq a q) = some (q2, m2) → x.o + two xs k a (gb [false, true] q) ≤ m2 := fun q2 m2 h9 => by
               obtain ⟨y9, hy9, hy10, hy11⟩ := pl_inv h9
               first
                 | (exfalso; have h7 : (Nx (nxq a q)).isSome = false := (by simpa using (by assumption : (!(Nx (nxq a q)).isSome) = true)); rw [hy9] at h7; cases h7)
                 | (have h8 := hbt (by assumption); rw [hy] at hy9; cases hy9; rw [prt_two] at h8; omega)
             have hnx2 : Nxt N xs k (plT G) (plT (putG Nx (nxq a q) (xpv pq cq x q xs k a))) (fun s2 b2 => sn ks a q s2 b2 ∨ s2 = a ∧ b2 = (gb [false, true] q)) := by rw [pl_put]; exact hnx.take hTab (by omega) (nb_ok (by omega)) (pl_some hGx) hold
             refine LS.m rfl (Step.mapPutR (k := (nxq a q)) (v := .agg #[.slice pq (x.l.length + 1) cq, .int .i64 ((x.o + prt xs k a (gb [false, true] q) 2 : Nat) : Int)]) (.inl rfl) rfl (keys_bb b2_79) Try.underlying83 rfl rfl rfl hmn hB.size ?_)
             rintro wf hmn2 hg9 hbl9 hsz9
             replace hM := hM.mapR hmn hg9
             replace hmb := hmb.keep hg9 (fun h => hmne (Option.some.inj h))
             replace hit := hit.keep hg9 (fun h => hmne (Option.some.inj h)) (fun h => hit.ne_map hmn (Option.some.inj h))
             replace hB := hB.trans hbl9
             rw [pv_two, fv_put] at hmn2
             refine LS.nil ?_
             refine inBlk_normal ?_
             refine thenP_normal ?_
             refine W.reg ?_
             refine LS.vv rfl rfl (by decide) (Val.addN (j := 1) rfl rfl (by omega)) ?_
             refine LS.vv rfl rfl (by decide) (Val.move rfl) ?_
             refine LS.nil ?_
             refine thenP_normal ?_
             replace hM := hM.er2.er1.er0.sw0.sw1.sw2
             rw [show (x.l.length + 1) = (x.l ++ [(gb [false, true] q)]).length from by simp] at hM
             first
               | (refine ⟨(q + 1, putG Nx (nxq a q) (xpv pq cq x q xs k a), (xpv pq cq x q xs k a) :: T1), (Sub.cons rfl (Sub.nil _)), (by repeat (first | exact Sub.nil _ | refine Sub.cons rfl ?_)), ⟨⟨hmb, hmn2, hit, sn_next hnx2, hGT.more, hNT.put, by simp only; omega⟩, hM, hB⟩, by simp only; omega⟩)
               | (refine ⟨(q + 1, Nx, (xpv pq cq x q xs k a) :: T1), (Sub.cons rfl (Sub.nil _)), (by repeat (first | exact Sub.nil _ | refine Sub.cons rfl ?_)), ⟨⟨hmb, hmn, hit, sn_next hnx2, hGT.more, hNT.more, by simp only; omega⟩, hM, hB⟩, by simp only; omega⟩)
            ·
             have hnx2 : Nxt N xs k (plT G) (plT Nx) (fun s2 b2 => sn ks a q s2 b2 ∨ s2 = a ∧ b2 = (gb [false, true] q)) := hnx.skip (pl_some hGx) (pl_some hy) (by have h8 := hbf (by assumption); rw [prt_two] at h8; exact h8)
             refine W.skip ?_
             refine inBlk_normal ?_
             refine thenP_normal ?_
             refine W.reg ?_
             refine LS.vv rfl rfl (by decide) (Val.addN (j := 1) rfl rfl (by omega)) ?_
             refine LS.vv rfl rfl (by decide) (Val.move rfl) ?_
             refine LS.nil ?_
             refine thenP_normal ?_
             replace hM := hM.er2.er1.er0.sw0.sw1.sw2
             rw [show (x.l.length + 1) = (x.l ++ [(gb [false, true] q)]).length from by simp] at hM
             first
               | (refine ⟨(q + 1, putG Nx (nxq a q) (xpv pq cq x q xs k a), (xpv pq cq x q xs k a) :: T1), (Sub.cons rfl (Sub.nil _)), (by repeat (first | exact Sub.nil _ | refine Sub.cons rfl ?_)), ⟨⟨hmb, hmn2, hit, sn_next hnx2, hGT.more, hNT.put, by simp only; omega⟩, hM, hB⟩, by simp only; omega⟩)
               | (refine ⟨(q + 1, Nx, (xpv pq cq x q xs k a) :: T1), (Sub.cons rfl (Sub.nil _)), (by repeat (first | exact Sub.nil _ | refine Sub.cons rfl ?_)), ⟨⟨hmb, hmn, hit, sn_next hnx2, hGT.more, hNT.more, by simp only; omega⟩, hM, hB⟩, by simp only; omega⟩)
         ·
          refine DT.m rfl rfl (Step.allocZ rfl rfl (by decide) elem82 rfl (by decide) ?_)
          rintro w58 hO58 hg58 hbl58 hsz58
          first | replace hmb := hmb.below hbl58 | replace hmb := hmb.offZ hM.o0 hg58 | replace hmb := hmb.offZ hM.o1 hg58 | replace hmb := hmb.offZ hM.o2 hg58 | replace hmb := hmb.offZ hM.o3 hg58 | replace hmb := hmb.offZ hM.o4 hg58 | replace hmb := hmb.offZ hM.o5 hg58 | replace hmb := hmb.offZ hM.o6 hg58 | replace hmb := hmb.offZ hM.o7 hg58 | replace hmb := hmb.offZ hM.o8 hg58 | replace hmb := hmb.offZ hM.o9 hg58 | skip
          first | replace hmn := hmn.below hbl58 | replace hmn := hmn.offZ hM.o0 hg58 | replace hmn := hmn.offZ hM.o1 hg58 | replace hmn := hmn.offZ hM.o2 hg58 | replace hmn := hmn.offZ hM.o3 hg58 | replace hmn := hmn.offZ hM.o4 hg58 | replace hmn := hmn.offZ hM.o5 hg58 | replace hmn := hmn.offZ hM.o6 hg58 | replace hmn := hmn.offZ hM.o7 hg58 | replace hmn := hmn.offZ hM.o8 hg58 | replace hmn := hmn.offZ hM.o9 hg58 | skip
          first | replace hit := hit.below hbl58 | replace hit := hit.offZ hM.o0 hg58 | replace hit := hit.offZ hM.o1 hg58 | replace hit := hit.offZ hM.o2 hg58 | replace hit := hit.offZ hM.o3 hg58 | replace hit := hit.offZ hM.o4 hg58 | replace hit := hit.offZ hM.o5 hg58 | replace hit := hit.offZ hM.o6 hg58 | replace hit := hit.offZ hM.o7 hg58 | replace hit := hit.offZ hM.o8 hg58 | replace hit := hit.offZ hM.o9 hg58 | skip
          replace hM := hM.add hB.size hbl58 hO58
          try simp only [List.length_cons, List.length_nil, Nat.zero_add, Nat.reduceAdd, Value.cells, List.toList_toArray, List.append_nil, List.set_cons_zero, List.set_cons_succ] at hM
          replace hB := hB.trans (hbl58.mono hB.size)
          generalize w46.heap.size = gg58 at *
          refine ⟨⟨hB, hM.er2.er1.er0⟩, ?_⟩
          refine DT.m rfl rfl (Step.appendZ (B := w0.heap.size) rfl rfl (by decide) Try.underlying23 elem4 rfl (by decide) rfl rfl (hM.o1) (hM.o2.rd) rfl (by first | exact one_map _ (fun _ => rfl) _ | simp [Value.oneCell']) (by omega) (by omega) hB.size ?_)
          rintro p59 c59 w59 hO59 hg59 hbl59 hbk59
          first | replace hmb := hmb.below hbl59 | replace hmb := hmb.offZ hM.o0 hg59 | replace hmb := hmb.offZ hM.o1 hg59 | replace hmb := hmb.offZ hM.o2 hg59 | replace hmb := hmb.offZ hM.o3 hg59 | replace hmb := hmb.offZ hM.o4 hg59 | replace hmb := hmb.offZ hM.o5 hg59 | replace hmb := hmb.offZ hM.o6 hg59 | replace hmb := hmb.offZ hM.o7 hg59 | replace hmb := hmb.offZ hM.o8 hg59 | replace hmb := hmb.offZ hM.o9 hg59 | skip
          first | replace hmn := hmn.below hbl59 | replace hmn := hmn.offZ hM.o0 hg59 | replace hmn := hmn.offZ hM.o1 hg59 | replace hmn := hmn.offZ hM.o2 hg59 | replace hmn := hmn.offZ hM.o3 hg59 | replace hmn := hmn.offZ hM.o4 hg59 | replace hmn := hmn.offZ hM.o5 hg59 | replace hmn := hmn.offZ hM.o6 hg59 | replace hmn := hmn.offZ hM.o7 hg59 | replace hmn := hmn.offZ hM.o8 hg59 | replace hmn := hmn.offZ hM.o9 hg59 | skip
          first | replace hit := hit.below hbl59 | replace hit := hit.offZ hM.o0 hg59 | replace hit := hit.offZ hM.o1 hg59 | replace hit := hit.offZ hM.o2 hg59 | replace hit := hit.offZ hM.o3 hg59 | replace hit := hit.offZ hM.o4 hg59 | replace hit := hit.offZ hM.o5 hg59 | replace hit := hit.offZ hM.o6 hg59 | replace hit := hit.offZ hM.o7 hg59 | replace hit := hit.offZ hM.o8 hg59 | replace hit := hit.offZ hM.o9 hg59 | skip
          replace hM := hM.s1 (e := _) hg59 hO59 hbk59
          try simp only [bv_app1, bv_app, bv_set, bv_rep, bv_one, bv_cons, bv_take, bv_drop, List.nil_append] at hM
          replace hB := hB.trans hbl59
          refine ⟨⟨hB, hM.er2.er1.er0⟩, ?_⟩
          generalize p59 = pq at *
          generalize c59 = cq at *
          refine DT.vv rfl rfl rfl (by decide) (Val.build str82 elem82 rfl rfl rfl) ?_
          refine DT.m rfl rfl (Step.storeAgg0 (B := w0.heap.size) rfl rfl agg82 rfl rfl rfl (by decide) (by first | exact one_map _ (fun _ => rfl) _ | simp [Value.oneCell']) (hM.o0) rfl hB.size ?_)
          rintro w60 hO60 hg60 hbl60 hsz60
          first | replace hmb := hmb.below hbl60 | replace hmb := hmb.offZ hM.o0 hg60 | replace hmb := hmb.offZ hM.o1 hg60 | replace hmb := hmb.offZ hM.o2 hg60 | replace hmb := hmb.offZ hM.o3 hg60 | replace hmb := hmb.offZ hM.o4 hg60 | replace hmb := hmb.offZ hM.o5 hg60 | replace hmb := hmb.offZ hM.o6 hg60 | replace hmb := hmb.offZ hM.o7 hg60 | replace hmb := hmb.offZ hM.o8 hg60 | replace hmb := hmb.offZ hM.o9 hg60 | skip
          first | replace hmn := hmn.below hbl60 | replace hmn := hmn.offZ hM.o0 hg60 | replace hmn := hmn.offZ hM.o1 hg60 | replace hmn := hmn.offZ hM.o2 hg60 | replace hmn := hmn.offZ hM.o3 hg60 | replace hmn := hmn.offZ hM.o4 hg60 | replace hmn := hmn.offZ hM.o5 hg60 | replace hmn := hmn.offZ hM.o6 hg60 | replace hmn := hmn.offZ hM.o7 hg60 | replace hmn := hmn.offZ hM.o8 hg60 | replace hmn := hmn.offZ hM.o9 hg60 | skip
          first | replace hit := hit.below hbl60 | replace hit := hit.offZ hM.o0 hg60 | replace hit := hit.offZ hM.o1 hg60 | replace hit := hit.offZ hM.o2 hg60 | replace hit := hit.offZ hM.o3 hg60 | replace hit := hit.offZ hM.o4 hg60 | replace hit := hit.offZ hM.o5 hg60 | replace hit := hit.offZ hM.o6 hg60 | replace hit := hit.offZ hM.o7 hg60 | replace hit := hit.offZ hM.o8 hg60 | replace hit := hit.offZ hM.o9 hg60 | skip
          replace hM := hM.s0 (e := _) hg60 hO60 inl_block
          try simp only [List.set_cons_zero, List.set_cons_succ] at hM
          replace hB := hB.trans hbl60
          refine ⟨⟨hB, hM.er2.er1.er0⟩, ?_⟩
          refine DT.nil ?_
          refine W.seq ?_
          refine W.seqR ?_
          refine LS.m rfl (Step.loadAgg0 rfl rfl (by decide) agg79 rfl (hM.o3.rd) rfl (by decide) ?_)
          refine LS.vv rfl rfl (by decide) (Val.move rfl) ?_
          refine LS.m rfl (Step.call body58 rfl rfl (by decide) rfl (CallsV.mono (out_any a (gb [false, true] q) _) ?_))
          rintro _ w61 ⟨rfl, hb61⟩
          replace hM := hM.below hb61
          try replace hmb := hmb.below hb61
          try replace hmn := hmn.below hb61
          try replace hit := hit.below hb61
          replace hB := hB.trans (hb61.mono hB.size)
          refine LS.vv rfl rfl (by decide) (Val.cast (v := .int .i64 ((0 : Nat) : Int)) (Val.move rfl) rfl) ?_
          refine LS.nil ?_
          refine W.block ?_
          skip
          replace hM := hM.er2
          refine W.loop (α := Nat) (fun i => [(77, .int .i64 (i : Int))]) [(0, _), (5, _), (7, _), (8, _), (9, _), (10, _), (12, _), (13, _), (40, _), (41, _), (46, _), (59, _), (60, _), (61, _), (76, _)] (fun i w => (MapR encB w w0.heap.size mb (fv G) ∧ MapR encB w w0.heap.size mn (fv Nx) ∧ OwnIter encB w w0.heap.size mb it (ks ++ [a]) ∧ i ≤ 2) ∧ Mz w w0.heap.size (⟨82, 2, some ⟨gg58, 0, none⟩, 1, 1, [.slice pq (x.l.length + 1) cq, .int .i64 ((x.o + prt xs k a (gb [false, true] q) i : Nat) : Int)]⟩ :: ⟨4, 1, pq, x.l.length + 1, cq, bv (x.l ++ [(gb [false, true] q)])⟩ :: ⟨79, 2, some ⟨gg3, 0, none⟩, 1, 1, [.bool a.1, .bool a.2]⟩ :: ⟨82, 2, some ⟨gg4, 0, none⟩, 1, 1, [.slice x.p x.l.length x.c, .int .i64 (x.o : Int)]⟩ :: ⟨4, 1, some ⟨gg7, 0, none⟩, 2, 2, bv [false, true]⟩ :: (tp T1)) ∧ Below w0.heap.size w0 w) (fun i => 2 - i) (0) (Sub.cons rfl (Sub.nil _)) (Sub.cons rfl (Sub.cons rfl (Sub.cons rfl (Sub.cons rfl (Sub.cons rfl (Sub.cons rfl (Sub.cons rfl (Sub.cons rfl (Sub.cons rfl (Sub.cons rfl (Sub.cons rfl (Sub.cons rfl (Sub.cons rfl (Sub.cons rfl (Sub.cons rfl (Sub.nil _)))))))))))))))) ?_ ?_
          · exact ⟨⟨hmb, hmn, hit, Nat.zero_le _⟩, (by simp only [prt_zero, Nat.add_zero]; exact hM), hB⟩
          rintro i w62 ⟨⟨hmb, hmn, hit, hi2⟩, hM, hB⟩
          try simp only at hM
          simp only [List.cons_append, List.nil_append]
          have hpl := prt_le xs k a (gb [false, true] q) i
          have hps := fun h => prt_succ xs k a (gb [false, true] q) (i := i) h
          refine W.seqR ?_
          refine LS.vv rfl rfl (by decide) (Val.lss rfl rfl) ?_
          refine LS.nil ?_
          refine W.seq ?_
          first | refine W.condD rfl (fun hc23 => ?_) (fun hc23 => ?_) | refine W.cond rfl (fun hc23 => ?_) (fun hc23 => ?_)
          ·
           refine W.skip ?_
           refine thenP_normal ?_
           refine W.seq ?_
           refine W.block ?_
           refine W.seqR ?_
           refine LS.vv rfl rfl (by decide) (Val.move rfl) ?_
           refine LS.vv rfl rfl (by decide) (Val.cast (v := .bool (if i = 0 then out0 a (gb [false, true] q) else out1 a (gb [false, true] q))) (Val.indexV2 Try.underlying78 elem4 ag4 rfl rfl (by omega)) (by split <;> rfl)) ?_
           refine LS.vv rfl rfl (by decide) (Val.assign rfl) ?_
           refine LS.vv rfl rfl (by decide) (Val.assign rfl) ?_
           refine LS.nil ?_
           refine W.seqR ?_
           refine LS.vv rfl rfl (by decide) (Val.move rfl) ?_
           refine LS.vv rfl rfl (by decide) (Val.move rfl) ?_
           refine LS.vv rfl rfl (by decide) (Val.move rfl) ?_
           first | refine LS.vv rfl rfl (by decide) (Val.mulN (i := 2) rfl rfl (by omega)) ?_ | refine LS.vv rfl rfl (by decide) (Val.mul64 rfl rfl (by omega)) ?_
           refine LS.vv rfl rfl (by decide) (Val.move rfl) ?_
           first | refine LS.vv rfl rfl (by decide) (Val.addN rfl rfl (by omega)) ?_ | refine LS.vv rfl rfl (by decide) (Val.add64 rfl rfl (by omega)) ?_
           refine LS.vv rfl rfl (by decide) (Val.index1 Try.underlying23 elem4 rfl rfl (by omega) ((hr.below hB)) (bv_lt (by omega))) ?_
           refine LS.m rfl (Step.load rfl rfl (by decide) flat4 rfl ((hr.below hB)) (bv_at (by omega)) ?_)
           refine LS.vv rfl rfl (by decide) (Val.neqB Try.underlying4 rfl rfl) ?_
           refine LS.nil ?_
           first | refine W.condD rfl (fun hc24 => ?_) (fun hc24 => ?_) | refine W.cond rfl (fun hc24 => ?_) (fun hc24 => ?_)
           ·
            refine W.reg ?_
            refine LS.vv rfl rfl (by decide) (Val.fieldAddr0 fld82_1 rfl) ?_
            refine LS.m rfl (Step.load rfl rfl (by decide) flat3 rfl (hM.o0.rd) (rfl) ?_)
            refine LS.vv rfl rfl (by decide) (Val.addN (j := 1) rfl rfl (by omega)) ?_
            refine LS.vv rfl rfl (by decide) (Val.fieldAddr0 fld82_1 rfl) ?_
            refine LS.m rfl (Step.storeZ (B := w0.heap.size) rfl rfl flat3 elem3 rfl rfl rfl (hM.o0) (by first | decide | (simp; done) | (simp; omega) | omega) hB.size ?_)
            rintro w63 hO63 hg63 hbl63 hsz63
            first | replace hmb := hmb.below hbl63 | replace hmb := hmb.offZ hM.o0 hg63 | replace hmb := hmb.offZ hM.o1 hg63 | replace hmb := hmb.offZ hM.o2 hg63 | replace hmb := hmb.offZ hM.o3 hg63 | replace hmb := hmb.offZ hM.o4 hg63 | replace hmb := hmb.offZ hM.o5 hg63 | replace hmb := hmb.offZ hM.o6 hg63 | replace hmb := hmb.offZ hM.o7 hg63 | replace hmb := hmb.offZ hM.o8 hg63 | replace hmb := hmb.offZ hM.o9 hg63 | skip
            first | replace hmn := hmn.below hbl63 | replace hmn := hmn.offZ hM.o0 hg63 | replace hmn := hmn.offZ hM.o1 hg63 | replace hmn := hmn.offZ hM.o2 hg63 | replace hmn := hmn.offZ hM.o3 hg63 | replace hmn := hmn.offZ hM.o4 hg63 | replace hmn := hmn.offZ hM.o5 hg63 | replace hmn := hmn.offZ hM.o6 hg63 | replace hmn := hmn.offZ hM.o7 hg63 | replace hmn := hmn.offZ hM.o8 hg63 | replace hmn := hmn.offZ hM.o9 hg63 | skip
            first | replace hit := hit.below hbl63 | replace hit := hit.offZ hM.o0 hg63 | replace hit := hit.offZ hM.o1 hg63 | replace hit := hit.offZ hM.o2 hg63 | replace hit := hit.offZ hM.o3 hg63 | replace hit := hit.offZ hM.o4 hg63 | replace hit := hit.offZ hM.o5 hg63 | replace hit := hit.offZ hM.o6 hg63 | replace hit := hit.offZ hM.o7 hg63 | replace hit := hit.offZ hM.o8 hg63 | replace hit := hit.offZ hM.o9 hg63 | skip
            replace hM := hM.s0 (e := _) hg63 hO63 inl_block
            try simp only [List.set_cons_zero, List.set_cons_succ] at hM
            replace hB := hB.trans hbl63
            refine LS.nil ?_
            refine inBlk_normal ?_
            refine thenP_normal ?_
            refine W.reg ?_
            refine LS.vv rfl rfl (by decide) (Val.addN (j := 1) rfl rfl (by omega)) ?_
            refine LS.vv rfl rfl (by decide) (Val.move rfl) ?_
            refine LS.nil ?_
            refine thenP_normal ?_
            have hps2 := hps (by omega)
            first
              | (rw [if_pos (by assumption)] at hps2
                 refine ⟨i + 1, (Sub.cons rfl (Sub.nil _)), (by repeat (first | exact Sub.nil _ | refine Sub.cons rfl ?_)), ⟨⟨hmb, hmn, hit, by omega⟩, (by rw [hps2, ← Nat.add_assoc]; exact hM), hB⟩, by omega⟩)
              | (rw [if_neg (by assumption), Nat.add_zero] at hps2
                 refine ⟨i + 1, (Sub.cons rfl (Sub.nil _)), (by repeat (first | exact Sub.nil _ | refine Sub.cons rfl ?_)), ⟨⟨hmb, hmn, hit, by omega⟩, (by rw [hps2]; exact hM), hB⟩, by omega⟩)
           ·
            refine W.skip ?_
            refine inBlk_normal ?_
            refine thenP_normal ?_
            refine W.reg ?_
            refine LS.vv rfl rfl (by decide) (Val.addN (j := 1) rfl rfl (by omega)) ?_
            refine LS.vv rfl rfl (by decide) (Val.move rfl) ?_
            refine LS.nil ?_
            refine thenP_normal ?_
            have hps2 := hps (by omega)
            first
              | (rw [if_pos (by assumption)] at hps2
                 refine ⟨i + 1, (Sub.cons rfl (Sub.nil _)), (by repeat (first | exact Sub.nil _ | refine Sub.cons rfl ?_)), ⟨⟨hmb, hmn, hit, by omega⟩, (by rw [hps2, ← Nat.add_assoc]; exact hM), hB⟩, by omega⟩)
              | (rw [if_neg (by assumption), Nat.add_zero] at hps2
                 refine ⟨i + 1, (Sub.cons rfl (Sub.nil _)), (by repeat (first | exact Sub.nil _ | refine Sub.cons rfl ?_)), ⟨⟨hmb, hmn, hit, by omega⟩, (by rw [hps2]; exact hM), hB⟩, by omega⟩)
          ·
           obtain rfl : i = 2 := by omega
           refine W.exit ?_
           refine thenP_exit ?_
           refine thenP_exit ?_
           refine inBlk_exit ?_
           refine thenP_normal ?_
           refine W.seqR ?_
           refine LS.vv rfl rfl (by decide) (Val.move rfl) ?_
           refine LS.vv rfl rfl (by decide) (Val.indexArr (j := 0) Try.underlying79 elem4 rfl rfl (by omega)) ?_
           refine LS.m rfl (Step.load rfl rfl (by decide) flat4 rfl (hM.o2.rd) (rfl) ?_)
           refine LS.vv rfl rfl (by decide) (Val.buildArr Try.underlying79 elem79 elem4 rfl (fill_b2 _ _)) ?_
           refine LS.m rfl (Step.allocZ rfl rfl (by decide) elem79 rfl (by decide) ?_)
           rintro w64 hO64 hg64 hbl64 hsz64
           first | replace hmb := hmb.below hbl64 | replace hmb := hmb.offZ hM.o0 hg64 | replace hmb := hmb.offZ hM.o1 hg64 | replace hmb := hmb.offZ hM.o2 hg64 | replace hmb := hmb.offZ hM.o3 hg64 | replace hmb := hmb.offZ hM.o4 hg64 | replace hmb := hmb.offZ hM.o5 hg64 | replace hmb := hmb.offZ hM.o6 hg64 | replace hmb := hmb.offZ hM.o7 hg64 | replace hmb := hmb.offZ hM.o8 hg64 | replace hmb := hmb.offZ hM.o9 hg64 | skip
           first | replace hmn := hmn.below hbl64 | replace hmn := hmn.offZ hM.o0 hg64 | replace hmn := hmn.offZ hM.o1 hg64 | replace hmn := hmn.offZ hM.o2 hg64 | replace hmn := hmn.offZ hM.o3 hg64 | replace hmn := hmn.offZ hM.o4 hg64 | replace hmn := hmn.offZ hM.o5 hg64 | replace hmn := hmn.offZ hM.o6 hg64 | replace hmn := hmn.offZ hM.o7 hg64 | replace hmn := hmn.offZ hM.o8 hg64 | replace hmn := hmn.offZ hM.o9 hg64 | skip
           first | replace hit := hit.below hbl64 | replace hit := hit.offZ hM.o0 hg64 | replace hit := hit.offZ hM.o1 hg64 | replace hit := hit.offZ hM.o2 hg64 | replace hit := hit.offZ hM.o3 hg64 | replace hit := hit.offZ hM.o4 hg64 | replace hit := hit.offZ hM.o5 hg64 | replace hit := hit.offZ hM.o6 hg64 | replace hit := hit.offZ hM.o7 hg64 | replace hit := hit.offZ hM.o8 hg64 | replace hit := hit.offZ hM.o9 hg64 | skip
           replace hM := hM.add hB.size hbl64 hO64
           try simp only [List.length_cons, List.length_nil, Nat.zero_add, Nat.reduceAdd, Value.cells, List.toList_toArray, List.append_nil, List.set_cons_zero, List.set_cons_succ] at hM
           replace hB := hB.trans (hbl64.mono hB.size)
           generalize w62.heap.size = gg64 at *
           refine LS.m rfl (Step.storeAgg0 (B := w0.heap.size) rfl rfl agg79 rfl rfl rfl (by decide) (by first | exact one_map _ (fun _ => rfl) _ | simp [Value.oneCell']) (hM.o0) rfl hB.size ?_)
           rintro w65 hO65 hg65 hbl65 hsz65
           first | replace hmb := hmb.below hbl65 | replace hmb := hmb.offZ hM.o0 hg65 | replace hmb := hmb.offZ hM.o1 hg65 | replace hmb := hmb.offZ hM.o2 hg65 | replace hmb := hmb.offZ hM.o3 hg65 | replace hmb := hmb.offZ hM.o4 hg65 | replace hmb := hmb.offZ hM.o5 hg65 | replace hmb := hmb.offZ hM.o6 hg65 | replace hmb := hmb.offZ hM.o7 hg65 | replace hmb := hmb.offZ hM.o8 hg65 | replace hmb := hmb.offZ hM.o9 hg65 | skip
           first | replace hmn := hmn.below hbl65 | replace hmn := hmn.offZ hM.o0 hg65 | replace hmn := hmn.offZ hM.o1 hg65 | replace hmn := hmn.offZ hM.o2 hg65 | replace hmn := hmn.offZ hM.o3 hg65 | replace hmn := hmn.offZ hM.o4 hg65 | replace hmn := hmn.offZ hM.o5 hg65 | replace hmn := hmn.offZ hM.o6 hg65 | replace hmn := hmn.offZ hM.o7 hg65 | replace hmn := hmn.offZ hM.o8 hg65 | replace hmn := hmn.offZ hM.o9 hg65 | skip
           first | replace hit := hit.below hbl65 | replace hit := hit.offZ hM.o0 hg65 | replace hit := hit.offZ hM.o1 hg65 | replace hit := hit.offZ hM.o2 hg65 | replace hit := hit.offZ hM.o3 hg65 | replace hit := hit.offZ hM.o4 hg65 | replace hit := hit.offZ hM.o5 hg65 | replace hit := hit.offZ hM.o6 hg65 | replace hit := hit.offZ hM.o7 hg65 | replace hit := hit.offZ hM.o8 hg65 | replace hit := hit.offZ hM.o9 hg65 | skip
           replace hM := hM.s0 (e := _) hg65 hO65 inl_block
           try simp only [List.set_cons_zero, List.set_cons_succ] at hM
           replace hB := hB.trans hbl65
           refine LS.nil ?_
           refine W.seqR ?_
           refine LS.vv rfl rfl (by decide) (Val.move rfl) ?_
           refine LS.m rfl (Step.loadAgg0 rfl rfl (by decide) agg79 rfl (hM.o0.rd) rfl (by decide) ?_)
           refine LS.m rfl (Step.lookup2 rfl rfl (by decide) (keys_bb b2_79) Try.underlying83 elem82 rfl rfl hmn.own (fv_getD Nx (nxq a q)) (fv_isSome Nx (nxq a q)) ?_)
           refine LS.vv rfl rfl (by decide) (Val.move rfl) ?_
           refine LS.vv rfl rfl (by decide) (Val.extract rfl rfl) ?_
           refine LS.vv rfl rfl (by decide) (Val.extract rfl rfl) ?_
           refine LS.m rfl (Step.allocZ rfl rfl (by decide) elem82 rfl (by decide) ?_)
           rintro w66 hO66 hg66 hbl66 hsz66
           first | replace hmb := hmb.below hbl66 | replace hmb := hmb.offZ hM.o0 hg66 | replace hmb := hmb.offZ hM.o1 hg66 | replace hmb := hmb.offZ hM.o2 hg66 | replace hmb := hmb.offZ hM.o3 hg66 | replace hmb := hmb.offZ hM.o4 hg66 | replace hmb := hmb.offZ hM.o5 hg66 | replace hmb := hmb.offZ hM.o6 hg66 | replace hmb := hmb.offZ hM.o7 hg66 | replace hmb := hmb.offZ hM.o8 hg66 | replace hmb := hmb.offZ hM.o9 hg66 | skip
           first | replace hmn := hmn.below hbl66 | replace hmn := hmn.offZ hM.o0 hg66 | replace hmn := hmn.offZ hM.o1 hg66 | replace hmn := hmn.offZ hM.o2 hg66 | replace hmn := hmn.offZ hM.o3 hg66 | replace hmn := hmn.offZ hM.o4 hg66 | replace hmn := hmn.offZ hM.o5 hg66 | replace hmn := hmn.offZ hM.o6 hg66 | replace hmn := hmn.offZ hM.o7 hg66 | replace hmn := hmn.offZ hM.o8 hg66 | replace hmn := hmn.offZ hM.o9 hg66 | skip
           first | replace hit := hit.below hbl66 | replace hit := hit.offZ hM.o0 hg66 | replace hit := hit.offZ hM.o1 hg66 | replace hit := hit.offZ hM.o2 hg66 | replace hit := hit.offZ hM.o3 hg66 | replace hit := hit.offZ hM.o4 hg66 | replace hit := hit.offZ hM.o5 hg66 | replace hit := hit.offZ hM.o6 hg66 | replace hit := hit.offZ hM.o7 hg66 | replace hit := hit.offZ hM.o8 hg66 | replace hit := hit.offZ hM.o9 hg66 | skip
           replace hM := hM.add hB.size hbl66 hO66
           try simp only [List.length_cons, List.length_nil, Nat.zero_add, Nat.reduceAdd, Value.cells, List.toList_toArray, List.append_nil, List.set_cons_zero, List.set_cons_succ] at hM
           replace hB := hB.trans (hbl66.mono hB.size)
           generalize w65.heap.size = gg66 at *
           refine LS.m rfl (Step.storeAgg0 (B := w0.heap.size) rfl rfl agg82 rfl rfl rfl (by decide) (by first | exact one_map _ (fun _ => rfl) _ | simp [Value.oneCell']) (hM.o0) rfl hB.size ?_)
           rintro w67 hO67 hg67 hbl67 hsz67
           first | replace hmb := hmb.below hbl67 | replace hmb := hmb.offZ hM.o0 hg67 | replace hmb := hmb.offZ hM.o1 hg67 | replace hmb := hmb.offZ hM.o2 hg67 | replace hmb := hmb.offZ hM.o3 hg67 | replace hmb := hmb.offZ hM.o4 hg67 | replace hmb := hmb.offZ hM.o5 hg67 | replace hmb := hmb.offZ hM.o6 hg67 | replace hmb := hmb.offZ hM.o7 hg67 | replace hmb := hmb.offZ hM.o8 hg67 | replace hmb := hmb.offZ hM.o9 hg67 | skip
           first | replace hmn := hmn.below hbl67 | replace hmn := hmn.offZ hM.o0 hg67 | replace hmn := hmn.offZ hM.o1 hg67 | replace hmn := hmn.offZ hM.o2 hg67 | replace hmn := hmn.offZ hM.o3 hg67 | replace hmn := hmn.offZ hM.o4 hg67 | replace hmn := hmn.offZ hM.o5 hg67 | replace hmn := hmn.offZ hM.o6 hg67 | replace hmn := hmn.offZ hM.o7 hg67 | replace hmn := hmn.offZ hM.o8 hg67 | replace hmn := hmn.offZ hM.o9 hg67 | skip
           first | replace hit := hit.below hbl67 | replace hit := hit.offZ hM.o0 hg67 | replace hit := hit.offZ hM.o1 hg67 | replace hit := hit.offZ hM.o2 hg67 | replace hit := hit.offZ hM.o3 hg67 | replace hit := hit.offZ hM.o4 hg67 | replace hit := hit.offZ hM.o5 hg67 | replace hit := hit.offZ hM.o6 hg67 | replace hit := hit.offZ hM.o7 hg67 | replace hit := hit.offZ hM.o8 hg67 | replace hit := hit.offZ hM.o9 hg67 | skip
           replace hM := hM.s0 (e := _) hg67 hO67 inl_block
           try simp only [List.set_cons_zero, List.set_cons_succ] at hM
           replace hB := hB.trans hbl67
           refine LS.vv rfl rfl (by decide) (Val.assign rfl) ?_
           refine LS.nil ?_
           refine W.seqR ?_
           refine LS.vv rfl rfl (by decide) (Val.move rfl) ?_
           refine LS.vv rfl rfl (by decide) (Val.not rfl) ?_
           refine LS.vv rfl rfl (by decide) (Val.move rfl) ?_
           refine LS.split 2 rfl (fun hg25 => ?_) (fun hg25 => ?_)
           ·
            first | (have hg25p := of_decide_eq_true hg25) | skip
            refine LS.s rfl rfl rfl hg25 (by decide) ?_
            refine LS.s rfl rfl rfl hg25 (by decide) ?_
            refine LS.s rfl rfl rfl hg25 (by decide) ?_
            refine LS.vv rfl rfl (by decide) (Val.pickT rfl hg25 rfl) ?_
            refine LS.nil ?_
            refine W.condT rfl ?_
            refine W.reg ?_
            refine LS.vv rfl rfl (by decide) (Val.move rfl) ?_
            refine LS.m rfl (Step.loadAgg0 rfl rfl (by decide) agg79 rfl (hM.o1.rd) rfl (by decide) ?_)
            refine LS.m rfl (Step.loadAgg0 rfl rfl (by decide) agg82 rfl (hM.o2.rd) rfl (by decide) ?_)
            have hold : ∀ q2 m2, plT Nx (nxq a q) = some (q2, m2) → x.o + two xs k a (gb [false, true] q) ≤ m2 := fun q2 m2 h9 => by
              obtain ⟨y9, hy9, hy10, hy11⟩ := pl_inv h9
              first
                | (exfalso; have h7 : (Nx (nxq a q)).isSome = false := (by simpa using (by assumption : (!(Nx (nxq a q)).isSome) = true)); rw [hy9] at h7; cases h7)
                | (have h8 := hbt (by assumption); rw [hy] at hy9; cases hy9; rw [prt_two] at h8; omega)
            have hnx2 : Nxt N xs k (plT G) (plT (putG Nx (nxq a q) (xpv pq cq x q xs k a))) (fun s2 b2 => sn ks a q s2 b2 ∨ s2 = a ∧ b2 = (gb [false, true] q)) := by rw [pl_put]; exact hnx.take hTab (by omega) (nb_ok (by omega)) (pl_some hGx) hold
            refine LS.m rfl (Step.mapPutR (k := (nxq a q)) (v := .agg #[.slice pq (x.l.length + 1) cq, .int .i64 ((x.o + prt xs k a (gb [false, true] q) 2 : Nat) : Int)]) (.inl rfl) rfl (keys_bb b2_79) Try.underlying83 rfl rfl rfl hmn hB.size ?_)
            rintro wf hmn2 hg9 hbl9 hsz9
            replace hM := hM.mapR hmn hg9
            replace hmb := hmb.keep hg9 (fun h => hmne (Option.some.inj h))
            replace hit := hit.keep hg9 (fun h => hmne (Option.some.inj h)) (fun h => hit.ne_map hmn (Option.some.inj h))
            replace hB := hB.trans hbl9
            rw [pv_two, fv_put] at hmn2
            refine LS.nil ?_
            refine inBlk_normal ?_
            refine thenP_normal ?_
            refine W.reg ?_
            refine LS.vv rfl rfl (by decide) (Val.addN (j := 1) rfl rfl (by omega)) ?_
            refine LS.vv rfl rfl (by decide) (Val.move rfl) ?_
            refine LS.nil ?_
            refine thenP_normal ?_
            replace hM := hM.er2.er1.er0.sw0.sw1.sw2
            rw [show (x.l.length + 1) = (x.l ++ [(gb [false, true] q)]).length from by simp] at hM
            first
              | (refine ⟨(q + 1, putG Nx (nxq a q) (xpv pq cq x q xs k a), (xpv pq cq x q xs k a) :: T1), (Sub.cons rfl (Sub.nil _)), (by repeat (first | exact Sub.nil _ | refine Sub.cons rfl ?_)), ⟨⟨hmb, hmn2, hit, sn_next hnx2, hGT.more, hNT.put, by simp only; omega⟩, hM, hB⟩, by simp only; omega⟩)
              | (refine ⟨(q + 1, Nx, (xpv pq cq x q xs k a) :: T1), (Sub.cons rfl (Sub.nil _)), (by repeat (first | exact Sub.nil _ | refine Sub.cons rfl ?_)), ⟨⟨hmb, hmn, hit, sn_next hnx2, hGT.more, hNT.more, by simp only; omega⟩, hM, hB⟩, by simp only; omega⟩)
           ·
            first | (have hg25p := of_decide_eq_false hg25) | skip
            refine LS.mg rfl rfl hg25 (Step.loadAgg0 rfl rfl (by decide) agg82 rfl (hM.o2.rd) rfl (by decide) ?_)
            refine LS.mg rfl rfl hg25 (Step.loadAgg0 rfl rfl (by decide) agg82 rfl (hM.o0.rd) rfl (by decide) ?_)
            obtain ⟨y, hy⟩ := Option.isSome_iff_exists.1 (by simpa using (by assumption : (!(Nx (nxq a q)).isSome) = false))
            have hyd : ((Nx (nxq a q)).getD zPV) = y := by rw [hy]; rfl
            have hyp := hnx.path _ _ _ (pl_some hy)
            have hyl := hyp.len
            rw [hyd]
            refine LS.mg rfl rfl hg25 (Step.call body59 rfl rfl (by decide) rfl (CallsV.mono (better_any (x.l ++ [(gb [false, true] q)]) y.l pq y.p cq y.c (x.l.length + 1) y.l.length (x.o + prt xs k a (gb [false, true] q) 2) y.o _ hM.o3.rd (tp_rd hM (hNT _ _ hy) (fun o h => by simp [h])) (by simp) rfl (by omega) (by omega)) ?_))
            rintro _ w68 ⟨bb, rfl, hbt, hbf, hb68⟩
            replace hM := hM.below hb68
            try replace hmb := hmb.below hb68
            try replace hmn := hmn.below hb68
            try replace hit := hit.below hb68
            replace hB := hB.trans (hb68.mono hB.size)
            refine LS.vv rfl rfl (by decide) (Val.pickF rfl hg25 rfl) ?_
            refine LS.nil ?_
            first | refine W.condD rfl (fun hc26 => ?_) (fun hc26 => ?_) | refine W.cond rfl (fun hc26 => ?_) (fun hc26 => ?_)
            ·
             refine W.reg ?_
             refine LS.vv rfl rfl (by decide) (Val.move rfl) ?_
             refine LS.m rfl (Step.loadAgg0 rfl rfl (by decide) agg79 rfl (hM.o1.rd) rfl (by decide) ?_)
             refine LS.m rfl (Step.loadAgg0 rfl rfl (by decide) agg82 rfl (hM.o2.rd) rfl (by decide) ?_)
             have hold : ∀ q2 m2, plT Nx (nxq a q) = some (q2, m2) → x.o + two xs k a (gb [false, true] q) ≤ m2 := fun q2 m2 h9 => by
               obtain ⟨y9, hy9, hy10, hy11⟩ := pl_inv h9
               first
                 | (exfalso; have h7 : (Nx (nxq a q)).isSome = false := (by simpa using (by assumption : (!(Nx (nxq a q)).isSome) = true)); rw [hy9] at h7; cases h7)
                 | (have h8 := hbt (by assumption); rw [hy] at hy9; cases hy9; rw [prt_two] at h8; omega)
             have hnx2 : Nxt N xs k (plT G) (plT (putG Nx (nxq a q) (xpv pq cq x q xs k a))) (fun s2 b2 => sn ks a q s2 b2 ∨ s2 = a ∧ b2 = (gb [false, true] q)) := by rw [pl_put]; exact hnx.take hTab (by omega) (nb_ok (by omega)) (pl_some hGx) hold
             refine LS.m rfl (Step.mapPutR (k := (nxq a q)) (v := .agg #[.slice pq (x.l.length + 1) cq, .int .i64 ((x.o + prt xs k a (gb [false, true] q) 2 : Nat) : Int)]) (.inl rfl) rfl (keys_bb b2_79) Try.underlying83 rfl rfl rfl hmn hB.size ?_)
             rintro wf hmn2 hg9 hbl9 hsz9
             replace hM := hM.mapR hmn hg9
             replace hmb := hmb.keep hg9 (fun h => hmne (Option.some.inj h))
             replace hit := hit.keep hg9 (fun h => hmne (Option.some.inj h)) (fun h => hit.ne_map hmn (Option.some.inj h))
             replace hB := hB.trans hbl9
             rw [pv_two, fv_put] at hmn2
             refine LS.nil ?_
             refine inBlk_normal ?_
             refine thenP_normal ?_
             refine W.reg ?_
             refine LS.vv rfl rfl (by decide) (Val.addN (j := 1) rfl rfl (by omega)) ?_
             refine LS.vv rfl rfl (by decide) (Val.move rfl) ?_
             refine LS.nil ?_
             refine thenP_normal ?_
             replace hM := hM.er2.er1.er0.sw0.sw1.sw2
             rw [show (x.l.length + 1) = (x.l ++ [(gb [false, true] q)]).length from by simp] at hM
             first
               | (refine ⟨(q + 1, putG Nx (nxq a q) (xpv pq cq x q xs k a), (xpv pq cq x q xs k a) :: T1), (Sub.cons rfl (Sub.nil _)), (by repeat (first | exact Sub.nil _ | refine Sub.cons rfl ?_)), ⟨⟨hmb, hmn2, hit, sn_next hnx2, hGT.more, hNT.put, by simp only; omega⟩, hM, hB⟩, by simp only; omega⟩)
               | (refine ⟨(q + 1, Nx, (xpv pq cq x q xs k a) :: T1), (Sub.cons rfl (Sub.nil _)), (by repeat (first | exact Sub.nil _ | refine Sub.cons rfl ?_)), ⟨⟨hmb, hmn, hit, sn_next hnx2, hGT.more, hNT.more, by simp only; omega⟩, hM, hB⟩, by simp only; omega⟩)
            ·
             have hnx2 : Nxt N xs k (plT G) (plT Nx) (fun s2 b2 => sn ks a q s2 b2 ∨ s2 = a ∧ b2 = (gb [false, true] q)) := hnx.skip (pl_some hGx) (pl_some hy) (by have h8 := hbf (by assumption); rw [prt_two] at h8; exact h8)
             refine W.skip ?_
             refine inBlk_normal ?_
             refine thenP_normal ?_
             refine W.reg ?_
             refine LS.vv rfl rfl (by decide) (Val.addN (j := 1) rfl rfl (by omega)) ?_
             refine LS.vv rfl rfl (by decide) (Val.move rfl) ?_
             refine LS.nil ?_
             refine thenP_normal ?_
             replace hM := hM.er2.er1.er0.sw0.sw1.sw2
             rw [show (x.l.length + 1) = (x.l ++ [(gb [false, true] q)]).length from by simp] at hM
             first
               | (refine ⟨(q + 1, putG Nx (nxq a q) (xpv pq cq x q xs k a), (xpv pq cq x q xs k a) :: T1), (Sub.cons rfl (Sub.nil _)), (by repeat (first | exact Sub.nil _ | refine Sub.cons rfl ?_)), ⟨⟨hmb, hmn2, hit, sn_next hnx2, hGT.more, hNT.put, by simp only; omega⟩, hM, hB⟩, by simp only; omega⟩)
               | (refine ⟨(q + 1, Nx, (xpv pq cq x q xs k a) :: T1), (Sub.cons rfl (Sub.nil _)), (by repeat (first | exact Sub.nil _ | refine Sub.cons rfl ?_)), ⟨⟨hmb, hmn, hit, sn_next hnx2, hGT.more, hNT.more, by simp only; omega⟩, hM, hB⟩, by simp only; omega⟩)
        ·
         refine DT.m rfl rfl (Step.allocZ rfl rfl (by decide) elem82 rfl (by decide) ?_)
         rintro w69 hO69 hg69 hbl69 hsz69
         first | replace hmb := hmb.below hbl69 | replace hmb := hmb.offZ hM.o0 hg69 | replace hmb := hmb.offZ hM.o1 hg69 | replace hmb := hmb.offZ hM.o2 hg69 | replace hmb := hmb.offZ hM.o3 hg69 | replace hmb := hmb.offZ hM.o4 hg69 | replace hmb := hmb.offZ hM.o5 hg69 | replace hmb := hmb.offZ hM.o6 hg69 | replace hmb := hmb.offZ hM.o7 hg69 | replace hmb := hmb.offZ hM.o8 hg69 | replace hmb := hmb.offZ hM.o9 hg69 | skip
         first | replace hmn := hmn.below hbl69 | replace hmn := hmn.offZ hM.o0 hg69 | replace hmn := hmn.offZ hM.o1 hg69 | replace hmn := hmn.offZ hM.o2 hg69 | replace hmn := hmn.offZ hM.o3 hg69 | replace hmn := hmn.offZ hM.o4 hg69 | replace hmn := hmn.offZ hM.o5 hg69 | replace hmn := hmn.offZ hM.o6 hg69 | replace hmn := hmn.offZ hM.o7 hg69 | replace hmn := hmn.offZ hM.o8 hg69 | replace hmn := hmn.offZ hM.o9 hg69 | skip
         first | replace hit := hit.below hbl69 | replace hit := hit.offZ hM.o0 hg69 | replace hit := hit.offZ hM.o1 hg69 | replace hit := hit.offZ hM.o2 hg69 | replace hit := hit.offZ hM.o3 hg69 | replace hit := hit.offZ hM.o4 hg69 | replace hit := hit.offZ hM.o5 hg69 | replace hit := hit.offZ hM.o6 hg69 | replace hit := hit.offZ hM.o7 hg69 | replace hit := hit.offZ hM.o8 hg69 | replace hit := hit.offZ hM.o9 hg69 | skip
         replace hM := hM.add hB.size hbl69 hO69
         try simp only [List.length_cons, List.length_nil, Nat.zero_add, Nat.reduceAdd, Value.cells, List.toList_toArray, List.append_nil, List.set_cons_zero, List.set_cons_succ] at hM
         replace hB := hB.trans (hbl69.mono hB.size)
         generalize w45.heap.size = gg69 at *
         refine ⟨⟨hB, hM.er1.er0⟩, ?_⟩
         refine DT.m rfl rfl (Step.call body46 rfl rfl (by decide) rfl (CallsV.mono (clone_bool x.l x.p x.c _ (tp_rd hM (hGT _ _ hGx) (fun o h => by simp [h])) (by omega)) ?_))
         rintro _ w70 ⟨pq0, cq0, rfl, hOcl, hb70⟩
         replace hM := hM.add hB.size hb70 hOcl.toZ
         try replace hmb := hmb.below hb70
         try replace hmn := hmn.below hb70
         try replace hit := hit.below hb70
         replace hB := hB.trans (hb70.mono hB.size)
         refine ⟨⟨hB, hM.er2.er1.er0⟩, ?_⟩
         refine DT.m rfl rfl (Step.appendZ (B := w0.heap.size) rfl rfl (by decide) Try.underlying23 elem4 rfl (by decide) rfl rfl (hM.o0) (hM.o2.rd) rfl (by first | exact one_map _ (fun _ => rfl) _ | simp [Value.oneCell']) (by omega) (by omega) hB.size ?_)
         rintro p71 c71 w71 hO71 hg71 hbl71 hbk71
         first | replace hmb := hmb.below hbl71 | replace hmb := hmb.offZ hM.o0 hg71 | replace hmb := hmb.offZ hM.o1 hg71 | replace hmb := hmb.offZ hM.o2 hg71 | replace hmb := hmb.offZ hM.o3 hg71 | replace hmb := hmb.offZ hM.o4 hg71 | replace hmb := hmb.offZ hM.o5 hg71 | replace hmb := hmb.offZ hM.o6 hg71 | replace hmb := hmb.offZ hM.o7 hg71 | replace hmb := hmb.offZ hM.o8 hg71 | replace hmb := hmb.offZ hM.o9 hg71 | skip
         first | replace hmn := hmn.below hbl71 | replace hmn := hmn.offZ hM.o0 hg71 | replace hmn := hmn.offZ hM.o1 hg71 | replace hmn := hmn.offZ hM.o2 hg71 | replace hmn := hmn.offZ hM.o3 hg71 | replace hmn := hmn.offZ hM.o4 hg71 | replace hmn := hmn.offZ hM.o5 hg71 | replace hmn := hmn.offZ hM.o6 hg71 | replace hmn := hmn.offZ hM.o7 hg71 | replace hmn := hmn.offZ hM.o8 hg71 | replace hmn := hmn.offZ hM.o9 hg71 | skip
         first | replace hit := hit.below hbl71 | replace hit := hit.offZ hM.o0 hg71 | replace hit := hit.offZ hM.o1 hg71 | replace hit := hit.offZ hM.o2 hg71 | replace hit := hit.offZ hM.o3 hg71 | replace hit := hit.offZ hM.o4 hg71 | replace hit := hit.offZ hM.o5 hg71 | replace hit := hit.offZ hM.o6 hg71 | replace hit := hit.offZ hM.o7 hg71 | replace hit := hit.offZ hM.o8 hg71 | replace hit := hit.offZ hM.o9 hg71 | skip
         replace hM := hM.s0 (e := _) hg71 hO71 hbk71
         try simp only [bv_app1, bv_app, bv_set, bv_rep, bv_one, bv_cons, bv_take, bv_drop, List.nil_append] at hM
         replace hB := hB.trans hbl71
         refine ⟨⟨hB, hM.er2.er1.er0⟩, ?_⟩
         generalize p71 = pq at *
         generalize c71 = cq at *
         refine DT.vv rfl rfl rfl (by decide) (Val.build str82 elem82 rfl rfl rfl) ?_
         refine DT.m rfl rfl (Step.storeAgg0 (B := w0.heap.size) rfl rfl agg82 rfl rfl rfl (by decide) (by first | exact one_map _ (fun _ => rfl) _ | simp [Value.oneCell']) (hM.o1) rfl hB.size ?_)
         rintro w72 hO72 hg72 hbl72 hsz72
         first | replace hmb := hmb.below hbl72 | replace hmb := hmb.offZ hM.o0 hg72 | replace hmb := hmb.offZ hM.o1 hg72 | replace hmb := hmb.offZ hM.o2 hg72 | replace hmb := hmb.offZ hM.o3 hg72 | replace hmb := hmb.offZ hM.o4 hg72 | replace hmb := hmb.offZ hM.o5 hg72 | replace hmb := hmb.offZ hM.o6 hg72 | replace hmb := hmb.offZ hM.o7 hg72 | replace hmb := hmb.offZ hM.o8 hg72 | replace hmb := hmb.offZ hM.o9 hg72 | skip
         first | replace hmn := hmn.below hbl72 | replace hmn := hmn.offZ hM.o0 hg72 | replace hmn := hmn.offZ hM.o1 hg72 | replace hmn := hmn.offZ hM.o2 hg72 | replace hmn := hmn.offZ hM.o3 hg72 | replace hmn := hmn.offZ hM.o4 hg72 | replace hmn := hmn.offZ hM.o5 hg72 | replace hmn := hmn.offZ hM.o6 hg72 | replace hmn := hmn.offZ hM.o7 hg72 | replace hmn := hmn.offZ hM.o8 hg72 | replace hmn := hmn.offZ hM.o9 hg72 | skip
         first | replace hit := hit.below hbl72 | replace hit := hit.offZ hM.o0 hg72 | replace hit := hit.offZ hM.o1 hg72 | replace hit := hit.offZ hM.o2 hg72 | replace hit := hit.offZ hM.o3 hg72 | replace hit := hit.offZ hM.o4 hg72 | replace hit := hit.offZ hM.o5 hg72 | replace hit := hit.offZ hM.o6 hg72 | replace hit := hit.offZ hM.o7 hg72 | replace hit := hit.offZ hM.o8 hg72 | replace hit := hit.offZ hM.o9 hg72 | skip
         replace hM := hM.s1 (e := _) hg72 hO72 inl_block
         try simp only [List.set_cons_zero, List.set_cons_succ] at hM
         replace hB := hB.trans hbl72
         refine ⟨⟨hB, hM.er2.er1.er0⟩, ?_⟩
         refine DT.nil ?_
         refine W.seq ?_
         refine W.seqR ?_
         refine LS.m rfl (Step.loadAgg0 rfl rfl (by decide) agg79 rfl (hM.o3.rd) rfl (by decide) ?_)
         refine LS.vv rfl rfl (by decide) (Val.move rfl) ?_
         refine LS.m rfl (Step.call body58 rfl rfl (by decide) rfl (CallsV.mono (out_any a (gb [false, true] q) _) ?_))
         rintro _ w73 ⟨rfl, hb73⟩
         replace hM := hM.below hb73
         try replace hmb := hmb.below hb73
         try replace hmn := hmn.below hb73
         try replace hit := hit.below hb73
         replace hB := hB.trans (hb73.mono hB.size)
         refine LS.vv rfl rfl (by decide) (Val.cast (v := .int .i64 ((0 : Nat) : Int)) (Val.move rfl) rfl) ?_
         refine LS.nil ?_
         refine W.block ?_
         skip
         replace hM := hM.er2.sw0
         refine W.loop (α := Nat) (fun i => [(77, .int .i64 (i : Int))]) [(0, _), (5, _), (7, _), (8, _), (9, _), (10, _), (12, _), (13, _), (40, _), (41, _), (46, _), (59, _), (60, _), (61, _), (76, _)] (fun i w => (MapR encB w w0.heap.size mb (fv G) ∧ MapR encB w w0.heap.size mn (fv Nx) ∧ OwnIter encB w w0.heap.size mb it (ks ++ [a]) ∧ i ≤ 2) ∧ Mz w w0.heap.size (⟨82, 2, some ⟨gg69, 0, none⟩, 1, 1, [.slice pq (x.l.length + 1) cq, .int .i64 ((x.o + prt xs k a (gb [false, true] q) i : Nat) : Int)]⟩ :: ⟨4, 1, pq, x.l.length + 1, cq, bv (x.l ++ [(gb [false, true] q)])⟩ :: ⟨79, 2, some ⟨gg3, 0, none⟩, 1, 1, [.bool a.1, .bool a.2]⟩ :: ⟨82, 2, some ⟨gg4, 0, none⟩, 1, 1, [.slice x.p x.l.length x.c, .int .i64 (x.o : Int)]⟩ :: ⟨4, 1, some ⟨gg7, 0, none⟩, 2, 2, bv [false, true]⟩ :: (tp T1)) ∧ Below w0.heap.size w0 w) (fun i => 2 - i) (0) (Sub.cons rfl (Sub.nil _)) (Sub.cons rfl (Sub.cons rfl (Sub.cons rfl (Sub.cons rfl (Sub.cons rfl (Sub.cons rfl (Sub.cons rfl (Sub.cons rfl (Sub.cons rfl (Sub.cons rfl (Sub.cons rfl (Sub.cons rfl (Sub.cons rfl (Sub.cons rfl (Sub.cons rfl (Sub.nil _)))))))))))))))) ?_ ?_
         · exact ⟨⟨hmb, hmn, hit, Nat.zero_le _⟩, (by simp only [prt_zero, Nat.add_zero]; exact hM), hB⟩
         rintro i w74 ⟨⟨hmb, hmn, hit, hi2⟩, hM, hB⟩
         try simp only at hM
         simp only [List.cons_append, List.nil_append]
         have hpl := prt_le xs k a (gb [false, true] q) i
         have hps := fun h => prt_succ xs k a (gb [false, true] q) (i := i) h
         refine W.seqR ?_
         refine LS.vv rfl rfl (by decide) (Val.lss rfl rfl) ?_
         refine LS.nil ?_
         refine W.seq ?_
         first | refine W.condD rfl (fun hc27 => ?_) (fun hc27 => ?_) | refine W.cond rfl (fun hc27 => ?_) (fun hc27 => ?_)
         ·
          refine W.skip ?_
          refine thenP_normal ?_
          refine W.seq ?_
          refine W.block ?_
          refine W.seqR ?_
          refine LS.vv rfl rfl (by decide) (Val.move rfl) ?_
          refine LS.vv rfl rfl (by decide) (Val.cast (v := .bool (if i = 0 then out0 a (gb [false, true] q) else out1 a (gb [false, true] q))) (Val.indexV2 Try.underlying78 elem4 ag4 rfl rfl (by omega)) (by split <;> rfl)) ?_
          refine LS.vv rfl rfl (by decide) (Val.assign rfl) ?_
          refine LS.vv rfl rfl (by decide) (Val.assign rfl) ?_
          refine LS.nil ?_
          refine W.seqR ?_
          refine LS.vv rfl rfl (by decide) (Val.move rfl) ?_
          refine LS.vv rfl rfl (by decide) (Val.move rfl) ?_
          refine LS.vv rfl rfl (by decide) (Val.move rfl) ?_
          first | refine LS.vv rfl rfl (by decide) (Val.mulN (i := 2) rfl rfl (by omega)) ?_ | refine LS.vv rfl rfl (by decide) (Val.mul64 rfl rfl (by omega)) ?_
          refine LS.vv rfl rfl (by decide) (Val.move rfl) ?_
          first | refine LS.vv rfl rfl (by decide) (Val.addN rfl rfl (by omega)) ?_ | refine LS.vv rfl rfl (by decide) (Val.add64 rfl rfl (by omega)) ?_
          refine LS.vv rfl rfl (by decide) (Val.index1 Try.underlying23 elem4 rfl rfl (by omega) ((hr.below hB)) (bv_lt (by omega))) ?_
          refine LS.m rfl (Step.load rfl rfl (by decide) flat4 rfl ((hr.below hB)) (bv_at (by omega)) ?_)
          refine LS.vv rfl rfl (by decide) (Val.neqB Try.underlying4 rfl rfl) ?_
          refine LS.nil ?_
          first | refine W.condD rfl (fun hc28 => ?_) (fun hc28 => ?_) | refine W.cond rfl (fun hc28 => ?_) (fun hc28 => ?_)
          ·
           refine W.reg ?_
           refine LS.vv rfl rfl (by decide) (Val.fieldAddr0 fld82_1 rfl) ?_
           refine LS.m rfl (Step.load rfl rfl (by decide) flat3 rfl (hM.o0.rd) (rfl) ?_)
           refine LS.vv rfl rfl (by decide) (Val.addN (j := 1) rfl rfl (by omega)) ?_
           refine LS.vv rfl rfl (by decide) (Val.fieldAddr0 fld82_1 rfl) ?_
           refine LS.m rfl (Step.storeZ (B := w0.heap.size) rfl rfl flat3 elem3 rfl rfl rfl (hM.o0) (by first | decide | (simp; done) | (simp; omega) | omega) hB.size ?_)
           rintro w75 hO75 hg75 hbl75 hsz75
           first | replace hmb := hmb.below hbl75 | replace hmb := hmb.offZ hM.o0 hg75 | replace hmb := hmb.offZ hM.o1 hg75 | replace hmb := hmb.offZ hM.o2 hg75 | replace hmb := hmb.offZ hM.o3 hg75 | replace hmb := hmb.offZ hM.o4 hg75 | replace hmb := hmb.offZ hM.o5 hg75 | replace hmb := hmb.offZ hM.o6 hg75 | replace hmb := hmb.offZ hM.o7 hg75 | replace hmb := hmb.offZ hM.o8 hg75 | replace hmb := hmb.offZ hM.o9 hg75 | skip
           first | replace hmn := hmn.below hbl75 | replace hmn := hmn.offZ hM.o0 hg75 | replace hmn := hmn.offZ hM.o1 hg75 | replace hmn := hmn.offZ hM.o2 hg75 | replace hmn := hmn.offZ hM.o3 hg75 | replace hmn := hmn.offZ hM.o4 hg75 | replace hmn := hmn.offZ hM.o5 hg75 | replace hmn := hmn.offZ hM.o6 hg75 | replace hmn := hmn.offZ hM.o7 hg75 | replace hmn := hmn.offZ hM.o8 hg75 | replace hmn := hmn.offZ hM.o9 hg75 | skip
           first | replace hit := hit.below hbl75 | replace hit := hit.offZ hM.o0 hg75 | replace hit := hit.offZ hM.o1 hg75 | replace hit := hit.offZ hM.o2 hg75 | replace hit := hit.offZ hM.o3 hg75 | replace hit := hit.offZ hM.o4 hg75 | replace hit := hit.offZ hM.o5 hg75 | replace hit := hit.offZ hM.o6 hg75 | replace hit := hit.offZ hM.o7 hg75 | replace hit := hit.offZ hM.o8 hg75 | replace hit := hit.offZ hM.o9 hg75 | skip
           replace hM := hM.s0 (e := _) hg75 hO75 inl_block
           try simp only [List.set_cons_zero, List.set_cons_succ] at hM
           replace hB := hB.trans hbl75
           refine LS.nil ?_
           refine inBlk_normal ?_
           refine thenP_normal ?_
           refine W.reg ?_
           refine LS.vv rfl rfl (by decide) (Val.addN (j := 1) rfl rfl (by omega)) ?_
           refine LS.vv rfl rfl (by decide) (Val.move rfl) ?_
           refine LS.nil ?_
           refine thenP_normal ?_
           have hps2 := hps (by omega)
           first
             | (rw [if_pos (by assumption)] at hps2
                refine ⟨i + 1, (Sub.cons rfl (Sub.nil _)), (by repeat (first | exact Sub.nil _ | refine Sub.cons rfl ?_)), ⟨⟨hmb, hmn, hit, by omega⟩, (by rw [hps2, ← Nat.add_assoc]; exact hM), hB⟩, by omega⟩)
             | (rw [if_neg (by assumption), Nat.add_zero] at hps2
                refine ⟨i + 1, (Sub.cons rfl (Sub.nil _)), (by repeat (first | exact Sub.nil _ | refine Sub.cons rfl ?_)), ⟨⟨hmb, hmn, hit, by omega⟩, (by rw [hps2]; exact hM), hB⟩, by omega⟩)
          ·
           refine W.skip ?_
           refine inBlk_normal ?_
           refine thenP_normal ?_
           refine W.reg ?_
           refine LS.vv rfl rfl (by decide) (Val.addN (j := 1) rfl rfl (by omega)) ?_
           refine LS.vv rfl rfl (by decide) (Val.move rfl) ?_
           refine LS.nil ?_
           refine thenP_normal ?_
           have hps2 := hps (by omega)
           first
             | (rw [if_pos (by assumption)] at hps2
                refine ⟨i + 1, (Sub.cons rfl (Sub.nil _)), (by repeat (first | exact Sub.nil _ | refine Sub.cons rfl ?_)), ⟨⟨hmb, hmn, hit, by omega⟩, (by rw [hps2, ← Nat.add_assoc]; exact hM), hB⟩, by omega⟩)
             | (rw [if_neg (by assumption), Nat.add_zero] at hps2
                refine ⟨i + 1, (Sub.cons rfl (Sub.nil _)), (by repeat (first | exact Sub.nil _ | refine Sub.cons rfl ?_)), ⟨⟨hmb, hmn, hit, by omega⟩, (by rw [hps2]; exact hM), hB⟩, by omega⟩)
         ·
          obtain rfl : i = 2 := by omega
          refine W.exit ?_
          refine thenP_exit ?_
          refine thenP_exit ?_
          refine inBlk_exit ?_
          refine thenP_normal ?_
          refine W.seqR ?_
          refine LS.vv rfl rfl (by decide) (Val.move rfl) ?_
          refine LS.vv rfl rfl (by decide) (Val.indexArr (j := 0) Try.underlying79 elem4 rfl rfl (by omega)) ?_
          refine LS.m rfl (Step.load rfl rfl (by decide) flat4 rfl (hM.o2.rd) (rfl) ?_)
          refine LS.vv rfl rfl (by decide) (Val.buildArr Try.underlying79 elem79 elem4 rfl (fill_b2 _ _)) ?_
          refine LS.m rfl (Step.allocZ rfl rfl (by decide) elem79 rfl (by decide) ?_)
          rintro w76 hO76 hg76 hbl76 hsz76
          first | replace hmb := hmb.below hbl76 | replace hmb := hmb.offZ hM.o0 hg76 | replace hmb := hmb.offZ hM.o1 hg76 | replace hmb := hmb.offZ hM.o2 hg76 | replace hmb := hmb.offZ hM.o3 hg76 | replace hmb := hmb.offZ hM.o4 hg76 | replace hmb := hmb.offZ hM.o5 hg76 | replace hmb := hmb.offZ hM.o6 hg76 | replace hmb := hmb.offZ hM.o7 hg76 | replace hmb := hmb.offZ hM.o8 hg76 | replace hmb := hmb.offZ hM.o9 hg76 | skip
          first | replace hmn := hmn.below hbl76 | replace hmn := hmn.offZ hM.o0 hg76 | replace hmn := hmn.offZ hM.o1 hg76 | replace hmn := hmn.offZ hM.o2 hg76 | replace hmn := hmn.offZ hM.o3 hg76 | replace hmn := hmn.offZ hM.o4 hg76 | replace hmn := hmn.offZ hM.o5 hg76 | replace hmn := hmn.offZ hM.o6 hg76 | replace hmn := hmn.offZ hM.o7 hg76 | replace hmn := hmn.offZ hM.o8 hg76 | replace hmn := hmn.offZ hM.o9 hg76 | skip
          first | replace hit := hit.below hbl76 | replace hit := hit.offZ hM.o0 hg76 | replace hit := hit.offZ hM.o1 hg76 | replace hit := hit.offZ hM.o2 hg76 | replace hit := hit.offZ hM.o3 hg76 | replace hit := hit.offZ hM.o4 hg76 | replace hit := hit.offZ hM.o5 hg76 | replace hit := hit.offZ hM.o6 hg76 | replace hit := hit.offZ hM.o7 hg76 | replace hit := hit.offZ hM.o8 hg76 | replace hit := hit.offZ hM.o9 hg76 | skip
          replace hM := hM.add hB.size hbl76 hO76
          try simp only [List.length_cons, List.length_nil, Nat.zero_add, Nat.reduceAdd, Value.cells, List.toList_toArray, List.append_nil, List.set_cons_zero, List.set_cons_succ] at hM
          replace hB := hB.trans (hbl76.mono hB.size)
          generalize w74.heap.size = gg76 at *
          refine LS.m rfl (Step.storeAgg0 (B := w0.heap.size) rfl rfl agg79 rfl rfl rfl (by decide) (by first | exact one_map _ (fun _ => rfl) _ | simp [Value.oneCell']) (hM.o0) rfl hB.size ?_)
          rintro w77 hO77 hg77 hbl77 hsz77
          first | replace hmb := hmb.below hbl77 | replace hmb := hmb.offZ hM.o0 hg77 | replace hmb := hmb.offZ hM.o1 hg77 | replace hmb := hmb.offZ hM.o2 hg77 | replace hmb := hmb.offZ hM.o3 hg77 | replace hmb := hmb.offZ hM.o4 hg77 | replace hmb := hmb.offZ hM.o5 hg77 | replace hmb := hmb.offZ hM.o6 hg77 | replace hmb := hmb.offZ hM.o7 hg77 | replace hmb := hmb.offZ hM.o8 hg77 | replace hmb := hmb.offZ hM.o9 hg77 | skip
          first | replace hmn := hmn.below hbl77 | replace hmn := hmn.offZ hM.o0 hg77 | replace hmn := hmn.offZ hM.o1 hg77 | replace hmn := hmn.offZ hM.o2 hg77 | replace hmn := hmn.offZ hM.o3 hg77 | replace hmn := hmn.offZ hM.o4 hg77 | replace hmn := hmn.offZ hM.o5 hg77 | replace hmn := hmn.offZ hM.o6 hg77 | replace hmn := hmn.offZ hM.o7 hg77 | replace hmn := hmn.offZ hM.o8 hg77 | replace hmn := hmn.offZ hM.o9 hg77 | skip
          first | replace hit := hit.below hbl77 | replace hit := hit.offZ hM.o0 hg77 | replace hit := hit.offZ hM.o1 hg77 | replace hit := hit.offZ hM.o2 hg77 | replace hit := hit.offZ hM.o3 hg77 | replace hit := hit.offZ hM.o4 hg77 | replace hit := hit.offZ hM.o5 hg77 | replace hit := hit.offZ hM.o6 hg77 | replace hit := hit.offZ hM.o7 hg77 | replace hit := hit.offZ hM.o8 hg77 | replace hit := hit.offZ hM.o9 hg77 | skip
          replace hM := hM.s0 (e := _) hg77 hO77 inl_block
          try simp only [List.set_cons_zero, List.set_cons_succ] at hM
          replace hB := hB.trans hbl77
          refine LS.nil ?_
          refine W.seqR ?_
          refine LS.vv rfl rfl (by decide) (Val.move rfl) ?_
          refine LS.m rfl (Step.loadAgg0 rfl rfl (by decide) agg79 rfl (hM.o0.rd) rfl (by decide) ?_)
          refine LS.m rfl (Step.lookup2 rfl rfl (by decide) (keys_bb b2_79) Try.underlying83 elem82 rfl rfl hmn.own (fv_getD Nx (nxq a q)) (fv_isSome Nx (nxq a q)) ?_)
          refine LS.vv rfl rfl (by decide) (Val.move rfl) ?_
          refine LS.vv rfl rfl (by decide) (Val.extract rfl rfl) ?_
          refine LS.vv rfl rfl (by decide) (Val.extract rfl rfl) ?_
          refine LS.m rfl (Step.allocZ rfl rfl (by decide) elem82 rfl (by decide) ?_)
          rintro w78 hO78 hg78 hbl78 hsz78
          first | replace hmb := hmb.below hbl78 | replace hmb := hmb.offZ hM.o0 hg78 | replace hmb := hmb.offZ hM.o1 hg78 | replace hmb := hmb.offZ hM.o2 hg78 | replace hmb := hmb.offZ hM.o3 hg78 | replace hmb := hmb.offZ hM.o4 hg78 | replace hmb := hmb.offZ hM.o5 hg78 | replace hmb := hmb.offZ hM.o6 hg78 | replace hmb := hmb.offZ hM.o7 hg78 | replace hmb := hmb.offZ hM.o8 hg78 | replace hmb := hmb.offZ hM.o9 hg78 | skip
          first | replace hmn := hmn.below hbl78 | replace hmn := hmn.offZ hM.o0 hg78 | replace hmn := hmn.offZ hM.o1 hg78 | replace hmn := hmn.offZ hM.o2 hg78 | replace hmn := hmn.offZ hM.o3 hg78 | replace hmn := hmn.offZ hM.o4 hg78 | replace hmn := hmn.offZ hM.o5 hg78 | replace hmn := hmn.offZ hM.o6 hg78 | replace hmn := hmn.offZ hM.o7 hg78 | replace hmn := hmn.offZ hM.o8 hg78 | replace hmn := hmn.offZ hM.o9 hg78 | skip
          first | replace hit := hit.below hbl78 | replace hit := hit.offZ hM.o0 hg78 | replace hit := hit.offZ hM.o1 hg78 | replace hit := hit.offZ hM.o2 hg78 | replace hit := hit.offZ hM.o3 hg78 | replace hit := hit.offZ hM.o4 hg78 | replace hit := hit.offZ hM.o5 hg78 | replace hit := hit.offZ hM.o6 hg78 | replace hit := hit.offZ hM.o7 hg78 | replace hit := hit.offZ hM.o8 hg78 | replace hit := hit.offZ hM.o9 hg78 | skip
          replace hM := hM.add hB.size hbl78 hO78
          try simp only [List.length_cons, List.length_nil, Nat.zero_add, Nat.reduceAdd, Value.cells, List.toList_toArray, List.append_nil, List.set_cons_zero, List.set_cons_succ] at hM
          replace hB := hB.trans (hbl78.mono hB.size)
          generalize w77.heap.size = gg78 at *
          refine LS.m rfl (Step.storeAgg0 (B := w0.heap.size) rfl rfl agg82 rfl rfl rfl (by decide) (by first | exact one_map _ (fun _ => rfl) _ | simp [Value.oneCell']) (hM.o0) rfl hB.size ?_)
          rintro w79 hO79 hg79 hbl79 hsz79
          first | replace hmb := hmb.below hbl79 | replace hmb := hmb.offZ hM.o0 hg79 | replace hmb := hmb.offZ hM.o1 hg79 | replace hmb := hmb.offZ hM.o2 hg79 | replace hmb := hmb.offZ hM.o3 hg79 | replace hmb := hmb.offZ hM.o4 hg79 | replace hmb := hmb.offZ hM.o5 hg79 | replace hmb := hmb.offZ hM.o6 hg79 | replace hmb := hmb.offZ hM.o7 hg79 | replace hmb := hmb.offZ hM.o8 hg79 | replace hmb := hmb.offZ hM.o9 hg79 | skip
          first | replace hmn := hmn.below hbl79 | replace hmn := hmn.offZ hM.o0 hg79 | replace hmn := hmn.offZ hM.o1 hg79 | replace hmn := hmn.offZ hM.o2 hg79 | replace hmn := hmn.offZ hM.o3 hg79 | replace hmn := hmn.offZ hM.o4 hg79 | replace hmn := hmn.offZ hM.o5 hg79 | replace hmn := hmn.offZ hM.o6 hg79 | replace hmn := hmn.offZ hM.o7 hg79 | replace hmn := hmn.offZ hM.o8 hg79 | replace hmn := hmn.offZ hM.o9 hg79 | skip
          first | replace hit := hit.below hbl79 | replace hit := hit.offZ hM.o0 hg79 | replace hit := hit.offZ hM.o1 hg79 | replace hit := hit.offZ hM.o2 hg79 | replace hit := hit.offZ hM.o3 hg79 | replace hit := hit.offZ hM.o4 hg79 | replace hit := hit.offZ hM.o5 hg79 | replace hit := hit.offZ hM.o6 hg79 | replace hit := hit.offZ hM.o7 hg79 | replace hit := hit.offZ hM.o8 hg79 | replace hit := hit.offZ hM.o9 hg79 | skip
          replace hM := hM.s0 (e := _) hg79 hO79 inl_block
          try simp only [List.set_cons_zero, List.set_cons_succ] at hM
          replace hB := hB.trans hbl79
          refine LS.vv rfl rfl (by decide) (Val.assign rfl) ?_
          refine LS.nil ?_
          refine W.seqR ?_
          refine LS.vv rfl rfl (by decide) (Val.move rfl) ?_
          refine LS.vv rfl rfl (by decide) (Val.not rfl) ?_
          refine LS.vv rfl rfl (by decide) (Val.move rfl) ?_
          refine LS.split 2 rfl (fun hg29 => ?_) (fun hg29 => ?_)
          ·
           first | (have hg29p := of_decide_eq_true hg29) | skip
           refine LS.s rfl rfl rfl hg29 (by decide) ?_
           refine LS.s rfl rfl rfl hg29 (by decide) ?_
           refine LS.s rfl rfl rfl hg29 (by decide) ?_
           refine LS.vv rfl rfl (by decide) (Val.pickT rfl hg29 rfl) ?_
           refine LS.nil ?_
           refine W.condT rfl ?_
           refine W.reg ?_
           refine LS.vv rfl rfl (by decide) (Val.move rfl) ?_
           refine LS.m rfl (Step.loadAgg0 rfl rfl (by decide) agg79 rfl (hM.o1.rd) rfl (by decide) ?_)
           refine LS.m rfl (Step.loadAgg0 rfl rfl (by decide) agg82 rfl (hM.o2.rd) rfl (by decide) ?_)
           have hold : ∀ q2 m2, plT Nx (nxq a q) = some (q2, m2) → x.o + two xs k a (gb [false, true] q) ≤ m2 := fun q2 m2 h9 => by
             obtain ⟨y9, hy9, hy10, hy11⟩ := pl_inv h9
             first
               | (exfalso; have h7 : (Nx (nxq a q)).isSome = false := (by simpa using (by assumption : (!(Nx (nxq a q)).isSome) = true)); rw [hy9] at h7; cases h7)
               | (have h8 := hbt (by assumption); rw [hy] at hy9; cases hy9; rw [prt_two] at h8; omega)
           have hnx2 : Nxt N xs k (plT G) (plT (putG Nx (nxq a q) (xpv pq cq x q xs k a))) (fun s2 b2 => sn ks a q s2 b2 ∨ s2 = a ∧ b2 = (gb [false, true] q)) := by rw [pl_put]; exact hnx.take hTab (by omega) (nb_ok (by omega)) (pl_some hGx) hold
           refine LS.m rfl (Step.mapPutR (k := (nxq a q)) (v := .agg #[.slice pq (x.l.length + 1) cq, .int .i64 ((x.o + prt xs k a (gb [false, true] q) 2 : Nat) : Int)]) (.inl rfl) rfl (keys_bb b2_79) Try.underlying83 rfl rfl rfl hmn hB.size ?_)
           rintro wf hmn2 hg9 hbl9 hsz9
           replace hM := hM.mapR hmn hg9
           replace hmb := hmb.keep hg9 (fun h => hmne (Option.some.inj h))
           replace hit := hit.keep hg9 (fun h => hmne (Option.some.inj h)) (fun h => hit.ne_map hmn (Option.some.inj h))
           replace hB := hB.trans hbl9
           rw [pv_two, fv_put] at hmn2
           refine LS.nil ?_
           refine inBlk_normal ?_
           refine thenP_normal ?_
           refine W.reg ?_
           refine LS.vv rfl rfl (by decide) (Val.addN (j := 1) rfl rfl (by omega)) ?_
           refine LS.vv rfl rfl (by decide) (Val.move rfl) ?_
           refine LS.nil ?_
           refine thenP_normal ?_
           replace hM := hM.er2.er1.er0.sw0.sw1.sw2
           rw [show (x.l.length + 1) = (x.l ++ [(gb [false, true] q)]).length from by simp] at hM
           first
             | (refine ⟨(q + 1, putG Nx (nxq a q) (xpv pq cq x q xs k a), (xpv pq cq x q xs k a) :: T1), (Sub.cons rfl (Sub.nil _)), (by repeat (first | exact Sub.nil _ | refine Sub.cons rfl ?_)), ⟨⟨hmb, hmn2, hit, sn_next hnx2, hGT.more, hNT.put, by simp only; omega⟩, hM, hB⟩, by simp only; omega⟩)
             | (refine ⟨(q + 1, Nx, (xpv pq cq x q xs k a) :: T1), (Sub.cons rfl (Sub.nil _)), (by repeat (first | exact Sub.nil _ | refine Sub.cons rfl ?_)), ⟨⟨hmb, hmn, hit, sn_next hnx2, hGT.more, hNT.more, by simp only; omega⟩, hM, hB⟩, by simp only; omega⟩)
          ·
           first | (have hg29p := of_decide_eq_false hg29) | skip
           refine LS.mg rfl rfl hg29 (Step.loadAgg0 rfl rfl (by decide) agg82 rfl (hM.o2.rd) rfl (by decide) ?_)
           refine LS.mg rfl rfl hg29 (Step.loadAgg0 rfl rfl (by decide) agg82 rfl (hM.o0.rd) rfl (by decide) ?_)
           obtain ⟨y, hy⟩ := Option.isSome_iff_exists.1 (by simpa using (by assumption : (!(Nx (nxq a q)).isSome) = false))
           have hyd : ((Nx (nxq a q)).getD zPV) = y := by rw [hy]; rfl
           have hyp := hnx.path _ _ _ (pl_some hy)
           have hyl := hyp.len
           rw [hyd]
           refine LS.mg rfl rfl hg29 (Step.call body59 rfl rfl (by decide) rfl (CallsV.mono (better_any (x.l ++ [(gb [false, true] q)]) y.l pq y.p cq y.c (x.l.length + 1) y.l.length (x.o + prt xs k a (gb [false, true] q) 2) y.o _ hM.o3.rd (tp_rd hM (hNT _ _ hy) (fun o h => by simp [h])) (by simp) rfl (by omega) (by omega)) ?_))
           rintro _ w80 ⟨bb, rfl, hbt, hbf, hb80⟩
           replace hM := hM.below hb80
           try replace hmb := hmb.below hb80
           try replace hmn := hmn.below hb80
           try replace hit := hit.below hb80
           replace hB := hB.trans (hb80.mono hB.size)
           refine LS.vv rfl rfl (by decide) (Val.pickF rfl hg29 rfl) ?_
           refine LS.nil ?_
           first | refine W.condD rfl (fun hc30 => ?_) (fun hc30 => ?_) | refine W.cond rfl (fun hc30 => ?_) (fun hc30 => ?_)
           ·
            refine W.reg ?_
            refine LS.vv rfl rfl (by decide) (Val.move rfl) ?_
            refine LS.m rfl (Step.loadAgg0 rfl rfl (by decide) agg79 rfl (hM.o1.rd) rfl (by decide) ?_)
            refine LS.m rfl (Step.loadAgg0 rfl rfl (by decide) agg82 rfl (hM.o2.rd) rfl (by decide) ?_)
            have hold : ∀ q2 m2, plT Nx (nxq a q) = some (q2, m2) → x.o + two xs k a (gb [false, true] q) ≤ m2 := fun q2 m2 h9 => by
              obtain ⟨y9, hy9, hy10, hy11⟩ := pl_inv h9
              first
                | (exfalso; have h7 : (Nx (nxq a q)).isSome = false := (by simpa using (by assumption : (!(Nx (nxq a q)).isSome) = true)); rw [hy9] at h7; cases h7)
                | (have h8 := hbt (by assumption); rw [hy] at hy9; cases hy9; rw [prt_two] at h8; omega)
            have hnx2 : Nxt N xs k (plT G) (plT (putG Nx (nxq a q) (xpv pq cq x q xs k a))) (fun s2 b2 => sn ks a q s2 b2 ∨ s2 = a ∧ b2 = (gb [false, true] q)) := by rw [pl_put]; exact hnx.take hTab (by omega) (nb_ok (by omega)) (pl_some hGx) hold
            refine LS.m rfl (Step.mapPutR (k := (nxq a q)) (v := .agg #[.slice pq (x.l.length + 1) cq, .int .i64 ((x.o + prt xs k a (gb [false, true] q) 2 : Nat) : Int)]) (.inl rfl) rfl (keys_bb b2_79) Try.underlying83 rfl rfl rfl hmn hB.size ?_)
            rintro wf hmn2 hg9 hbl9 hsz9
            replace hM := hM.mapR hmn hg9
            replace hmb := hmb.keep hg9 (fun h => hmne (Option.some.inj h))
            replace hit := hit.keep hg9 (fun h => hmne (Option.some.inj h)) (fun h => hit.ne_map hmn (Option.some.inj h))
            replace hB := hB.trans hbl9
            rw [pv_two, fv_put] at hmn2
            refine LS.nil ?_
            refine inBlk_normal ?_
            refine thenP_normal ?_
            refine W.reg ?_
            refine LS.vv rfl rfl (by decide) (Val.addN (j := 1) rfl rfl (by omega)) ?_
            refine LS.vv rfl rfl (by decide) (Val.move rfl) ?_
            refine LS.nil ?_
            refine thenP_normal ?_
            replace hM := hM.er2.er1.er0.sw0.sw1.sw2
            rw [show (x.l.length + 1) = (x.l ++ [(gb [false, true] q)]).length from by simp] at hM
            first
              | (refine ⟨(q + 1, putG Nx (nxq a q) (xpv pq cq x q xs k a), (xpv pq cq x q xs k a) :: T1), (Sub.cons rfl (Sub.nil _)), (by repeat (first | exact Sub.nil _ | refine Sub.cons rfl ?_)), ⟨⟨hmb, hmn2, hit, sn_next hnx2, hGT.more, hNT.put, by simp only; omega⟩, hM, hB⟩, by simp only; omega⟩)
              | (refine ⟨(q + 1, Nx, (xpv pq cq x q xs k a) :: T1), (Sub.cons rfl (Sub.nil _)), (by repeat (first | exact Sub.nil _ | refine Sub.cons rfl ?_)), ⟨⟨hmb, hmn, hit, sn_next hnx2, hGT.more, hNT.more, by simp only; omega⟩, hM, hB⟩, by simp only; omega⟩)
           ·
            have hnx2 : Nxt N xs k (plT G) (plT Nx) (fun s2 b2 => sn ks a q s2 b2 ∨ s2 = a ∧ b2 = (gb [false, true] q)) := hnx.skip (pl_some hGx) (pl_some hy) (by have h8 := hbf (by assumption); rw [prt_two] at h8; exact h8)
            refine W.skip ?_
            refine inBlk_normal ?_
            refine thenP_normal ?_
            refine W.reg ?_
            refine LS.vv rfl rfl (by decide) (Val.addN (j := 1) rfl rfl (by omega)) ?_
            refine LS.vv rfl rfl (by decide) (Val.move rfl) ?_
            refine LS.nil ?_
            refine thenP_normal ?_
            replace hM := hM.er2.er1.er0.sw0.sw1.sw2
            rw [show (x.l.length + 1) = (x.l ++ [(gb [false, true] q)]).length from by simp] at hM
            first
              | (refine ⟨(q + 1, putG Nx (nxq a q) (xpv pq cq x q xs k a), (xpv pq cq x q xs k a) :: T1), (Sub.cons rfl (Sub.nil _)), (by repeat (first | exact Sub.nil _ | refine Sub.cons rfl ?_)), ⟨⟨hmb, hmn2, hit, sn_next hnx2, hGT.more, hNT.put, by simp only; omega⟩, hM, hB⟩, by simp only; omega⟩)
              | (refine ⟨(q + 1, Nx, (xpv pq cq x q xs k a) :: T1), (Sub.cons rfl (Sub.nil _)), (by repeat (first | exact Sub.nil _ | refine Sub.cons rfl ?_)), ⟨⟨hmb, hmn, hit, sn_next hnx2, hGT.more, hNT.more, by simp only; omega⟩, hM, hB⟩, by simp only; omega⟩)
       ·
        refine DT.m rfl rfl (Step.allocZ rfl rfl (by decide) elem82 rfl (by decide) ?_)
        rintro w81 hO81 hg81 hbl81 hsz81
        first | replace hmb := hmb.below hbl81 | replace hmb := hmb.offZ hM.o0 hg81 | replace hmb := hmb.offZ hM.o1 hg81 | replace hmb := hmb.offZ hM.o2 hg81 | replace hmb := hmb.offZ hM.o3 hg81 | replace hmb := hmb.offZ hM.o4 hg81 | replace hmb := hmb.offZ hM.o5 hg81 | replace hmb := hmb.offZ hM.o6 hg81 | replace hmb := hmb.offZ hM.o7 hg81 | replace hmb := hmb.offZ hM.o8 hg81 | replace hmb := hmb.offZ hM.o9 hg81 | skip
        first | replace hmn := hmn.below hbl81 | replace hmn := hmn.offZ hM.o0 hg81 | replace hmn := hmn.offZ hM.o1 hg81 | replace hmn := hmn.offZ hM.o2 hg81 | replace hmn := hmn.offZ hM.o3 hg81 | replace hmn := hmn.offZ hM.o4 hg81 | replace hmn := hmn.offZ hM.o5 hg81 | replace hmn := hmn.offZ hM.o6 hg81 | replace hmn := hmn.offZ hM.o7 hg81 | replace hmn := hmn.offZ hM.o8 hg81 | replace hmn := hmn.offZ hM.o9 hg81 | skip
        first | replace hit := hit.below hbl81 | replace hit := hit.offZ hM.o0 hg81 | replace hit := hit.offZ hM.o1 hg81 | replace hit := hit.offZ hM.o2 hg81 | replace hit := hit.offZ hM.o3 hg81 | replace hit := hit.offZ hM.o4 hg81 | replace hit := hit.offZ hM.o5 hg81 | replace hit := hit.offZ hM.o6 hg81 | replace hit := hit.offZ hM.o7 hg81 | replace hit := hit.offZ hM.o8 hg81 | replace hit := hit.offZ hM.o9 hg81 | skip
        replace hM := hM.add hB.size hbl81 hO81
        try simp only [List.length_cons, List.length_nil, Nat.zero_add, Nat.reduceAdd, Value.cells, List.toList_toArray, List.append_nil, List.set_cons_zero, List.set_cons_succ] at hM
        replace hB := hB.trans (hbl81.mono hB.size)
        generalize w8.drew.heap.size = gg81 at *
        refine ⟨⟨hB, hM.er0⟩, ?_⟩
        refine DT.two ?_ ?_
        ·
         refine DT.m rfl rfl (Step.call body46 rfl rfl (by decide) rfl (CallsV.mono (clone_bool x.l x.p x.c _ (tp_rd hM (hGT _ _ hGx) (fun o h => by simp [h])) (by omega)) ?_))
         rintro _ w82 ⟨pq0, cq0, rfl, hOcl, hb82⟩
         replace hM := hM.add hB.size hb82 hOcl.toZ
         try replace hmb := hmb.below hb82
         try replace hmn := hmn.below hb82
         try replace hit := hit.below hb82
         replace hB := hB.trans (hb82.mono hB.size)
         refine ⟨⟨hB, hM.er1.er0⟩, ?_⟩
         refine DT.m rfl rfl (Step.litZ rfl rfl (by decide) Try.underlying23 elem4 rfl (by decide) rfl rfl (by decide) ?_)
         rintro w83 hO83 hg83 hbl83 hsz83
         first | replace hmb := hmb.below hbl83 | replace hmb := hmb.offZ hM.o0 hg83 | replace hmb := hmb.offZ hM.o1 hg83 | replace hmb := hmb.offZ hM.o2 hg83 | replace hmb := hmb.offZ hM.o3 hg83 | replace hmb := hmb.offZ hM.o4 hg83 | replace hmb := hmb.offZ hM.o5 hg83 | replace hmb := hmb.offZ hM.o6 hg83 | replace hmb := hmb.offZ hM.o7 hg83 | replace hmb := hmb.offZ hM.o8 hg83 | replace hmb := hmb.offZ hM.o9 hg83 | skip
         first | replace hmn := hmn.below hbl83 | replace hmn := hmn.offZ hM.o0 hg83 | replace hmn := hmn.offZ hM.o1 hg83 | replace hmn := hmn.offZ hM.o2 hg83 | replace hmn := hmn.offZ hM.o3 hg83 | replace hmn := hmn.offZ hM.o4 hg83 | replace hmn := hmn.offZ hM.o5 hg83 | replace hmn := hmn.offZ hM.o6 hg83 | replace hmn := hmn.offZ hM.o7 hg83 | replace hmn := hmn.offZ hM.o8 hg83 | replace hmn := hmn.offZ hM.o9 hg83 | skip
         first | replace hit := hit.below hbl83 | replace hit := hit.offZ hM.o0 hg83 | replace hit := hit.offZ hM.o1 hg83 | replace hit := hit.offZ hM.o2 hg83 | replace hit := hit.offZ hM.o3 hg83 | replace hit := hit.offZ hM.o4 hg83 | replace hit := hit.offZ hM.o5 hg83 | replace hit := hit.offZ hM.o6 hg83 | replace hit := hit.offZ hM.o7 hg83 | replace hit := hit.offZ hM.o8 hg83 | replace hit := hit.offZ hM.o9 hg83 | skip
         replace hM := hM.add hB.size hbl83 hO83
         try simp only [bv_app1, bv_app, bv_set, bv_rep, bv_one, bv_cons, bv_take, bv_drop, List.nil_append] at hM
         try simp only [List.length_cons, List.length_nil, Nat.zero_add, Nat.reduceAdd, Value.cells, List.toList_toArray, List.append_nil, List.set_cons_zero, List.set_cons_succ] at hM
         replace hB := hB.trans (hbl83.mono hB.size)
         generalize w82.heap.size = gg83 at *
         refine ⟨⟨hB, hM.er2.er1.er0⟩, ?_⟩
         refine DT.m rfl rfl (Step.appendZ (B := w0.heap.size) rfl rfl (by decide) Try.underlying23 elem4 rfl (by decide) rfl rfl (hM.o1) (hM.o0.rd) rfl (by first | exact one_map _ (fun _ => rfl) _ | simp [Value.oneCell']) (by omega) (by omega) hB.size ?_)
         rintro p84 c84 w84 hO84 hg84 hbl84 hbk84
         first | replace hmb := hmb.below hbl84 | replace hmb := hmb.offZ hM.o0 hg84 | replace hmb := hmb.offZ hM.o1 hg84 | replace hmb := hmb.offZ hM.o2 hg84 | replace hmb := hmb.offZ hM.o3 hg84 | replace hmb := hmb.offZ hM.o4 hg84 | replace hmb := hmb.offZ hM.o5 hg84 | replace hmb := hmb.offZ hM.o6 hg84 | replace hmb := hmb.offZ hM.o7 hg84 | replace hmb := hmb.offZ hM.o8 hg84 | replace hmb := hmb.offZ hM.o9 hg84 | skip
         first | replace hmn := hmn.below hbl84 | replace hmn := hmn.offZ hM.o0 hg84 | replace hmn := hmn.offZ hM.o1 hg84 | replace hmn := hmn.offZ hM.o2 hg84 | replace hmn := hmn.offZ hM.o3 hg84 | replace hmn := hmn.offZ hM.o4 hg84 | replace hmn := hmn.offZ hM.o5 hg84 | replace hmn := hmn.offZ hM.o6 hg84 | replace hmn := hmn.offZ hM.o7 hg84 | replace hmn := hmn.offZ hM.o8 hg84 | replace hmn := hmn.offZ hM.o9 hg84 | skip
         first | replace hit := hit.below hbl84 | replace hit := hit.offZ hM.o0 hg84 | replace hit := hit.offZ hM.o1 hg84 | replace hit := hit.offZ hM.o2 hg84 | replace hit := hit.offZ hM.o3 hg84 | replace hit := hit.offZ hM.o4 hg84 | replace hit := hit.offZ hM.o5 hg84 | replace hit := hit.offZ hM.o6 hg84 | replace hit := hit.offZ hM.o7 hg84 | replace hit := hit.offZ hM.o8 hg84 | replace hit := hit.offZ hM.o9 hg84 | skip
         replace hM := hM.s1 (e := _) hg84 hO84 hbk84
         replace hM := hM.tail
         try simp only [bv_app1, bv_app, bv_set, bv_rep, bv_one, bv_cons, bv_take, bv_drop, List.nil_append] at hM
         replace hB := hB.trans hbl84
         refine ⟨⟨hB, hM.er1.er0⟩, ?_⟩
         generalize p84 = pq at *
         generalize c84 = cq at *
         refine DT.vv rfl rfl rfl (by decide) (Val.build str82 elem82 rfl rfl rfl) ?_
         refine DT.m rfl rfl (Step.storeAgg0 (B := w0.heap.size) rfl rfl agg82 rfl rfl rfl (by decide) (by first | exact one_map _ (fun _ => rfl) _ | simp [Value.oneCell']) (hM.o1) rfl hB.size ?_)
         rintro w85 hO85 hg85 hbl85 hsz85
         first | replace hmb := hmb.below hbl85 | replace hmb := hmb.offZ hM.o0 hg85 | replace hmb := hmb.offZ hM.o1 hg85 | replace hmb := hmb.offZ hM.o2 hg85 | replace hmb := hmb.offZ hM.o3 hg85 | replace hmb := hmb.offZ hM.o4 hg85 | replace hmb := hmb.offZ hM.o5 hg85 | replace hmb := hmb.offZ hM.o6 hg85 | replace hmb := hmb.offZ hM.o7 hg85 | replace hmb := hmb.offZ hM.o8 hg85 | replace hmb := hmb.offZ hM.o9 hg85 | skip
         first | replace hmn := hmn.below hbl85 | replace hmn := hmn.offZ hM.o0 hg85 | replace hmn := hmn.offZ hM.o1 hg85 | replace hmn := hmn.offZ hM.o2 hg85 | replace hmn := hmn.offZ hM.o3 hg85 | replace hmn := hmn.offZ hM.o4 hg85 | replace hmn := hmn.offZ hM.o5 hg85 | replace hmn := hmn.offZ hM.o6 hg85 | replace hmn := hmn.offZ hM.o7 hg85 | replace hmn := hmn.offZ hM.o8 hg85 | replace hmn := hmn.offZ hM.o9 hg85 | skip
         first | replace hit := hit.below hbl85 | replace hit := hit.offZ hM.o0 hg85 | replace hit := hit.offZ hM.o1 hg85 | replace hit := hit.offZ hM.o2 hg85 | replace hit := hit.offZ hM.o3 hg85 | replace hit := hit.offZ hM.o4 hg85 | replace hit := hit.offZ hM.o5 hg85 | replace hit := hit.offZ hM.o6 hg85 | replace hit := hit.offZ hM.o7 hg85 | replace hit := hit.offZ hM.o8 hg85 | replace hit := hit.offZ hM.o9 hg85 | skip
         replace hM := hM.s1 (e := _) hg85 hO85 inl_block
         try simp only [List.set_cons_zero, List.set_cons_succ] at hM
         replace hB := hB.trans hbl85
         refine ⟨⟨hB, hM.er1.er0⟩, ?_⟩
         refine DT.nil ?_
         refine W.seq ?_
         refine W.seqR ?_
         refine LS.m rfl (Step.loadAgg0 rfl rfl (by decide) agg79 rfl (hM.o2.rd) rfl (by decide) ?_)
         refine LS.vv rfl rfl (by decide) (Val.move rfl) ?_
         refine LS.m rfl (Step.call body58 rfl rfl (by decide) rfl (CallsV.mono (out_any a (gb [false, true] q) _) ?_))
         rintro _ w86 ⟨rfl, hb86⟩
         replace hM := hM.below hb86
         try replace hmb := hmb.below hb86
         try replace hmn := hmn.below hb86
         try replace hit := hit.below hb86
         replace hB := hB.trans (hb86.mono hB.size)
         refine LS.vv rfl rfl (by decide) (Val.cast (v := .int .i64 ((0 : Nat) : Int)) (Val.move rfl) rfl) ?_
         refine LS.nil ?_
         refine W.block ?_
         skip
         replace hM := hM.sw0
         refine W.loop (α := Nat) (fun i => [(77, .int .i64 (i : Int))]) [(0, _), (5, _), (7, _), (8, _), (9, _), (10, _), (12, _), (13, _), (40, _), (41, _), (46, _), (59, _), (60, _), (61, _), (76, _)] (fun i w => (MapR encB w w0.heap.size mb (fv G) ∧ MapR encB w w0.heap.size mn (fv Nx) ∧ OwnIter encB w w0.heap.size mb it (ks ++ [a]) ∧ i ≤ 2) ∧ Mz w w0.heap.size (⟨82, 2, some ⟨gg81, 0, none⟩, 1, 1, [.slice pq (x.l.length + 1) cq, .int .i64 ((x.o + prt xs k a (gb [false, true] q) i : Nat) : Int)]⟩ :: ⟨4, 1, pq, x.l.length + 1, cq, bv (x.l ++ [(gb [false, true] q)])⟩ :: ⟨79, 2, some ⟨gg3, 0, none⟩, 1, 1, [.bool a.1, .bool a.2]⟩ :: ⟨82, 2, some ⟨gg4, 0, none⟩, 1, 1, [.slice x.p x.l.length x.c, .int .i64 (x.o : Int)]⟩ :: ⟨4, 1, some ⟨gg7, 0, none⟩, 2, 2, bv [false, true]⟩ :: (tp T1)) ∧ Below w0.heap.size w0 w) (fun i => 2 - i) (0) (Sub.cons rfl (Sub.nil _)) (Sub.cons rfl (Sub.cons rfl (Sub.cons rfl (Sub.cons rfl (Sub.cons rfl (Sub.cons rfl (Sub.cons rfl (Sub.cons rfl (Sub.cons rfl (Sub.cons rfl (Sub.cons rfl (Sub.cons rfl (Sub.cons rfl (Sub.cons rfl (Sub.cons rfl (Sub.nil _)))))))))))))))) ?_ ?_
         · exact ⟨⟨hmb, hmn, hit, Nat.zero_le _⟩, (by simp only [prt_zero, Nat.add_zero]; exact hM), hB⟩
         rintro i w87 ⟨⟨hmb, hmn, hit, hi2⟩, hM, hB⟩
         try simp only at hM
         simp only [List.cons_append, List.nil_append]
         have hpl := prt_le xs k a (gb [false, true] q) i
         have hps := fun h => prt_succ xs k a (gb [false, true] q) (i := i) h
         refine W.seqR ?_
         refine LS.vv rfl rfl (by decide) (Val.lss rfl rfl) ?_
         refine LS.nil ?_
         refine W.seq ?_
         first | refine W.condD rfl (fun hc31 => ?_) (fun hc31 => ?_) | refine W.cond rfl (fun hc31 => ?_) (fun hc31 => ?_)
         ·
          refine W.skip ?_
          refine thenP_normal ?_
          refine W.seq ?_
          refine W.block ?_
          refine W.seqR ?_
          refine LS.vv rfl rfl (by decide) (Val.move rfl) ?_
          refine LS.vv rfl rfl (by decide) (Val.cast (v := .bool (if i = 0 then out0 a (gb [false, true] q) else out1 a (gb [false, true] q))) (Val.indexV2 Try.underlying78 elem4 ag4 rfl rfl (by omega)) (by split <;> rfl)) ?_
          refine LS.vv rfl rfl (by decide) (Val.assign rfl) ?_
          refine LS.vv rfl rfl (by decide) (Val.assign rfl) ?_
          refine LS.nil ?_
          refine W.seqR ?_
          refine LS.vv rfl rfl (by decide) (Val.move rfl) ?_
          refine LS.vv rfl rfl (by decide) (Val.move rfl) ?_
          refine LS.vv rfl rfl (by decide) (Val.move rfl) ?_
          first | refine LS.vv rfl rfl (by decide) (Val.mulN (i := 2) rfl rfl (by omega)) ?_ | refine LS.vv rfl rfl (by decide) (Val.mul64 rfl rfl (by omega)) ?_
          refine LS.vv rfl rfl (by decide) (Val.move rfl) ?_
          first | refine LS.vv rfl rfl (by decide) (Val.addN rfl rfl (by omega)) ?_ | refine LS.vv rfl rfl (by decide) (Val.add64 rfl rfl (by omega)) ?_
          refine LS.vv rfl rfl (by decide) (Val.index1 Try.underlying23 elem4 rfl rfl (by omega) ((hr.below hB)) (bv_lt (by omega))) ?_
          refine LS.m rfl (Step.load rfl rfl (by decide) flat4 rfl ((hr.below hB)) (bv_at (by omega)) ?_)
          refine LS.vv rfl rfl (by decide) (Val.neqB Try.underlying4 rfl rfl) ?_
          refine LS.nil ?_
          first | refine W.condD rfl (fun hc32 => ?_) (fun hc32 => ?_) | refine W.cond rfl (fun hc32 => ?_) (fun hc32 => ?_)
          ·
           refine W.reg ?_
           refine LS.vv rfl rfl (by decide) (Val.fieldAddr0 fld82_1 rfl) ?_
           refine LS.m rfl (Step.load rfl rfl (by decide) flat3 rfl (hM.o0.rd) (rfl) ?_)
           refine LS.vv rfl rfl (by decide) (Val.addN (j := 1) rfl rfl (by omega)) ?_
           refine LS.vv rfl rfl (by decide) (Val.fieldAddr0 fld82_1 rfl) ?_
           refine LS.m rfl (Step.storeZ (B := w0.heap.size) rfl rfl flat3 elem3 rfl rfl rfl (hM.o0) (by first | decide | (simp; done) | (simp; omega) | omega) hB.size ?_)
           rintro w88 hO88 hg88 hbl88 hsz88
           first | replace hmb := hmb.below hbl88 | replace hmb := hmb.offZ hM.o0 hg88 | replace hmb := hmb.offZ hM.o1 hg88 | replace hmb := hmb.offZ hM.o2 hg88 | replace hmb := hmb.offZ hM.o3 hg88 | replace hmb := hmb.offZ hM.o4 hg88 | replace hmb := hmb.offZ hM.o5 hg88 | replace hmb := hmb.offZ hM.o6 hg88 | replace hmb := hmb.offZ hM.o7 hg88 | replace hmb := hmb.offZ hM.o8 hg88 | replace hmb := hmb.offZ hM.o9 hg88 | skip
           first | replace hmn := hmn.below hbl88 | replace hmn := hmn.offZ hM.o0 hg88 | replace hmn := hmn.offZ hM.o1 hg88 | replace hmn := hmn.offZ hM.o2 hg88 | replace hmn := hmn.offZ hM.o3 hg88 | replace hmn := hmn.offZ hM.o4 hg88 | replace hmn := hmn.offZ hM.o5 hg88 | replace hmn := hmn.offZ hM.o6 hg88 | replace hmn := hmn.offZ hM.o7 hg88 | replace hmn := hmn.offZ hM.o8 hg88 | replace hmn := hmn.offZ hM.o9 hg88 | skip
           first | replace hit := hit.below hbl88 | replace hit := hit.offZ hM.o0 hg88 | replace hit := hit.offZ hM.o1 hg88 | replace hit := hit.offZ hM.o2 hg88 | replace hit := hit.offZ hM.o3 hg88 | replace hit := hit.offZ hM.o4 hg88 | replace hit := hit.offZ hM.o5 hg88 | replace hit := hit.offZ hM.o6 hg88 | replace hit := hit.offZ hM.o7 hg88 | replace hit := hit.offZ hM.o8 hg88 | replace hit := hit.offZ hM.o9 hg88 | skip
           replace hM := hM.s0 (e := _) hg88 hO88 inl_block
           try simp only [List.set_cons_zero, List.set_cons_succ] at hM
           replace hB := hB.trans hbl88
           refine LS.nil ?_
           refine inBlk_normal ?_
           refine thenP_normal ?_
           refine W.reg ?_
           refine LS.vv rfl rfl (by decide) (Val.addN (j := 1) rfl rfl (by omega)) ?_
           refine LS.vv rfl rfl (by decide) (Val.move rfl) ?_
           refine LS.nil ?_
           refine thenP_normal ?_
           have hps2 := hps (by omega)
           first
             | (rw [if_pos (by assumption)] at hps2
                refine ⟨i + 1, (Sub.cons rfl (Sub.nil _)), (by repeat (first | exact Sub.nil _ | refine Sub.cons rfl ?_)), ⟨⟨hmb, hmn, hit, by omega⟩, (by rw [hps2, ← Nat.add_assoc]; exact hM), hB⟩, by omega⟩)
             | (rw [if_neg (by assumption), Nat.add_zero] at hps2
                refine ⟨i + 1, (Sub.cons rfl (Sub.nil _)), (by repeat (first | exact Sub.nil _ | refine Sub.cons rfl ?_)), ⟨⟨hmb, hmn, hit, by omega⟩, (by rw [hps2]; exact hM), hB⟩, by omega⟩)
          ·
           refine W.skip ?_
           refine inBlk_normal ?_
           refine thenP_normal ?_
           refine W.reg ?_
           refine LS.vv rfl rfl (by decide) (Val.addN (j := 1) rfl rfl (by omega)) ?_
           refine LS.vv rfl rfl (by decide) (Val.move rfl) ?_
           refine LS.nil ?_
           refine thenP_normal ?_
           have hps2 := hps (by omega)
           first
             | (rw [if_pos (by assumption)] at hps2
                refine ⟨i + 1, (Sub.cons rfl (Sub.nil _)), (by repeat (first | exact Sub.nil _ | refine Sub.cons rfl ?_)), ⟨⟨hmb, hmn, hit, by omega⟩, (by rw [hps2, ← Nat.add_assoc]; exact hM), hB⟩, by omega⟩)
             | (rw [if_neg (by assumption), Nat.add_zero] at hps2
                refine ⟨i + 1, (Sub.cons rfl (Sub.nil _)), (by repeat (first | exact Sub.nil _ | refine Sub.cons rfl ?_)), ⟨⟨hmb, hmn, hit, by omega⟩, (by rw [hps2]; exact hM), hB⟩, by omega⟩)
         ·
          obtain rfl : i = 2 := by omega
          refine W.exit ?_
          refine thenP_exit ?_
          refine thenP_exit ?_
          refine inBlk_exit ?_
          refine thenP_normal ?_
          refine W.seqR ?_
          refine LS.vv rfl rfl (by decide) (Val.move rfl) ?_
          refine LS.vv rfl rfl (by decide) (Val.indexArr (j := 0) Try.underlying79 elem4 rfl rfl (by omega)) ?_
          refine LS.m rfl (Step.load rfl rfl (by decide) flat4 rfl (hM.o2.rd) (rfl) ?_)
          refine LS.vv rfl rfl (by decide) (Val.buildArr Try.underlying79 elem79 elem4 rfl (fill_b2 _ _)) ?_
          refine LS.m rfl (Step.allocZ rfl rfl (by decide) elem79 rfl (by decide) ?_)
          rintro w89 hO89 hg89 hbl89 hsz89
          first | replace hmb := hmb.below hbl89 | replace hmb := hmb.offZ hM.o0 hg89 | replace hmb := hmb.offZ hM.o1 hg89 | replace hmb := hmb.offZ hM.o2 hg89 | replace hmb := hmb.offZ hM.o3 hg89 | replace hmb := hmb.offZ hM.o4 hg89 | replace hmb := hmb.offZ hM.o5 hg89 | replace hmb := hmb.offZ hM.o6 hg89 | replace hmb := hmb.offZ hM.o7 hg89 | replace hmb := hmb.offZ hM.o8 hg89 | replace hmb := hmb.offZ hM.o9 hg89 | skip
          first | replace hmn := hmn.below hbl89 | replace hmn := hmn.offZ hM.o0 hg89 | replace hmn := hmn.offZ hM.o1 hg89 | replace hmn := hmn.offZ hM.o2 hg89 | replace hmn := hmn.offZ hM.o3 hg89 | replace hmn := hmn.offZ hM.o4 hg89 | replace hmn := hmn.offZ hM.o5 hg89 | replace hmn := hmn.offZ hM.o6 hg89 | replace hmn := hmn.offZ hM.o7 hg89 | replace hmn := hmn.offZ hM.o8 hg89 | replace hmn := hmn.offZ hM.o9 hg89 | skip
          first | replace hit := hit.below hbl89 | replace hit := hit.offZ hM.o0 hg89 | replace hit := hit.offZ hM.o1 hg89 | replace hit := hit.offZ hM.o2 hg89 | replace hit := hit.offZ hM.o3 hg89 | replace hit := hit.offZ hM.o4 hg89 | replace hit := hit.offZ hM.o5 hg89 | replace hit := hit.offZ hM.o6 hg89 | replace hit := hit.offZ hM.o7 hg89 | replace hit := hit.offZ hM.o8 hg89 | replace hit := hit.offZ hM.o9 hg89 | skip
          replace hM := hM.add hB.size hbl89 hO89
          try simp only [List.length_cons, List.length_nil, Nat.zero_add, Nat.reduceAdd, Value.cells, List.toList_toArray, List.append_nil, List.set_cons_zero, List.set_cons_succ] at hM
          replace hB := hB.trans (hbl89.mono hB.size)
          generalize w87.heap.size = gg89 at *
          refine LS.m rfl (Step.storeAgg0 (B := w0.heap.size) rfl rfl agg79 rfl rfl rfl (by decide) (by first | exact one_map _ (fun _ => rfl) _ | simp [Value.oneCell']) (hM.o0) rfl hB.size ?_)
          rintro w90 hO90 hg90 hbl90 hsz90
          first | replace hmb := hmb.below hbl90 | replace hmb := hmb.offZ hM.o0 hg90 | replace hmb := hmb.offZ hM.o1 hg90 | replace hmb := hmb.offZ hM.o2 hg90 | replace hmb := hmb.offZ hM.o3 hg90 | replace hmb := hmb.offZ hM.o4 hg90 | replace hmb := hmb.offZ hM.o5 hg90 | replace hmb := hmb.offZ hM.o6 hg90 | replace hmb := hmb.offZ hM.o7 hg90 | replace hmb := hmb.offZ hM.o8 hg90 | replace hmb := hmb.offZ hM.o9 hg90 | skip
          first | replace hmn := hmn.below hbl90 | replace hmn := hmn.offZ hM.o0 hg90 | replace hmn := hmn.offZ hM.o1 hg90 | replace hmn := hmn.offZ hM.o2 hg90 | replace hmn := hmn.offZ hM.o3 hg90 | replace hmn := hmn.offZ hM.o4 hg90 | replace hmn := hmn.offZ hM.o5 hg90 | replace hmn := hmn.offZ hM.o6 hg90 | replace hmn := hmn.offZ hM.o7 hg90 | replace hmn := hmn.offZ hM.o8 hg90 | replace hmn := hmn.offZ hM.o9 hg90 | skip
          first | replace hit := hit.below hbl90 | replace hit := hit.offZ hM.o0 hg90 | replace hit := hit.offZ hM.o1 hg90 | replace hit := hit.offZ hM.o2 hg90 | replace hit := hit.offZ hM.o3 hg90 | replace hit := hit.offZ hM.o4 hg90 | replace hit := hit.offZ hM.o5 hg90 | replace hit := hit.offZ hM.o6 hg90 | replace hit := hit.offZ hM.o7 hg90 | replace hit := hit.offZ hM.o8 hg90 | replace hit := hit.offZ hM.o9 hg90 | skip
          replace hM := hM.s0 (e := _) hg90 hO90 inl_block
          try simp only [List.set_cons_zero, List.set_cons_succ] at hM
          replace hB := hB.trans hbl90
          refine LS.nil ?_
          refine W.seqR ?_
          refine LS.vv rfl rfl (by decide) (Val.move rfl) ?_
          refine LS.m rfl (Step.loadAgg0 rfl rfl (by decide) agg79 rfl (hM.o0.rd) rfl (by decide) ?_)
          refine LS.m rfl (Step.lookup2 rfl rfl (by decide) (keys_bb b2_79) Try.underlying83 elem82 rfl rfl hmn.own (fv_getD Nx (nxq a q)) (fv_isSome Nx (nxq a q)) ?_)
          refine LS.vv rfl rfl (by decide) (Val.move rfl) ?_
          refine LS.vv rfl rfl (by decide) (Val.extract rfl rfl) ?_
          refine LS.vv rfl rfl (by decide) (Val.extract rfl rfl) ?_
          refine LS.m rfl (Step.allocZ rfl rfl (by decide) elem82 rfl (by decide) ?_)
          rintro w91 hO91 hg91 hbl91 hsz91
          first | replace hmb := hmb.below hbl91 | replace hmb := hmb.offZ hM.o0 hg91 | replace hmb := hmb.offZ hM.o1 hg91 | replace hmb := hmb.offZ hM.o2 hg91 | replace hmb := hmb.offZ hM.o3 hg91 | replace hmb := hmb.offZ hM.o4 hg91 | replace hmb := hmb.offZ hM.o5 hg91 | replace hmb := hmb.offZ hM.o6 hg91 | replace hmb := hmb.offZ hM.o7 hg91 | replace hmb := hmb.offZ hM.o8 hg91 | replace hmb := hmb.offZ hM.o9 hg91 | skip
          first | replace hmn := hmn.below hbl91 | replace hmn := hmn.offZ hM.o0 hg91 | replace hmn := hmn.offZ hM.o1 hg91 | replace hmn := hmn.offZ hM.o2 hg91 | replace hmn := hmn.offZ hM.o3 hg91 | replace hmn := hmn.offZ hM.o4 hg91 | replace hmn := hmn.offZ hM.o5 hg91 | replace hmn := hmn.offZ hM.o6 hg91 | replace hmn := hmn.offZ hM.o7 hg91 | replace hmn := hmn.offZ hM.o8 hg91 | replace hmn := hmn.offZ hM.o9 hg91 | skip
          first | replace hit := hit.below hbl91 | replace hit := hit.offZ hM.o0 hg91 | replace hit := hit.offZ hM.o1 hg91 | replace hit := hit.offZ hM.o2 hg91 | replace hit := hit.offZ hM.o3 hg91 | replace hit := hit.offZ hM.o4 hg91 | replace hit := hit.offZ hM.o5 hg91 | replace hit := hit.offZ hM.o6 hg91 | replace hit := hit.offZ hM.o7 hg91 | replace hit := hit.offZ hM.o8 hg91 | replace hit := hit.offZ hM.o9 hg91 | skip
          replace hM := hM.add hB.size hbl91 hO91
          try simp only [List.length_cons, List.length_nil, Nat.zero_add, Nat.reduceAdd, Value.cells, List.toList_toArray, List.append_nil, List.set_cons_zero, List.set_cons_succ] at hM
          replace hB := hB.trans (hbl91.mono hB.size)
          generalize w90.heap.size = gg91 at *
          refine LS.m rfl (Step.storeAgg0 (B := w0.heap.size) rfl rfl agg82 rfl rfl rfl (by decide) (by first | exact one_map _ (fun _ => rfl) _ | simp [Value.oneCell']) (hM.o0) rfl hB.size ?_)
          rintro w92 hO92 hg92 hbl92 hsz92
          first | replace hmb := hmb.below hbl92 | replace hmb := hmb.offZ hM.o0 hg92 | replace hmb := hmb.offZ hM.o1 hg92 | replace hmb := hmb.offZ hM.o2 hg92 | replace hmb := hmb.offZ hM.o3 hg92 | replace hmb := hmb.offZ hM.o4 hg92 | replace hmb := hmb.offZ hM.o5 hg92 | replace hmb := hmb.offZ hM.o6 hg92 | replace hmb := hmb.offZ hM.o7 hg92 | replace hmb := hmb.offZ hM.o8 hg92 | replace hmb := hmb.offZ hM.o9 hg92 | skip
          first | replace hmn := hmn.below hbl92 | replace hmn := hmn.offZ hM.o0 hg92 | replace hmn := hmn.offZ hM.o1 hg92 | replace hmn := hmn.offZ hM.o2 hg92 | replace hmn := hmn.offZ hM.o3 hg92 | replace hmn := hmn.offZ hM.o4 hg92 | replace hmn := hmn.offZ hM.o5 hg92 | replace hmn := hmn.offZ hM.o6 hg92 | replace hmn := hmn.offZ hM.o7 hg92 | replace hmn := hmn.offZ hM.o8 hg92 | replace hmn := hmn.offZ hM.o9 hg92 | skip
          first | replace hit := hit.below hbl92 | replace hit := hit.offZ hM.o0 hg92 | replace hit := hit.offZ hM.o1 hg92 | replace hit := hit.offZ hM.o2 hg92 | replace hit := hit.offZ hM.o3 hg92 | replace hit := hit.offZ hM.o4 hg92 | replace hit := hit.offZ hM.o5 hg92 | replace hit := hit.offZ hM.o6 hg92 | replace hit := hit.offZ hM.o7 hg92 | replace hit := hit.offZ hM.o8 hg92 | replace hit := hit.offZ hM.o9 hg92 | skip
          replace hM := hM.s0 (e := _) hg92 hO92 inl_block
          try simp only [List.set_cons_zero, List.set_cons_succ] at hM
          replace hB := hB.trans hbl92
          refine LS.vv rfl rfl (by decide) (Val.assign rfl) ?_
          refine LS.nil ?_
          refine W.seqR ?_
          refine LS.vv rfl rfl (by decide) (Val.move rfl) ?_
          refine LS.vv rfl rfl (by decide) (Val.not rfl) ?_
          refine LS.vv rfl rfl (by decide) (Val.move rfl) ?_
          refine LS.split 2 rfl (fun hg33 => ?_) (fun hg33 => ?_)
          ·
           first | (have hg33p := of_decide_eq_true hg33) | skip
           refine LS.s rfl rfl rfl hg33 (by decide) ?_
           refine LS.s rfl rfl rfl hg33 (by decide) ?_
           refine LS.s rfl rfl rfl hg33 (by decide) ?_
           refine LS.vv rfl rfl (by decide) (Val.pickT rfl hg33 rfl) ?_
           refine LS.nil ?_
           refine W.condT rfl ?_
           refine W.reg ?_
           refine LS.vv rfl rfl (by decide) (Val.move rfl) ?_
           refine LS.m rfl (Step.loadAgg0 rfl rfl (by decide) agg79 rfl (hM.o1.rd) rfl (by decide) ?_)
           refine LS.m rfl (Step.loadAgg0 rfl rfl (by decide) agg82 rfl (hM.o2.rd) rfl (by decide) ?_)
           have hold : ∀ q2 m2, plT Nx (nxq a q) = some (q2, m2) → x.o + two xs k a (gb [false, true] q) ≤ m2 := fun q2 m2 h9 => by
             obtain ⟨y9, hy9, hy10, hy11⟩ := pl_inv h9
             first
               | (exfalso; have h7 : (Nx (nxq a q)).isSome = false := (by simpa using (by assumption : (!(Nx (nxq a q)).isSome) = true)); rw [hy9] at h7; cases h7)
               | (have h8 := hbt (by assumption); rw [hy] at hy9; cases hy9; rw [prt_two] at h8; omega)
           have hnx2 : Nxt N xs k (plT G) (plT (putG Nx (nxq a q) (xpv pq cq x q xs k a))) (fun s2 b2 => sn ks a q s2 b2 ∨ s2 = a ∧ b2 = (gb [false, true] q)) := by rw [pl_put]; exact hnx.take hTab (by omega) (nb_ok (by omega)) (pl_some hGx) hold
           refine LS.m rfl (Step.mapPutR (k := (nxq a q)) (v := .agg #[.slice pq (x.l.length + 1) cq, .int .i64 ((x.o + prt xs k a (gb [false, true] q) 2 : Nat) : Int)]) (.inl rfl) rfl (keys_bb b2_79) Try.underlying83 rfl rfl rfl hmn hB.size ?_)
           rintro wf hmn2 hg9 hbl9 hsz9
           replace hM := hM.mapR hmn hg9
           replace hmb := hmb.keep hg9 (fun h => hmne (Option.some.inj h))
           replace hit := hit.keep hg9 (fun h => hmne (Option.some.inj h)) (fun h => hit.ne_map hmn (Option.some.inj h))
           replace hB := hB.trans hbl9
           rw [pv_two, fv_put] at hmn2
           refine LS.nil ?_
           refine inBlk_normal ?_
           refine thenP_normal ?_
           refine W.reg ?_
           refine LS.vv rfl rfl (by decide) (Val.addN (j := 1) rfl rfl (by omega)) ?_
           refine LS.vv rfl rfl (by decide) (Val.move rfl) ?_
           refine LS.nil ?_
           refine thenP_normal ?_
           replace hM := hM.er2.er1.er0.sw0.sw1.sw2
           rw [show (x.l.length + 1) = (x.l ++ [(gb [false, true] q)]).length from by simp] at hM
           first
             | (refine ⟨(q + 1, putG Nx (nxq a q) (xpv pq cq x q xs k a), (xpv pq cq x q xs k a) :: T1), (Sub.cons rfl (Sub.nil _)), (by repeat (first | exact Sub.nil _ | refine Sub.cons rfl ?_)), ⟨⟨hmb, hmn2, hit, sn_next hnx2, hGT.more, hNT.put, by simp only; omega⟩, hM, hB⟩, by simp only; omega⟩)
             | (refine ⟨(q + 1, Nx, (xpv pq cq x q xs k a) :: T1), (Sub.cons rfl (Sub.nil _)), (by repeat (first | exact Sub.nil _ | refine Sub.cons rfl ?_)), ⟨⟨hmb, hmn, hit, sn_next hnx2, hGT.more, hNT.more, by simp only; omega⟩, hM, hB⟩, by simp only; omega⟩)
          ·
           first | (have hg33p := of_decide_eq_false hg33) | skip
           refine LS.mg rfl rfl hg33 (Step.loadAgg0 rfl rfl (by decide) agg82 rfl (hM.o2.rd) rfl (by decide) ?_)
           refine LS.mg rfl rfl hg33 (Step.loadAgg0 rfl rfl (by decide) agg82 rfl (hM.o0.rd) rfl (by decide) ?_)
           obtain ⟨y, hy⟩ := Option.isSome_iff_exists.1 (by simpa using (by assumption : (!(Nx (nxq a q)).isSome) = false))
           have hyd : ((Nx (nxq a q)).getD zPV) = y := by rw [hy]; rfl
           have hyp := hnx.path _ _ _ (pl_some hy)
           have hyl := hyp.len
           rw [hyd]
           refine LS.mg rfl rfl hg33 (Step.call body59 rfl rfl (by decide) rfl (CallsV.mono (better_any (x.l ++ [(gb [false, true] q)]) y.l pq y.p cq y.c (x.l.length + 1) y.l.length (x.o + prt xs k a (gb [false, true] q) 2) y.o _ hM.o3.rd (tp_rd hM (hNT _ _ hy) (fun o h => by simp [h])) (by simp) rfl (by omega) (by omega)) ?_))
           rintro _ w93 ⟨bb, rfl, hbt, hbf, hb93⟩
           replace hM := hM.below hb93
           try replace hmb := hmb.below hb93
           try replace hmn := hmn.below hb93
           try replace hit := hit.below hb93
           replace hB := hB.trans (hb93.mono hB.size)
           refine LS.vv rfl rfl (by decide) (Val.pickF rfl hg33 rfl) ?_
           refine LS.nil ?_
           first | refine W.condD rfl (fun hc34 => ?_) (fun hc34 => ?_) | refine W.cond rfl (fun hc34 => ?_) (fun hc34 => ?_)
           ·
            refine W.reg ?_
            refine LS.vv rfl rfl (by decide) (Val.move rfl) ?_
            refine LS.m rfl (Step.loadAgg0 rfl rfl (by decide) agg79 rfl (hM.o1.rd) rfl (by decide) ?_)
            refine LS.m rfl (Step.loadAgg0 rfl rfl (by decide) agg82 rfl (hM.o2.rd) rfl (by decide) ?_)
            have hold : ∀ q2 m2, plT Nx (nxq a q) = some (q2, m2) → x.o + two xs k a (gb [false, true] q) ≤ m2 := fun q2 m2 h9 => by
              obtain ⟨y9, hy9, hy10, hy11⟩ := pl_inv h9
              first
                | (exfalso; have h7 : (Nx (nxq a q)).isSome = false := (by simpa using (by assumption : (!(Nx (nxq a q)).isSome) = true)); rw [hy9] at h7; cases h7)
                | (have h8 := hbt (by assumption); rw [hy] at hy9; cases hy9; rw [prt_two] at h8; omega)
            have hnx2 : Nxt N xs k (plT G) (plT (putG Nx (nxq a q) (xpv pq cq x q xs k a))) (fun s2 b2 => sn ks a q s2 b2 ∨ s2 = a ∧ b2 = (gb [false, true] q)) := by rw [pl_put]; exact hnx.take hTab (by omega) (nb_ok (by omega)) (pl_some hGx) hold
            refine LS.m rfl (Step.mapPutR (k := (nxq a q)) (v := .agg #[.slice pq (x.l.length + 1) cq, .int .i64 ((x.o + prt xs k a (gb [false, true] q) 2 : Nat) : Int)]) (.inl rfl) rfl (keys_bb b2_79) Try.underlying83 rfl rfl rfl hmn hB.size ?_)
            rintro wf hmn2 hg9 hbl9 hsz9
            replace hM := hM.mapR hmn hg9
            replace hmb := hmb.keep hg9 (fun h => hmne (Option.some.inj h))
            replace hit := hit.keep hg9 (fun h => hmne (Option.some.inj h)) (fun h => hit.ne_map hmn (Option.some.inj h))
            replace hB := hB.trans hbl9
            rw [pv_two, fv_put] at hmn2
            refine LS.nil ?_
            refine inBlk_normal ?_
            refine thenP_normal ?_
            refine W.reg ?_
            refine LS.vv rfl rfl (by decide) (Val.addN (j := 1) rfl rfl (by omega)) ?_
            refine LS.vv rfl rfl (by decide) (Val.move rfl) ?_
            refine LS.nil ?_
            refine thenP_normal ?_
            replace hM := hM.er2.er1.er0.sw0.sw1.sw2
            rw [show (x.l.length + 1) = (x.l ++ [(gb [false, true] q)]).length from by simp] at hM
            first
              | (refine ⟨(q + 1, putG Nx (nxq a q) (xpv pq cq x q xs k a), (xpv pq cq x q xs k a) :: T1), (Sub.cons rfl (Sub.nil _)), (by repeat (first | exact Sub.nil _ | refine Sub.cons rfl ?_)), ⟨⟨hmb, hmn2, hit, sn_next hnx2, hGT.more, hNT.put, by simp only; omega⟩, hM, hB⟩, by simp only; omega⟩)
              | (refine ⟨(q + 1, Nx, (xpv pq cq x q xs k a) :: T1), (Sub.cons rfl (Sub.nil _)), (by repeat (first | exact Sub.nil _ | refine Sub.cons rfl ?_)), ⟨⟨hmb, hmn, hit, sn_next hnx2, hGT.more, hNT.more, by simp only; omega⟩, hM, hB⟩, by simp only; omega⟩)
           ·
            have hnx2 : Nxt N xs k (plT G) (plT Nx) (fun s2 b2 => sn ks a q s2 b2 ∨ s2 = a ∧ b2 = (gb [false, true] q)) := hnx.skip (pl_some hGx) (pl_some hy) (by have h8 := hbf (by assumption); rw [prt_two] at h8; exact h8)
            refine W.skip ?_
            refine inBlk_normal ?_
            refine thenP_normal ?_
            refine W.reg ?_
            refine LS.vv rfl rfl (by decide) (Val.addN (j := 1) rfl rfl (by omega)) ?_
            refine LS.vv rfl rfl (by decide) (Val.move rfl) ?_
            refine LS.nil ?_
            refine thenP_normal ?_
            replace hM := hM.er2.er1.er0.sw0.sw1.sw2
            rw [show (x.l.length + 1) = (x.l ++ [(gb [false, true] q)]).length from by simp] at hM
            first
              | (refine ⟨(q + 1, putG Nx (nxq a q) (xpv pq cq x q xs k a), (xpv pq cq x q xs k a) :: T1), (Sub.cons rfl (Sub.nil _)), (by repeat (first | exact Sub.nil _ | refine Sub.cons rfl ?_)), ⟨⟨hmb, hmn2, hit, sn_next hnx2, hGT.more, hNT.put, by simp only; omega⟩, hM, hB⟩, by simp only; omega⟩)
              | (refine ⟨(q + 1, Nx, (xpv pq cq x q xs k a) :: T1), (Sub.cons rfl (Sub.nil _)), (by repeat (first | exact Sub.nil _ | refine Sub.cons rfl ?_)), ⟨⟨hmb, hmn, hit, sn_next hnx2, hGT.more, hNT.more, by simp only; omega⟩, hM, hB⟩, by simp only; omega⟩)
        ·
         refine DT.m rfl rfl (Step.litZ rfl rfl (by decide) Try.underlying23 elem4 rfl (by decide) rfl rfl (by decide) ?_)
         rintro w94 hO94 hg94 hbl94 hsz94
         first | replace hmb := hmb.below hbl94 | replace hmb := hmb.offZ hM.o0 hg94 | replace hmb := hmb.offZ hM.o1 hg94 | replace hmb := hmb.offZ hM.o2 hg94 | replace hmb := hmb.offZ hM.o3 hg94 | replace hmb := hmb.offZ hM.o4 hg94 | replace hmb := hmb.offZ hM.o5 hg94 | replace hmb := hmb.offZ hM.o6 hg94 | replace hmb := hmb.offZ hM.o7 hg94 | replace hmb := hmb.offZ hM.o8 hg94 | replace hmb := hmb.offZ hM.o9 hg94 | skip
         first | replace hmn := hmn.below hbl94 | replace hmn := hmn.offZ hM.o0 hg94 | replace hmn := hmn.offZ hM.o1 hg94 | replace hmn := hmn.offZ hM.o2 hg94 | replace hmn := hmn.offZ hM.o3 hg94 | replace hmn := hmn.offZ hM.o4 hg94 | replace hmn := hmn.offZ hM.o5 hg94 | replace hmn := hmn.offZ hM.o6 hg94 | replace hmn := hmn.offZ hM.o7 hg94 | replace hmn := hmn.offZ hM.o8 hg94 | replace hmn := hmn.offZ hM.o9 hg94 | skip
         first | replace hit := hit.below hbl94 | replace hit := hit.offZ hM.o0 hg94 | replace hit := hit.offZ hM.o1 hg94 | replace hit := hit.offZ hM.o2 hg94 | replace hit := hit.offZ hM.o3 hg94 | replace hit := hit.offZ hM.o4 hg94 | replace hit := hit.offZ hM.o5 hg94 | replace hit := hit.offZ hM.o6 hg94 | replace hit := hit.offZ hM.o7 hg94 | replace hit := hit.offZ hM.o8 hg94 | replace hit := hit.offZ hM.o9 hg94 | skip
         replace hM := hM.add hB.size hbl94 hO94
         try simp only [bv_app1, bv_app, bv_set, bv_rep, bv_one, bv_cons, bv_take, bv_drop, List.nil_append] at hM
         try simp only [List.length_cons, List.length_nil, Nat.zero_add, Nat.reduceAdd, Value.cells, List.toList_toArray, List.append_nil, List.set_cons_zero, List.set_cons_succ] at hM
         replace hB := hB.trans (hbl94.mono hB.size)
         generalize w81.heap.size = gg94 at *
         refine ⟨⟨hB, hM.er1.er0⟩, ?_⟩
         refine DT.m rfl rfl (Step.call body46 rfl rfl (by decide) rfl (CallsV.mono (clone_bool x.l x.p x.c _ (tp_rd hM (hGT _ _ hGx) (fun o h => by simp [h])) (by omega)) ?_))
         rintro _ w95 ⟨pq0, cq0, rfl, hOcl, hb95⟩
         replace hM := hM.add hB.size hb95 hOcl.toZ
         try replace hmb := hmb.below hb95
         try replace hmn := hmn.below hb95
         try replace hit := hit.below hb95
         replace hB := hB.trans (hb95.mono hB.size)
         refine ⟨⟨hB, hM.er2.er1.er0⟩, ?_⟩
         refine DT.m rfl rfl (Step.appendZ (B := w0.heap.size) rfl rfl (by decide) Try.underlying23 elem4 rfl (by decide) rfl rfl (hM.o0) (hM.o1.rd) rfl (by first | exact one_map _ (fun _ => rfl) _ | simp [Value.oneCell']) (by omega) (by omega) hB.size ?_)
         rintro p96 c96 w96 hO96 hg96 hbl96 hbk96
         first | replace hmb := hmb.below hbl96 | replace hmb := hmb.offZ hM.o0 hg96 | replace hmb := hmb.offZ hM.o1 hg96 | replace hmb := hmb.offZ hM.o2 hg96 | replace hmb := hmb.offZ hM.o3 hg96 | replace hmb := hmb.offZ hM.o4 hg96 | replace hmb := hmb.offZ hM.o5 hg96 | replace hmb := hmb.offZ hM.o6 hg96 | replace hmb := hmb.offZ hM.o7 hg96 | replace hmb := hmb.offZ hM.o8 hg96 | replace hmb := hmb.offZ hM.o9 hg96 | skip
         first | replace hmn := hmn.below hbl96 | replace hmn := hmn.offZ hM.o0 hg96 | replace hmn := hmn.offZ hM.o1 hg96 | replace hmn := hmn.offZ hM.o2 hg96 | replace hmn := hmn.offZ hM.o3 hg96 | replace hmn := hmn.offZ hM.o4 hg96 | replace hmn := hmn.offZ hM.o5 hg96 | replace hmn := hmn.offZ hM.o6 hg96 | replace hmn := hmn.offZ hM.o7 hg96 | replace hmn := hmn.offZ hM.o8 hg96 | replace hmn := hmn.offZ hM.o9 hg96 | skip
         first | replace hit := hit.below hbl96 | replace hit := hit.offZ hM.o0 hg96 | replace hit := hit.offZ hM.o1 hg96 | replace hit := hit.offZ hM.o2 hg96 | replace hit := hit.offZ hM.o3 hg96 | replace hit := hit.offZ hM.o4 hg96 | replace hit := hit.offZ hM.o5 hg96 | replace hit := hit.offZ hM.o6 hg96 | replace hit := hit.offZ hM.o7 hg96 | replace hit := hit.offZ hM.o8 hg96 | replace hit := hit.offZ hM.o9 hg96 | skip
         replace hM := hM.s0 (e := _) hg96 hO96 hbk96
         replace hM := hM.drop1
         try simp only [bv_app1, bv_app, bv_set, bv_rep, bv_one, bv_cons, bv_take, bv_drop, List.nil_append] at hM
         replace hB := hB.trans hbl96
         refine ⟨⟨hB, hM.er1.er0⟩, ?_⟩
         generalize p96 = pq at *
         generalize c96 = cq at *
         refine DT.vv rfl rfl rfl (by decide) (Val.build str82 elem82 rfl rfl rfl) ?_
         refine DT.m rfl rfl (Step.storeAgg0 (B := w0.heap.size) rfl rfl agg82 rfl rfl rfl (by decide) (by first | exact one_map _ (fun _ => rfl) _ | simp [Value.oneCell']) (hM.o1) rfl hB.size ?_)
         rintro w97 hO97 hg97 hbl97 hsz97
         first | replace hmb := hmb.below hbl97 | replace hmb := hmb.offZ hM.o0 hg97 | replace hmb := hmb.offZ hM.o1 hg97 | replace hmb := hmb.offZ hM.o2 hg97 | replace hmb := hmb.offZ hM.o3 hg97 | replace hmb := hmb.offZ hM.o4 hg97 | replace hmb := hmb.offZ hM.o5 hg97 | replace hmb := hmb.offZ hM.o6 hg97 | replace hmb := hmb.offZ hM.o7 hg97 | replace hmb := hmb.offZ hM.o8 hg97 | replace hmb := hmb.offZ hM.o9 hg97 | skip
         first | replace hmn := hmn.below hbl97 | replace hmn := hmn.offZ hM.o0 hg97 | replace hmn := hmn.offZ hM.o1 hg97 | replace hmn := hmn.offZ hM.o2 hg97 | replace hmn := hmn.offZ hM.o3 hg97 | replace hmn := hmn.offZ hM.o4 hg97 | replace hmn := hmn.offZ hM.o5 hg97 | replace hmn := hmn.offZ hM.o6 hg97 | replace hmn := hmn.offZ hM.o7 hg97 | replace hmn := hmn.offZ hM.o8 hg97 | replace hmn := hmn.offZ hM.o9 hg97 | skip
         first | replace hit := hit.below hbl97 | replace hit := hit.offZ hM.o0 hg97 | replace hit := hit.offZ hM.o1 hg97 | replace hit := hit.offZ hM.o2 hg97 | replace hit := hit.offZ hM.o3 hg97 | replace hit := hit.offZ hM.o4 hg97 | replace hit := hit.offZ hM.o5 hg97 | replace hit := hit.offZ hM.o6 hg97 | replace hit := hit.offZ hM.o7 hg97 | replace hit := hit.offZ hM.o8 hg97 | replace hit := hit.offZ hM.o9 hg97 | skip
         replace hM := hM.s1 (e := _) hg97 hO97 inl_block
         try simp only [List.set_cons_zero, List.set_cons_succ] at hM
         replace hB := hB.trans hbl97
         refine ⟨⟨hB, hM.er1.er0⟩, ?_⟩
         refine DT.nil ?_
         refine W.seq ?_
         refine W.seqR ?_
         refine LS.m rfl (Step.loadAgg0 rfl rfl (by decide) agg79 rfl (hM.o2.rd) rfl (by decide) ?_)
         refine LS.vv rfl rfl (by decide) (Val.move rfl) ?_
         refine LS.m rfl (Step.call body58 rfl rfl (by decide) rfl (CallsV.mono (out_any a (gb [false, true] q) _) ?_))
         rintro _ w98 ⟨rfl, hb98⟩
         replace hM := hM.below hb98
         try replace hmb := hmb.below hb98
         try replace hmn := hmn.below hb98
         try replace hit := hit.below hb98
         replace hB := hB.trans (hb98.mono hB.size)
         refine LS.vv rfl rfl (by decide) (Val.cast (v := .int .i64 ((0 : Nat) : Int)) (Val.move rfl) rfl) ?_
         refine LS.nil ?_
         refine W.block ?_
         skip
         replace hM := hM.sw0
         refine W.loop (α := Nat) (fun i => [(77, .int .i64 (i : Int))]) [(0, _), (5, _), (7, _), (8, _), (9, _), (10, _), (12, _), (13, _), (40, _), (41, _), (46, _), (59, _), (60, _), (61, _), (76, _)] (fun i w => (MapR encB w w0.heap.size mb (fv G) ∧ MapR encB w w0.heap.size mn (fv Nx) ∧ OwnIter encB w w0.heap.size mb it (ks ++ [a]) ∧ i ≤ 2) ∧ Mz w w0.heap.size (⟨82, 2, some ⟨gg81, 0, none⟩, 1, 1, [.slice pq (x.l.length + 1) cq, .int .i64 ((x.o + prt xs k a (gb [false, true] q) i : Nat) : Int)]⟩ :: ⟨4, 1, pq, x.l.length + 1, cq, bv (x.l ++ [(gb [false, true] q)])⟩ :: ⟨79, 2, some ⟨gg3, 0, none⟩, 1, 1, [.bool a.1, .bool a.2]⟩ :: ⟨82, 2, some ⟨gg4, 0, none⟩, 1, 1, [.slice x.p x.l.length x.c, .int .i64 (x.o : Int)]⟩ :: ⟨4, 1, some ⟨gg7, 0, none⟩, 2, 2, bv [false, true]⟩ :: (tp T1)) ∧ Below w0.heap.size w0 w) (fun i => 2 - i) (0) (Sub.cons rfl (Sub.nil _)) (Sub.cons rfl (Sub.cons rfl (Sub.cons rfl (Sub.cons rfl (Sub.cons rfl (Sub.cons rfl (Sub.cons rfl (Sub.cons rfl (Sub.cons rfl (Sub.cons rfl (Sub.cons rfl (Sub.cons rfl (Sub.cons rfl (Sub.cons rfl (Sub.cons rfl (Sub.nil _)))))))))))))))) ?_ ?_
         · exact ⟨⟨hmb, hmn, hit, Nat.zero_le _⟩, (by simp only [prt_zero, Nat.add_zero]; exact hM), hB⟩
         rintro i w99 ⟨⟨hmb, hmn, hit, hi2⟩, hM, hB⟩
         try simp only at hM
         simp only [List.cons_append, List.nil_append]
         have hpl := prt_le xs k a (gb [false, true] q) i
         have hps := fun h => prt_succ xs k a (gb [false, true] q) (i := i) h
         refine W.seqR ?_
         refine LS.vv rfl rfl (by decide) (Val.lss rfl rfl) ?_
         refine LS.nil ?_
         refine W.seq ?_
         first | refine W.condD rfl (fun hc35 => ?_) (fun hc35 => ?_) | refine W.cond rfl (fun hc35 => ?_) (fun hc35 => ?_)
         ·
          refine W.skip ?_
          refine thenP_normal ?_
          refine W.seq ?_
          refine W.block ?_
          refine W.seqR ?_
          refine LS.vv rfl rfl (by decide) (Val.move rfl) ?_
          refine LS.vv rfl rfl (by decide) (Val.cast (v := .bool (if i = 0 then out0 a (gb [false, true] q) else out1 a (gb [false, true] q))) (Val.indexV2 Try.underlying78 elem4 ag4 rfl rfl (by omega)) (by split <;> rfl)) ?_
          refine LS.vv rfl rfl (by decide) (Val.assign rfl) ?_
          refine LS.vv rfl rfl (by decide) (Val.assign rfl) ?_
          refine LS.nil ?_
          refine W.seqR ?_
          refine LS.vv rfl rfl (by decide) (Val.move rfl) ?_
          refine LS.vv rfl rfl (by decide) (Val.move rfl) ?_
          refine LS.vv rfl rfl (by decide) (Val.move rfl) ?_
          first | refine LS.vv rfl rfl (by decide) (Val.mulN (i := 2) rfl rfl (by omega)) ?_ | refine LS.vv rfl rfl (by decide) (Val.mul64 rfl rfl (by omega)) ?_
          refine LS.vv rfl rfl (by decide) (Val.move rfl) ?_
          first | refine LS.vv rfl rfl (by decide) (Val.addN rfl rfl (by omega)) ?_ | refine LS.vv rfl rfl (by decide) (Val.add64 rfl rfl (by omega)) ?_
          refine LS.vv rfl rfl (by decide) (Val.index1 Try.underlying23 elem4 rfl rfl (by omega) ((hr.below hB)) (bv_lt (by omega))) ?_
          refine LS.m rfl (Step.load rfl rfl (by decide) flat4 rfl ((hr.below hB)) (bv_at (by omega)) ?_)
          refine LS.vv rfl rfl (by decide) (Val.neqB Try.underlying4 rfl rfl) ?_
          refine LS.nil ?_
          first | refine W.condD rfl (fun hc36 => ?_) (fun hc36 => ?_) | refine W.cond rfl (fun hc36 => ?_) (fun hc36 => ?_)
          ·
           refine W.reg ?_
           refine LS.vv rfl rfl (by decide) (Val.fieldAddr0 fld82_1 rfl) ?_
           refine LS.m rfl (Step.load rfl rfl (by decide) flat3 rfl (hM.o0.rd) (rfl) ?_)
           refine LS.vv rfl rfl (by decide) (Val.addN (j := 1) rfl rfl (by omega)) ?_
           refine LS.vv rfl rfl (by decide) (Val.fieldAddr0 fld82_1 rfl) ?_
           refine LS.m rfl (Step.storeZ (B := w0.heap.size) rfl rfl flat3 elem3 rfl rfl rfl (hM.o0) (by first | decide | (simp; done) | (simp; omega) | omega) hB.size ?_)
           rintro w100 hO100 hg100 hbl100 hsz100
           first | replace hmb := hmb.below hbl100 | replace hmb := hmb.offZ hM.o0 hg100 | replace hmb := hmb.offZ hM.o1 hg100 | replace hmb := hmb.offZ hM.o2 hg100 | replace hmb := hmb.offZ hM.o3 hg100 | replace hmb := hmb.offZ hM.o4 hg100 | replace hmb := hmb.offZ hM.o5 hg100 | replace hmb := hmb.offZ hM.o6 hg100 | replace hmb := hmb.offZ hM.o7 hg100 | replace hmb := hmb.offZ hM.o8 hg100 | replace hmb := hmb.offZ hM.o9 hg100 | skip
           first | replace hmn := hmn.below hbl100 | replace hmn := hmn.offZ hM.o0 hg100 | replace hmn := hmn.offZ hM.o1 hg100 | replace hmn := hmn.offZ hM.o2 hg100 | replace hmn := hmn.offZ hM.o3 hg100 | replace hmn := hmn.offZ hM.o4 hg100 | replace hmn := hmn.offZ hM.o5 hg100 | replace hmn := hmn.offZ hM.o6 hg100 | replace hmn := hmn.offZ hM.o7 hg100 | replace hmn := hmn.offZ hM.o8 hg100 | replace hmn := hmn.offZ hM.o9 hg100 | skip
           first | replace hit := hit.below hbl100 | replace hit := hit.offZ hM.o0 hg100 | replace hit := hit.offZ hM.o1 hg100 | replace hit := hit.offZ hM.o2 hg100 | replace hit := hit.offZ hM.o3 hg100 | replace hit := hit.offZ hM.o4 hg100 | replace hit := hit.offZ hM.o5 hg100 | replace hit := hit.offZ hM.o6 hg100 | replace hit := hit.offZ hM.o7 hg100 | replace hit := hit.offZ hM.o8 hg100 | replace hit := hit.offZ hM.o9 hg100 | skip
           replace hM := hM.s0 (e := _) hg100 hO100 inl_block
           try simp only [List.set_cons_zero, List.set_cons_succ] at hM
           replace hB := hB.trans hbl100
           refine LS.nil ?_
           refine inBlk_normal ?_
           refine thenP_normal ?_
           refine W.reg ?_
           refine LS.vv rfl rfl (by decide) (Val.addN (j := 1) rfl rfl (by omega)) ?_
           refine LS.vv rfl rfl (by decide) (Val.move rfl) ?_
           refine LS.nil ?_
           refine thenP_normal ?_
           have hps2 := hps (by omega)
           first
             | (rw [if_pos (by assumption)] at hps2
                refine ⟨i + 1, (Sub.cons rfl (Sub.nil _)), (by repeat (first | exact Sub.nil _ | refine Sub.cons rfl ?_)), ⟨⟨hmb, hmn, hit, by omega⟩, (by rw [hps2, ← Nat.add_assoc]; exact hM), hB⟩, by omega⟩)
             | (rw [if_neg (by assumption), Nat.add_zero] at hps2
                refine ⟨i + 1, (Sub.cons rfl (Sub.nil _)), (by repeat (first | exact Sub.nil _ | refine Sub.cons rfl ?_)), ⟨⟨hmb, hmn, hit, by omega⟩, (by rw [hps2]; exact hM), hB⟩, by omega⟩)
          ·
           refine W.skip ?_
           refine inBlk_normal ?_
           refine thenP_normal ?_
           refine W.reg ?_
           refine LS.vv rfl rfl (by decide) (Val.addN (j := 1) rfl rfl (by omega)) ?_
           refine LS.vv rfl rfl (by decide) (Val.move rfl) ?_
           refine LS.nil ?_
           refine thenP_normal ?_
           have hps2 := hps (by omega)
           first
             | (rw [if_pos (by assumption)] at hps2
                refine ⟨i + 1, (Sub.cons rfl (Sub.nil _)), (by repeat (first | exact Sub.nil _ | refine Sub.cons rfl ?_)), ⟨⟨hmb, hmn, hit, by omega⟩, (by rw [hps2, ← Nat.add_assoc]; exact hM), hB⟩, by omega⟩)
             | (rw [if_neg (by assumption), Nat.add_zero] at hps2
                refine ⟨i + 1, (Sub.cons rfl (Sub.nil _)), (by repeat (first | exact Sub.nil _ | refine Sub.cons rfl ?_)), ⟨⟨hmb, hmn, hit, by omega⟩, (by rw [hps2]; exact hM), hB⟩, by omega⟩)
         ·
          obtain rfl : i = 2 := by omega
          refine W.exit ?_
          refine thenP_exit ?_
          refine thenP_exit ?_
          refine inBlk_exit ?_
          refine thenP_normal ?_
          refine W.seqR ?_
          refine LS.vv rfl rfl (by decide) (Val.move rfl) ?_
          refine LS.vv rfl rfl (by decide) (Val.indexArr (j := 0) Try.underlying79 elem4 rfl rfl (by omega)) ?_
          refine LS.m rfl (Step.load rfl rfl (by decide) flat4 rfl (hM.o2.rd) (rfl) ?_)
          refine LS.vv rfl rfl (by decide) (Val.buildArr Try.underlying79 elem79 elem4 rfl (fill_b2 _ _)) ?_
          refine LS.m rfl (Step.allocZ rfl rfl (by decide) elem79 rfl (by decide) ?_)
          rintro w101 hO101 hg101 hbl101 hsz101
          first | replace hmb := hmb.below hbl101 | replace hmb := hmb.offZ hM.o0 hg101 | replace hmb := hmb.offZ hM.o1 hg101 | replace hmb := hmb.offZ hM.o2 hg101 | replace hmb := hmb.offZ hM.o3 hg101 | replace hmb := hmb.offZ hM.o4 hg101 | replace hmb := hmb.offZ hM.o5 hg101 | replace hmb := hmb.offZ hM.o6 hg101 | replace hmb := hmb.offZ hM.o7 hg101 | replace hmb := hmb.offZ hM.o8 hg101 | replace hmb := hmb.offZ hM.o9 hg101 | skip
          first | replace hmn := hmn.below hbl101 | replace hmn := hmn.offZ hM.o0 hg101 | replace hmn := hmn.offZ hM.o1 hg101 | replace hmn := hmn.offZ hM.o2 hg101 | replace hmn := hmn.offZ hM.o3 hg101 | replace hmn := hmn.offZ hM.o4 hg101 | replace hmn := hmn.offZ hM.o5 hg101 | replace hmn := hmn.offZ hM.o6 hg101 | replace hmn := hmn.offZ hM.o7 hg101 | replace hmn := hmn.offZ hM.o8 hg101 | replace hmn := hmn.offZ hM.o9 hg101 | skip
          first | replace hit := hit.below hbl101 | replace hit := hit.offZ hM.o0 hg101 | replace hit := hit.offZ hM.o1 hg101 | replace hit := hit.offZ hM.o2 hg101 | replace hit := hit.offZ hM.o3 hg101 | replace hit := hit.offZ hM.o4 hg101 | replace hit := hit.offZ hM.o5 hg101 | replace hit := hit.offZ hM.o6 hg101 | replace hit := hit.offZ hM.o7 hg101 | replace hit := hit.offZ hM.o8 hg101 | replace hit := hit.offZ hM.o9 hg101 | skip
          replace hM := hM.add hB.size hbl101 hO101
          try simp only [List.length_cons, List.length_nil, Nat.zero_add, Nat.reduceAdd, Value.cells, List.toList_toArray, List.append_nil, List.set_cons_zero, List.set_cons_succ] at hM
          replace hB := hB.trans (hbl101.mono hB.size)
          generalize w99.heap.size = gg101 at *
          refine LS.m rfl (Step.storeAgg0 (B := w0.heap.size) rfl rfl agg79 rfl rfl rfl (by decide) (by first | exact one_map _ (fun _ => rfl) _ | simp [Value.oneCell']) (hM.o0) rfl hB.size ?_)
          rintro w102 hO102 hg102 hbl102 hsz102
          first | replace hmb := hmb.below hbl102 | replace hmb := hmb.offZ hM.o0 hg102 | replace hmb := hmb.offZ hM.o1 hg102 | replace hmb := hmb.offZ hM.o2 hg102 | replace hmb := hmb.offZ hM.o3 hg102 | replace hmb := hmb.offZ hM.o4 hg102 | replace hmb := hmb.offZ hM.o5 hg102 | replace hmb := hmb.offZ hM.o6 hg102 | replace hmb := hmb.offZ hM.o7 hg102 | replace hmb := hmb.offZ hM.o8 hg102 | replace hmb := hmb.offZ hM.o9 hg102 | skip
          first | replace hmn := hmn.below hbl102 | replace hmn := hmn.offZ hM.o0 hg102 | replace hmn := hmn.offZ hM.o1 hg102 | replace hmn := hmn.offZ hM.o2 hg102 | replace hmn := hmn.offZ hM.o3 hg102 | replace hmn := hmn.offZ hM.o4 hg102 | replace hmn := hmn.offZ hM.o5 hg102 | replace hmn := hmn.offZ hM.o6 hg102 | replace hmn := hmn.offZ hM.o7 hg102 | replace hmn := hmn.offZ hM.o8 hg102 | replace hmn := hmn.offZ hM.o9 hg102 | skip
          first | replace hit := hit.below hbl102 | replace hit := hit.offZ hM.o0 hg102 | replace hit := hit.offZ hM.o1 hg102 | replace hit := hit.offZ hM.o2 hg102 | replace hit := hit.offZ hM.o3 hg102 | replace hit := hit.offZ hM.o4 hg102 | replace hit := hit.offZ hM.o5 hg102 | replace hit := hit.offZ hM.o6 hg102 | replace hit := hit.offZ hM.o7 hg102 | replace hit := hit.offZ hM.o8 hg102 | replace hit := hit.offZ hM.o9 hg102 | skip
          replace hM := hM.s0 (e := _) hg102 hO102 inl_block
          try simp only [List.set_cons_zero, List.set_cons_succ] at hM
          replace hB := hB.trans hbl102
          refine LS.nil ?_
          refine W.seqR ?_
          refine LS.vv rfl rfl (by decide) (Val.move rfl) ?_
          refine LS.m rfl (Step.loadAgg0 rfl rfl (by decide) agg79 rfl (hM.o0.rd) rfl (by decide) ?_)
          refine LS.m rfl (Step.lookup2 rfl rfl (by decide) (keys_bb b2_79) Try.underlying83 elem82 rfl rfl hmn.own (fv_getD Nx (nxq a q)) (fv_isSome Nx (nxq a q)) ?_)
          refine LS.vv rfl rfl (by decide) (Val.move rfl) ?_
          refine LS.vv rfl rfl (by decide) (Val.extract rfl rfl) ?_
          refine LS.vv rfl rfl (by decide) (Val.extract rfl rfl) ?_
          refine LS.m rfl (Step.allocZ rfl rfl (by decide) elem82 rfl (by decide) ?_)
          rintro w103 hO103 hg103 hbl103 hsz103
          first | replace hmb := hmb.below hbl103 | replace hmb := hmb.offZ hM.o0 hg103 | replace hmb := hmb.offZ hM.o1 hg103 | replace hmb := hmb.offZ hM.o2 hg103 | replace hmb := hmb.offZ hM.o3 hg103 | replace hmb := hmb.offZ hM.o4 hg103 | replace hmb := hmb.offZ hM.o5 hg103 | replace hmb := hmb.offZ hM.o6 hg103 | replace hmb := hmb.offZ hM.o7 hg103 | replace hmb := hmb.offZ hM.o8 hg103 | replace hmb := hmb.offZ hM.o9 hg103 | skip
          first | replace hmn := hmn.below hbl103 | replace hmn := hmn.offZ hM.o0 hg103 | replace hmn := hmn.offZ hM.o1 hg103 | replace hmn := hmn.offZ hM.o2 hg103 | replace hmn := hmn.offZ hM.o3 hg103 | replace hmn := hmn.offZ hM.o4 hg103 | replace hmn := hmn.offZ hM.o5 hg103 | replace hmn := hmn.offZ hM.o6 hg103 | replace hmn := hmn.offZ hM.o7 hg103 | replace hmn := hmn.offZ hM.o8 hg103 | replace hmn := hmn.offZ hM.o9 hg103 | skip
          first | replace hit := hit.below hbl103 | replace hit := hit.offZ hM.o0 hg103 | replace hit := hit.offZ hM.o1 hg103 | replace hit := hit.offZ hM.o2 hg103 | replace hit := hit.offZ hM.o3 hg103 | replace hit := hit.offZ hM.o4 hg103 | replace hit := hit.offZ hM.o5 hg103 | replace hit := hit.offZ hM.o6 hg103 | replace hit := hit.offZ hM.o7 hg103 | replace hit := hit.offZ hM.o8 hg103 | replace hit := hit.offZ hM.o9 hg103 | skip
          replace hM := hM.add hB.size hbl103 hO103
          try simp only [List.length_cons, List.length_nil, Nat.zero_add, Nat.reduceAdd, Value.cells, List.toList_toArray, List.append_nil, List.set_cons_zero, List.set_cons_succ] at hM
          replace hB := hB.trans (hbl103.mono hB.size)
          generalize w102.heap.size = gg103 at *
          refine LS.m rfl (Step.storeAgg0 (B := w0.heap.size) rfl rfl agg82 rfl rfl rfl (by decide) (by first | exact one_map _ (fun _ => rfl) _ | simp [Value.oneCell']) (hM.o0) rfl hB.size ?_)
          rintro w104 hO104 hg104 hbl104 hsz104
          first | replace hmb := hmb.below hbl104 | replace hmb := hmb.offZ hM.o0 hg104 | replace hmb := hmb.offZ hM.o1 hg104 | replace hmb := hmb.offZ hM.o2 hg104 | replace hmb := hmb.offZ hM.o3 hg104 | replace hmb := hmb.offZ hM.o4 hg104 | replace hmb := hmb.offZ hM.o5 hg104 | replace hmb := hmb.offZ hM.o6 hg104 | replace hmb := hmb.offZ hM.o7 hg104 | replace hmb := hmb.offZ hM.o8 hg104 | replace hmb := hmb.offZ hM.o9 hg104 | skip
          first | replace hmn := hmn.below hbl104 | replace hmn := hmn.offZ hM.o0 hg104 | replace hmn := hmn.offZ hM.o1 hg104 | replace hmn := hmn.offZ hM.o2 hg104 | replace hmn := hmn.offZ hM.o3 hg104 | replace hmn := hmn.offZ hM.o4 hg104 | replace hmn := hmn.offZ hM.o5 hg104 | replace hmn := hmn.offZ hM.o6 hg104 | replace hmn := hmn.offZ hM.o7 hg104 | replace hmn := hmn.offZ hM.o8 hg104 | replace hmn := hmn.offZ hM.o9 hg104 | skip
          first | replace hit := hit.below hbl104 | replace hit := hit.offZ hM.o0 hg104 | replace hit := hit.offZ hM.o1 hg104 | replace hit := hit.offZ hM.o2 hg104 | replace hit := hit.offZ hM.o3 hg104 | replace hit := hit.offZ hM.o4 hg104 | replace hit := hit.offZ hM.o5 hg104 | replace hit := hit.offZ hM.o6 hg104 | replace hit := hit.offZ hM.o7 hg104 | replace hit := hit.offZ hM.o8 hg104 | replace hit := hit.offZ hM.o9 hg104 | skip
          replace hM := hM.s0 (e := _) hg104 hO104 inl_block
          try simp only [List.set_cons_zero, List.set_cons_succ] at hM
          replace hB := hB.trans hbl104
          refine LS.vv rfl rfl (by decide) (Val.assign rfl) ?_
          refine LS.nil ?_
          refine W.seqR ?_
          refine LS.vv rfl rfl (by decide) (Val.move rfl) ?_
          refine LS.vv rfl rfl (by decide) (Val.not rfl) ?_
          refine LS.vv rfl rfl (by decide) (Val.move rfl) ?_
          refine LS.split 2 rfl (fun hg37 => ?_) (fun hg37 => ?_)
          ·
           first | (have hg37p := of_decide_eq_true hg37) | skip
           refine LS.s rfl rfl rfl hg37 (by decide) ?_
           refine LS.s rfl rfl rfl hg37 (by decide) ?_
           refine LS.s rfl rfl rfl hg37 (by decide) ?_
           refine LS.vv rfl rfl (by decide) (Val.pickT rfl hg37 rfl) ?_
           refine LS.nil ?_
           refine W.condT rfl ?_
           refine W.reg ?_
           refine LS.vv rfl rfl (by decide) (Val.move rfl) ?_
           refine LS.m rfl (Step.loadAgg0 rfl rfl (by decide) agg79 rfl (hM.o1.rd) rfl (by decide) ?_)
           refine LS.m rfl (Step.loadAgg0 rfl rfl (by decide) agg82 rfl (hM.o2.rd) rfl (by decide) ?_)
           have hold : ∀ q2 m2, plT Nx (nxq a q) = some (q2, m2) → x.o + two xs k a (gb [false, true] q) ≤ m2 := fun q2 m2 h9 => by
             obtain ⟨y9, hy9, hy10, hy11⟩ := pl_inv h9
             first
               | (exfalso; have h7 : (Nx (nxq a q)).isSome = false := (by simpa using (by assumption : (!(Nx (nxq a q)).isSome) = true)); rw [hy9] at h7; cases h7)
               | (have h8 := hbt (by assumption); rw [hy] at hy9; cases hy9; rw [prt_two] at h8; omega)
           have hnx2 : Nxt N xs k (plT G) (plT (putG Nx (nxq a q) (xpv pq cq x q xs k a))) (fun s2 b2 => sn ks a q s2 b2 ∨ s2 = a ∧ b2 = (gb [false, true] q)) := by rw [pl_put]; exact hnx.take hTab (by omega) (nb_ok (by omega)) (pl_some hGx) hold
           refine LS.m rfl (Step.mapPutR (k := (nxq a q)) (v := .agg #[.slice pq (x.l.length + 1) cq, .int .i64 ((x.o + prt xs k a (gb [false, true] q) 2 : Nat) : Int)]) (.inl rfl) rfl (keys_bb b2_79) Try.underlying83 rfl rfl rfl hmn hB.size ?_)
           rintro wf hmn2 hg9 hbl9 hsz9
           replace hM := hM.mapR hmn hg9
           replace hmb := hmb.keep hg9 (fun h => hmne (Option.some.inj h))
           replace hit := hit.keep hg9 (fun h => hmne (Option.some.inj h)) (fun h => hit.ne_map hmn (Option.some.inj h))
           replace hB := hB.trans hbl9
           rw [pv_two, fv_put] at hmn2
           refine LS.nil ?_
           refine inBlk_normal ?_
           refine thenP_normal ?_
           refine W.reg ?_
           refine LS.vv rfl rfl (by decide) (Val.addN (j := 1) rfl rfl (by omega)) ?_
           refine LS.vv rfl rfl (by decide) (Val.move rfl) ?_
           refine LS.nil ?_
           refine thenP_normal ?_
           replace hM := hM.er2.er1.er0.sw0.sw1.sw2
           rw [show (x.l.length + 1) = (x.l ++ [(gb [false, true] q)]).length from by simp] at hM
           first
             | (refine ⟨(q + 1, putG Nx (nxq a q) (xpv pq cq x q xs k a), (xpv pq cq x q xs k a) :: T1), (Sub.cons rfl (Sub.nil _)), (by repeat (first | exact Sub.nil _ | refine Sub.cons rfl ?_)), ⟨⟨hmb, hmn2, hit, sn_next hnx2, hGT.more, hNT.put, by simp only; omega⟩, hM, hB⟩, by simp only; omega⟩)
             | (refine ⟨(q + 1, Nx, (xpv pq cq x q xs k a) :: T1), (Sub.cons rfl (Sub.nil _)), (by repeat (first | exact Sub.nil _ | refine Sub.cons rfl ?_)), ⟨⟨hmb, hmn, hit, sn_next hnx2, hGT.more, hNT.more, by simp only; omega⟩, hM, hB⟩, by simp only; omega⟩)
          ·
           first | (have hg37p := of_decide_eq_false hg37) | skip
           refine LS.mg rfl rfl hg37 (Step.loadAgg0 rfl rfl (by decide) agg82 rfl (hM.o2.rd) rfl (by decide) ?_)
           refine LS.mg rfl rfl hg37 (Step.loadAgg0 rfl rfl (by decide) agg82 rfl (hM.o0.rd) rfl (by decide) ?_)
           obtain ⟨y, hy⟩ := Option.isSome_iff_exists.1 (by simpa using (by assumption : (!(Nx (nxq a q)).isSome) = false))
           have hyd : ((Nx (nxq a q)).getD zPV) = y := by rw [hy]; rfl
           have hyp := hnx.path _ _ _ (pl_some hy)
           have hyl := hyp.len
           rw [hyd]
           refine LS.mg rfl rfl hg37 (Step.call body59 rfl rfl (by decide) rfl (CallsV.mono (better_any (x.l ++ [(gb [false, true] q)]) y.l pq y.p cq y.c (x.l.length + 1) y.l.length (x.o + prt xs k a (gb [false, true] q) 2) y.o _ hM.o3.rd (tp_rd hM (hNT _ _ hy) (fun o h => by simp [h])) (by simp) rfl (by omega) (by omega)) ?_))
           rintro _ w105 ⟨bb, rfl, hbt, hbf, hb105⟩
           replace hM := hM.below hb105
           try replace hmb := hmb.below hb105
           try replace hmn := hmn.below hb105
           try replace hit := hit.below hb105
           replace hB := hB.trans (hb105.mono hB.size)
           refine LS.vv rfl rfl (by decide) (Val.pickF rfl hg37 rfl) ?_
           refine LS.nil ?_
           first | refine W.condD rfl (fun hc38 => ?_) (fun hc38 => ?_) | refine W.cond rfl (fun hc38 => ?_) (fun hc38 => ?_)
           ·
            refine W.reg ?_
            refine LS.vv rfl rfl (by decide) (Val.move rfl) ?_
            refine LS.m rfl (Step.loadAgg0 rfl rfl (by decide) agg79 rfl (hM.o1.rd) rfl (by decide) ?_)
            refine LS.m rfl (Step.loadAgg0 rfl rfl (by decide) agg82 rfl (hM.o2.rd) rfl (by decide) ?_)
            have hold : ∀ q2 m2, plT Nx (nxq a q) = some (q2, m2) → x.o + two xs k a (gb [false, true] q) ≤ m2 := fun q2 m2 h9 => by
              obtain ⟨y9, hy9, hy10, hy11⟩ := pl_inv h9
              first
                | (exfalso; have h7 : (Nx (nxq a q)).isSome = false := (by simpa using (by assumption : (!(Nx (nxq a q)).isSome) = true)); rw [hy9] at h7; cases h7)
                | (have h8 := hbt (by assumption); rw [hy] at hy9; cases hy9; rw [prt_two] at h8; omega)
            have hnx2 : Nxt N xs k (plT G) (plT (putG Nx (nxq a q) (xpv pq cq x q xs k a))) (fun s2 b2 => sn ks a q s2 b2 ∨ s2 = a ∧ b2 = (gb [false, true] q)) := by rw [pl_put]; exact hnx.take hTab (by omega) (nb_ok (by omega)) (pl_some hGx) hold
            refine LS.m rfl (Step.mapPutR (k := (nxq a q)) (v := .agg #[.slice pq (x.l.length + 1) cq, .int .i64 ((x.o + prt xs k a (gb [false, true] q) 2 : Nat) : Int)]) (.inl rfl) rfl (keys_bb b2_79) Try.underlying83 rfl rfl rfl hmn hB.size ?_)
            rintro wf hmn2 hg9 hbl9 hsz9
            replace hM := hM.mapR hmn hg9
            replace hmb := hmb.keep hg9 (fun h => hmne (Option.some.inj h))
            replace hit := hit.keep hg9 (fun h => hmne (Option.some.inj h)) (fun h => hit.ne_map hmn (Option.some.inj h))
            replace hB := hB.trans hbl9
            rw [pv_two, fv_put] at hmn2
            refine LS.nil ?_
            refine inBlk_normal ?_
            refine thenP_normal ?_
            refine W.reg ?_
            refine LS.vv rfl rfl (by decide) (Val.addN (j := 1) rfl rfl (by omega)) ?_
            refine LS.vv rfl rfl (by decide) (Val.move rfl) ?_
            refine LS.nil ?_
            refine thenP_normal ?_
            replace hM := hM.er2.er1.er0.sw0.sw1.sw2
            rw [show (x.l.length + 1) = (x.l ++ [(gb [false, true] q)]).length from by simp] at hM
            first
              | (refine ⟨(q + 1, putG Nx (nxq a q) (xpv pq cq x q xs k a), (xpv pq cq x q xs k a) :: T1), (Sub.cons rfl (Sub.nil _)), (by repeat (first | exact Sub.nil _ | refine Sub.cons rfl ?_)), ⟨⟨hmb, hmn2, hit, sn_next hnx2, hGT.more, hNT.put, by simp only; omega⟩, hM, hB⟩, by simp only; omega⟩)
              | (refine ⟨(q + 1, Nx, (xpv pq cq x q xs k a) :: T1), (Sub.cons rfl (Sub.nil _)), (by repeat (first | exact Sub.nil _ | refine Sub.cons rfl ?_)), ⟨⟨hmb, hmn, hit, sn_next hnx2, hGT.more, hNT.more, by simp only; omega⟩, hM, hB⟩, by simp only; omega⟩)
           ·
            have hnx2 : Nxt N xs k (plT G) (plT Nx) (fun s2 b2 => sn ks a q s2 b2 ∨ s2 = a ∧ b2 = (gb [false, true] q)) := hnx.skip (pl_some hGx) (pl_some hy) (by have h8 := hbf (by assumption); rw [prt_two] at h8; exact h8)
            refine W.skip ?_
            refine inBlk_normal ?_
            refine thenP_normal ?_
            refine W.reg ?_
            refine LS.vv rfl rfl (by decide) (Val.addN (j := 1) rfl rfl (by omega)) ?_
            refine LS.vv rfl rfl (by decide) (Val.move rfl) ?_
            refine LS.nil ?_
            refine thenP_normal ?_
            replace hM := hM.er2.er1.er0.sw0.sw1.sw2
            rw [show (x.l.length + 1) = (x.l ++ [(gb [false, true] q)]).length from by simp] at hM
            first
              | (refine ⟨(q + 1, putG Nx (nxq a q) (xpv pq cq x q xs k a), (xpv pq cq x q xs k a) :: T1), (Sub.cons rfl (Sub.nil _)), (by repeat (first | exact Sub.nil _ | refine Sub.cons rfl ?_)), ⟨⟨hmb, hmn2, hit, sn_next hnx2, hGT.more, hNT.put, by simp only; omega⟩, hM, hB⟩, by simp only; omega⟩)
              | (refine ⟨(q + 1, Nx, (xpv pq cq x q xs k a) :: T1), (Sub.cons rfl (Sub.nil _)), (by repeat (first | exact Sub.nil _ | refine Sub.cons rfl ?_)), ⟨⟨hmb, hmn, hit, sn_next hnx2, hGT.more, hNT.more, by simp only; omega⟩, hM, hB⟩, by simp only; omega⟩)
      ·
       refine W.exit ?_
       refine thenP_exit ?_
       refine thenP_exit ?_
       refine inBlk_exit ?_
       refine inBlk_normal ?_
       refine thenP_normal ?_
       replace hM := hM.er2.er1.er0
       have hnb9 : q = nb N k := by omega
       rw [hnb9] at hnx
       refine ⟨(ks ++ [a], Nx, T1), ?_, ?_, ⟨⟨hmb, hmn, hit, sn_end hnx, hGT, hNT⟩, hM, hB⟩, by simp only [List.length_append, List.length_cons, List.length_nil]; simp only [List.length_cons, List.length_nil] at hks4; omega⟩
       · exact Sub.nil _
       · repeat (first | exact Sub.nil _ | refine Sub.cons rfl ?_)
     ·
      refine W.exit ?_
      refine thenP_exit ?_
      refine thenP_exit ?_
      refine inBlk_exit ?_
      refine thenP_normal ?_
      refine W.reg ?_
      refine LS.vv rfl rfl (by decide) (Val.move rfl) ?_
      refine LS.vv rfl rfl (by decide) (Val.assign rfl) ?_
      refine LS.nil ?_
      refine inBlk_normal ?_
      refine thenP_normal ?_
      refine W.reg ?_
      refine LS.vv rfl rfl (by decide) (Val.addN (j := 1) rfl rfl (by omega)) ?_
      refine LS.vv rfl rfl (by decide) (Val.move rfl) ?_
      refine LS.nil ?_
      refine thenP_normal ?_
      have hallk := (hfin (by assumption)).1
      have hnxd : Nxt N xs k (plT G) (plT Nx) (fun _ _ => True) := hnx.weak fun s b _ _ ⟨po, hpo⟩ => by { obtain ⟨x, hx, _⟩ := pl_inv (b := po.1) (o := po.2) hpo; exact hallk s (pv x) (by unfold fv; rw [hx]; rfl) }
      have hTab2 := hnxd.done hTab (by omega)
      refine ⟨(k + 1, mn, Nx, T1), ?_, ?_, ⟨⟨by simp only; omega, hTab2, hmn, hNT⟩, hM, hB⟩, by simp only; omega⟩
      · exact (Sub.cons rfl (Sub.cons rfl (Sub.nil _)))
      · repeat (first | exact Sub.nil _ | refine Sub.cons rfl ?_)
    ·
     refine W.exit ?_
     refine thenP_exit ?_
     refine thenP_exit ?_
     refine inBlk_exit ?_
     refine thenP_normal ?_
     refine W.seqR ?_
     refine LS.vv rfl rfl (by decide) (Val.move rfl) ?_
     refine LS.vv rfl rfl (by decide) (Val.buildArr (vs := [.bool false, .bool false]) Try.underlying79 elem79 elem4 rfl rfl) ?_
     obtain rfl : k = N + 2 := by omega
     obtain ⟨bits, off, hpl, hbl9, hbest⟩ := hTab.best (by omega)
     obtain ⟨x, hGx, hxl, hxo⟩ := pl_inv hpl
     have hxc := tp_cap hM (hGT _ _ hGx) (fun o h => by simp [h])
     rw [hxl] at hxc
     have hxo2 := dif_le (putL (bits.take N)) xs
     rw [hbest.off, putL_len, hbest.len] at hxo2
     refine LS.m rfl (Step.lookup1 rfl rfl (by decide) (keys_bb b2_79) Try.underlying83 elem82 rfl rfl hmb.own (u := pv x) (k := zero2) (by unfold fv; rw [hGx]; rfl) ?_)
     refine LS.m rfl (Step.allocZ rfl rfl (by decide) elem82 rfl (by decide) ?_)
     rintro w106 hO106 hg106 hbl106 hsz106
     first | replace hmb := hmb.below hbl106 | replace hmb := hmb.offZ hM.o0 hg106 | replace hmb := hmb.offZ hM.o1 hg106 | replace hmb := hmb.offZ hM.o2 hg106 | replace hmb := hmb.offZ hM.o3 hg106 | replace hmb := hmb.offZ hM.o4 hg106 | replace hmb := hmb.offZ hM.o5 hg106 | replace hmb := hmb.offZ hM.o6 hg106 | replace hmb := hmb.offZ hM.o7 hg106 | replace hmb := hmb.offZ hM.o8 hg106 | replace hmb := hmb.offZ hM.o9 hg106 | skip
     first | replace hmn := hmn.below hbl106 | replace hmn := hmn.offZ hM.o0 hg106 | replace hmn := hmn.offZ hM.o1 hg106 | replace hmn := hmn.offZ hM.o2 hg106 | replace hmn := hmn.offZ hM.o3 hg106 | replace hmn := hmn.offZ hM.o4 hg106 | replace hmn := hmn.offZ hM.o5 hg106 | replace hmn := hmn.offZ hM.o6 hg106 | replace hmn := hmn.offZ hM.o7 hg106 | replace hmn := hmn.offZ hM.o8 hg106 | replace hmn := hmn.offZ hM.o9 hg106 | skip
     first | replace hit := hit.below hbl106 | replace hit := hit.offZ hM.o0 hg106 | replace hit := hit.offZ hM.o1 hg106 | replace hit := hit.offZ hM.o2 hg106 | replace hit := hit.offZ hM.o3 hg106 | replace hit := hit.offZ hM.o4 hg106 | replace hit := hit.offZ hM.o5 hg106 | replace hit := hit.offZ hM.o6 hg106 | replace hit := hit.offZ hM.o7 hg106 | replace hit := hit.offZ hM.o8 hg106 | replace hit := hit.offZ hM.o9 hg106 | skip
     replace hM := hM.add hB.size hbl106 hO106
     try simp only [List.length_cons, List.length_nil, Nat.zero_add, Nat.reduceAdd, Value.cells, List.toList_toArray, List.append_nil, List.set_cons_zero, List.set_cons_succ] at hM
     replace hB := hB.trans (hbl106.mono hB.size)
     generalize w1.heap.size = gg106 at *
     refine LS.m rfl (Step.storeAgg0 (B := w0.heap.size) rfl rfl agg82 rfl rfl rfl (by decide) (by first | exact one_map _ (fun _ => rfl) _ | simp [Value.oneCell']) (hM.o0) rfl hB.size ?_)
     rintro w107 hO107 hg107 hbl107 hsz107
     first | replace hmb := hmb.below hbl107 | replace hmb := hmb.offZ hM.o0 hg107 | replace hmb := hmb.offZ hM.o1 hg107 | replace hmb := hmb.offZ hM.o2 hg107 | replace hmb := hmb.offZ hM.o3 hg107 | replace hmb := hmb.offZ hM.o4 hg107 | replace hmb := hmb.offZ hM.o5 hg107 | replace hmb := hmb.offZ hM.o6 hg107 | replace hmb := hmb.offZ hM.o7 hg107 | replace hmb := hmb.offZ hM.o8 hg107 | replace hmb := hmb.offZ hM.o9 hg107 | skip
     first | replace hmn := hmn.below hbl107 | replace hmn := hmn.offZ hM.o0 hg107 | replace hmn := hmn.offZ hM.o1 hg107 | replace hmn := hmn.offZ hM.o2 hg107 | replace hmn := hmn.offZ hM.o3 hg107 | replace hmn := hmn.offZ hM.o4 hg107 | replace hmn := hmn.offZ hM.o5 hg107 | replace hmn := hmn.offZ hM.o6 hg107 | replace hmn := hmn.offZ hM.o7 hg107 | replace hmn := hmn.offZ hM.o8 hg107 | replace hmn := hmn.offZ hM.o9 hg107 | skip
     first | replace hit := hit.below hbl107 | replace hit := hit.offZ hM.o0 hg107 | replace hit := hit.offZ hM.o1 hg107 | replace hit := hit.offZ hM.o2 hg107 | replace hit := hit.offZ hM.o3 hg107 | replace hit := hit.offZ hM.o4 hg107 | replace hit := hit.offZ hM.o5 hg107 | replace hit := hit.offZ hM.o6 hg107 | replace hit := hit.offZ hM.o7 hg107 | replace hit := hit.offZ hM.o8 hg107 | replace hit := hit.offZ hM.o9 hg107 | skip
     replace hM := hM.s0 (e := _) hg107 hO107 inl_block
     try simp only [List.set_cons_zero, List.set_cons_succ] at hM
     replace hB := hB.trans hbl107
     refine LS.nil ?_
     refine W.seqFz 10 [(0, true), (1, true), (2, true), (3, true), (4, true), (5, true), (6, true), (7, true), (8, true), (9, true)] mixed (by kernel_rfl) hB hM ?_
     replace hB := hB.drew
     replace hM := hM.drew
     try replace hmb := MapR.drew hmb
     try replace hmn := MapR.drew hmn
     try replace hit := OwnIter.drew hit
     refine DF.vv rfl rfl rfl (by decide) (Val.fieldAddr0 fld82_0 rfl) ?_
     refine DF.vv rfl rfl rfl (by decide) (Val.load flat23 rfl (fun _ h => h.2.o0.rd) (rfl)) ?_
     refine DF.vv rfl rfl rfl (by decide) (Val.move rfl) ?_
     refine DF.vv rfl rfl rfl (by decide) (Val.move rfl) ?_
     refine DF.vv rfl rfl rfl (by decide) (Val.sliceToMax Try.underlying23 elem4 rfl rfl rfl (by omega)) ?_
     refine DF.vv rfl rfl rfl (by decide) (Val.fieldAddr0 fld82_1 rfl) ?_
     refine DF.vv rfl rfl rfl (by decide) (Val.load flat3 rfl (fun _ h => h.2.o0.rd) (rfl)) ?_
     refine DF.vv rfl rfl rfl (by decide) (Val.assign rfl) ?_
     refine DF.vv rfl rfl rfl (by decide) (Val.assign rfl) ?_
     refine DF.vv rfl rfl rfl (by decide) (Val.cast (v := .int .i64 ((0 : Nat) : Int)) (Val.assign rfl) rfl) ?_
     refine DF.nil ?_
     refine W.ret ?_
     refine ret3 (by first | exact .inl rfl | exact .inr rfl) rfl rfl rfl ?_
     first
       | exact ⟨none, 0, [], 0, 3, rfl, Rd.nil _ _, ⟨fun h => by omega, fun h => by omega⟩, fun h => by omega, by omega, by simp, hB⟩
       | exact ⟨none, 0, [], 0, 1, rfl, Rd.nil _ _, ⟨fun h => by omega, fun h => by omega⟩, fun h => by omega, by omega, by simp, hB⟩
       | (have htl : (bits.take N).length = N := hbest.len
          refine ⟨x.p, N, bits.take N, off, 0, (by rw [htl, hxo]), ?_, ⟨fun _ => ⟨by omega, by omega, hN12⟩, fun _ => rfl⟩, fun _ => hbest, by omega, by omega, hB⟩
          have h9 := (tp_rd hM (hGT _ _ hGx) (fun o h => by simp [h])).take N
          rw [hxl] at h9
          rw [← bv_take]; exact h9)

end Go.Proofs.Ytbbmgcmibgdkiaa
